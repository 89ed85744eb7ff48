/- The words' arithmetic as the walks spell it. No condition. -/
import Derived.Laws.Entries
import Derived.Laws.BitsAllLaws
namespace Go.Proofs.Ytdakbejppnijdaa
namespace Ct
def Not (a : Int) : Int := bits .xor .u32 4294967295 a
def And (a b : Int) : Int := bits .and .u32 a b
def Or (a b : Int) : Int := bits .or .u32 a b
def Xor (a b : Int) : Int := bits .xor .u32 a b
def Add (a b : Int) : Int := (a + b) % 4294967296
def Sub (a b : Int) : Int := (a - b) % 4294967296
def spread (v : Int) : Int := (-(v / 2147483648)) % 4294967296
def Zero (a : Int) : Int := Not (spread (Or a ((-a) % 4294967296)))
def Eq (a b : Int) : Int := Zero (Xor a b)
def Lt (a b : Int) : Int := spread (Or (And (Not a) b) (And (Or (Not a) b) (Sub a b)))
def Sel (m a b : Int) : Int := Xor b (And m (Xor a b))
def Mask (b : Bool) : Int := if b then 4294967295 else 0
def Shl (a n : Int) : Int := if 31 < n then 0 else if n < 1 then a else (a * 2 ^ n.toNat) % 4294967296
def Shr (a n : Int) : Int := if 31 < n then 0 else if n < 1 then a else a / 2 ^ n.toNat
def count (n : Int) : Int := if n < 0 then 0 else if 4294967295 < n then 4294967295 else n
end Ct
end Go.Proofs.Ytdakbejppnijdaa
