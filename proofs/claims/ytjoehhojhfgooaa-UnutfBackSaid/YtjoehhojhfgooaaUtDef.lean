/- Package utf's arithmetic as the walks spell it. No condition. -/
import Derived.Test.YtjoehhojhfgooaaCtDef
namespace Go.Proofs.Ytjoehhojhfgooaa
namespace Ut
def within (x lo hi : Int) : Int := Ct.Not (Ct.Or (Ct.Lt x lo) (Ct.Lt hi x))
/-- The lead bytes: first, last, more, low, high, bits of each row. -/
def tab : List Int := [0, 127, 0, 0, 0, 127, 194, 223, 1, 128, 191, 31, 224, 224, 2, 160, 191, 15, 225, 236, 2, 128, 191, 15, 237, 237, 2, 128, 159, 15, 238, 239, 2, 128, 191, 15, 240, 240, 3, 144, 191, 7, 241, 243, 3, 128, 191, 7, 244, 244, 3, 128, 143, 7]
def row (k j : Nat) : Int := tab.getD (k * 6 + j) 0
/-- What rows ahead of k make of a byte: more, low, high, point, and whether one fits. -/
structure G where
  m : Int
  l : Int
  h : Int
  p : Int
  y : Int
def fit (b : Int) (k : Nat) : Int := within b (row k 0) (row k 1)
theorem fit_eq (b : Int) (k : Nat) : fit b k = within b (row k 0) (row k 1) := rfl
def bg (b : Int) : Nat → G
  | 0 => ⟨0, 0, 0, 0, 0⟩
  | k + 1 => ⟨Ct.Or (bg b k).m (Ct.And (fit b k) (row k 2)), Ct.Or (bg b k).l (Ct.And (fit b k) (row k 3)), Ct.Or (bg b k).h (Ct.And (fit b k) (row k 4)), Ct.Or (bg b k).p (Ct.And (fit b k) (Ct.And b (row k 5))), Ct.Or (bg b k).y (fit b k)⟩
theorem bg_zero (b : Int) : bg b 0 = ⟨0, 0, 0, 0, 0⟩ := rfl
theorem bg_succ (b : Int) (k : Nat) : bg b (k + 1) = ⟨Ct.Or (bg b k).m (Ct.And (fit b k) (row k 2)), Ct.Or (bg b k).l (Ct.And (fit b k) (row k 3)), Ct.Or (bg b k).h (Ct.And (fit b k) (row k 4)), Ct.Or (bg b k).p (Ct.And (fit b k) (Ct.And b (row k 5))), Ct.Or (bg b k).y (fit b k)⟩ := rfl
/-- A state: more, low, high, point, bad. -/
structure S where
  m : Int
  l : Int
  h : Int
  p : Int
  b : Int
def ins (s : S) : Int := Ct.Not (Ct.Zero s.m)
def fits (s : S) (x : Int) : Int := Ct.Sel (ins s) (within x s.l s.h) (bg x 9).y
def nm (s : S) (x live : Int) : Int := Ct.Sel live (Ct.Sel (ins s) (Ct.Sub s.m 1) (bg x 9).m) s.m
def nl (s : S) (x live : Int) : Int := Ct.Sel live (Ct.Sel (ins s) 128 (bg x 9).l) s.l
def nh (s : S) (x live : Int) : Int := Ct.Sel live (Ct.Sel (ins s) 191 (bg x 9).h) s.h
def np (s : S) (x live : Int) : Int := Ct.Sel live (Ct.Sel (ins s) (Ct.Or (Ct.Shl s.p 6) (Ct.And x 63)) (bg x 9).p) s.p
def nb (s : S) (x live : Int) : Int := Ct.Or s.b (Ct.And live (Ct.Not (fits s x)))
def next (s : S) (x live : Int) : S := ⟨nm s x live, nl s x live, nh s x live, np s x live, nb s x live⟩
def whole (s : S) (x live : Int) : Int := Ct.And live (Ct.Zero (nm s x live))
end Ut
end Go.Proofs.Ytjoehhojhfgooaa
