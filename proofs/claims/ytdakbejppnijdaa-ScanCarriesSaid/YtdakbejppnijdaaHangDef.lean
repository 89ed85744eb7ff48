/- Package hangul's arithmetic as the walks spell it. No condition. -/
import Derived.Test.YtdakbejppnijdaaCtDef
namespace Go.Proofs.Ytdakbejppnijdaa
namespace Hg
def dx (d x : Int) : Nat → Int
  | 0 => x
  | k + 1 => Ct.Sub (dx d x k) (Ct.And (Ct.Not (Ct.Lt (dx d x k) d)) d)
def dq (d x : Int) : Nat → Int
  | 0 => 0
  | k + 1 => Ct.Sub (dq d x k) (Ct.Not (Ct.Lt (dx d x k) d))
def tsum (x d : Int) : Nat → Int
  | 0 => 0
  | k + 1 => if (bits .and .u32 (d / 2 ^ k) 1 == 1) = true then Ct.Add (tsum x d k) (Ct.Shl x k) else tsum x d k
theorem div_zero {d : Int} (k j : Nat) (h : d / 2 ^ k = 0) (hj : k ≤ j) : d / 2 ^ j = 0 := by
  obtain ⟨e, rfl⟩ := Nat.le.dest hj
  rw [Int.pow_add, ← Int.ediv_ediv_of_nonneg (Int.pow_nonneg (by decide)), h]
  exact Int.zero_ediv _
theorem tsum_stop (x : Int) {d : Int} (k : Nat) (h : d / 2 ^ k = 0) : ∀ j, k ≤ j → tsum x d j = tsum x d k := by
  intro j hj
  obtain ⟨e, rfl⟩ := Nat.le.dest hj
  clear hj
  induction e with
  | zero => rfl
  | succ e ih =>
    have h1 := div_zero k (k + e) h (Nat.le_add_right _ _)
    show (if (bits .and .u32 (d / 2 ^ (k + e)) 1 == 1) = true then _ else _) = _
    rw [h1, if_neg (by decide)]
    exact ih
def times (x d : Int) : Int := tsum x d 32
def Part (m base n : Int) : Int := Ct.And m (Ct.Add base n)
def is (p : Int) : Int := Ct.Lt (Ct.Sub p 44032) 11172
def n (p : Int) : Int := Ct.And (is p) (Ct.Sub p 44032)
def rest (p : Int) : Int := dx 588 (n p) 18
def l (p : Int) : Int := Part (is p) 4352 (dq 588 (n p) 18)
def v (p : Int) : Int := Part (is p) 4449 (dq 28 (rest p) 20)
def t0 (p : Int) : Int := dx 28 (rest p) 20
def t (p : Int) : Int := Part (Ct.And (is p) (Ct.Not (Ct.Zero (t0 p)))) 4519 (t0 p)
def two (a b : Int) : Int := Ct.And (Ct.Lt (Ct.Sub a 4352) 19) (Ct.Lt (Ct.Sub b 4449) 21)
def first (a b : Int) : Int := Ct.Add (times (Ct.Sub a 4352) 588) (times (Ct.Sub b 4449) 28)
def jt (b : Int) : Int := Ct.Sub b 4519
def three (a b : Int) : Int := Ct.And (Ct.And (is a) (Ct.Zero (t a))) (Ct.And (Ct.Lt (jt b) 28) (Ct.Not (Ct.Zero (jt b))))
def join (a b : Int) : Int := Ct.Or (Part (two a b) 44032 (first a b)) (Ct.And (three a b) (Ct.Add a (jt b)))
def ok (a b : Int) : Int := Ct.Or (two a b) (three a b)
end Hg
end Go.Proofs.Ytdakbejppnijdaa
