/- Bytes as polynomials: the arithmetic as the walks spell it. No condition. -/
import Derived.Test.YtdakbejppnijdaaCtDef
import Derived.Laws.Entries
import Derived.Laws.BitsAllLaws
namespace Go.Proofs.Ytdakbejppnijdaa
namespace Gf
def dbl (a : Nat) : Nat := (a * 2 % 256) ^^^ (if a < 128 then 0 else 27)
def pw (a : Nat) : Nat → Nat
  | 0 => a
  | k + 1 => dbl (pw a k)
def sum (a b : Nat) : Nat → Nat
  | 0 => 0
  | k + 1 => if b / 2 ^ k % 2 = 1 then sum a b k ^^^ pw a k else sum a b k
def T (a b : Nat) : Nat := sum a b 8
def inv (a : Nat) : Nat → Nat × Nat
  | 0 => (1, a)
  | k + 1 => (if 254 / 2 ^ k % 2 = 1 then T (inv a k).1 (inv a k).2 else (inv a k).1, T (inv a k).2 (inv a k).2)
def I (a : Nat) : Nat := (inv a 8).1
def cl (a b : Nat) : Nat → Nat
  | 0 => 0
  | k + 1 => if b / 2 ^ k % 2 = 1 then cl a b k ^^^ (a * 2 ^ k) else cl a b k
def red (p : Nat) : Nat → Nat
  | 0 => p
  | j + 1 => if red p j / 2 ^ (14 - j) % 2 = 1 then red p j ^^^ (283 * 2 ^ (6 - j)) else red p j
def R (a b : Nat) : Nat := red (cl a b 8) 7 % 256
theorem pw_succ (a k : Nat) : pw a (k + 1) = dbl (pw a k) := rfl
theorem pw_zero (a : Nat) : pw a 0 = a := rfl
theorem sum_zero (a b : Nat) : sum a b 0 = 0 := rfl
theorem sum_succ (a b k : Nat) : sum a b (k + 1) = if b / 2 ^ k % 2 = 1 then sum a b k ^^^ pw a k else sum a b k := rfl
theorem cl_zero (a b : Nat) : cl a b 0 = 0 := rfl
theorem cl_succ (a b k : Nat) : cl a b (k + 1) = if b / 2 ^ k % 2 = 1 then cl a b k ^^^ (a * 2 ^ k) else cl a b k := rfl
theorem red_zero (p : Nat) : red p 0 = p := rfl
theorem red_succ (p j : Nat) : red p (j + 1) = if red p j / 2 ^ (14 - j) % 2 = 1 then red p j ^^^ (283 * 2 ^ (6 - j)) else red p j := rfl
theorem dbl_small (a : Nat) (h : a < 128) : dbl a = a * 2 := by unfold dbl; rw [if_pos h, Nat.xor_zero]; omega
theorem dbl_large (a : Nat) (h : ¬ a < 128) : dbl a = (a * 2 % 256) ^^^ 27 := by unfold dbl; rw [if_neg h]
theorem dbl_lt (a : Nat) : dbl a < 256 := by
  unfold dbl
  refine Nat.xor_lt_two_pow (n := 8) (by omega) ?_
  split <;> decide
theorem pw_lt (a : Nat) (ha : a < 256) (k : Nat) : pw a k < 256 := by
  cases k with
  | zero => exact ha
  | succ k => exact dbl_lt _
theorem sum_lt (a b : Nat) (ha : a < 256) : ∀ k, sum a b k < 256
  | 0 => Nat.zero_lt_succ _
  | k + 1 => by
    unfold sum
    split
    · exact Nat.xor_lt_two_pow (n := 8) (sum_lt a b ha k) (pw_lt a ha k)
    · exact sum_lt a b ha k
theorem T_lt (a b : Nat) (ha : a < 256) : T a b < 256 := sum_lt a b ha 8
theorem cl_lt (a b : Nat) (ha : a < 256) : ∀ k, k ≤ 8 → cl a b k < 65536
  | 0, _ => Nat.zero_lt_succ _
  | k + 1, h => by
    rw [cl_succ]
    split
    · refine Nat.xor_lt_two_pow (n := 16) (cl_lt a b ha k (by omega)) ?_
      have h1 : a * 2 ^ k ≤ 255 * 2 ^ 7 := Nat.mul_le_mul (by omega) (Nat.pow_le_pow_right (by decide) (by omega))
      omega
    · exact cl_lt a b ha k (by omega)
theorem red_lt (p : Nat) (hp : p < 65536) : ∀ j, red p j < 65536
  | 0 => hp
  | j + 1 => by
    rw [red_succ]
    split
    · refine Nat.xor_lt_two_pow (n := 16) (red_lt p hp j) ?_
      have h1 : 283 * 2 ^ (6 - j) ≤ 283 * 2 ^ 6 := Nat.mul_le_mul (Nat.le_refl _) (Nat.pow_le_pow_right (by decide) (by omega))
      omega
    · exact red_lt p hp j
theorem inv_zero (a : Nat) : inv a 0 = (1, a) := rfl
theorem inv_succ (a k : Nat) : inv a (k + 1) = (if 254 / 2 ^ k % 2 = 1 then T (inv a k).1 (inv a k).2 else (inv a k).1, T (inv a k).2 (inv a k).2) := rfl
theorem inv_lt (a : Nat) (ha : a < 256) : ∀ k, (inv a k).1 < 256 ∧ (inv a k).2 < 256
  | 0 => ⟨by rw [inv_zero]; show 1 < 256; omega, ha⟩
  | k + 1 => by
    obtain ⟨h1, h2⟩ := inv_lt a ha k
    rw [inv_succ]
    refine ⟨?_, T_lt _ _ h2⟩
    show (if 254 / 2 ^ k % 2 = 1 then T (inv a k).1 (inv a k).2 else (inv a k).1) < 256
    split
    · exact T_lt _ _ h1
    · exact h1
theorem sum_stop (a b k : Nat) (h : b / 2 ^ k = 0) : ∀ j, sum a b (k + j) = sum a b k
  | 0 => rfl
  | j + 1 => by
    have h1 : b / 2 ^ (k + j) = 0 := by rw [Nat.pow_add, ← Nat.div_div_eq_div_mul, h, Nat.zero_div]
    show (if b / 2 ^ (k + j) % 2 = 1 then _ else _) = _
    rw [h1, if_neg (by decide)]
    exact sum_stop a b k h j
end Gf
namespace Sh
def double (a : Int) : Int := Ct.Xor (Ct.And (Ct.Shl a 1) 255) (Ct.And (Ct.Sub 0 (Ct.And (Ct.Shr a 7) 1)) 27)
def ma (a : Int) : Nat → Int
  | 0 => Ct.And a 255
  | k + 1 => double (ma a k)
def ms (a b : Int) : Nat → Int
  | 0 => 0
  | k + 1 => Ct.Xor (ms a b k) (Ct.And (Ct.Sub 0 (Ct.And (Ct.Shr (Ct.And b 255) k) 1)) (ma a k))
theorem ma_zero (a : Int) : ma a 0 = Ct.And a 255 := rfl
theorem ma_succ (a : Int) (k : Nat) : ma a (k + 1) = double (ma a k) := rfl
theorem ms_zero (a b : Int) : ms a b 0 = 0 := rfl
theorem ms_succ (a b : Int) (k : Nat) : ms a b (k + 1) = Ct.Xor (ms a b k) (Ct.And (Ct.Sub 0 (Ct.And (Ct.Shr (Ct.And b 255) k) 1)) (ma a k)) := rfl
end Sh
end Go.Proofs.Ytdakbejppnijdaa
