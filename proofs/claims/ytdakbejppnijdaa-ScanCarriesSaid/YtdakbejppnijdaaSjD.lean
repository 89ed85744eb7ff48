/- Joined shares, in plain Lean: weights one by one are the document's quotients. No condition. -/
import Derived.Test.YtdakbejppnijdaaShP
namespace Go.Proofs.Ytdakbejppnijdaa
set_option linter.unusedSimpArgs false
set_option linter.unusedVariables false
namespace Sj
open Gf
/-- Numbers that may be. -/
def Ok (f : Nat → Nat) (n : Nat) : Prop := 0 < n ∧ ∀ i, i < n → f i ≠ 0 ∧ ∀ k, k < i → f k ≠ f i
def wt (f : Nat → Nat) (x : Nat) : Nat → Nat
  | 0 => 1
  | k + 1 => if f k ≠ x then T (wt f x k) (T (f k) (I (x ^^^ f k))) else wt f x k
def up (f : Nat → Nat) (i : Nat) : Nat → Nat
  | 0 => 1
  | k + 1 => if k ≠ i then T (up f i k) (f k) else up f i k
def dn (f : Nat → Nat) (i : Nat) : Nat → Nat
  | 0 => 1
  | k + 1 => if k ≠ i then T (dn f i k) (f k ^^^ f i) else dn f i k
theorem wt_succ (f : Nat → Nat) (x k : Nat) : wt f x (k + 1) = if f k ≠ x then T (wt f x k) (T (f k) (I (x ^^^ f k))) else wt f x k := rfl
theorem up_succ (f : Nat → Nat) (i k : Nat) : up f i (k + 1) = if k ≠ i then T (up f i k) (f k) else up f i k := rfl
theorem dn_succ (f : Nat → Nat) (i k : Nat) : dn f i (k + 1) = if k ≠ i then T (dn f i k) (f k ^^^ f i) else dn f i k := rfl
theorem I_lt (a : Nat) (ha : a < 256) : I a < 256 := (I_all ⟨a, ha⟩).1
theorem wt_lt (f : Nat → Nat) (x : Nat) : ∀ k, wt f x k < 256
  | 0 => (by decide : (1 : Nat) < 256)
  | k + 1 => by rw [wt_succ]; split <;> first | exact T_lt _ _ (wt_lt f x k) | exact wt_lt f x k
theorem up_lt (f : Nat → Nat) (i : Nat) : ∀ k, up f i k < 256
  | 0 => (by decide : (1 : Nat) < 256)
  | k + 1 => by rw [up_succ]; split <;> first | exact T_lt _ _ (up_lt f i k) | exact up_lt f i k
theorem dn_lt (f : Nat → Nat) (i : Nat) : ∀ k, dn f i k < 256
  | 0 => (by decide : (1 : Nat) < 256)
  | k + 1 => by rw [dn_succ]; split <;> first | exact T_lt _ _ (dn_lt f i k) | exact dn_lt f i k
theorem T_I (a : Nat) (ha : a < 256) (h : a ≠ 0) : T a (I a) = 1 := (I_all ⟨a, ha⟩).2.2.2 h
theorem I_pos (a : Nat) (ha : a < 256) (h : a ≠ 0) : 1 ≤ I a := (I_all ⟨a, ha⟩).2.1 h
theorem T_4 (a b c d : Nat) (ha : a < 256) (hb : b < 256) (hc : c < 256) (hd : d < 256) : T (T a b) (T c d) = T (T a c) (T b d) := by
  rw [T_assoc a b _ ha hb (T_lt _ _ hc), ← T_assoc b c d hb hc hd, T_comm b c hb hc, T_assoc c b d hc hb hd, ← T_assoc a c _ ha hc (T_lt _ _ hb)]
theorem T_one_l (b : Nat) (hb : b < 256) : T 1 b = b := (T_one ⟨b, hb⟩).1
theorem T_zero_l (b : Nat) (hb : b < 256) : T 0 b = 0 := (T_one ⟨b, hb⟩).2.2
theorem I_mul (d e : Nat) (hd : d < 256) (he : e < 256) (d0 : d ≠ 0) (e0 : e ≠ 0) : T d e ≠ 0 ∧ I (T d e) = T (I d) (I e) := by
  have h1 : T (T d e) (T (I d) (I e)) = 1 := by
    rw [T_4 d e _ _ hd he (I_lt d hd) (I_lt e he), T_I d hd d0, T_I e he e0]
    exact T_one_l 1 (by decide)
  have hlt : T (I d) (I e) < 256 := T_lt _ _ (I_lt d hd)
  have h0 : T (I d) (I e) ≠ 0 := fun h => by
    rw [h, T_comm _ _ (T_lt _ _ hd) (by decide), T_zero_l _ (T_lt _ _ hd)] at h1
    cases h1
  have := (Gf.look (T d e) (T_lt _ _ hd) (T (I d) (I e)) (by omega) hlt).1 (by rw [R_eq _ _ (T_lt _ _ hd) hlt]; exact h1)
  exact ⟨this.1, this.2.symm⟩
theorem xor_ne {a b : Nat} (h : a ≠ b) : a ^^^ b ≠ 0 := fun e => h (by
  have := congrArg (· ^^^ b) e
  simpa [Nat.xor_assoc, Nat.xor_self] using this)
theorem wt_up (f : Nat → Nat) (n i : Nat) (hf : ∀ i, f i < 256) (h : Ok f n) (hi : i < n) : ∀ k, k ≤ n → wt f (f i) k = T (up f i k) (I (dn f i k)) ∧ dn f i k ≠ 0
  | 0, _ => ⟨by show 1 = T 1 (I 1); rw [T_I 1 (by decide) (by decide)], (by decide : (1 : Nat) ≠ 0)⟩
  | k + 1, hk => by
    obtain ⟨h1, h2⟩ := wt_up f n i hf h hi k (by omega)
    rw [wt_succ, up_succ, dn_succ]
    by_cases e : k = i
    · subst e
      rw [if_neg (by simp), if_neg (by simp), if_neg (by simp)]
      exact ⟨h1, h2⟩
    · have hne : f k ≠ f i := by
        rcases Nat.lt_or_gt_of_ne e with h3 | h3
        · exact (h.2 i hi).2 k h3
        · exact fun h4 => (h.2 k (by omega)).2 i h3 h4.symm
      rw [if_pos hne, if_pos e, if_pos e]
      have hx : f k ^^^ f i < 256 := xor_lt _ _ (hf k) (hf i)
      obtain ⟨h5, h6⟩ := I_mul (dn f i k) (f k ^^^ f i) (dn_lt f i k) hx h2 (xor_ne hne)
      refine ⟨?_, h5⟩
      rw [h6, h1, Nat.xor_comm (f i) (f k)]
      exact T_4 _ _ _ _ (up_lt f i k) (I_lt _ (dn_lt f i k)) (hf k) (I_lt _ hx)
/-- The joined byte: of values v. -/
def jn (f v : Nat → Nat) (n : Nat) : Nat → Nat
  | 0 => 0
  | k + 1 => jn f v n k ^^^ T (v k) (wt f (f k) n)
theorem jn_succ (f v : Nat → Nat) (n k : Nat) : jn f v n (k + 1) = jn f v n k ^^^ T (v k) (wt f (f k) n) := rfl
theorem jn_lt (f v : Nat → Nat) (n : Nat) (hv : ∀ i, v i < 256) : ∀ k, jn f v n k < 256
  | 0 => (by decide : (0 : Nat) < 256)
  | k + 1 => by rw [jn_succ]; exact xor_lt _ _ (jn_lt f v n hv k) (T_lt _ _ (hv k))
end Sj
end Go.Proofs.Ytdakbejppnijdaa
