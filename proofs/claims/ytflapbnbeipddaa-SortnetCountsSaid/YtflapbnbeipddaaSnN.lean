/- How many pairs a network has. Plain. -/
import Derived.Test.YtflapbnbeipddaaSnI
namespace Go.Proofs.Ytflapbnbeipddaa
set_option linter.unusedSimpArgs false
set_option linter.unusedVariables false
namespace Sn
theorem len_succ (p r d K : Nat) : (lyK p r d (K + 1)).length = (lyK p r d K).length + if K / p % 2 = r then 1 else 0 := by
  rw [lyK_succ, List.length_append]
  split <;> rfl
theorem len_zero (p r d : Nat) : (lyK p r d 0).length = 0 := rfl
theorem len_le (p r d : Nat) : ∀ K, (lyK p r d K).length ≤ K
  | 0 => Nat.le_refl _
  | K + 1 => by
    have := len_le p r d K
    rw [len_succ]
    split <;> omega
theorem len_mono (p r d a : Nat) : ∀ b, (lyK p r d a).length ≤ (lyK p r d (a + b)).length
  | 0 => Nat.le_refl _
  | b + 1 => by
    have := len_mono p r d a b
    rw [← Nat.add_assoc, len_succ]
    omega
theorem len_both (p r d : Nat) (hdis : ∀ i, i / p % 2 = r → (i + d) / p % 2 ≠ r) : ∀ m, (lyK p r d m).length + (lyK p r d (m + d)).length ≤ m + d
  | 0 => by
    have := len_le p r d (0 + d)
    rw [len_zero]
    omega
  | m + 1 => by
    have h := len_both p r d hdis m
    have h2 := hdis m
    rw [len_succ, show m + 1 + d = m + d + 1 by omega, len_succ]
    by_cases e : m / p % 2 = r
    · rw [if_pos e, if_neg (h2 e)]
      omega
    · rw [if_neg e]
      split <;> omega
theorem ly_half (n p r d : Nat) (hdis : ∀ i, i / p % 2 = r → (i + d) / p % 2 ≠ r) : 2 * (ly n p r d).length ≤ n := by
  unfold ly
  rcases Nat.lt_or_ge d n with h | h
  · have h1 := len_both p r d hdis (n - d)
    have h2 := len_mono p r d (n - d) d
    rw [Nat.sub_add_cancel (by omega)] at h1 h2
    omega
  · rw [show n - d = 0 by omega, len_zero]
    omega
theorem mer_len (n p : Nat) (hp : 0 < p) : ∀ t, 2 * (mer n p t).length ≤ t * n
  | 0 => by simp [mer]
  | t + 1 => by
    have h := mer_len n p hp t
    have h2 := ly_half n p 1 (p * (2 * 2 ^ t - 1)) (dis_of p (2 * 2 ^ t - 1) 1 hp (by have := Nat.two_pow_pos t; omega))
    unfold mer
    rw [List.length_append, Nat.succ_mul t n]
    omega
theorem phase_len (n B b : Nat) : 2 * (phase n B b).length ≤ (B - b + 1) * n := by
  have h := mer_len n (2 ^ b) (Nat.two_pow_pos b) (B - b)
  have h2 := ly_half n (2 ^ b) 0 (2 ^ b) (fun i hi => by
    have := dis_of (2 ^ b) 1 0 (Nat.two_pow_pos b) rfl i hi
    rwa [Nat.mul_one] at this)
  unfold phase
  rw [List.length_append, Nat.succ_mul (B - b) n]
  omega
theorem net_len (n B : Nat) : ∀ b e, B = b + e → 4 * (net n B b).length ≤ n * ((b + 1) * (b + 2 * e + 2))
  | 0, e, hB => by
    have h := phase_len n B 0
    rw [show B - 0 + 1 = e + 1 by omega] at h
    unfold net
    rw [show (0 + 1) * (0 + 2 * e + 2) = 2 * (e + 1) by omega, ← Nat.mul_assoc, Nat.mul_comm n 2, Nat.mul_assoc, Nat.mul_comm n]
    omega
  | b + 1, e, hB => by
    have h := phase_len n B (b + 1)
    have h2 := net_len n B b (e + 1) (by omega)
    rw [show B - (b + 1) + 1 = e + 1 by omega, Nat.mul_comm (e + 1) n] at h
    unfold net
    rw [List.length_append]
    rw [show b + 2 * (e + 1) + 2 = (b + 2 * e + 3) + 1 by omega, Nat.mul_succ (b + 1) (b + 2 * e + 3), Nat.mul_add n] at h2
    rw [show b + 1 + 2 * e + 2 = b + 2 * e + 3 by omega, show b + 1 + 1 = (b + 1) + 1 from rfl, Nat.succ_mul (b + 1) (b + 2 * e + 3), Nat.mul_add n]
    have h3 : n * (b + 2 * e + 3) = n * (b + 1) + 2 * (n * (e + 1)) := by
      rw [show b + 2 * e + 3 = (b + 1) + 2 * (e + 1) by omega, Nat.mul_add, Nat.mul_left_comm]
    omega
/-! ### from below -/
theorem up_len (p d : Nat) (hp : 0 < p) : ∀ m, (lyK p 0 p m).length + (lyK p 1 d p).length = (lyK p 1 d (m + p)).length
  | 0 => by rw [len_zero, Nat.zero_add, Nat.zero_add]
  | m + 1 => by
    have h := up_len p d hp m
    rw [len_succ, show m + 1 + p = m + p + 1 by omega, len_succ, ← h, Nat.add_div_right m hp]
    rcases Nat.mod_two_eq_zero_or_one (m / p) with e | e
    · rw [if_pos e, if_pos (by omega)]
      omega
    · rw [if_neg (by omega), if_neg (by omega)]
      omega
theorem up_zero (p d : Nat) (hp : 0 < p) : ∀ m, m ≤ p → (lyK p 1 d m).length = 0
  | 0, _ => rfl
  | m + 1, h => by
    rw [len_succ, up_zero p d hp m (by omega), if_neg (by rw [Nat.div_eq_of_lt (by omega)]; decide)]
theorem first_len (n p : Nat) (hp : 0 < p) : (ly n p 0 p).length = (lyK p 1 0 n).length := by
  unfold ly
  rcases Nat.lt_or_ge p n with h | h
  · have h1 := up_len p 0 hp (n - p)
    rw [up_zero p 0 hp p (Nat.le_refl _), Nat.sub_add_cancel (by omega)] at h1
    omega
  · rw [show n - p = 0 by omega, len_zero, up_zero p 0 hp n h]
def ups (n : Nat) : Nat → Nat
  | 0 => (lyK (2 ^ 0) 1 0 n).length
  | b + 1 => (lyK (2 ^ (b + 1)) 1 0 n).length + ups n b
theorem ups_succ (n : Nat) : ∀ b, ups n b ≤ ups (n + 1) b
  | 0 => by
    unfold ups
    rw [len_succ]
    omega
  | b + 1 => by
    have := ups_succ n b
    unfold ups
    rw [len_succ]
    omega
theorem ups_more (n : Nat) (h0 : 0 < n) : ∀ b, n < 2 ^ (b + 1) → ups n b + 1 ≤ ups (n + 1) b
  | 0, h => by
    unfold ups
    rw [len_succ]
    have : n = 1 := by simp at h; omega
    subst this
    rw [if_pos (by decide)]
    omega
  | b + 1, h => by
    have h1 := ups_succ n b
    have hp := Nat.two_pow_pos (b + 1)
    unfold ups
    rw [len_succ]
    by_cases e : n < 2 ^ (b + 1)
    · have := ups_more n h0 b e
      omega
    · have hd : n / 2 ^ (b + 1) = 1 := by
        rw [Nat.pow_succ 2 (b + 1)] at h
        generalize 2 ^ (b + 1) = P at *
        exact Nat.div_eq_of_lt_le (by omega) (by omega)
      rw [hd, if_pos rfl]
      omega
theorem ups_all (b : Nat) : ∀ n, n ≤ 2 ^ (b + 1) → n ≤ ups n b + 1
  | 0, _ => by omega
  | n + 1, h => by
    have h1 := ups_all b n (by omega)
    rcases Nat.eq_zero_or_pos n with h0 | h0
    · subst h0; omega
    · have := ups_more n h0 b (by omega)
      omega
theorem net_ups (n B : Nat) : ∀ b, ups n b ≤ (net n B b).length
  | 0 => by
    unfold ups net phase
    rw [List.length_append, first_len n _ (Nat.two_pow_pos 0)]
    omega
  | b + 1 => by
    have := net_ups n B b
    unfold ups net phase
    rw [List.length_append, List.length_append, first_len n _ (Nat.two_pow_pos (b + 1))]
    omega
theorem bitLen_mono : ∀ (f a b : Nat), a ≤ b → Lib.bitLenAux f a ≤ Lib.bitLenAux f b
  | 0, _, _, _ => Nat.le_refl _
  | f + 1, a, b, h => by
    unfold Lib.bitLenAux
    split
    · omega
    · rw [if_neg (by omega)]
      have := bitLen_mono f (a / 2) (b / 2) (Nat.div_le_div_right h)
      omega
/-- What the law asks. -/
theorem counts (n : Nat) (h1 : 2 ≤ n) (h2 : n ≤ 400) : 4 * (nets (n : Int)).length ≤ n * (Lib.bitLen n * Lib.bitLen n + Lib.bitLen n) ∧ n ≤ (nets (n : Int)).length + 1 ∧ Lib.bitLen n ≤ 64 := by
  obtain ⟨B, P, hb, hnet, hB, _, _, _, _, hn⟩ := net_facts n h1 (by omega)
  have hbn : ((n : Int) - 1).toNat = n - 1 := by omega
  rw [hbn] at hb
  have hm : Lib.bitLen (n - 1) ≤ Lib.bitLen n := bitLen_mono 64 _ _ (by omega)
  have h3 := net_len n B B 0 (by omega)
  have h4 := net_ups n B B
  have h5 := ups_all B n hn
  have h64 : ∀ f x, Lib.bitLenAux f x ≤ f := by
    intro f
    induction f with
    | zero => intro x; exact Nat.le_refl _
    | succ f ih =>
      intro x
      unfold Lib.bitLenAux
      split
      · omega
      · have := ih (x / 2)
        omega
  rw [hnet]
  refine ⟨?_, by omega, h64 64 n⟩
  refine Nat.le_trans h3 (Nat.mul_le_mul_left n ?_)
  rw [show B + 2 * 0 + 2 = (B + 1) + 1 by omega, Nat.mul_succ]
  rw [hb] at hm
  exact Nat.add_le_add (Nat.mul_le_mul hm hm) hm
theorem nets_few (n : Int) (h : n < 2 ∨ 12288 < n) : (nets n).length = 0 := by
  unfold nets
  rw [if_pos h]
  rfl
end Sn
end Go.Proofs.Ytflapbnbeipddaa
