/- Package hangul's arithmetic answers as the document does. No condition. -/
import Derived.Test.YtdakbejppnijdaaHangDef
import Derived.Test.YtdakbejppnijdaaCtPlain
namespace Go.Proofs.Ytdakbejppnijdaa
set_option maxRecDepth 20000
namespace Ct
theorem and_mask (c : Bool) (x : Nat) (hx : x < 4294967296) : And (Mask c) x = if c = true then (x : Int) else 0 := by
  rw [mask_nat, and_nat _ _ (mask_lt c) hx]
  cases c
  · simp
  · have h : 4294967295 &&& x = x := by
      rw [Nat.and_comm]
      exact (Nat.and_two_pow_sub_one_of_lt_two_pow (n := 32) hx)
    simp [h]
theorem mask_and (a b : Bool) : And (Mask a) (Mask b) = Mask (a && b) := by cases a <;> cases b <;> decide +kernel
theorem mask_or (a b : Bool) : Or (Mask a) (Mask b) = Mask (a || b) := by cases a <;> cases b <;> decide +kernel
end Ct
namespace Hg
theorem part_nat (c : Bool) (base n : Nat) (h : base + n < 4294967296) : Part (Ct.Mask c) base n = if c = true then ((base + n : Nat) : Int) else 0 := by
  unfold Part
  rw [Ct.add_nat, Nat.mod_eq_of_lt h]
  exact Ct.and_mask c _ h
theorem dxq_nat (d x : Nat) (h0 : 0 < d) (hd : d < 4294967296) (hx : x < 4294967296) : ∀ k, dx d x k = ((x - d * min (x / d) k : Nat) : Int) ∧ dq d x k = ((min (x / d) k : Nat) : Int) := by
  intro k
  induction k with
  | zero => simp [dx, dq]
  | succ k ih =>
    obtain ⟨h1, h2⟩ := ih
    have hm : d * (x / d) ≤ x := Nat.mul_div_le x d
    have hle : d * min (x / d) k ≤ x := Nat.le_trans (Nat.mul_le_mul_left d (Nat.min_le_left _ _)) hm
    have hq : x / d ≤ x := Nat.div_le_self _ _
    show Ct.Sub (dx d x k) (Ct.And (Ct.Not (Ct.Lt (dx d x k) d)) d) = _ ∧ Ct.Sub (dq d x k) (Ct.Not (Ct.Lt (dx d x k) d)) = _
    rw [h1, h2, Ct.lt_nat _ _ (by omega) hd, Ct.not_mask, Ct.and_mask _ _ hd]
    by_cases hk : k < x / d
    · have e1 : min (x / d) k = k := by omega
      have e2 : min (x / d) (k + 1) = k + 1 := by omega
      have h3 : d * (k + 1) ≤ x := Nat.le_trans (Nat.mul_le_mul_left d hk) hm
      rw [Nat.mul_succ] at h3
      rw [e1, e2, Nat.mul_succ]
      have h4 : ¬ x - d * k < d := by omega
      simp only [h4, decide_false, Bool.not_false, if_true]
      constructor
      · unfold Ct.Sub; omega
      · unfold Ct.Sub Ct.Mask; simp only [if_true]; omega
    · have e1 : min (x / d) k = x / d := by omega
      have e2 : min (x / d) (k + 1) = x / d := by omega
      have h3 : x - d * (x / d) < d := by
        have := Nat.mod_lt x h0
        have := Nat.div_add_mod x d
        omega
      rw [e1, e2]
      simp only [h3, decide_true, Bool.not_true, Bool.false_eq_true, if_false]
      have hr : x - d * (x / d) < 4294967296 := by omega
      have hq' : x / d < 4294967296 := by omega
      generalize x - d * (x / d) = r at hr
      generalize x / d = q at hq'
      constructor
      · unfold Ct.Sub; omega
      · unfold Ct.Sub Ct.Mask; simp only [Bool.false_eq_true, if_false]; omega
theorem tsum_nat (x d : Nat) (hx : x < 4294967296) (hd : d < 4294967296) : ∀ k, k ≤ 32 → tsum x d k = ((x * (d % 2 ^ k) % 4294967296 : Nat) : Int) := by
  intro k
  induction k with
  | zero => intro _; simp [tsum, Nat.mod_one]
  | succ k ih =>
    intro hk
    have hq : d / 2 ^ k < 4294967296 := Nat.lt_of_le_of_lt (Nat.div_le_self _ _) hd
    have hb : bits .and .u32 ((d : Int) / 2 ^ k) 1 = ((d / 2 ^ k % 2 : Nat) : Int) := by
      have h1 : ((d : Int) / 2 ^ k) = ((d / 2 ^ k : Nat) : Int) := by simp
      rw [h1]
      have h2 := Ct.and_nat (d / 2 ^ k) 1 hq (by decide)
      unfold Ct.And at h2
      rw [show ((1 : Nat) : Int) = 1 from rfl] at h2
      rw [h2, Nat.and_one_is_mod]
    show (if (bits .and .u32 ((d : Int) / 2 ^ k) 1 == 1) = true then Ct.Add (tsum x d k) (Ct.Shl x k) else tsum x d k) = _
    rw [hb, ih (by omega), Nat.mod_pow_succ, Nat.mul_add]
    rcases Nat.mod_two_eq_zero_or_one (d / 2 ^ k) with h | h
    · rw [h]; simp
    · have hs : Ct.Shl x k = ((x * 2 ^ k % 4294967296 : Nat) : Int) := by
        unfold Ct.Shl
        rw [if_neg (by omega)]
        by_cases h0 : k = 0
        · subst h0
          rw [if_pos (by decide)]
          simp [Nat.mod_eq_of_lt hx]
        · rw [if_neg (by omega)]
          simp
      rw [h, hs, Ct.add_nat]
      simp [Nat.add_mod]
theorem times_nat (x d : Nat) (hx : x < 4294967296) (hd : d < 4294967296) : times x d = ((x * d % 4294967296 : Nat) : Int) := by
  unfold times
  rw [tsum_nat x d hx hd 32 (Nat.le_refl _), Nat.mod_eq_of_lt (a := d) (b := 2 ^ 32) hd]
/-! ### the answers -/
def Syl (p : Nat) : Prop := 44032 ≤ p ∧ p ≤ 55203
instance (p : Nat) : Decidable (Syl p) := by unfold Syl; infer_instance
def N (p : Nat) : Nat := if Syl p then p - 44032 else 0
theorem is_nat (p : Nat) (hp : p < 4294967296) : is p = Ct.Mask (decide (Syl p)) := by
  unfold is
  have h := Ct.sub_nat p 44032 (by decide)
  have e : ((44032 : Nat) : Int) = 44032 := rfl
  rw [e] at h
  rw [h, show (11172 : Int) = ((11172 : Nat) : Int) from rfl, Ct.lt_nat _ _ (by omega) (by decide)]
  refine congrArg Ct.Mask ?_
  rw [decide_eq_decide]
  unfold Syl
  omega
theorem n_nat (p : Nat) (hp : p < 4294967296) : n p = (N p : Int) := by
  unfold n
  rw [is_nat p hp]
  have h := Ct.sub_nat p 44032 (by decide)
  have e : ((44032 : Nat) : Int) = 44032 := rfl
  rw [e] at h
  rw [h, Ct.and_mask _ _ (by omega)]
  unfold N
  by_cases hs : Syl p
  · simp only [hs, decide_true, if_true]
    unfold Syl at hs
    omega
  · simp [hs]
theorem N_lt (p : Nat) : N p < 11172 := by
  unfold N
  split
  · rename_i h; unfold Syl at h; omega
  · decide
theorem rest_nat (p : Nat) (hp : p < 4294967296) : rest p = ((N p % 588 : Nat) : Int) := by
  have hN := N_lt p
  unfold rest
  rw [n_nat p hp, show (588 : Int) = ((588 : Nat) : Int) from rfl, (dxq_nat 588 (N p) (by decide) (by decide) (by omega) 18).1]
  omega
theorem t0_nat (p : Nat) (hp : p < 4294967296) : t0 p = ((N p % 28 : Nat) : Int) := by
  have hN := N_lt p
  unfold t0
  rw [rest_nat p hp, show (28 : Int) = ((28 : Nat) : Int) from rfl, (dxq_nat 28 (N p % 588) (by decide) (by decide) (by omega) 20).1]
  omega
theorem l_nat (p : Nat) (hp : p < 4294967296) : l p = if Syl p then ((4352 + (p - 44032) / 588 : Nat) : Int) else 0 := by
  have hN := N_lt p
  unfold l
  rw [is_nat p hp, n_nat p hp, show (588 : Int) = ((588 : Nat) : Int) from rfl, (dxq_nat 588 (N p) (by decide) (by decide) (by omega) 18).2, show (4352 : Int) = ((4352 : Nat) : Int) from rfl, part_nat _ _ _ (by omega)]
  by_cases hs : Syl p
  · simp only [hs, decide_true, if_true]
    unfold N
    rw [if_pos hs]
    unfold Syl at hs
    omega
  · simp [hs]
theorem v_nat (p : Nat) (hp : p < 4294967296) : v p = if Syl p then ((4449 + (p - 44032) % 588 / 28 : Nat) : Int) else 0 := by
  have hN := N_lt p
  unfold v
  rw [is_nat p hp, rest_nat p hp, show (28 : Int) = ((28 : Nat) : Int) from rfl, (dxq_nat 28 (N p % 588) (by decide) (by decide) (by omega) 20).2, show (4449 : Int) = ((4449 : Nat) : Int) from rfl, part_nat _ _ _ (by omega)]
  by_cases hs : Syl p
  · simp only [hs, decide_true, if_true]
    unfold N
    rw [if_pos hs]
    unfold Syl at hs
    omega
  · simp [hs]
theorem t_nat (p : Nat) (hp : p < 4294967296) : t p = if Syl p ∧ (p - 44032) % 28 ≠ 0 then ((4519 + (p - 44032) % 28 : Nat) : Int) else 0 := by
  have hN := N_lt p
  unfold t
  rw [is_nat p hp, t0_nat p hp, Ct.zero_nat _ (by omega), Ct.not_mask, Ct.mask_and, show (4519 : Int) = ((4519 : Nat) : Int) from rfl, part_nat _ _ _ (by omega)]
  by_cases hs : Syl p
  · have e : N p = p - 44032 := by unfold N; rw [if_pos hs]
    rw [e]
    by_cases h0 : (p - 44032) % 28 = 0 <;> simp [hs, h0]
  · simp [hs]
/-- What the document joins two words to. -/
def J (a b : Nat) : Nat :=
  if 4352 ≤ a ∧ a < 4371 ∧ 4449 ≤ b ∧ b < 4470 then 44032 + (a - 4352) * 588 + (b - 4449) * 28
  else if Syl a ∧ (a - 44032) % 28 = 0 ∧ 4520 ≤ b ∧ b ≤ 4546 then a + b - 4519 else 0
theorem sub_lit (x c : Nat) (hc : c < 4294967296) : Ct.Sub x c = (((x + (4294967296 - c)) % 4294967296 : Nat) : Int) := Ct.sub_nat x c hc
theorem two_nat (a b : Nat) (ha : a < 4294967296) (hb : b < 4294967296) : two a b = Ct.Mask (decide (4352 ≤ a ∧ a < 4371 ∧ 4449 ≤ b ∧ b < 4470)) := by
  unfold two
  have h1 := sub_lit a 4352 (by decide)
  have h2 := sub_lit b 4449 (by decide)
  rw [show ((4352 : Nat) : Int) = 4352 from rfl] at h1
  rw [show ((4449 : Nat) : Int) = 4449 from rfl] at h2
  rw [h1, h2, show (19 : Int) = ((19 : Nat) : Int) from rfl, show (21 : Int) = ((21 : Nat) : Int) from rfl, Ct.lt_nat _ _ (by omega) (by decide), Ct.lt_nat _ _ (by omega) (by decide), Ct.mask_and]
  refine congrArg Ct.Mask ?_
  rw [← Bool.decide_and, decide_eq_decide]
  omega
theorem three_nat (a b : Nat) (ha : a < 4294967296) (hb : b < 4294967296) : three a b = Ct.Mask (decide (Syl a ∧ (a - 44032) % 28 = 0 ∧ 4520 ≤ b ∧ b ≤ 4546)) := by
  unfold three jt
  have h1 := sub_lit b 4519 (by decide)
  rw [show ((4519 : Nat) : Int) = 4519 from rfl] at h1
  have ht : Ct.Zero (t a) = Ct.Mask (decide (¬ (Syl a ∧ (a - 44032) % 28 ≠ 0))) := by
    rw [t_nat a ha]
    by_cases h : Syl a ∧ (a - 44032) % 28 ≠ 0
    · rw [if_pos h, Ct.zero_nat _ (by omega), show (4519 + (a - 44032) % 28 == 0) = false from by simp]
      simp [h]
    · rw [if_neg h, show (0 : Int) = ((0 : Nat) : Int) from rfl, Ct.zero_nat _ (by omega)]
      simp [h]
  rw [ht, is_nat a ha, h1, show (28 : Int) = ((28 : Nat) : Int) from rfl, Ct.lt_nat _ _ (by omega) (by decide), Ct.zero_nat _ (by omega), Ct.not_mask, Ct.mask_and, Ct.mask_and, Ct.mask_and]
  refine congrArg Ct.Mask ?_
  have e : ∀ x : Nat, (!(x == 0)) = decide (x ≠ 0) := fun x => by by_cases h : x = 0 <;> simp [h]
  rw [e, ← Bool.decide_and, ← Bool.decide_and, ← Bool.decide_and, decide_eq_decide]
  unfold Syl
  omega
theorem ok_nat (a b : Nat) (ha : a < 4294967296) (hb : b < 4294967296) : ok a b = Ct.Mask (J a b != 0) := by
  unfold ok
  rw [two_nat a b ha hb, three_nat a b ha hb, Ct.mask_or]
  refine congrArg Ct.Mask ?_
  unfold J
  by_cases h1 : 4352 ≤ a ∧ a < 4371 ∧ 4449 ≤ b ∧ b < 4470
  · rw [if_pos h1]
    have : (44032 + (a - 4352) * 588 + (b - 4449) * 28 != 0) = true := by first | (simp; done) | (simp; omega)
    rw [this]; simp [h1]
  · rw [if_neg h1]
    by_cases h2 : Syl a ∧ (a - 44032) % 28 = 0 ∧ 4520 ≤ b ∧ b ≤ 4546
    · rw [if_pos h2]
      have : (a + b - 4519 != 0) = true := by unfold Syl at h2; simp; omega
      rw [this]; simp [h2]
    · rw [if_neg h2]; simp [h1, h2]
theorem join_nat (a b : Nat) (ha : a < 4294967296) (hb : b < 4294967296) : join a b = (J a b : Int) := by
  unfold join first jt
  have h1 := sub_lit a 4352 (by decide)
  have h2 := sub_lit b 4449 (by decide)
  have h3 := sub_lit b 4519 (by decide)
  rw [show ((4352 : Nat) : Int) = 4352 from rfl] at h1
  rw [show ((4449 : Nat) : Int) = 4449 from rfl] at h2
  rw [show ((4519 : Nat) : Int) = 4519 from rfl] at h3
  rw [two_nat a b ha hb, three_nat a b ha hb, h1, h2, h3, show (588 : Int) = ((588 : Nat) : Int) from rfl, show (28 : Int) = ((28 : Nat) : Int) from rfl, times_nat _ _ (by omega) (by decide), times_nat _ _ (by omega) (by decide), Ct.add_nat, Ct.add_nat, Ct.and_mask _ _ (by omega)]
  unfold Part
  rw [show (44032 : Int) = ((44032 : Nat) : Int) from rfl, Ct.add_nat, Ct.and_mask _ _ (by omega)]
  unfold J
  by_cases c1 : 4352 ≤ a ∧ a < 4371 ∧ 4449 ≤ b ∧ b < 4470
  · have c2 : ¬ (Syl a ∧ (a - 44032) % 28 = 0 ∧ 4520 ≤ b ∧ b ≤ 4546) := by unfold Syl; omega
    simp only [c1, c2, and_self, decide_true, decide_false, Bool.false_eq_true, if_true, if_false]
    rw [show (0 : Int) = ((0 : Nat) : Int) from rfl, Ct.or_nat _ _ (by omega) (by decide), Nat.or_zero]
    omega
  · by_cases c2 : Syl a ∧ (a - 44032) % 28 = 0 ∧ 4520 ≤ b ∧ b ≤ 4546
    · simp only [c1, c2, and_self, decide_true, decide_false, Bool.false_eq_true, if_true, if_false]
      rw [show (0 : Int) = ((0 : Nat) : Int) from rfl, Ct.or_nat _ _ (by decide) (by omega), Nat.zero_or]
      unfold Syl at c2
      omega
    · simp only [c1, c2, decide_false, Bool.false_eq_true, if_false]
      decide +kernel
end Hg
end Go.Proofs.Ytdakbejppnijdaa
