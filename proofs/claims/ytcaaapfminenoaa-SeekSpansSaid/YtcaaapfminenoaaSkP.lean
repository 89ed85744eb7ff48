/- What tables say of a word: the plain laws. No condition. -/
import Derived.Test.YtcaaapfminenoaaSkDef
import Derived.Test.YtcaaapfminenoaaCtPlain
namespace Go.Proofs.Ytcaaapfminenoaa
namespace Ct
theorem or_zero_right (x : Nat) (hx : x < 4294967296) : Or x 0 = x := by
  have := or_nat x 0 hx (by decide)
  rw [Nat.or_zero] at this
  exact this
theorem eq_int (x y : Int) (hx : 0 ≤ x ∧ x < 4294967296) (hy : 0 ≤ y ∧ y < 4294967296) : Eq x y = Mask (x == y) := by
  obtain ⟨a, rfl⟩ := Int.eq_ofNat_of_zero_le hx.1
  obtain ⟨b, rfl⟩ := Int.eq_ofNat_of_zero_le hy.1
  rw [eq_nat a b (by omega) (by omega)]
  refine congrArg Mask ?_
  rw [Bool.eq_iff_iff]
  simp
  omega
theorem mask_and_int (c : Bool) (x : Int) (hx : 0 ≤ x ∧ x < 4294967296) : And (Mask c) x = if c = true then x else 0 := by
  obtain ⟨a, rfl⟩ := Int.eq_ofNat_of_zero_le hx.1
  rw [mask_nat, and_nat _ _ (mask_lt c) (by omega)]
  cases c
  · simp
  · have : 4294967295 &&& a = a % 2 ^ 32 := by rw [Nat.and_comm]; exact Nat.and_two_pow_sub_one_eq_mod a 32
    simp only [if_true, this]
    omega
theorem or_int (x y : Int) (hx : 0 ≤ x ∧ x < 4294967296) (hy : 0 ≤ y ∧ y < 4294967296) : 0 ≤ Or x y ∧ Or x y < 4294967296 := by
  obtain ⟨a, rfl⟩ := Int.eq_ofNat_of_zero_le hx.1
  obtain ⟨b, rfl⟩ := Int.eq_ofNat_of_zero_le hy.1
  rw [or_nat a b (by omega) (by omega)]
  have := or_lt a b (by omega) (by omega)
  omega
theorem or_zero_int (x : Int) (hx : 0 ≤ x ∧ x < 4294967296) : Or x 0 = x := by
  obtain ⟨a, rfl⟩ := Int.eq_ofNat_of_zero_le hx.1
  exact or_zero_right a (by omega)
theorem masks_and (a b : Bool) : And (Mask a) (Mask b) = Mask (a && b) := by cases a <;> cases b <;> decide +kernel
theorem masks_or (a b : Bool) : Or (Mask a) (Mask b) = Mask (a || b) := by cases a <;> cases b <;> decide +kernel
theorem masks_not (a : Bool) : Not (Mask a) = Mask (!a) := not_mask a
end Ct
namespace Sk
def Wd (f : Nat → Nat → Int) : Prop := ∀ i c, 0 ≤ f i c ∧ f i c < 4294967296
theorem pm_eq (a b : Int) (f : Nat → Nat → Int) (hf : Wd f) (ha : 0 ≤ a ∧ a < 4294967296) (hb : 0 ≤ b ∧ b < 4294967296) (i : Nat) : Ct.And (Ct.Eq a (f i 0)) (Ct.Eq b (f i 1)) = Ct.Mask (hit a b f i) := by
  rw [Ct.eq_int a _ ha (hf i 0), Ct.eq_int b _ hb (hf i 1), Ct.masks_and]
  refine congrArg Ct.Mask ?_
  unfold hit
  rw [Bool.eq_iff_iff]
  simp only [Bool.and_eq_true, beq_iff_eq]
  constructor
  · rintro ⟨h1, h2⟩; exact ⟨h1.symm, h2.symm⟩
  · rintro ⟨h1, h2⟩; exact ⟨h1.symm, h2.symm⟩
theorem pairs_eq (a b : Int) (f : Nat → Nat → Int) (hf : Wd f) (ha : 0 ≤ a ∧ a < 4294967296) (hb : 0 ≤ b ∧ b < 4294967296) : ∀ n, (pto a b f n = rto a b f n ∧ 0 ≤ rto a b f n ∧ rto a b f n < 4294967296) ∧ pany a b f n = Ct.Mask (rany a b f n)
  | 0 => ⟨⟨rfl, by rw [rto_zero]; decide⟩, rfl⟩
  | n + 1 => by
    obtain ⟨⟨h1, h2⟩, h3⟩ := pairs_eq a b f hf ha hb n
    rw [pto_succ, pany_succ, rto_succ, rany_succ, pm_eq a b f hf ha hb n, h1, h3, Ct.mask_and_int _ _ (hf n 2), Ct.masks_or]
    cases h : hit a b f n
    · simp only [Bool.false_eq_true, if_false, Bool.or_false, and_true]
      exact ⟨Ct.or_zero_int _ h2, h2⟩
    · simp only [if_true, Bool.or_true, and_true, true_and]
      exact Ct.or_int _ _ h2 (hf n 2)
end Sk
end Go.Proofs.Ytcaaapfminenoaa
