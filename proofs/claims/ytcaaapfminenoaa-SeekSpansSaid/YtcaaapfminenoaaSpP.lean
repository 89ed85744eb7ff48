/- Runs, spans and weights: the plain law. No condition. -/
import Derived.Test.YtcaaapfminenoaaSkP
namespace Go.Proofs.Ytcaaapfminenoaa
namespace Ct
theorem lt_int (x y : Int) (hx : 0 ≤ x ∧ x < 4294967296) (hy : 0 ≤ y ∧ y < 4294967296) : Lt x y = Mask (decide (x < y)) := by
  obtain ⟨a, rfl⟩ := Int.eq_ofNat_of_zero_le hx.1
  obtain ⟨b, rfl⟩ := Int.eq_ofNat_of_zero_le hy.1
  rw [lt_nat a b (by omega) (by omega)]
  refine congrArg Mask ?_
  rw [Bool.eq_iff_iff]
  simp
theorem sel_mask_int (b : Bool) (x y : Int) (hx : 0 ≤ x ∧ x < 4294967296) (hy : 0 ≤ y ∧ y < 4294967296) : Sel (Mask b) x y = if b = true then x else y := by
  obtain ⟨a, rfl⟩ := Int.eq_ofNat_of_zero_le hx.1
  obtain ⟨c, rfl⟩ := Int.eq_ofNat_of_zero_le hy.1
  exact sel_mask b a c (by omega) (by omega)
end Ct
namespace Sk
theorem inn_eq (a b x : Int) (ha : 0 ≤ a ∧ a < 4294967296) (hb : 0 ≤ b ∧ b < 4294967296) (hx : 0 ≤ x ∧ x < 4294967296) : inn a b x = Ct.Mask (has a b x) := by
  unfold inn has
  rw [Ct.lt_int x a hx ha, Ct.lt_int b x hb hx, Ct.masks_or, Ct.masks_not]
  refine congrArg Ct.Mask ?_
  rw [Bool.eq_iff_iff]
  simp
theorem spans_eq (f : Nat → Nat → Int) (hf : Wd f) (x : Int) (hx : 0 ≤ x ∧ x < 4294967296) : ∀ n, (mo f x n = rmv f x n ∧ 0 ≤ rmv f x n ∧ rmv f x n < 4294967296) ∧ ins f x n = Ct.Mask (rin f x n) ∧ (kc f x n = rcl f x n ∧ 0 ≤ rcl f x n ∧ rcl f x n < 4294967296)
  | 0 => ⟨⟨rfl, hx⟩, rfl, rfl, by rw [rcl_zero]; decide⟩
  | n + 1 => by
    obtain ⟨⟨h1, h2⟩, h3, h4, h5⟩ := spans_eq f hf x hx n
    rw [mo_succ, ins_succ, kc_succ, rmv_succ, rin_succ, rcl_succ, inn_eq _ _ x (hf n 0) (hf n 1) hx, h1, h3, h4, Ct.masks_or, Ct.mask_and_int _ _ (hf n 2)]
    have ea : Ct.Add x ((f n 2 - f n 0) % 4294967296) = (f n 2 + (x - f n 0) % 4294967296) % 4294967296 := by unfold Ct.Add; omega
    rw [ea, Ct.sel_mask_int _ _ _ (by omega) h2]
    cases h : has (f n 0) (f n 1) x
    · simp only [Bool.false_eq_true, if_false, Bool.or_false, true_and]
      exact ⟨h2, Ct.or_zero_int _ h5, h5⟩
    · simp only [if_true, Bool.or_true, true_and]
      exact ⟨by omega, Ct.or_int _ _ h5 (hf n 2)⟩
end Sk
end Go.Proofs.Ytcaaapfminenoaa
