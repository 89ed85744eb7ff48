/- What tables say of a word: rows: the plain law. No condition. -/
import Derived.Test.YtcaaapfminenoaaSkP
namespace Go.Proofs.Ytcaaapfminenoaa
namespace Sk
theorem rows_eq (key : Int) (K : Nat → Int) (n : Nat) (R : Nat → Nat) (f : Nat → Nat → Int) (hk : 0 ≤ key ∧ key < 4294967296) (hK : ∀ i, 0 ≤ K i ∧ K i < 4294967296) (hf : Wd f) (W c : Nat) (hc : c < W) :
    ∀ m, fo key K n W R f m c = ro key K n R f m c ∧ 0 ≤ ro key K n R f m c ∧ ro key K n R f m c < 4294967296
  | 0 => ⟨rfl, by rw [ro_zero]; decide⟩
  | m + 1 => by
    obtain ⟨h1, h2⟩ := rows_eq key K n R f hk hK hf W c hc m
    have he : Ct.Eq key (K m) = Ct.Mask (K m == key) := by
      rw [Ct.eq_int key _ hk (hK m)]
      refine congrArg Ct.Mask ?_
      rw [Bool.eq_iff_iff]
      simp only [beq_iff_eq]
      exact ⟨fun h => h.symm, fun h => h.symm⟩
    rw [fo_succ, ro_succ, h1, he, Ct.mask_and_int _ _ (hf m c)]
    by_cases hx : m < n ∧ c < R m
    · rw [if_pos (show m < n ∧ c < min (R m) W from ⟨hx.1, by omega⟩)]
      by_cases hq : (K m == key) = true
      · rw [if_pos hq, if_pos ⟨hq, hx⟩]
        exact ⟨rfl, Ct.or_int _ _ h2 (hf m c)⟩
      · rw [if_neg hq, if_neg (fun h => hq h.1)]
        exact ⟨Ct.or_zero_int _ h2, h2⟩
    · rw [if_neg (fun h => hx ⟨h.1, by omega⟩), if_neg (fun h => hx h.2)]
      exact ⟨rfl, h2⟩
theorem found_eq (key : Int) (K : Nat → Int) (hk : 0 ≤ key ∧ key < 4294967296) (hK : ∀ i, 0 ≤ K i ∧ K i < 4294967296) : ∀ m, ff key K m = Ct.Mask (rf key K m)
  | 0 => rfl
  | m + 1 => by
    have he : Ct.Eq key (K m) = Ct.Mask (K m == key) := by
      rw [Ct.eq_int key _ hk (hK m)]
      refine congrArg Ct.Mask ?_
      rw [Bool.eq_iff_iff]
      simp only [beq_iff_eq]
      exact ⟨fun h => h.symm, fun h => h.symm⟩
    rw [ff_succ, rf_succ, found_eq key K hk hK m, he, Ct.masks_or]
    refine congrArg Ct.Mask ?_
    cases h : (K m == key) <;> simp
end Sk
end Go.Proofs.Ytcaaapfminenoaa
