/- unutf: right. No condition. -/
import Derived.Test.YtjoehhojhfgooaaAp
import Derived.Test.YtjoehhojhfgooaaUtT
import Derived.Test.YtjoehhojhfgooaaPk4
namespace Go.Proofs.Ytjoehhojhfgooaa
open Go.RowKit
set_option linter.unusedSimpArgs false
set_option linter.unusedVariables false
attribute [local go_sem] IntKind.wrap_u32' signed_u32 max_u32
attribute [local go_sem ↓] Go.wp_at_zero Go.wp_at_succ
attribute [local go_sem] Calm.C
attribute [local go_sem low] Calm.al_cell Calm.al_frozen
/-- Two lanes have words in common. -/
def Ovl (x nx y ny : Int) : Prop := 0 < nx ∧ 0 < ny ∧ x < y + ny ∧ y < x + nx
instance (x nx y ny : Int) : Decidable (Ovl x nx y ny) := by unfold Ovl; infer_instance
set_option maxRecDepth 10000 in
set_option maxHeartbeats 1600000 in
theorem ovl_any (x nx y ny : Int) (hx : 0 ≤ x ∧ x ≤ 4194304) (hnx : 0 ≤ nx ∧ nx ≤ 4194304) (hy : 0 ≤ y ∧ y ≤ 4194304) (hny : 0 ≤ ny ∧ ny ≤ 4194304) (w : World) :
    Calls Try.prog 67 #[.int .i64 x, .int .i64 nx, .int .i64 y, .int .i64 ny] w fun e w' => e = .returned (.bool (decide (Ovl x nx y ny))) ∧ w' = w := by
  by_cases h1 : 0 < nx
  · by_cases h2 : 0 < ny
    · by_cases h3 : x < y + ny
      · rw [show decide (Ovl x nx y ny) = decide (y < x + nx) from decide_eq_decide.2 (by unfold Ovl; omega)]
        go_enter Try.func67, Try.ntmps67
        go_wp2_with fail
        go_ret
        exact ⟨rfl, rfl⟩
      · rw [show decide (Ovl x nx y ny) = false from decide_eq_false (fun h => by unfold Ovl at h; omega)]
        go_enter Try.func67, Try.ntmps67
        go_wp2_with fail
        go_ret
        exact ⟨rfl, rfl⟩
    · rw [show decide (Ovl x nx y ny) = false from decide_eq_false (fun h => by unfold Ovl at h; omega)]
      go_enter Try.func67, Try.ntmps67
      go_wp2_with fail
      go_ret
      exact ⟨rfl, rfl⟩
  · rw [show decide (Ovl x nx y ny) = false from decide_eq_false (fun h => by unfold Ovl at h; omega)]
    go_enter Try.func67, Try.ntmps67
    go_wp2_with fail
    go_ret
    exact ⟨rfl, rfl⟩
/-- unutf's lanes are right. -/
def Rt (top : Nat) (a b n to most : Int) : Prop := 0 ≤ n ∧ n ≤ 12288 ∧ 0 ≤ most ∧ most ≤ 4 * n ∧ Fit top a n ∧ Fit top b n ∧ Fit top to most ∧ ¬ Ovl a n b n ∧ ¬ Ovl a n to most ∧ ¬ Ovl b n to most
instance (top : Nat) (a b n to most : Int) : Decidable (Rt top a b n to most) := by unfold Rt Fit; infer_instance
set_option maxRecDepth 10000 in
set_option maxHeartbeats 1600000 in
theorem unRight_any {w : World} {p g lp : Nat} {FL : Nat → Prop} {ws : List Int} {top : Nat} {evs : List Ev} (h : Ar w p g lp FL ws top evs) (a b n to most : Int) :
    Calls Try.prog 45 #[.pointer (some ⟨p, 0, none⟩), .int .i64 a, .int .i64 b, .int .i64 n, .int .i64 to, .int .i64 most] w fun e w' => e = .returned (.bool (decide (Rt top a b n to most))) ∧ w' = w := by
  have H := Lib.hid h
  have ht : (top : Int) ≤ 4194304 := by have := h.ht; have := h.hz; omega
  clear h
  by_cases c1 : 0 ≤ n
  rotate_left
  · rw [show decide (Rt top a b n to most) = false from decide_eq_false (fun h => absurd (show 0 ≤ n from h.1) c1)]
    go_enter Try.func45, Try.ntmps45
    go_wp2_with (first
      | (go_at_call 56; with_reducible refine (Fits_any H.out _ _).mono ?_; rintro e w1 ⟨rfl, hw⟩; replace hw := hw.symm; subst hw; skip)
      | (go_at_call 67; with_reducible refine (ovl_any _ _ _ _ (by omega) (by omega) (by omega) (by omega) _).mono ?_; rintro e w1 ⟨rfl, hw⟩; replace hw := hw.symm; subst hw; skip))
    go_ret
    exact ⟨rfl, rfl⟩
  by_cases c2 : n ≤ 12288
  rotate_left
  · rw [show decide (Rt top a b n to most) = false from decide_eq_false (fun h => absurd (show n ≤ 12288 from h.2.1) c2)]
    go_enter Try.func45, Try.ntmps45
    go_wp2_with (first
      | (go_at_call 56; with_reducible refine (Fits_any H.out _ _).mono ?_; rintro e w1 ⟨rfl, hw⟩; replace hw := hw.symm; subst hw; skip)
      | (go_at_call 67; with_reducible refine (ovl_any _ _ _ _ (by omega) (by omega) (by omega) (by omega) _).mono ?_; rintro e w1 ⟨rfl, hw⟩; replace hw := hw.symm; subst hw; skip))
    go_ret
    exact ⟨rfl, rfl⟩
  by_cases c3 : 0 ≤ most
  rotate_left
  · rw [show decide (Rt top a b n to most) = false from decide_eq_false (fun h => absurd (show 0 ≤ most from h.2.2.1) c3)]
    go_enter Try.func45, Try.ntmps45
    go_wp2_with (first
      | (go_at_call 56; with_reducible refine (Fits_any H.out _ _).mono ?_; rintro e w1 ⟨rfl, hw⟩; replace hw := hw.symm; subst hw; skip)
      | (go_at_call 67; with_reducible refine (ovl_any _ _ _ _ (by omega) (by omega) (by omega) (by omega) _).mono ?_; rintro e w1 ⟨rfl, hw⟩; replace hw := hw.symm; subst hw; skip))
    go_ret
    exact ⟨rfl, rfl⟩
  by_cases c4 : most ≤ 4 * n
  rotate_left
  · rw [show decide (Rt top a b n to most) = false from decide_eq_false (fun h => absurd (show most ≤ 4 * n from h.2.2.2.1) c4)]
    go_enter Try.func45, Try.ntmps45
    go_wp2_with (first
      | (go_at_call 56; with_reducible refine (Fits_any H.out _ _).mono ?_; rintro e w1 ⟨rfl, hw⟩; replace hw := hw.symm; subst hw; skip)
      | (go_at_call 67; with_reducible refine (ovl_any _ _ _ _ (by omega) (by omega) (by omega) (by omega) _).mono ?_; rintro e w1 ⟨rfl, hw⟩; replace hw := hw.symm; subst hw; skip))
    go_ret
    exact ⟨rfl, rfl⟩
  by_cases c5 : Fit top a n
  rotate_left
  · rw [show decide (Rt top a b n to most) = false from decide_eq_false (fun h => absurd (show Fit top a n from h.2.2.2.2.1) c5)]
    go_enter Try.func45, Try.ntmps45
    go_wp2_with (first
      | (go_at_call 56; with_reducible refine (Fits_any H.out _ _).mono ?_; rintro e w1 ⟨rfl, hw⟩; replace hw := hw.symm; subst hw; (first | rw [decide_eq_false c5]))
      | (go_at_call 67; with_reducible refine (ovl_any _ _ _ _ (by omega) (by omega) (by omega) (by omega) _).mono ?_; rintro e w1 ⟨rfl, hw⟩; replace hw := hw.symm; subst hw; (first | rw [decide_eq_false c5])))
    go_ret
    exact ⟨rfl, rfl⟩
  by_cases c6 : Fit top b n
  rotate_left
  · rw [show decide (Rt top a b n to most) = false from decide_eq_false (fun h => absurd (show Fit top b n from h.2.2.2.2.2.1) c6)]
    go_enter Try.func45, Try.ntmps45
    have d5 := c5
    unfold Fit at d5
    go_wp2_with (first
      | (go_at_call 56; with_reducible refine (Fits_any H.out _ _).mono ?_; rintro e w1 ⟨rfl, hw⟩; replace hw := hw.symm; subst hw; (first | rw [decide_eq_true c5] | rw [decide_eq_false c6]))
      | (go_at_call 67; with_reducible refine (ovl_any _ _ _ _ (by omega) (by omega) (by omega) (by omega) _).mono ?_; rintro e w1 ⟨rfl, hw⟩; replace hw := hw.symm; subst hw; (first | rw [decide_eq_true c5] | rw [decide_eq_false c6])))
    go_ret
    exact ⟨rfl, rfl⟩
  by_cases c7 : Fit top to most
  rotate_left
  · rw [show decide (Rt top a b n to most) = false from decide_eq_false (fun h => absurd (show Fit top to most from h.2.2.2.2.2.2.1) c7)]
    go_enter Try.func45, Try.ntmps45
    have d5 := c5
    unfold Fit at d5
    have d6 := c6
    unfold Fit at d6
    go_wp2_with (first
      | (go_at_call 56; with_reducible refine (Fits_any H.out _ _).mono ?_; rintro e w1 ⟨rfl, hw⟩; replace hw := hw.symm; subst hw; (first | rw [decide_eq_true c5] | rw [decide_eq_true c6] | rw [decide_eq_false c7]))
      | (go_at_call 67; with_reducible refine (ovl_any _ _ _ _ (by omega) (by omega) (by omega) (by omega) _).mono ?_; rintro e w1 ⟨rfl, hw⟩; replace hw := hw.symm; subst hw; (first | rw [decide_eq_true c5] | rw [decide_eq_true c6] | rw [decide_eq_false c7])))
    go_ret
    exact ⟨rfl, rfl⟩
  by_cases c8 : ¬ Ovl a n b n
  rotate_left
  · rw [show decide (Rt top a b n to most) = false from decide_eq_false (fun h => absurd (show ¬ Ovl a n b n from h.2.2.2.2.2.2.2.1) c8)]
    go_enter Try.func45, Try.ntmps45
    have d5 := c5
    unfold Fit at d5
    have d6 := c6
    unfold Fit at d6
    have d7 := c7
    unfold Fit at d7
    go_wp2_with (first
      | (go_at_call 56; with_reducible refine (Fits_any H.out _ _).mono ?_; rintro e w1 ⟨rfl, hw⟩; replace hw := hw.symm; subst hw; (first | rw [decide_eq_true c5] | rw [decide_eq_true c6] | rw [decide_eq_true c7] | rw [decide_eq_true (Decidable.not_not.1 c8)]))
      | (go_at_call 67; with_reducible refine (ovl_any _ _ _ _ (by omega) (by omega) (by omega) (by omega) _).mono ?_; rintro e w1 ⟨rfl, hw⟩; replace hw := hw.symm; subst hw; (first | rw [decide_eq_true c5] | rw [decide_eq_true c6] | rw [decide_eq_true c7] | rw [decide_eq_true (Decidable.not_not.1 c8)])))
    go_ret
    exact ⟨rfl, rfl⟩
  by_cases c9 : ¬ Ovl a n to most
  rotate_left
  · rw [show decide (Rt top a b n to most) = false from decide_eq_false (fun h => absurd (show ¬ Ovl a n to most from h.2.2.2.2.2.2.2.2.1) c9)]
    go_enter Try.func45, Try.ntmps45
    have d5 := c5
    unfold Fit at d5
    have d6 := c6
    unfold Fit at d6
    have d7 := c7
    unfold Fit at d7
    go_wp2_with (first
      | (go_at_call 56; with_reducible refine (Fits_any H.out _ _).mono ?_; rintro e w1 ⟨rfl, hw⟩; replace hw := hw.symm; subst hw; (first | rw [decide_eq_true c5] | rw [decide_eq_true c6] | rw [decide_eq_true c7] | rw [decide_eq_false c8] | rw [decide_eq_true (Decidable.not_not.1 c9)]))
      | (go_at_call 67; with_reducible refine (ovl_any _ _ _ _ (by omega) (by omega) (by omega) (by omega) _).mono ?_; rintro e w1 ⟨rfl, hw⟩; replace hw := hw.symm; subst hw; (first | rw [decide_eq_true c5] | rw [decide_eq_true c6] | rw [decide_eq_true c7] | rw [decide_eq_false c8] | rw [decide_eq_true (Decidable.not_not.1 c9)])))
    go_ret
    exact ⟨rfl, rfl⟩
  by_cases c10 : ¬ Ovl b n to most
  rotate_left
  · rw [show decide (Rt top a b n to most) = false from decide_eq_false (fun h => absurd (show ¬ Ovl b n to most from h.2.2.2.2.2.2.2.2.2) c10)]
    go_enter Try.func45, Try.ntmps45
    have d5 := c5
    unfold Fit at d5
    have d6 := c6
    unfold Fit at d6
    have d7 := c7
    unfold Fit at d7
    go_wp2_with (first
      | (go_at_call 56; with_reducible refine (Fits_any H.out _ _).mono ?_; rintro e w1 ⟨rfl, hw⟩; replace hw := hw.symm; subst hw; (first | rw [decide_eq_true c5] | rw [decide_eq_true c6] | rw [decide_eq_true c7] | rw [decide_eq_false c8] | rw [decide_eq_false c9] | rw [decide_eq_true (Decidable.not_not.1 c10)]))
      | (go_at_call 67; with_reducible refine (ovl_any _ _ _ _ (by omega) (by omega) (by omega) (by omega) _).mono ?_; rintro e w1 ⟨rfl, hw⟩; replace hw := hw.symm; subst hw; (first | rw [decide_eq_true c5] | rw [decide_eq_true c6] | rw [decide_eq_true c7] | rw [decide_eq_false c8] | rw [decide_eq_false c9] | rw [decide_eq_true (Decidable.not_not.1 c10)])))
    go_ret
    exact ⟨rfl, rfl⟩
  rw [show decide (Rt top a b n to most) = true from decide_eq_true ⟨c1, c2, c3, c4, c5, c6, c7, c8, c9, c10⟩]
  go_enter Try.func45, Try.ntmps45
  have d5 := c5
  unfold Fit at d5
  have d6 := c6
  unfold Fit at d6
  have d7 := c7
  unfold Fit at d7
  go_wp2_with (first
      | (go_at_call 56; with_reducible refine (Fits_any H.out _ _).mono ?_; rintro e w1 ⟨rfl, hw⟩; replace hw := hw.symm; subst hw; (first | rw [decide_eq_true c5] | rw [decide_eq_true c6] | rw [decide_eq_true c7] | rw [decide_eq_false c8] | rw [decide_eq_false c9] | rw [decide_eq_false c10]))
      | (go_at_call 67; with_reducible refine (ovl_any _ _ _ _ (by omega) (by omega) (by omega) (by omega) _).mono ?_; rintro e w1 ⟨rfl, hw⟩; replace hw := hw.symm; subst hw; (first | rw [decide_eq_true c5] | rw [decide_eq_true c6] | rw [decide_eq_true c7] | rw [decide_eq_false c8] | rw [decide_eq_false c9] | rw [decide_eq_false c10])))
  go_ret
  exact ⟨rfl, rfl⟩
end Go.Proofs.Ytjoehhojhfgooaa
