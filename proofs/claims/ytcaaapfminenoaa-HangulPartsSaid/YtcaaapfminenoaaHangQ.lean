/- The document's parts of a syllable: a slice of two or three words. No condition. -/
import Derived.Test.YtcaaapfminenoaaHangL
namespace Go.Proofs.Ytcaaapfminenoaa
open Go.RowKit
set_option linter.unusedSimpArgs false
set_option linter.unusedVariables false
attribute [local go_sem] IntKind.wrap_u32' signed_u32 max_u32
attribute [local go_sem ↓] Go.wp_at_zero Go.wp_at_succ
attribute [local go_sem low] Calm.al_cell Calm.al_frozen
theorem Try.infoU32 : (Try.prog.info? 22).map (fun i => (i.zero, i.size, i.bytes)) = some (some (.int .u32 0), 1, 4) := by kernel_rfl
set_option maxRecDepth 20000 in
set_option maxHeartbeats 800000 in
theorem rParts2_any (p : Int) (h1 : 44032 ≤ p) (h2 : p ≤ 55203) (h3 : (p - 44032) % 28 = 0) (w : World) : Calls Try.prog 67 #[.int .u32 p] w fun e w' => ∃ g cap, e = .returned (.slice (some ⟨g, 0, none⟩) 2 cap) ∧ w'.ownsRow w.heap.size 22 1 (.slice (some ⟨g, 0, none⟩) 2 cap) 2 [.int .u32 (4352 + (p - 44032) / 588), .int .u32 (4449 + (p - 44032) % 588 / 28)] ∧ Below w.heap.size w w' := by
  have hs : (p - 44032) % 4294967296 = p - 44032 := by omega
  have e1 : (4352 + (p - 44032) / 588) % 4294967296 = 4352 + (p - 44032) / 588 := by omega
  have e2 : (4449 + (p - 44032) % 588 / 28) % 4294967296 = 4449 + (p - 44032) % 588 / 28 := by omega
  have d1 : (p - 44032).tdiv 588 = (p - 44032) / 588 := Int.tdiv_eq_ediv_of_nonneg (by omega)
  have d2 : ((p - 44032) % 588).tdiv 28 = (p - 44032) % 588 / 28 := Int.tdiv_eq_ediv_of_nonneg (by omega)
  have g3 : decide (0 < (p - 44032) % 28) = false := by simp; omega
  go_enter Try.func67, Try.ntmps67
  go_wp2_with fail
  go_ret
  refine ⟨_, _, rfl, ?_, ?_⟩
  · exact World.ownsRow_lit w #[.int .u32 (4352 + (p - 44032) / 588), .int .u32 (4449 + (p - 44032) % 588 / 28)] 2 (Nat.le_refl _) (by decide) rfl
  · (repeat' (first | exact Below.refl _ _ | refine bl_set (by (first | omega | (simp; done) | (simp; omega))) ?_ _ | refine bl_alloc (by (first | omega | (simp; done) | (simp; omega))) ?_ _ | refine bl_drewN ?_ _ | refine bl_drew ?_ | refine bl_then (by assumption) ?_ (by (first | omega | (simp; done) | (simp; omega))) | refine Step.bl (by assumption) (by assumption) (by (first | omega | (simp; done) | (simp; omega))) (by (first | omega | (simp; done) | (simp; omega))) ?_))
set_option maxRecDepth 20000 in
set_option maxHeartbeats 800000 in
theorem rParts3_any (p : Int) (h1 : 44032 ≤ p) (h2 : p ≤ 55203) (h3 : ¬ (p - 44032) % 28 = 0) (w : World) : Calls Try.prog 67 #[.int .u32 p] w fun e w' => ∃ g cap, e = .returned (.slice (some ⟨g, 0, none⟩) 3 cap) ∧ w'.ownsRow w.heap.size 22 1 (.slice (some ⟨g, 0, none⟩) 3 cap) 3 [.int .u32 (4352 + (p - 44032) / 588), .int .u32 (4449 + (p - 44032) % 588 / 28), .int .u32 (4519 + (p - 44032) % 28)] ∧ Below w.heap.size w w' := by
  have hs : (p - 44032) % 4294967296 = p - 44032 := by omega
  have e1 : (4352 + (p - 44032) / 588) % 4294967296 = 4352 + (p - 44032) / 588 := by omega
  have e2 : (4449 + (p - 44032) % 588 / 28) % 4294967296 = 4449 + (p - 44032) % 588 / 28 := by omega
  have e3 : (4519 + (p - 44032) % 28) % 4294967296 = 4519 + (p - 44032) % 28 := by omega
  have d1 : (p - 44032).tdiv 588 = (p - 44032) / 588 := Int.tdiv_eq_ediv_of_nonneg (by omega)
  have d2 : ((p - 44032) % 588).tdiv 28 = (p - 44032) % 588 / 28 := Int.tdiv_eq_ediv_of_nonneg (by omega)
  have g3 : decide (0 < (p - 44032) % 28) = true := by simp; omega
  obtain ⟨i0, hi, hz0, hz1, hz2⟩ := info_parts Try.infoU32
  have hO := Lib.hid (World.ownsRow_lit (e := 22) (size := 1) w #[.int .u32 (4352 + (p - 44032) / 588), .int .u32 (4449 + (p - 44032) % 588 / 28)] 2 (Nat.le_refl _) (by decide) rfl)
  go_enter Try.func67, Try.ntmps67
  go_wp2_with (at_builtin; refine wpList_append_lies _ (by rfl) _ _ 36 (by rfl) w.heap.size 22 i0 _ 1 4 Try.underlying36 hi hz0 hz1 hz2 (by rfl) (by decide) _ 2 _ (by rfl) (hO.out.alloc _) ⟨w.heap.size + 1, 0, none⟩ 1 1 [.int .u32 (4519 + (p - 44032) % 28)] (by rfl) (by rfl) (by intro j u hu; cases j with | zero => (simp at hu; subst hu; simp [go_sem]) | succ j => simp at hu) (by simp [Value.oneCell']) (by decide) (by simp only [maxLen]; omega) (by omega) (by simp; omega) (w.heap.size + 1 + 1) (by simp) ?_; intro g cap w2 hown1 hg1 hat1 hlt1; have hO2 := Lib.hid hown1; have hG2 := Lib.hid hg1; clear hown1 hg1 hat1)
  go_ret
  refine ⟨_, _, rfl, ?_, ?_⟩
  · exact hO2.out
  · refine bl_grown hG2 (own_base hO.out) (by simp; omega) ?_
    (repeat' (first | exact Below.refl _ _ | refine bl_set (by (first | omega | (simp; done) | (simp; omega))) ?_ _ | refine bl_alloc (by (first | omega | (simp; done) | (simp; omega))) ?_ _ | refine bl_drewN ?_ _ | refine bl_drew ?_ | refine bl_then (by assumption) ?_ (by (first | omega | (simp; done) | (simp; omega))) | refine Step.bl (by assumption) (by assumption) (by (first | omega | (simp; done) | (simp; omega))) (by (first | omega | (simp; done) | (simp; omega))) ?_))
end Go.Proofs.Ytcaaapfminenoaa
