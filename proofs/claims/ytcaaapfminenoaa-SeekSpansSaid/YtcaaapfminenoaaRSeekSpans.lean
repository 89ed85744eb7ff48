/- SeekSpans: for every slice of runs and every word, whether the word is in spans, what it becomes by runs, and its numbers, is the document's. No condition. -/
import Derived.Test.YtcaaapfminenoaaRow
import Derived.Test.YtcaaapfminenoaaSpL
import Derived.Test.YtcaaapfminenoaaTab
namespace Go.Proofs.Ytcaaapfminenoaa
open Go.ChangeShapes Go.WideShapes Go.ChangeAt Go.RowKit
set_option linter.unusedVariables false
set_option maxRecDepth 100000 in
theorem seekSpans_lifted (os : Os) (started : os.Started) (H : Type) (enc : TypeId × Value → H) :
    ReturnsInHanded {} Try.checked os 14 .any (Rows.seekSpansSpec.pre6 enc Try.prog Try.f14 Rows.seekSpansRow.domain false) (Rows.seekSpansSpec.post enc Try.prog Try.f14 false true false false) := by
  refine returnsInHanded_of_change (C := Try.checked) Try.own started (by kernel_rfl) Try.func14
    (ChangeSpec.witness6 (enc := enc) (C := Try.checked) false ⟨#[], #[.slice none 0 0, .int .u32 0], []⟩ 8 (by kernel_rfl) (by kernel_rfl) (by kernel_rfl) (by kernel_rfl)) ?_
  intro W base args ds gs before hval0 hW hcnd _
  have hval : ∀ (j : Nat) t v, Try.f14.params[j]? = some t → args[j]? = some v → Value.okWide Try.prog W .any base t v := hval0
  have hW' := hW
  obtain ⟨p, q, hA0, hV, rfl, hfz, hnd⟩ := hW
  have hA : DataW.TrodAll enc Try.prog W 0 (fun _ => true) true Try.f14.params.toList args.toList ds p := hA0
  rw [Try.params14] at hA hval
  obtain ⟨v0, vs0, d0, ds0, p0, q0, hargs, rfl, rfl, h0, r0⟩ := trodAll_cons hA
  obtain ⟨v1, vs1, d1, ds1, p1, q1, rfl, rfl, rfl, h1, r1⟩ := trodAll_cons r0
  obtain ⟨rfl, rfl, rfl⟩ := trodAll_nil r1
  obtain rfl : args = #[v0, v1] := by cases args; simp_all
  obtain ⟨rfl, rfl⟩ := trodVars_none hV
  obtain ⟨A0, n0, c0, f0, rfl, hT0, hm0, hf0⟩ := open_tab (sz := 3) Try.underlying87 (by kernel_rfl) (by decide) (flat_struct2 Try.underlying93 rfl rfl (by kernel_rfl) (by kernel_rfl) (flat_struct2 Try.underlying91 rfl rfl (by kernel_rfl) (by kernel_rfl) (flat_int Try.underlying22) (flat_int Try.underlying22)) (flat_int Try.underlying22)) (hval 0 87 v0 rfl rfl) h0
  unfold maxLen at hm0
  obtain ⟨a1, rfl, rfl, rfl, w1⟩ := open_int Try.underlying22 (hval 1 22 v1 rfl rfl) h1
  have b1 := bounds_u32 w1
  refine (SeekSpans_any W A0 n0 c0 f0 hT0 hm0 hf0 a1 (by omega)).mono fun e W' ⟨he, hb⟩ => ?_
  subst he
  exact ⟨_, rfl, law_post Try.laidOut hW' rfl (by kernel_rfl) rfl Try.underlying4 rfl rfl rfl hb⟩
theorem SeekSpans_holds : Rows.SeekSpansSaid :=
  OpenClaim.holds_of_wide 14 Try.f14 rfl rfl rfl rfl rfl rfl rfl ⟨rfl, rfl, rfl, rfl, rfl⟩ rfl rfl rfl rfl rfl (by kernel_rfl) Try.func14 (by kernel_rfl)
    (of_decide_eq_true (by kernel_rfl)) (by unfold Func.isWrapper; first | (rw [if_pos (by decide +kernel)]; kernel_rfl) | (rw [if_neg (by decide +kernel)]; exact ⟨rfl, rfl⟩))
    (fun os started H enc _ => seekSpans_lifted os started H enc)
#print axioms SeekSpans_holds
end Go.Proofs.Ytcaaapfminenoaa
