/- ScanCarries: for every two slices of words and either side, words that have none become the nearest one that has, and the first and the last one that has are found, as the document says; the has lane stays. No condition. -/
import Derived.Test.YtdakbejppnijdaaRow
import Derived.Test.YtdakbejppnijdaaSaV
import Derived.Test.YtdakbejppnijdaaSjR
namespace Go.Proofs.Ytdakbejppnijdaa
open Go.ChangeShapes Go.WideShapes Go.ChangeAt Go.RowKit
set_option linter.unusedVariables false
set_option maxRecDepth 100000 in
theorem scanCarries_lifted (os : Os) (started : os.Started) (H : Type) (enc : TypeId × Value → H) :
    ReturnsInHanded {} Try.checked os 6 .any (Rows.scanCarriesSpec.pre6 enc Try.prog Try.f6 Rows.scanCarriesRow.domain false) (Rows.scanCarriesSpec.post enc Try.prog Try.f6 false true false false) := by
  refine returnsInHanded_of_change (C := Try.checked) Try.own started (by kernel_rfl) Try.func6
    (ChangeSpec.witness6 (enc := enc) (C := Try.checked) false ⟨#[], #[.slice none 0 0, .slice none 0 0, .bool false], []⟩ 8 (by kernel_rfl) (by kernel_rfl) (by kernel_rfl) (by kernel_rfl)) ?_
  intro W base args ds gs before hval0 hW hcnd _
  have hval : ∀ (j : Nat) t v, Try.f6.params[j]? = some t → args[j]? = some v → Value.okWide Try.prog W .any base t v := hval0
  have hW' := hW
  obtain ⟨p, q, hA0, hV, rfl, hfz, hnd⟩ := hW
  have hA : DataW.TrodAll enc Try.prog W 0 (fun _ => true) true Try.f6.params.toList args.toList ds p := hA0
  rw [Try.params6] at hA hval
  obtain ⟨v0, vs0, d0, ds0, p0, q0, hargs, rfl, rfl, h0, r0⟩ := trodAll_cons hA
  obtain ⟨v1, vs1, d1, ds1, p1, q1, rfl, rfl, rfl, h1, r1⟩ := trodAll_cons r0
  obtain ⟨v2, vs2, d2, ds2, p2, q2, rfl, rfl, rfl, h2, r2⟩ := trodAll_cons r1
  obtain ⟨rfl, rfl, rfl⟩ := trodAll_nil r2
  obtain rfl : args = #[v0, v1, v2] := by cases args; simp_all
  obtain ⟨rfl, rfl⟩ := trodVars_none hV
  obtain ⟨A0, n0, c0, xs0, rfl, hI0, hm0, hw0⟩ := open_ints_arg (k := .u32) Try.underlying22 Try.underlying30 (by kernel_rfl) (hval 0 22 v0 rfl rfl) h0
  unfold maxLen at hm0
  obtain ⟨A1, n1, c1, xs1, rfl, hI1, hm1, hw1⟩ := open_ints_arg (k := .u32) Try.underlying22 Try.underlying30 (by kernel_rfl) (hval 1 22 v1 rfl rfl) h1
  unfold maxLen at hm1
  obtain ⟨a2, rfl, rfl, rfl⟩ := open_bool Try.underlying4 (hval 2 4 v2 rfl rfl) h2
  refine (ScanCarries_any (cl_of32 hI0 hw0).1 (cl_of32 hI1 hw1).1 (cl_of32 hI0 hw0).2 (cl_of32 hI1 hw1).2 hm0 hm1 c0 c1 a2).mono fun e W' ⟨he, hb⟩ => ?_
  subst he
  exact ⟨_, rfl, law_post Try.laidOut hW' rfl (by kernel_rfl) rfl Try.underlying4 rfl rfl rfl hb⟩
theorem ScanCarries_holds : Rows.ScanCarriesSaid :=
  OpenClaim.holds_of_wide 6 Try.f6 rfl rfl rfl rfl rfl rfl rfl ⟨rfl, rfl, rfl, rfl, rfl⟩ rfl rfl rfl rfl rfl (by kernel_rfl) Try.func6 (by kernel_rfl)
    (of_decide_eq_true (by kernel_rfl)) (by unfold Func.isWrapper; first | (rw [if_pos (by decide +kernel)]; kernel_rfl) | (rw [if_neg (by decide +kernel)]; exact ⟨rfl, rfl⟩))
    (fun os started H enc _ => scanCarries_lifted os started H enc)
#print axioms ScanCarries_holds
end Go.Proofs.Ytdakbejppnijdaa
