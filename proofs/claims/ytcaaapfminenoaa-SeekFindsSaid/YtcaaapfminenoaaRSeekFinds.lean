/- SeekFinds: for every slice of keys, every slice of rows and every key, the rows of the key are the document's. No condition. -/
import Derived.Test.YtcaaapfminenoaaRow
import Derived.Test.YtcaaapfminenoaaSkM
import Derived.Test.YtcaaapfminenoaaTab
namespace Go.Proofs.Ytcaaapfminenoaa
open Go.ChangeShapes Go.WideShapes Go.ChangeAt Go.RowKit
set_option linter.unusedVariables false
set_option maxRecDepth 100000 in
theorem seekFinds_lifted (os : Os) (started : os.Started) (H : Type) (enc : TypeId × Value → H) :
    ReturnsInHanded {} Try.checked os 9 .any (Rows.seekFindsSpec.pre6 enc Try.prog Try.f9 Rows.seekFindsRow.domain false) (Rows.seekFindsSpec.post enc Try.prog Try.f9 false true false false) := by
  refine returnsInHanded_of_change (C := Try.checked) Try.own started (by kernel_rfl) Try.func9
    (ChangeSpec.witness6 (enc := enc) (C := Try.checked) false ⟨#[], #[.slice none 0 0, .slice none 0 0, .int .u32 0], []⟩ 8 (by kernel_rfl) (by kernel_rfl) (by kernel_rfl) (by kernel_rfl)) ?_
  intro W base args ds gs before hval0 hW hcnd _
  have hval : ∀ (j : Nat) t v, Try.f9.params[j]? = some t → args[j]? = some v → Value.okWide Try.prog W .any base t v := hval0
  have hW' := hW
  obtain ⟨p, q, hA0, hV, rfl, hfz, hnd⟩ := hW
  have hA : DataW.TrodAll enc Try.prog W 0 (fun _ => true) true Try.f9.params.toList args.toList ds p := hA0
  rw [Try.params9] at hA hval
  obtain ⟨v0, vs0, d0, ds0, p0, q0, hargs, rfl, rfl, h0, r0⟩ := trodAll_cons hA
  obtain ⟨v1, vs1, d1, ds1, p1, q1, rfl, rfl, rfl, h1, r1⟩ := trodAll_cons r0
  obtain ⟨v2, vs2, d2, ds2, p2, q2, rfl, rfl, rfl, h2, r2⟩ := trodAll_cons r1
  obtain ⟨rfl, rfl, rfl⟩ := trodAll_nil r2
  obtain rfl : args = #[v0, v1, v2] := by cases args; simp_all
  obtain ⟨rfl, rfl⟩ := trodVars_none hV
  obtain ⟨A0, n0, c0, f0, rfl, hT0, hm0, hf0⟩ := open_tab (sz := 1) Try.underlying36 (by kernel_rfl) (by decide) (flat_int Try.underlying22) (hval 0 36 v0 rfl rfl) h0
  unfold maxLen at hm0
  obtain ⟨A1, n1, c1, R1, f1, B1, off1, Ai1, ci1, rfl, hT1, hm1, hR1, hf1⟩ := open_rowz Try.underlying61 Try.underlying36 Try.underlying22 (by kernel_rfl) (by kernel_rfl) (hval 1 61 v1 rfl rfl) h1
  unfold maxLen at hm1 hR1
  obtain ⟨a2, rfl, rfl, rfl, w2⟩ := open_int Try.underlying22 (hval 2 22 v2 rfl rfl) h2
  have b2 := bounds_u32 w2
  refine (SeekFinds_any W A0 A1 n0 c0 n1 c1 f0 R1 f1 hT0 B1 off1 Ai1 ci1 hT1 hm0 hm1 hR1 hf0 hf1 a2 (by omega)).mono fun e W' ⟨he, hb⟩ => ?_
  subst he
  exact ⟨_, rfl, law_post Try.laidOut hW' rfl (by kernel_rfl) rfl Try.underlying4 rfl rfl rfl hb⟩
theorem SeekFinds_holds : Rows.SeekFindsSaid :=
  OpenClaim.holds_of_wide 9 Try.f9 rfl rfl rfl rfl rfl rfl rfl ⟨rfl, rfl, rfl, rfl, rfl⟩ rfl rfl rfl rfl rfl (by kernel_rfl) Try.func9 (by kernel_rfl)
    (of_decide_eq_true (by kernel_rfl)) (by unfold Func.isWrapper; first | (rw [if_pos (by decide +kernel)]; kernel_rfl) | (rw [if_neg (by decide +kernel)]; exact ⟨rfl, rfl⟩))
    (fun os started H enc _ => seekFinds_lifted os started H enc)
#print axioms SeekFinds_holds
end Go.Proofs.Ytcaaapfminenoaa
