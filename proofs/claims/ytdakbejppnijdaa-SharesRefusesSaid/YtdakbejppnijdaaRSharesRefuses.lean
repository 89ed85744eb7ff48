/- SharesRefuses: for every two places, every three numbers and every byte, what may not be split is refused, and nothing is noted. No condition. -/
import Derived.Test.YtdakbejppnijdaaRow
import Derived.Test.YtdakbejppnijdaaSsH
import Derived.Test.YtdakbejppnijdaaArr2
namespace Go.Proofs.Ytdakbejppnijdaa
open Go.ChangeShapes Go.WideShapes Go.ChangeAt Go.RowKit
set_option linter.unusedVariables false
set_option maxRecDepth 100000 in
theorem sharesRefuses_lifted (os : Os) (started : os.Started) (H : Type) (enc : TypeId × Value → H) :
    ReturnsInHanded {} Try.checked os 4 .any (Rows.sharesRefusesSpec.pre6 enc Try.prog Try.f4 Rows.sharesRefusesRow.domain false) (Rows.sharesRefusesSpec.post enc Try.prog Try.f4 false true false false) := by
  refine returnsInHanded_of_change (C := Try.checked) Try.own started (by kernel_rfl) Try.func4
    (ChangeSpec.witness6 (enc := enc) (C := Try.checked) false ⟨#[], #[.agg #[.int .i64 0, .int .i64 0], .agg #[.int .i64 0, .int .i64 0, .int .i64 0], .int .u8 0], []⟩ 8 (by kernel_rfl) (by kernel_rfl) (by kernel_rfl) (by kernel_rfl)) ?_
  intro W base args ds gs before hval0 hW hcnd _
  have hval : ∀ (j : Nat) t v, Try.f4.params[j]? = some t → args[j]? = some v → Value.okWide Try.prog W .any base t v := hval0
  have hW' := hW
  obtain ⟨p, q, hA0, hV, rfl, hfz, hnd⟩ := hW
  have hA : DataW.TrodAll enc Try.prog W 0 (fun _ => true) true Try.f4.params.toList args.toList ds p := hA0
  rw [Try.params4] at hA hval
  obtain ⟨v0, vs0, d0, ds0, p0, q0, hargs, rfl, rfl, h0, r0⟩ := trodAll_cons hA
  obtain ⟨v1, vs1, d1, ds1, p1, q1, rfl, rfl, rfl, h1, r1⟩ := trodAll_cons r0
  obtain ⟨v2, vs2, d2, ds2, p2, q2, rfl, rfl, rfl, h2, r2⟩ := trodAll_cons r1
  obtain ⟨rfl, rfl, rfl⟩ := trodAll_nil r2
  obtain rfl : args = #[v0, v1, v2] := by cases args; simp_all
  obtain ⟨rfl, rfl⟩ := trodVars_none hV
  obtain ⟨x0, y0, rfl, wx0, wy0⟩ := open_arr2 (k := .i64) Try.underlying41 Try.underlying3 (by kernel_rfl) (by kernel_rfl) (hval 0 41 v0 rfl rfl) h0
  have bx0 := bounds_i64 wx0
  have by0 := bounds_i64 wy0
  obtain ⟨x1, y1, z1, rfl, wx1, wy1, wz1⟩ := open_arr3 (k := .i64) Try.underlying42 Try.underlying3 (by kernel_rfl) (by kernel_rfl) (hval 1 42 v1 rfl rfl) h1
  have bx1 := bounds_i64 wx1
  have by1 := bounds_i64 wy1
  have bz1 := bounds_i64 wz1
  obtain ⟨a2, rfl, rfl, rfl, w2⟩ := open_int Try.underlying5 (hval 2 5 v2 rfl rfl) h2
  have b2 := bounds_u8 w2
  obtain ⟨x2, rfl⟩ := Int.eq_ofNat_of_zero_le b2.1
  refine (SharesRefuses_any W x0 y0 x1 y1 z1 bx1 by1 bz1 x2 (by omega)).mono fun e W' ⟨he, hb⟩ => ?_
  subst he
  exact ⟨_, rfl, law_post Try.laidOut hW' rfl (by kernel_rfl) rfl Try.underlying4 rfl rfl rfl hb⟩
theorem SharesRefuses_holds : Rows.SharesRefusesSaid :=
  OpenClaim.holds_of_wide 4 Try.f4 rfl rfl rfl rfl rfl rfl rfl ⟨rfl, rfl, rfl, rfl, rfl⟩ rfl rfl rfl rfl rfl (by kernel_rfl) Try.func4 (by kernel_rfl)
    (of_decide_eq_true (by kernel_rfl)) (by unfold Func.isWrapper; first | (rw [if_pos (by decide +kernel)]; kernel_rfl) | (rw [if_neg (by decide +kernel)]; exact ⟨rfl, rfl⟩))
    (fun os started H enc _ => sharesRefuses_lifted os started H enc)
#print axioms SharesRefuses_holds
end Go.Proofs.Ytdakbejppnijdaa
