/- unutf: shape. No condition. -/
import Derived.Test.YtjoehhojhfgooaaUnA
import Derived.Test.YtjoehhojhfgooaaCalm
namespace Go.Proofs.Ytjoehhojhfgooaa
open Go.RowKit
set_option linter.unusedSimpArgs false
set_option linter.unusedVariables false
attribute [local go_sem] IntKind.wrap_u32' signed_u32 max_u32
attribute [local go_sem ↓] Go.wp_at_zero Go.wp_at_succ
attribute [local go_sem] Calm.C
attribute [local go_sem low] Calm.al_cell Calm.al_frozen
theorem ret_four {fn : Func} {R : Ending → World → Prop} {a : Act} {w : World} {t : Tmp} {b : Nat} {x y z v : Int} (hr : fn.results = #[.cell t 103])
    (ht : a.tmps.getD t undef = .pointer (some ⟨b, 0, none⟩)) (h0 : w.cell? ⟨b, 0, none⟩ = some (.int .u32 x)) (h1 : w.cell? ⟨b, 1, none⟩ = some (.int .u32 y)) (h2 : w.cell? ⟨b, 2, none⟩ = some (.int .u32 z))
    (h3 : w.cell? ⟨b, 3, none⟩ = some (.int .u32 v)) (hd : a.defers = [])
    (hR : R (.returned (.agg #[.int .u32 x, .int .u32 y, .int .u32 z, .int .u32 v])) w) : bodyPost Try.prog fn R .ret a w := by
  refine bodyPost_ret (v := .agg #[.int .u32 x, .int .u32 y, .int .u32 z, .int .u32 v]) ?_ hd hR
  have ht' : a.tmps[t]?.getD undef = .pointer (some ⟨b, 0, none⟩) := by simpa using ht
  simp [results, hr, ht', go_sem, h0, h1, h2, h3]
set_option maxRecDepth 10000 in
set_option maxHeartbeats 1600000 in
theorem unShape_any (x : Int) (w : World) : Calls Try.prog 70 #[.agg #[.int .u32 x]] w fun e w' =>
    e = .returned (.agg #[.int .u32 (Ct.Mask true), .int .u32 (Ct.Not (Ct.Lt x 128)), .int .u32 (Ct.Not (Ct.Lt x 2048)), .int .u32 (Ct.Not (Ct.Lt x 65536))]) ∧ Below w.heap.size w w' := by
  go_enter Try.func70, Try.ntmps70
  go_wp2_with fail
  (refine Calm.go 14 (by kernel_rfl) (by kernel_rfl) (by kernel_rfl) ?_; intro w0 hw0; have hr := Calm.rule hw0; simp only [Calm.heads, Calm.isAlloc]; haveI hnon : Nonempty (Ext (Below w0.heap.size w0)) := ⟨⟨w0, Below.refl _ _⟩⟩; (repeat (go_big_quiet_step (first | (go_at_call 84; exact Ext.calm below_calm (Mask_any _ _)) | (go_at_call 28; exact Ext.calm below_calm (Of_any _ _)) | (go_at_call 48; exact Ext.calm below_calm (Lt_any _ _ _)) | (go_at_call 51; exact Ext.calm below_calm (Not_any _ _))))); refine wpQuiet_nil ?_; clear hnon hr hw0; clear w0; (repeat refine Calm.n_skip rfl ?_); refine Calm.n_zero ?_; intro WA hbA hsA; simp only [List.drop_succ_cons, List.drop_zero]; obtain ⟨hcA, hfA⟩ := bcell hbA; (try simp only [World.size_alloc, World.size_setCell, drew_size] at hcA hfA); have hzA := hbA.size; have hbhA := Lib.hid hbA; clear hsA hbA; (try simp only [World.size_alloc, World.size_setCell, World.size_drew] at hzA))
  go_wp2_with fail
  refine ret_four rfl rfl ?_ ?_ ?_ ?_ rfl ⟨rfl, ?_⟩
  · simp (maxDischargeDepth := 14) [go_sem, ↓IntWalk.iteOmega, *]
  · simp (maxDischargeDepth := 14) [go_sem, ↓IntWalk.iteOmega, *]
  · simp (maxDischargeDepth := 14) [go_sem, ↓IntWalk.iteOmega, *]
  · simp (maxDischargeDepth := 14) [go_sem, ↓IntWalk.iteOmega, *]
  · (repeat' (first | with_reducible exact Below.refl _ _ | with_reducible refine bl_drewN ?_ _ | with_reducible refine bl_drew ?_ | refine bl_set (by (first | omega | (simp; done) | (simp; omega))) ?_ _ | refine bl_alloc (by (first | omega | (simp; done) | (simp; omega))) ?_ _ | refine bl_then (by assumption) ?_ (by (first | omega | (simp; done) | (simp; omega))) | refine Step.bl (by assumption) (by assumption) (by (first | omega | (simp; done) | (simp; omega))) (by (first | omega | (simp; done) | (simp; omega))) ?_))
end Go.Proofs.Ytjoehhojhfgooaa
