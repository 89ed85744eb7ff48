/- Package utf: a byte read. No condition. -/
import Derived.Test.YtjoehhojhfgooaaUtB
namespace Go.Proofs.Ytjoehhojhfgooaa
open Go.RowKit
set_option linter.unusedSimpArgs false
set_option linter.unusedVariables false
attribute [local go_sem] IntKind.wrap_u32' signed_u32 max_u32
attribute [local go_sem ↓] Go.wp_at_zero Go.wp_at_succ
attribute [local go_sem] Calm.C
attribute [local go_sem low] Calm.al_cell Calm.al_frozen
attribute [local irreducible] Ut.within Ut.bg
set_option maxRecDepth 10000 in
set_option maxHeartbeats 1600000 in
theorem uStep_any (s : Ut.S) (x live : Int) (w : World) : Calls Try.prog 60 #[.agg #[.int .u32 s.m, .int .u32 s.l, .int .u32 s.h, .int .u32 s.p, .int .u32 s.b], .agg #[.int .u32 x], .agg #[.int .u32 live]] w fun e w' =>
    e = .returned (.tuple #[.agg #[.int .u32 (Ut.nm s x live), .int .u32 (Ut.nl s x live), .int .u32 (Ut.nh s x live), .int .u32 (Ut.np s x live), .int .u32 (Ut.nb s x live)], .agg #[.int .u32 (Ut.whole s x live)]]) ∧ Below w.heap.size w w' := by
  unfold Ut.whole Ut.nm Ut.nl Ut.nh Ut.np Ut.nb Ut.fits Ut.ins
  go_enter Try.func60, Try.ntmps60
  go_wp2_with (first | (go_at_call 62; refine (Zero_any _ _).mono ?_; rintro e wz ⟨rfl, hb⟩; have hcf_wz := bcell hb; (try simp only [World.size_alloc, World.size_setCell, drew_size] at hcf_wz); have hz_wz := hb.size; (try simp only [World.size_alloc, World.size_setCell, World.size_drew] at hz_wz); have hbh_wz := Lib.hid hb; clear hb; obtain ⟨hc_wz, hf_wz⟩ := hcf_wz) | (go_at_call 51; refine (Not_any _ _).mono ?_; rintro e wn ⟨rfl, hb⟩; have hcf_wn := bcell hb; (try simp only [World.size_alloc, World.size_setCell, drew_size] at hcf_wn); have hz_wn := hb.size; (try simp only [World.size_alloc, World.size_setCell, World.size_drew] at hz_wn); have hbh_wn := Lib.hid hb; clear hb; obtain ⟨hc_wn, hf_wn⟩ := hcf_wn) | (go_at_call 77; refine (uBegin_any _ _).mono ?_; rintro e wb ⟨rfl, hb⟩; have hcf_wb := bcell hb; (try simp only [World.size_alloc, World.size_setCell, drew_size] at hcf_wb); have hz_wb := hb.size; (try simp only [World.size_alloc, World.size_setCell, World.size_drew] at hz_wb); have hbh_wb := Lib.hid hb; clear hb; obtain ⟨hc_wb, hf_wb⟩ := hcf_wb))
  (refine Calm.go 10 (by kernel_rfl) (by kernel_rfl) (by kernel_rfl) ?_; intro w0 hw0; have hr := Calm.rule hw0; simp only [Calm.heads, Calm.isAlloc]; haveI hnon : Nonempty (Ext (Below w0.heap.size w0)) := ⟨⟨w0, Below.refl _ _⟩⟩; (repeat (go_big_quiet_step (first | (go_at_call 79; exact Ext.calm below_calm (uWithin_any _ _ _ _)) | (go_at_call 78; exact Ext.calm below_calm (Sel_any _ _ _ _))))); refine wpQuiet_nil ?_; clear hnon hr hw0; clear w0; (repeat refine Calm.n_skip rfl ?_); refine Calm.n_new rfl ?_; intro pA1 hpA1 hqA1; (repeat refine Calm.n_skip rfl ?_); refine Calm.n_zero ?_; intro WA hbA hsA; simp only [List.drop_succ_cons, List.drop_zero]; obtain ⟨hcA, hfA⟩ := bcell hbA; (try simp only [World.size_alloc, World.size_setCell, drew_size] at hcA hfA); have hzA := hbA.size; have hbhA := Lib.hid hbA; obtain ⟨hxA1, hyA1, hlA1⟩ := Calm.boxed hsA (p := pA1) (.head _) (by first | exact box_sec | exact box_sec3 | exact box_ust); clear hqA1; clear hsA hbA; (try simp only [World.size_alloc, World.size_setCell, World.size_drew] at hzA hpA1))
  go_wp2_with fail
  (refine Calm.go 31 (by kernel_rfl) (by kernel_rfl) (by kernel_rfl) ?_; intro w0 hw0; have hr := Calm.rule hw0; simp only [Calm.heads, Calm.isAlloc]; haveI hnon : Nonempty (Ext (Below w0.heap.size w0)) := ⟨⟨w0, Below.refl _ _⟩⟩; (repeat (go_big_quiet_step (first | (go_at_call 28; exact Ext.calm below_calm (Of_any _ _)) | (go_at_call 69; exact Ext.calm below_calm (Sub_any _ _ _)) | (go_at_call 78; exact Ext.calm below_calm (Sel_any _ _ _ _)) | (go_at_call 80; exact Ext.calm below_calm (Shl_any _ _ _)) | (go_at_call 50; exact Ext.calm below_calm (And_any _ _ _)) | (go_at_call 61; exact Ext.calm below_calm (Or_any _ _ _))))); refine wpQuiet_nil ?_; clear hnon hr hw0; clear w0; (repeat refine Calm.n_skip rfl ?_); refine Calm.n_new rfl ?_; intro pB1 hpB1 hqB1; (repeat refine Calm.n_skip rfl ?_); refine Calm.n_zero ?_; intro WB hbB hsB; simp only [List.drop_succ_cons, List.drop_zero]; obtain ⟨hcB, hfB⟩ := bcell hbB; (try simp only [World.size_alloc, World.size_setCell, drew_size] at hcB hfB); have hzB := hbB.size; have hbhB := Lib.hid hbB; obtain ⟨hxB1, hyB1, hlB1⟩ := Calm.boxed hsB (p := pB1) (.head _) (by first | exact box_sec | exact box_sec3 | exact box_ust); clear hqB1; clear hsB hbB; (try simp only [World.size_alloc, World.size_setCell, World.size_drew] at hzB hpB1))
  go_wp2_with fail
  (refine Calm.go 8 (by kernel_rfl) (by kernel_rfl) (by kernel_rfl) ?_; intro w0 hw0; have hr := Calm.rule hw0; simp only [Calm.heads, Calm.isAlloc]; haveI hnon : Nonempty (Ext (Below w0.heap.size w0)) := ⟨⟨w0, Below.refl _ _⟩⟩; (repeat (go_big_quiet_step (first | (go_at_call 51; exact Ext.calm below_calm (Not_any _ _)) | (go_at_call 50; exact Ext.calm below_calm (And_any _ _ _)) | (go_at_call 61; exact Ext.calm below_calm (Or_any _ _ _))))); refine wpQuiet_nil ?_; clear hnon hr hw0; clear w0; (repeat refine Calm.n_skip rfl ?_); refine Calm.n_zero ?_; intro WC hbC hsC; simp only [List.drop_succ_cons, List.drop_zero]; obtain ⟨hcC, hfC⟩ := bcell hbC; (try simp only [World.size_alloc, World.size_setCell, drew_size] at hcC hfC); have hzC := hbC.size; have hbhC := Lib.hid hbC; clear hsC hbC; (try simp only [World.size_alloc, World.size_setCell, World.size_drew] at hzC))
  go_wp2_with fail
  obtain ⟨X, hX⟩ : ∃ X, WC.setCell ⟨pB1, 4, none⟩ (.int .u32 (Ct.Or s.b (Ct.And live (Ct.Not (Ct.Sel (Ct.Not (Ct.Zero s.m)) (Ut.within x s.l s.h) (Ut.bg x 9).y))))) = X := ⟨_, rfl⟩
  rw [hX]
  have e0 : X.cell? ⟨pB1, 0, none⟩ = some (.int .u32 (Ct.Sel (Ct.Not (Ct.Zero s.m)) (Ct.Sub s.m 1) (Ut.bg x 9).m)) := by
    rw [← hX]
    clear hX
    simp (maxDischargeDepth := 14) [go_sem, ↓IntWalk.iteOmega, *]
  have e1 : X.cell? ⟨pB1, 1, none⟩ = some (.int .u32 (Ct.Sel (Ct.Not (Ct.Zero s.m)) 128 (Ut.bg x 9).l)) := by
    rw [← hX]
    clear hX
    simp (maxDischargeDepth := 14) [go_sem, ↓IntWalk.iteOmega, *]
  have e2 : X.cell? ⟨pB1, 2, none⟩ = some (.int .u32 (Ct.Sel (Ct.Not (Ct.Zero s.m)) 191 (Ut.bg x 9).h)) := by
    rw [← hX]
    clear hX
    simp (maxDischargeDepth := 14) [go_sem, ↓IntWalk.iteOmega, *]
  have e3 : X.cell? ⟨pB1, 3, none⟩ = some (.int .u32 (Ct.Sel (Ct.Not (Ct.Zero s.m)) (Ct.Or (Ct.Shl s.p 6) (Ct.And x 63)) (Ut.bg x 9).p)) := by
    rw [← hX]
    clear hX
    simp (maxDischargeDepth := 14) [go_sem, ↓IntWalk.iteOmega, *]
  have e4 : X.cell? ⟨pB1, 4, none⟩ = some (.int .u32 (Ct.Or s.b (Ct.And live (Ct.Not (Ct.Sel (Ct.Not (Ct.Zero s.m)) (Ut.within x s.l s.h) (Ut.bg x 9).y))))) := by
    rw [← hX]
    clear hX
    simp (maxDischargeDepth := 14) [go_sem, ↓IntWalk.iteOmega, *]
  have q0 : X.cell? ⟨w.heap.size, 0, none⟩ = some (.int .u32 s.m) := by
    rw [← hX]
    clear hX
    simp (maxDischargeDepth := 14) [go_sem, ↓IntWalk.iteOmega, *]
  have q1 : X.cell? ⟨w.heap.size, 1, none⟩ = some (.int .u32 s.l) := by
    rw [← hX]
    clear hX
    simp (maxDischargeDepth := 14) [go_sem, ↓IntWalk.iteOmega, *]
  have q2 : X.cell? ⟨w.heap.size, 2, none⟩ = some (.int .u32 s.h) := by
    rw [← hX]
    clear hX
    simp (maxDischargeDepth := 14) [go_sem, ↓IntWalk.iteOmega, *]
  have q3 : X.cell? ⟨w.heap.size, 3, none⟩ = some (.int .u32 s.p) := by
    rw [← hX]
    clear hX
    simp (maxDischargeDepth := 14) [go_sem, ↓IntWalk.iteOmega, *]
  have q4 : X.cell? ⟨w.heap.size, 4, none⟩ = some (.int .u32 s.b) := by
    rw [← hX]
    clear hX
    simp (maxDischargeDepth := 14) [go_sem, ↓IntWalk.iteOmega, *]
  have q5 : X.cell? ⟨w.heap.size + 1 + 1, 0, none⟩ = some (.int .u32 live) := by
    rw [← hX]
    clear hX
    simp (maxDischargeDepth := 14) [go_sem, ↓IntWalk.iteOmega, *]
  have z0 : X.cell? ⟨w.heap.size + 1 + 1 + 1, 0, none⟩ = some (.int .u32 0) := by
    rw [← hX]
    clear hX
    simp (maxDischargeDepth := 14) [go_sem, ↓IntWalk.iteOmega, *]
  have z1 : X.cell? ⟨w.heap.size + 1 + 1 + 1, 1, none⟩ = some (.int .u32 0) := by
    rw [← hX]
    clear hX
    simp (maxDischargeDepth := 14) [go_sem, ↓IntWalk.iteOmega, *]
  have z2 : X.cell? ⟨w.heap.size + 1 + 1 + 1, 2, none⟩ = some (.int .u32 0) := by
    rw [← hX]
    clear hX
    simp (maxDischargeDepth := 14) [go_sem, ↓IntWalk.iteOmega, *]
  have z3 : X.cell? ⟨w.heap.size + 1 + 1 + 1, 3, none⟩ = some (.int .u32 0) := by
    rw [← hX]
    clear hX
    simp (maxDischargeDepth := 14) [go_sem, ↓IntWalk.iteOmega, *]
  have z4 : X.cell? ⟨w.heap.size + 1 + 1 + 1, 4, none⟩ = some (.int .u32 0) := by
    rw [← hX]
    clear hX
    simp (maxDischargeDepth := 14) [go_sem, ↓IntWalk.iteOmega, *]
  have z5 : X.cell? ⟨w.heap.size + 1 + 1 + 1 + 1, 0, none⟩ = some (.int .u32 0) := by
    rw [← hX]
    clear hX
    simp (maxDischargeDepth := 14) [go_sem, ↓IntWalk.iteOmega, *]
  have f1 : ∀ j, X.frozen? ⟨pB1, j, none⟩ = false := by
    intro j
    rw [← hX]
    clear hX
    simp (maxDischargeDepth := 14) [go_sem, ↓IntWalk.iteOmega, *]
  have f2 : ∀ j, X.frozen? ⟨w.heap.size + 1 + 1 + 1, j, none⟩ = false := by
    intro j
    rw [← hX]
    clear hX
    simp (maxDischargeDepth := 14) [go_sem, ↓IntWalk.iteOmega, *]
    try (intro h; exfalso; omega)
  have f3 : ∀ j, X.frozen? ⟨w.heap.size + 1 + 1 + 1 + 1, j, none⟩ = false := by
    intro j
    rw [← hX]
    clear hX
    simp (maxDischargeDepth := 14) [go_sem, ↓IntWalk.iteOmega, *]
    try (intro h; exfalso; omega)
  have hzX : pB1 < X.heap.size ∧ w.heap.size + 5 ≤ pB1 := by
    rw [← hX]
    clear hX
    simp
    omega
  have hBX : Below w.heap.size w X := by
    rw [← hX]
    clear hX
    (repeat' (first | with_reducible exact Below.refl _ _ | with_reducible refine bl_drewN ?_ _ | with_reducible refine bl_drew ?_ | refine bl_set (by (first | omega | (simp; done) | (simp; omega))) ?_ _ | refine bl_alloc (by (first | omega | (simp; done) | (simp; omega))) ?_ _ | refine bl_then (by assumption) ?_ (by (first | omega | (simp; done) | (simp; omega))) | refine Step.bl (by assumption) (by assumption) (by (first | omega | (simp; done) | (simp; omega))) (by (first | omega | (simp; done) | (simp; omega))) ?_))
  clear hX
  have HBX := Lib.hid hBX
  clear hBX
  clear hc_wz hf_wz hc_wn hf_wn hc_wb hf_wb hcA hfA hcB hfB hcC hfC
  go_wp2_with (first | (go_at_call 78; refine (Sel_any _ _ _ _).mono ?_; rintro e wd ⟨rfl, hb⟩; have hcf_wd := bcell hb; (try simp only [World.size_alloc, World.size_setCell, drew_size] at hcf_wd); have hz_wd := hb.size; (try simp only [World.size_alloc, World.size_setCell, World.size_drew] at hz_wd); have hbh_wd := Lib.hid hb; clear hb; obtain ⟨hc_wd, hf_wd⟩ := hcf_wd))
  (refine Calm.go 6 (by kernel_rfl) (by kernel_rfl) (by kernel_rfl) ?_; intro w0 hw0; have hr := Calm.rule hw0; simp only [Calm.heads, Calm.isAlloc]; haveI hnon : Nonempty (Ext (Below w0.heap.size w0)) := ⟨⟨w0, Below.refl _ _⟩⟩; (repeat (go_big_quiet_step (first | (go_at_call 62; exact Ext.calm below_calm (Zero_any _ _)) | (go_at_call 50; exact Ext.calm below_calm (And_any _ _ _))))); refine wpQuiet_nil ?_; clear hnon hr hw0; clear w0; (repeat refine Calm.n_skip rfl ?_); refine Calm.n_zero ?_; intro WZ hbZ hsZ; simp only [List.drop_succ_cons, List.drop_zero]; obtain ⟨hcZ, hfZ⟩ := bcell hbZ; (try simp only [World.size_alloc, World.size_setCell, drew_size] at hcZ hfZ); have hzZ := hbZ.size; have hbhZ := Lib.hid hbZ; clear hsZ hbZ; (try simp only [World.size_alloc, World.size_setCell, World.size_drew] at hzZ))
  go_wp2_with fail
  refine ret_ust rfl rfl rfl ?_ ?_ ?_ ?_ ?_ ?_ rfl ⟨rfl, ?_⟩
  · simp (maxDischargeDepth := 14) [go_sem, ↓IntWalk.iteOmega, *]
  · simp (maxDischargeDepth := 14) [go_sem, ↓IntWalk.iteOmega, *]
  · simp (maxDischargeDepth := 14) [go_sem, ↓IntWalk.iteOmega, *]
  · simp (maxDischargeDepth := 14) [go_sem, ↓IntWalk.iteOmega, *]
  · simp (maxDischargeDepth := 14) [go_sem, ↓IntWalk.iteOmega, *]
  · simp (maxDischargeDepth := 14) [go_sem, ↓IntWalk.iteOmega, *]
  · have HBX' := HBX.out
    (repeat' (first | with_reducible exact Below.refl _ _ | with_reducible refine bl_drewN ?_ _ | with_reducible refine bl_drew ?_ | refine bl_set (by (first | omega | (simp; done) | (simp; omega))) ?_ _ | refine bl_alloc (by (first | omega | (simp; done) | (simp; omega))) ?_ _ | refine bl_then (by assumption) ?_ (by (first | omega | (simp; done) | (simp; omega))) | refine Step.bl (by assumption) (by assumption) (by (first | omega | (simp; done) | (simp; omega))) (by (first | omega | (simp; done) | (simp; omega))) ?_))
end Go.Proofs.Ytjoehhojhfgooaa
