/- Package utf: what a byte begins. No condition. -/
import Derived.Test.YtjoehhojhfgooaaUt
namespace Go.Proofs.Ytjoehhojhfgooaa
open Go.RowKit
set_option linter.unusedSimpArgs false
set_option linter.unusedVariables false
attribute [local go_sem] IntKind.wrap_u32' signed_u32 max_u32
attribute [local go_sem ↓] Go.wp_at_zero Go.wp_at_succ
attribute [local go_sem] Calm.C
attribute [local go_sem low] Calm.al_cell Calm.al_frozen
attribute [local irreducible] Ut.within Ut.tab Ut.row Ut.fit
set_option maxRecDepth 10000 in
set_option maxHeartbeats 1600000 in
theorem uBegin_any (b : Int) (w : World) : Calls Try.prog 77 #[.agg #[.int .u32 b]] w fun e w' => e = .returned (.tuple #[.agg #[.int .u32 (Ut.bg b 9).m, .int .u32 (Ut.bg b 9).l, .int .u32 (Ut.bg b 9).h, .int .u32 (Ut.bg b 9).p, .int .u32 0], .agg #[.int .u32 (Ut.bg b 9).y]]) ∧ Below w.heap.size w w' := by
  go_enter Try.func77, Try.ntmps77
  go_wp2_with (first | (go_at_call 28; refine (Of_any _ _).mono ?_; rintro e wf ⟨rfl, hb⟩; have hcf_wf := bcell hb; (try simp only [World.size_alloc, World.size_setCell, drew_size] at hcf_wf); have hz_wf := hb.size; (try simp only [World.size_alloc, World.size_setCell, World.size_drew] at hz_wf); have hbh_wf := Lib.hid hb; clear hb; obtain ⟨hc_wf, hf_wf⟩ := hcf_wf) | (go_at_call 85; refine (uLeads_any _).mono ?_; rintro e w2 ⟨g, rfl, hg1, hg2, hgc, hb2⟩; (try simp only [World.size_alloc, World.size_setCell, World.size_drew] at hg1); have hcf2 := bcell hb2; (try simp only [World.size_alloc, World.size_setCell, World.size_drew] at hcf2); have hz2 := hb2.size; have hbh2 := Lib.hid hb2; clear hb2; obtain ⟨hc2, hf2⟩ := hcf2; have HG := Lib.hid hgc; clear hgc))
  have hlead : ∀ k j, k < 9 → j < 6 → w2.cell? ⟨g, k * 6 + j, none⟩ = some (.int .u32 (Ut.row k j)) := fun k j hk hj => by
    unfold Ut.row
    exact HG.out (k * 6 + j) (by omega)
  have HL := Lib.hid hlead
  clear hlead HG
  go_loopw [12] (fun i wr => ∃ k : Nat, k ≤ 9 ∧ i = .int .i64 k ∧ wr.cell? ⟨w.heap.size, 0, none⟩ = some (.int .u32 b) ∧ wr.cell? ⟨w.heap.size + 3, 0, none⟩ = some (.int .u32 (Ut.bg b k).m) ∧ wr.cell? ⟨w.heap.size + 3, 1, none⟩ = some (.int .u32 (Ut.bg b k).l) ∧ wr.cell? ⟨w.heap.size + 3, 2, none⟩ = some (.int .u32 (Ut.bg b k).h) ∧
      wr.cell? ⟨w.heap.size + 3, 3, none⟩ = some (.int .u32 (Ut.bg b k).p) ∧ wr.cell? ⟨w.heap.size + 3, 4, none⟩ = some (.int .u32 0) ∧ wr.cell? ⟨wf.heap.size, 0, none⟩ = some (.int .u32 (Ut.bg b k).y) ∧ (∀ j, wr.frozen? ⟨w.heap.size + 3, j, none⟩ = false) ∧ wr.frozen? ⟨wf.heap.size, 0, none⟩ = false ∧
      Blk wr (w.heap.size + 1) 96 #[.int .u32 0, .int .u32 0, .int .u32 0, .int .u32 0, .int .u32 0] ∧ Blk wr (w.heap.size + 2) 32 #[.int .u32 0] ∧ (∀ k j, k < 9 → j < 6 → wr.cell? ⟨g, k * 6 + j, none⟩ = some (.int .u32 (Ut.row k j))) ∧ g < wr.heap.size ∧ wf.heap.size < g ∧ Below w.heap.size w wr) (fun i _ => 9 - (intOf i).toNat)
  case atStart =>
    refine ⟨0, by omega, rfl, ?_, ?_, ?_, ?_, ?_, ?_, ?_, ?_, ?_, ?_, ?_, HL.out, hg2, by omega, ?_⟩
    · simp [go_sem, ↓IntWalk.iteOmega, *]
    · simp [go_sem, ↓IntWalk.iteOmega, *, Ut.bg_zero]
    · simp [go_sem, ↓IntWalk.iteOmega, *, Ut.bg_zero]
    · simp [go_sem, ↓IntWalk.iteOmega, *, Ut.bg_zero]
    · simp [go_sem, ↓IntWalk.iteOmega, *, Ut.bg_zero]
    · simp [go_sem, ↓IntWalk.iteOmega, *, Ut.bg_zero]
    · simp [go_sem, ↓IntWalk.iteOmega, *, Ut.bg_zero]
    · intro j; simp [go_sem, ↓IntWalk.iteOmega, *]
    · simp [go_sem, ↓IntWalk.iteOmega, *]
    · (repeat' (first | assumption | with_reducible refine Blk.newAt (by first | rfl | (simp; first | done | fail)) | with_reducible refine Blk.drewN ?_ _ | with_reducible refine Blk.drew ?_ | with_reducible refine Blk.far ?_ (by (first | omega | (simp; done) | (simp; omega))) _ | with_reducible refine Blk.belowH ?_ (by assumption) (by (first | omega | (simp; done) | (simp; omega))) | with_reducible refine Blk.alloc ?_ _))
    · (repeat' (first | assumption | with_reducible refine Blk.newAt (by first | rfl | (simp; first | done | fail)) | with_reducible refine Blk.drewN ?_ _ | with_reducible refine Blk.drew ?_ | with_reducible refine Blk.far ?_ (by (first | omega | (simp; done) | (simp; omega))) _ | with_reducible refine Blk.belowH ?_ (by assumption) (by (first | omega | (simp; done) | (simp; omega))) | with_reducible refine Blk.alloc ?_ _))
    · (repeat' (first | with_reducible exact Below.refl _ _ | with_reducible refine bl_drewN ?_ _ | with_reducible refine bl_drew ?_ | refine bl_set (by (first | omega | (simp; done) | (simp; omega))) ?_ _ | refine bl_alloc (by (first | omega | (simp; done) | (simp; omega))) ?_ _ | refine bl_then (by assumption) ?_ (by (first | omega | (simp; done) | (simp; omega))) | refine Step.bl (by assumption) (by assumption) (by (first | omega | (simp; done) | (simp; omega))) (by (first | omega | (simp; done) | (simp; omega))) ?_))
  case round =>
    obtain ⟨k, hk, rfl, c0, c1, c2, c3, c4, c5, c6, f1, f2, B1, B2, HT, hgl, hwg, hW⟩ := hrel
    have hWs := hW.size
    have HW := Lib.hid hW
    have HB1 := Lib.hid B1
    have HB2 := Lib.hid B2
    have HL2 := Lib.hid HT
    clear hW B1 B2 HT
    by_cases hk9 : k < 9
    · have r0 := HL2.out k 0 hk9 (by decide)
      have r1 := HL2.out k 1 hk9 (by decide)
      have r2 := HL2.out k 2 hk9 (by decide)
      have r3 := HL2.out k 3 hk9 (by decide)
      have r4 := HL2.out k 4 hk9 (by decide)
      have r5 := HL2.out k 5 hk9 (by decide)
      rw [Nat.add_zero] at r0
      clear hc_wf hf_wf hc2 hf2
      go_wp2_with fail
      (refine Calm.go 9 (by kernel_rfl) (by kernel_rfl) (by kernel_rfl) ?_; intro w0 hw0; have hr := Calm.rule hw0; simp only [Calm.heads, Calm.isAlloc]; haveI hnon : Nonempty (Ext (Below w0.heap.size w0)) := ⟨⟨w0, Below.refl _ _⟩⟩; (repeat (go_big_quiet_step (first | (go_at_call 28; exact Ext.calm below_calm (Of_any _ _)) | (go_at_call 79; exact Ext.calm below_calm (uWithin_any _ _ _ _))))); refine wpQuiet_nil ?_; clear hnon hr hw0; clear w0; (repeat refine Calm.n_skip rfl ?_); refine Calm.n_new rfl ?_; intro pA1 hpA1 hqA1; (repeat refine Calm.n_skip rfl ?_); refine Calm.n_zero ?_; intro WA hbA hsA; simp only [List.drop_succ_cons, List.drop_zero]; obtain ⟨hcA, hfA⟩ := bcell hbA; (try simp only [World.size_alloc, World.size_setCell, drew_size] at hcA hfA); have hzA := hbA.size; have hbhA := Lib.hid hbA; obtain ⟨hxA1, hyA1, hlA1⟩ := Calm.boxed hsA (p := pA1) (.head _) (by first | exact box_sec | exact box_sec3 | exact box_ust); clear hqA1; clear hsA hbA; (try simp only [World.size_alloc, World.size_setCell, World.size_drew] at hzA hpA1))
      go_wp2_with fail
      (refine Calm.go 9 (by kernel_rfl) (by kernel_rfl) (by kernel_rfl) ?_; intro w0 hw0; have hr := Calm.rule hw0; simp only [Calm.heads, Calm.isAlloc]; haveI hnon : Nonempty (Ext (Below w0.heap.size w0)) := ⟨⟨w0, Below.refl _ _⟩⟩; (repeat (go_big_quiet_step (first | (go_at_call 28; exact Ext.calm below_calm (Of_any _ _)) | (go_at_call 50; exact Ext.calm below_calm (And_any _ _ _)) | (go_at_call 61; exact Ext.calm below_calm (Or_any _ _ _))))); refine wpQuiet_nil ?_; clear hnon hr hw0; clear w0; (repeat refine Calm.n_skip rfl ?_); refine Calm.n_zero ?_; intro WB hbB hsB; simp only [List.drop_succ_cons, List.drop_zero]; obtain ⟨hcB, hfB⟩ := bcell hbB; (try simp only [World.size_alloc, World.size_setCell, drew_size] at hcB hfB); have hzB := hbB.size; have hbhB := Lib.hid hbB; clear hsB hbB; (try simp only [World.size_alloc, World.size_setCell, World.size_drew] at hzB))
      go_wp2_with fail
      (refine Calm.go 9 (by kernel_rfl) (by kernel_rfl) (by kernel_rfl) ?_; intro w0 hw0; have hr := Calm.rule hw0; simp only [Calm.heads, Calm.isAlloc]; haveI hnon : Nonempty (Ext (Below w0.heap.size w0)) := ⟨⟨w0, Below.refl _ _⟩⟩; (repeat (go_big_quiet_step (first | (go_at_call 28; exact Ext.calm below_calm (Of_any _ _)) | (go_at_call 50; exact Ext.calm below_calm (And_any _ _ _)) | (go_at_call 61; exact Ext.calm below_calm (Or_any _ _ _))))); refine wpQuiet_nil ?_; clear hnon hr hw0; clear w0; (repeat refine Calm.n_skip rfl ?_); refine Calm.n_zero ?_; intro WC hbC hsC; simp only [List.drop_succ_cons, List.drop_zero]; obtain ⟨hcC, hfC⟩ := bcell hbC; (try simp only [World.size_alloc, World.size_setCell, drew_size] at hcC hfC); have hzC := hbC.size; have hbhC := Lib.hid hbC; clear hsC hbC; (try simp only [World.size_alloc, World.size_setCell, World.size_drew] at hzC))
      go_wp2_with fail
      (refine Calm.go 9 (by kernel_rfl) (by kernel_rfl) (by kernel_rfl) ?_; intro w0 hw0; have hr := Calm.rule hw0; simp only [Calm.heads, Calm.isAlloc]; haveI hnon : Nonempty (Ext (Below w0.heap.size w0)) := ⟨⟨w0, Below.refl _ _⟩⟩; (repeat (go_big_quiet_step (first | (go_at_call 28; exact Ext.calm below_calm (Of_any _ _)) | (go_at_call 50; exact Ext.calm below_calm (And_any _ _ _)) | (go_at_call 61; exact Ext.calm below_calm (Or_any _ _ _))))); refine wpQuiet_nil ?_; clear hnon hr hw0; clear w0; (repeat refine Calm.n_skip rfl ?_); refine Calm.n_zero ?_; intro WD hbD hsD; simp only [List.drop_succ_cons, List.drop_zero]; obtain ⟨hcD, hfD⟩ := bcell hbD; (try simp only [World.size_alloc, World.size_setCell, drew_size] at hcD hfD); have hzD := hbD.size; have hbhD := Lib.hid hbD; clear hsD hbD; (try simp only [World.size_alloc, World.size_setCell, World.size_drew] at hzD))
      go_wp2_with fail
      (refine Calm.go 11 (by kernel_rfl) (by kernel_rfl) (by kernel_rfl) ?_; intro w0 hw0; have hr := Calm.rule hw0; simp only [Calm.heads, Calm.isAlloc]; haveI hnon : Nonempty (Ext (Below w0.heap.size w0)) := ⟨⟨w0, Below.refl _ _⟩⟩; (repeat (go_big_quiet_step (first | (go_at_call 28; exact Ext.calm below_calm (Of_any _ _)) | (go_at_call 50; exact Ext.calm below_calm (And_any _ _ _)) | (go_at_call 61; exact Ext.calm below_calm (Or_any _ _ _))))); refine wpQuiet_nil ?_; clear hnon hr hw0; clear w0; (repeat refine Calm.n_skip rfl ?_); refine Calm.n_zero ?_; intro WE hbE hsE; simp only [List.drop_succ_cons, List.drop_zero]; obtain ⟨hcE, hfE⟩ := bcell hbE; (try simp only [World.size_alloc, World.size_setCell, drew_size] at hcE hfE); have hzE := hbE.size; have hbhE := Lib.hid hbE; clear hsE hbE; (try simp only [World.size_alloc, World.size_setCell, World.size_drew] at hzE))
      go_wp2_with (first | (go_at_call 61; refine (Or_any _ _ _).mono ?_; rintro e w1 ⟨rfl, hb⟩; have hcf := bcell hb; (try simp only [World.size_alloc, World.size_setCell, drew_size] at hcf); have hz := hb.size; (try simp only [World.size_alloc, World.size_setCell, World.size_drew] at hz); have hbh := Lib.hid hb; clear hb; obtain ⟨hc, hf⟩ := hcf))
      refine ⟨⟨k + 1, by omega, by go_num, ?_, ?_, ?_, ?_, ?_, ?_, ?_, ?_, ?_, ?_, ?_, fun k' j hk' hj => ?_, ?_, hwg, ?_⟩, by simp [intOf]; omega⟩
      · simp [go_sem, ↓IntWalk.iteOmega, *]
      · rw [Ut.bg_succ, Ut.fit_eq]; dsimp only; simp [go_sem, ↓IntWalk.iteOmega, *]
      · rw [Ut.bg_succ, Ut.fit_eq]; dsimp only; simp [go_sem, ↓IntWalk.iteOmega, *]
      · rw [Ut.bg_succ, Ut.fit_eq]; dsimp only; simp [go_sem, ↓IntWalk.iteOmega, *]
      · rw [Ut.bg_succ, Ut.fit_eq]; dsimp only; simp [go_sem, ↓IntWalk.iteOmega, *]
      · simp [go_sem, ↓IntWalk.iteOmega, *]
      · rw [Ut.bg_succ, Ut.fit_eq]; dsimp only; simp [go_sem, ↓IntWalk.iteOmega, *]
      · intro j; simp [go_sem, ↓IntWalk.iteOmega, *]
      · simp [go_sem, ↓IntWalk.iteOmega, *]
      · have HB1' := HB1.out
        (repeat' (first | assumption | with_reducible refine Blk.newAt (by first | rfl | (simp; first | done | fail)) | with_reducible refine Blk.drewN ?_ _ | with_reducible refine Blk.drew ?_ | with_reducible refine Blk.far ?_ (by (first | omega | (simp; done) | (simp; omega))) _ | with_reducible refine Blk.belowH ?_ (by assumption) (by (first | omega | (simp; done) | (simp; omega))) | with_reducible refine Blk.alloc ?_ _))
      · have HB2' := HB2.out
        (repeat' (first | assumption | with_reducible refine Blk.newAt (by first | rfl | (simp; first | done | fail)) | with_reducible refine Blk.drewN ?_ _ | with_reducible refine Blk.drew ?_ | with_reducible refine Blk.far ?_ (by (first | omega | (simp; done) | (simp; omega))) _ | with_reducible refine Blk.belowH ?_ (by assumption) (by (first | omega | (simp; done) | (simp; omega))) | with_reducible refine Blk.alloc ?_ _))
      · have hh := HL2.out k' j hk' hj
        simp [go_sem, ↓IntWalk.iteOmega, *]
      · simp; omega
      · have HW' := HW.out
        (repeat' (first | with_reducible exact Below.refl _ _ | with_reducible refine bl_drewN ?_ _ | with_reducible refine bl_drew ?_ | refine bl_set (by (first | omega | (simp; done) | (simp; omega))) ?_ _ | refine bl_alloc (by (first | omega | (simp; done) | (simp; omega))) ?_ _ | refine bl_then (by assumption) ?_ (by (first | omega | (simp; done) | (simp; omega))) | refine Step.bl (by assumption) (by assumption) (by (first | omega | (simp; done) | (simp; omega))) (by (first | omega | (simp; done) | (simp; omega))) ?_))
    · have hge : 9 ≤ k := by omega
      have hk9' : k = 9 := by omega
      subst hk9'
      clear hc_wf hf_wf hc2 hf2 HL2 HL
      have b0 := HB1.out.cell 0
      have b1 := HB1.out.cell 1
      have b2 := HB1.out.cell 2
      have b3 := HB1.out.cell 3
      have b4 := HB1.out.cell 4
      have b5 := HB2.out.cell 0
      simp only [List.getElem?_toArray, List.getElem?_cons_zero, List.getElem?_cons_succ] at b0 b1 b2 b3 b4 b5
      have g1 := HB1.out.frozen
      have g2 := HB2.out.frozen 0
      go_wp2_with fail
      go_region_held3 (fun w' => w'.cell? ⟨w.heap.size + 3, 0, none⟩ = some (.int .u32 (Ut.bg b 9).m) ∧ w'.cell? ⟨w.heap.size + 3, 1, none⟩ = some (.int .u32 (Ut.bg b 9).l) ∧ w'.cell? ⟨w.heap.size + 3, 2, none⟩ = some (.int .u32 (Ut.bg b 9).h) ∧ w'.cell? ⟨w.heap.size + 3, 3, none⟩ = some (.int .u32 (Ut.bg b 9).p) ∧ w'.cell? ⟨w.heap.size + 3, 4, none⟩ = some (.int .u32 0) ∧ w'.cell? ⟨wf.heap.size, 0, none⟩ = some (.int .u32 (Ut.bg b 9).y)) ((simp [go_sem, ↓IntWalk.iteOmega, *]; done)) (fail)
      all_goals go_wp2_with fail
      refine ret_ust (x := (Ut.bg b 9).m) (y := (Ut.bg b 9).l) (z := (Ut.bg b 9).h) (v := (Ut.bg b 9).p) (q := 0) (m := (Ut.bg b 9).y) rfl rfl rfl ?_ ?_ ?_ ?_ ?_ ?_ rfl ⟨rfl, ?_⟩
      · simp [go_sem, ↓IntWalk.iteOmega, *]
      · simp [go_sem, ↓IntWalk.iteOmega, *]
      · simp [go_sem, ↓IntWalk.iteOmega, *]
      · simp [go_sem, ↓IntWalk.iteOmega, *]
      · simp [go_sem, ↓IntWalk.iteOmega, *]
      · simp [go_sem, ↓IntWalk.iteOmega, *]
      · have HW' := HW.out
        (repeat' (first | with_reducible exact Below.refl _ _ | with_reducible refine bl_drewN ?_ _ | with_reducible refine bl_drew ?_ | refine bl_set (by (first | omega | (simp; done) | (simp; omega))) ?_ _ | refine bl_alloc (by (first | omega | (simp; done) | (simp; omega))) ?_ _ | refine bl_then (by assumption) ?_ (by (first | omega | (simp; done) | (simp; omega))) | refine Step.bl (by assumption) (by assumption) (by (first | omega | (simp; done) | (simp; omega))) (by (first | omega | (simp; done) | (simp; omega))) ?_))
end Go.Proofs.Ytjoehhojhfgooaa
