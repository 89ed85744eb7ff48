/- What a table says of a word: runs and weights. No condition. -/
import Derived.Test.YtcaaapfminenoaaSkI
namespace Go.Proofs.Ytcaaapfminenoaa
open Go.RowKit
set_option linter.unusedSimpArgs false
set_option linter.unusedVariables false
attribute [local go_sem] IntKind.wrap_u32' signed_u32 max_u32
attribute [local go_sem ↓] Go.wp_at_zero Go.wp_at_succ
attribute [local go_sem] Calm.C
attribute [local go_sem low] Calm.al_cell Calm.al_frozen
attribute [local irreducible] Sk.inn Sk.ins Sk.mo Sk.kc Sk.rmv Sk.rin Sk.rcl
set_option maxRecDepth 20000 in
set_option maxHeartbeats 1600000 in
theorem kClass_any (w : World) (A : Option Addr) (n c : Nat) (f : Nat → Nat → Int) (h : Tab w A n 3 f) (hn : n ≤ 1000) (x : Int) :
    Calls Try.prog 72 #[.slice A n c, .agg #[.int .u32 x]] w fun e w' => e = .returned (.agg #[.int .u32 (Sk.kc f x n)]) ∧ Below w.heap.size w w' := by
  obtain ⟨B, off, hA⟩ := h.at
  have HA := Lib.hid hA
  clear hA h
  go_enter Try.func72, Try.ntmps72
  go_wp2_with (first | (go_at_call 16; refine (Of_any _ _).mono ?_; rintro e wf ⟨rfl, hb⟩; have hcf_wf := bcell hb; (try simp only [World.size_alloc, World.size_setCell, World.size_drew] at hcf_wf); have hz_wf := hb.size; (try simp only [World.size_alloc, World.size_setCell, World.size_drew] at hz_wf); have hbh_wf := Lib.hid hb; clear hb; obtain ⟨hc_wf, hf_wf⟩ := hcf_wf))
  go_loopw [11] (fun i wr => ∃ k : Nat, k ≤ n ∧ i = .int .i64 k ∧ wr.cell? ⟨w.heap.size, 0, none⟩ = some (.int .u32 x) ∧ wr.cell? ⟨w.heap.size + 1, 0, none⟩ = some (.int .u32 0) ∧
      wr.cell? ⟨wf.heap.size, 0, none⟩ = some (.int .u32 (Sk.kc f x k)) ∧ wr.frozen? ⟨wf.heap.size, 0, none⟩ = false ∧ wr.frozen? ⟨w.heap.size + 1, 0, none⟩ = false ∧ wf.heap.size < wr.heap.size ∧ Below w.heap.size w wr) (fun i _ => n - (intOf i).toNat)
  case atStart =>
    obtain ⟨hc3, hf3⟩ := Calm.al_rule wf (.cells #[.int .u32 0] 26)
    refine ⟨0, by omega, rfl, ?_, ?_, ?_, ?_, ?_, ?_, ?_⟩
    all_goals first | (simp [go_sem]; done) | (rw [Sk.kc_zero]; simp [go_sem]; done) | (simp [go_sem, ↓IntWalk.iteOmega, *]; done) | (repeat' (first | exact Below.refl _ _ | refine bl_set (by (first | omega | (simp; done) | (simp; omega))) ?_ _ | refine bl_alloc (by (first | omega | (simp; done) | (simp; omega))) ?_ _ | refine bl_drewN ?_ _ | refine bl_drew ?_ | refine bl_then (by assumption) ?_ (by (first | omega | (simp; done) | (simp; omega))) | refine Step.bl (by assumption) (by assumption) (by (first | omega | (simp; done) | (simp; omega))) (by (first | omega | (simp; done) | (simp; omega))) ?_))
  case round =>
    obtain ⟨k, hk, rfl, hc1, hc2, hc3, hf1, hf2, hlt, hW⟩ := hrel
    have hWs := hW.size
    by_cases hkm : k < n
    · obtain ⟨rfl, hB, hcell⟩ := HA.out (by omega)
      have g0 : wr.cell? ⟨B, off + k * 3, none⟩ = some (.int .u32 (f k 0)) := (hW.cell (p := ⟨B, off + k * 3, none⟩) hB).trans (hcell k 0 hkm (by decide))
      have g1 : wr.cell? ⟨B, off + k * 3 + 1, none⟩ = some (.int .u32 (f k 1)) := (hW.cell (p := ⟨B, off + k * 3 + 1, none⟩) hB).trans (hcell k 1 hkm (by decide))
      have g2 : wr.cell? ⟨B, off + k * 3 + 2, none⟩ = some (.int .u32 (f k 2)) := (hW.cell (p := ⟨B, off + k * 3 + 2, none⟩) hB).trans (hcell k 2 hkm (by decide))
      have hd1 := Lib.hid (Sk.kc_succ f x k)
      have HW := Lib.hid hW
      clear hW hcell
      go_wp2_with fail
      (refine Calm.go 10 (by kernel_rfl) (by kernel_rfl) (by kernel_rfl) ?_; intro w0 hw0; have hr := Calm.rule hw0; simp only [Calm.heads, Calm.isAlloc]; haveI hnon : Nonempty (Ext (Below w0.heap.size w0)) := ⟨⟨w0, Below.refl _ _⟩⟩; (repeat (go_big_quiet_step (first | (go_at_call 86; exact Ext.calm below_calm (kIn1_any _ _ _ _)) | (go_at_call 16; exact Ext.calm below_calm (Of_any _ _)) | (go_at_call 20; exact Ext.calm below_calm (And_any _ _ _)) | (go_at_call 22; exact Ext.calm below_calm (Or_any _ _ _))))); refine wpQuiet_nil ?_; clear hnon hr hw0; clear w0; (repeat refine Calm.n_skip rfl ?_); refine Calm.n_zero ?_; intro WA hbA hsA; simp only [List.drop_succ_cons, List.drop_zero]; obtain ⟨hcA, hfA⟩ := bcell hbA; (try simp only [World.size_alloc, World.size_setCell, World.size_drew] at hcA hfA); have hzA := hbA.size; have hbhA := Lib.hid hbA; clear hsA hbA; (try simp only [World.size_alloc, World.size_setCell, World.size_drew] at hzA))
      go_wp2_with fail
      go_roundw
      case rel =>
        refine ⟨k + 1, by omega, by go_num, ?_, ?_, ?_, ?_, ?_, ?_, ?_⟩
        all_goals first | (rw [hd1.out]; simp [go_sem, ↓IntWalk.iteOmega, *]; done) | (simp [go_sem, ↓IntWalk.iteOmega, *]; done) | (simp; omega) | (repeat' (first | exact Below.refl _ _ | refine bl_set (by (first | omega | (simp; done) | (simp; omega))) ?_ _ | refine bl_alloc (by (first | omega | (simp; done) | (simp; omega))) ?_ _ | refine bl_drewN ?_ _ | refine bl_drew ?_ | refine bl_then (by assumption) ?_ (by (first | omega | (simp; done) | (simp; omega))) | refine Step.bl (by assumption) (by assumption) (by (first | omega | (simp; done) | (simp; omega))) (by (first | omega | (simp; done) | (simp; omega))) ?_))
      case measure => simp [intOf]; omega
    · have hge : n ≤ k := by omega
      have hE := Lib.hid (show k = n by omega)
      have HW := Lib.hid hW
      clear hW
      go_wp2_with fail
      refine ret_sec rfl rfl (World.cell?_setCell_same' _ _ _ ?_) rfl ⟨by rw [hE.out], ?_⟩
      all_goals first | exact ⟨_, hc2⟩ | (simp [hc2]; done) | (repeat' (first | exact Below.refl _ _ | refine bl_set (by (first | omega | (simp; done) | (simp; omega))) ?_ _ | refine bl_alloc (by (first | omega | (simp; done) | (simp; omega))) ?_ _ | refine bl_drewN ?_ _ | refine bl_drew ?_ | refine bl_then (by assumption) ?_ (by (first | omega | (simp; done) | (simp; omega))) | refine Step.bl (by assumption) (by assumption) (by (first | omega | (simp; done) | (simp; omega))) (by (first | omega | (simp; done) | (simp; omega))) ?_))
set_option maxRecDepth 20000 in
set_option maxHeartbeats 1600000 in
theorem kMap_any (w : World) (A : Option Addr) (n c : Nat) (f : Nat → Nat → Int) (h : Tab w A n 3 f) (hn : n ≤ 1000) (x : Int) :
    Calls Try.prog 68 #[.slice A n c, .agg #[.int .u32 x]] w fun e w' => e = .returned (.tuple #[.agg #[.int .u32 (Sk.mo f x n)], .agg #[.int .u32 (Sk.ins f x n)]]) ∧ Below w.heap.size w w' := by
  obtain ⟨B, off, hA⟩ := h.at
  have HA := Lib.hid hA
  clear hA h
  go_enter Try.func68, Try.ntmps68
  go_wp2_with fail
  (refine Calm.go 4 (by kernel_rfl) (by kernel_rfl) (by kernel_rfl) ?_; intro w0 hw0; have hr := Calm.rule hw0; simp only [Calm.heads, Calm.isAlloc]; haveI hnon : Nonempty (Ext (Below w0.heap.size w0)) := ⟨⟨w0, Below.refl _ _⟩⟩; (repeat (go_big_quiet_step (first | (go_at_call 16; exact Ext.calm below_calm (Of_any _ _))))); refine wpQuiet_nil ?_; clear hnon hr hw0; clear w0; (repeat refine Calm.n_skip rfl ?_); refine Calm.n_new rfl ?_; intro pA1 hpA1 hqA1; (repeat refine Calm.n_skip rfl ?_); refine Calm.n_new rfl ?_; intro pA2 hpA2 hqA2; (repeat refine Calm.n_skip rfl ?_); refine Calm.n_zero ?_; intro WA hbA hsA; simp only [List.drop_succ_cons, List.drop_zero]; obtain ⟨hcA, hfA⟩ := bcell hbA; (try simp only [World.size_alloc, World.size_setCell, World.size_drew] at hcA hfA); have hzA := hbA.size; have hbhA := Lib.hid hbA; obtain ⟨hxA2, hyA2, hlA2⟩ := Calm.boxed hsA (p := pA2) (.head _) (by first | exact box_sec | exact box_sec3); have hdA12 := Calm.other hqA2 (p := pA1) (.head _); obtain ⟨hxA1, hyA1, hlA1⟩ := Calm.boxed hsA (p := pA1) (.tail _ (.head _)) (by first | exact box_sec | exact box_sec3); clear hqA1; clear hqA2; clear hsA hbA; (try simp only [World.size_alloc, World.size_setCell, World.size_drew] at hzA hpA1 hpA2))
  go_wp2_with fail
  go_loopw [15] (fun i wr => ∃ k : Nat, k ≤ n ∧ i = .int .i64 k ∧ wr.cell? ⟨w.heap.size, 0, none⟩ = some (.int .u32 x) ∧ wr.cell? ⟨w.heap.size + 1, 0, none⟩ = some (.int .u32 0) ∧ wr.cell? ⟨w.heap.size + 2, 0, none⟩ = some (.int .u32 0) ∧
      wr.cell? ⟨pA1, 0, none⟩ = some (.int .u32 (Sk.mo f x k)) ∧ wr.cell? ⟨pA2, 0, none⟩ = some (.int .u32 (Sk.ins f x k)) ∧
      wr.frozen? ⟨pA1, 0, none⟩ = false ∧ wr.frozen? ⟨pA2, 0, none⟩ = false ∧ wr.frozen? ⟨w.heap.size + 1, 0, none⟩ = false ∧ wr.frozen? ⟨w.heap.size + 2, 0, none⟩ = false ∧ pA1 < wr.heap.size ∧ pA2 < wr.heap.size ∧ Below w.heap.size w wr) (fun i _ => n - (intOf i).toNat)
  case atStart =>
    refine ⟨0, by omega, rfl, ?_, ?_, ?_, ?_, ?_, ?_, ?_, ?_, ?_, ?_, ?_, ?_⟩
    all_goals first | (simp [go_sem]; done) | (rw [Sk.mo_zero]; simp [go_sem, ↓IntWalk.iteOmega, *]; done) | (rw [Sk.ins_zero]; simp [go_sem, ↓IntWalk.iteOmega, *]; done) | (simp [go_sem, ↓IntWalk.iteOmega, *]; done) | (repeat' (first | exact Below.refl _ _ | refine bl_set (by (first | omega | (simp; done) | (simp; omega))) ?_ _ | refine bl_alloc (by (first | omega | (simp; done) | (simp; omega))) ?_ _ | refine bl_drewN ?_ _ | refine bl_drew ?_ | refine bl_then (by assumption) ?_ (by (first | omega | (simp; done) | (simp; omega))) | refine Step.bl (by assumption) (by assumption) (by (first | omega | (simp; done) | (simp; omega))) (by (first | omega | (simp; done) | (simp; omega))) ?_))
  case round =>
    obtain ⟨k, hk, rfl, hc1, hc2, hc3, hc4, hc5, hf1, hf2, hf3, hf4, hlt, hlt2, hW⟩ := hrel
    have hWs := hW.size
    clear hcA hfA hbhA hxA1 hyA1 hxA2 hyA2
    by_cases hkm : k < n
    · obtain ⟨rfl, hB, hcell⟩ := HA.out (by omega)
      have g0 : wr.cell? ⟨B, off + k * 3, none⟩ = some (.int .u32 (f k 0)) := (hW.cell (p := ⟨B, off + k * 3, none⟩) hB).trans (hcell k 0 hkm (by decide))
      have g1 : wr.cell? ⟨B, off + k * 3 + 1, none⟩ = some (.int .u32 (f k 1)) := (hW.cell (p := ⟨B, off + k * 3 + 1, none⟩) hB).trans (hcell k 1 hkm (by decide))
      have g2 : wr.cell? ⟨B, off + k * 3 + 2, none⟩ = some (.int .u32 (f k 2)) := (hW.cell (p := ⟨B, off + k * 3 + 2, none⟩) hB).trans (hcell k 2 hkm (by decide))
      have hd1 := Lib.hid (Sk.mo_succ f x k)
      have hd2 := Lib.hid (Sk.ins_succ f x k)
      have HW := Lib.hid hW
      clear hW hcell
      go_wp2_with (first | (go_at_call 86; refine (kIn1_any _ _ _ _).mono ?_; rintro e wi ⟨rfl, hb⟩; have hcf_wi := bcell hb; (try simp only [World.size_alloc, World.size_setCell, World.size_drew] at hcf_wi); have hz_wi := hb.size; (try simp only [World.size_alloc, World.size_setCell, World.size_drew] at hz_wi); have hbh_wi := Lib.hid hb; clear hb; obtain ⟨hc_wi, hf_wi⟩ := hcf_wi))
      (refine Calm.go 12 (by kernel_rfl) (by kernel_rfl) (by kernel_rfl) ?_; intro w0 hw0; have hr := Calm.rule hw0; simp only [Calm.heads, Calm.isAlloc]; haveI hnon : Nonempty (Ext (Below w0.heap.size w0)) := ⟨⟨w0, Below.refl _ _⟩⟩; (repeat (go_big_quiet_step (first | (go_at_call 16; exact Ext.calm below_calm (Of_any _ _)) | (go_at_call 18; exact Ext.calm below_calm (Add_any _ _ _)) | (go_at_call 31; exact Ext.calm below_calm (Sel_any _ _ _ _))))); refine wpQuiet_nil ?_; clear hnon hr hw0; clear w0; (repeat refine Calm.n_skip rfl ?_); refine Calm.n_zero ?_; intro WC hbC hsC; simp only [List.drop_succ_cons, List.drop_zero]; obtain ⟨hcC, hfC⟩ := bcell hbC; (try simp only [World.size_alloc, World.size_setCell, World.size_drew] at hcC hfC); have hzC := hbC.size; have hbhC := Lib.hid hbC; clear hsC hbC; (try simp only [World.size_alloc, World.size_setCell, World.size_drew] at hzC))
      go_wp2_with (first | (go_at_call 22; refine (Or_any _ _ _).mono ?_; rintro e w1 ⟨rfl, hb⟩; have hcf := bcell hb; (try simp only [World.size_alloc, World.size_setCell, World.size_drew] at hcf); have hz := hb.size; (try simp only [World.size_alloc, World.size_setCell, World.size_drew] at hz); have hbh := Lib.hid hb; clear hb; obtain ⟨hc, hf⟩ := hcf))
      go_roundw
      case rel =>
        refine ⟨k + 1, by omega, by go_num, ?_, ?_, ?_, ?_, ?_, ?_, ?_, ?_, ?_, ?_, ?_, ?_⟩
        all_goals first | (rw [hd1.out]; simp [go_sem, ↓IntWalk.iteOmega, *]; done) | (rw [hd2.out]; simp [go_sem, ↓IntWalk.iteOmega, *]; done) | (simp [go_sem, ↓IntWalk.iteOmega, *]; done) | (simp; omega) | (repeat' (first | exact Below.refl _ _ | refine bl_set (by (first | omega | (simp; done) | (simp; omega))) ?_ _ | refine bl_alloc (by (first | omega | (simp; done) | (simp; omega))) ?_ _ | refine bl_drewN ?_ _ | refine bl_drew ?_ | refine bl_then (by assumption) ?_ (by (first | omega | (simp; done) | (simp; omega))) | refine Step.bl (by assumption) (by assumption) (by (first | omega | (simp; done) | (simp; omega))) (by (first | omega | (simp; done) | (simp; omega))) ?_))
      case measure => simp [intOf]; omega
    · have hge : n ≤ k := by omega
      have hE := Lib.hid (show k = n by omega)
      have HW := Lib.hid hW
      clear hW
      go_wp2_with fail
      go_region_held3 (fun w' => w'.cell? ⟨pA1, 0, none⟩ = some (.int .u32 (Sk.mo f x k)) ∧ w'.cell? ⟨pA2, 0, none⟩ = some (.int .u32 (Sk.ins f x k))) ((simp [go_sem, ↓IntWalk.iteOmega, *]; done)) (fail)
      all_goals go_wp2_with fail
      all_goals
        refine ret_sec2 (x := Sk.mo f x k) (y := Sk.ins f x k) rfl rfl rfl ?_ ?_ rfl ⟨?_, ?_⟩
        · simp [go_sem, ↓IntWalk.iteOmega, *]
        · simp [go_sem, ↓IntWalk.iteOmega, *]
        · rw [hE.out]
        · (repeat' (first | exact Below.refl _ _ | refine bl_set (by (first | omega | (simp; done) | (simp; omega))) ?_ _ | refine bl_alloc (by (first | omega | (simp; done) | (simp; omega))) ?_ _ | refine bl_drewN ?_ _ | refine bl_drew ?_ | refine bl_then (by assumption) ?_ (by (first | omega | (simp; done) | (simp; omega))) | refine Step.bl (by assumption) (by assumption) (by (first | omega | (simp; done) | (simp; omega))) (by (first | omega | (simp; done) | (simp; omega))) ?_))
end Go.Proofs.Ytcaaapfminenoaa
