/- What a table says of a word: pairs. No condition. -/
import Derived.Test.YtcaaapfminenoaaCt
import Derived.Test.YtcaaapfminenoaaCalm
import Derived.Test.YtcaaapfminenoaaHang
import Derived.Test.YtcaaapfminenoaaSkDef
namespace Go.Proofs.Ytcaaapfminenoaa
open Go.RowKit
set_option linter.unusedSimpArgs false
set_option linter.unusedVariables false
attribute [local go_sem] IntKind.wrap_u32' signed_u32 max_u32
attribute [local go_sem ↓] Go.wp_at_zero Go.wp_at_succ
attribute [local go_sem] Calm.C
attribute [local go_sem low] Calm.al_cell Calm.al_frozen
attribute [local irreducible] Sk.pto Sk.pany
set_option maxRecDepth 20000 in
set_option maxHeartbeats 1600000 in
theorem kTwo_any (w : World) (A : Option Addr) (n c : Nat) (f : Nat → Nat → Int) (h : Tab w A n 3 f) (hn : n ≤ 1000) (a b : Int) :
    Calls Try.prog 52 #[.slice A n c, .agg #[.int .u32 a], .agg #[.int .u32 b]] w fun e w' => e = .returned (.tuple #[.agg #[.int .u32 (Sk.pto a b f n)], .agg #[.int .u32 (Sk.pany a b f n)]]) ∧ Below w.heap.size w w' := by
  obtain ⟨B, off, hA⟩ := h.at
  have HA := Lib.hid hA
  clear hA h
  go_enter Try.func52, Try.ntmps52
  go_wp2_with (first | (go_at_call 16; refine (Of_any _ _).mono ?_; rintro e wf ⟨rfl, hb⟩; have hcf_wf := bcell hb; (try simp only [World.size_alloc, World.size_setCell, World.size_drew] at hcf_wf); have hz_wf := hb.size; (try simp only [World.size_alloc, World.size_setCell, World.size_drew] at hz_wf); have hbh_wf := Lib.hid hb; clear hb; obtain ⟨hc_wf, hf_wf⟩ := hcf_wf))
  go_loopw [17] (fun i wr => ∃ k : Nat, k ≤ n ∧ i = .int .i64 k ∧ wr.cell? ⟨w.heap.size, 0, none⟩ = some (.int .u32 a) ∧ wr.cell? ⟨w.heap.size + 1, 0, none⟩ = some (.int .u32 b) ∧ wr.cell? ⟨w.heap.size + 2, 0, none⟩ = some (.int .u32 0) ∧ wr.cell? ⟨w.heap.size + 3, 0, none⟩ = some (.int .u32 0) ∧
      wr.cell? ⟨wf.heap.size, 0, none⟩ = some (.int .u32 (Sk.pto a b f k)) ∧ wr.cell? ⟨wf.heap.size + 1, 0, none⟩ = some (.int .u32 (Sk.pany a b f k)) ∧
      wr.frozen? ⟨wf.heap.size, 0, none⟩ = false ∧ wr.frozen? ⟨wf.heap.size + 1, 0, none⟩ = false ∧ wr.frozen? ⟨w.heap.size + 2, 0, none⟩ = false ∧ wr.frozen? ⟨w.heap.size + 3, 0, none⟩ = false ∧ wf.heap.size + 1 < wr.heap.size ∧ Below w.heap.size w wr) (fun i _ => n - (intOf i).toNat)
  case atStart =>
    obtain ⟨hc3, hf3⟩ := Calm.al_rule wf (.cells #[.int .u32 0] 26)
    obtain ⟨hc4, hf4⟩ := Calm.al_rule (wf.alloc (.cells #[.int .u32 0] 26)) (.cells #[.int .u32 0] 26)
    simp only [World.size_alloc] at hc4 hf4
    refine ⟨0, by omega, rfl, ?_, ?_, ?_, ?_, ?_, ?_, ?_, ?_, ?_, ?_, ?_, ?_⟩
    all_goals first | (simp [go_sem]; done) | (rw [Sk.pto_zero]; simp [go_sem]; done) | (rw [Sk.pany_zero]; simp [go_sem]; done) | (simp [go_sem, ↓IntWalk.iteOmega, *]; done) | (repeat' (first | exact Below.refl _ _ | refine bl_set (by (first | omega | (simp; done) | (simp; omega))) ?_ _ | refine bl_alloc (by (first | omega | (simp; done) | (simp; omega))) ?_ _ | refine bl_drewN ?_ _ | refine bl_drew ?_ | refine bl_then (by assumption) ?_ (by (first | omega | (simp; done) | (simp; omega))) | refine Step.bl (by assumption) (by assumption) (by (first | omega | (simp; done) | (simp; omega))) (by (first | omega | (simp; done) | (simp; omega))) ?_))
  case round =>
    obtain ⟨k, hk, rfl, hc1, hc2, hc3, hc4, hc5, hc6, hf1, hf2, hf3, hf4, hlt, hW⟩ := hrel
    have hWs := hW.size
    by_cases hkm : k < n
    · obtain ⟨rfl, hB, hcell⟩ := HA.out (by omega)
      have g0 : wr.cell? ⟨B, off + k * 3, none⟩ = some (.int .u32 (f k 0)) := (hW.cell (p := ⟨B, off + k * 3, none⟩) hB).trans (hcell k 0 hkm (by decide))
      have g1 : wr.cell? ⟨B, off + k * 3 + 1, none⟩ = some (.int .u32 (f k 1)) := (hW.cell (p := ⟨B, off + k * 3 + 1, none⟩) hB).trans (hcell k 1 hkm (by decide))
      have g2 : wr.cell? ⟨B, off + k * 3 + 2, none⟩ = some (.int .u32 (f k 2)) := (hW.cell (p := ⟨B, off + k * 3 + 2, none⟩) hB).trans (hcell k 2 hkm (by decide))
      have hd1 := Lib.hid (Sk.pto_succ a b f k)
      have hd2 := Lib.hid (Sk.pany_succ a b f k)
      have HW := Lib.hid hW
      clear hW hcell
      go_wp2_with fail
      (refine Calm.go 12 (by kernel_rfl) (by kernel_rfl) (by kernel_rfl) ?_; intro w0 hw0; have hr := Calm.rule hw0; simp only [Calm.heads, Calm.isAlloc]; haveI hnon : Nonempty (Ext (Below w0.heap.size w0)) := ⟨⟨w0, Below.refl _ _⟩⟩; (repeat (go_big_quiet_step (first | (go_at_call 16; exact Ext.calm below_calm (Of_any _ _)) | (go_at_call 28; exact Ext.calm below_calm (Eq_any _ _ _)) | (go_at_call 20; exact Ext.calm below_calm (And_any _ _ _))))); refine wpQuiet_nil ?_; clear hnon hr hw0; clear w0; (repeat refine Calm.n_skip rfl ?_); refine Calm.n_new rfl ?_; intro pA1 hpA1 hqA1; (repeat refine Calm.n_skip rfl ?_); refine Calm.n_zero ?_; intro WA hbA hsA; simp only [List.drop_succ_cons, List.drop_zero]; obtain ⟨hcA, hfA⟩ := bcell hbA; (try simp only [World.size_alloc, World.size_setCell, World.size_drew] at hcA hfA); have hzA := hbA.size; have hbhA := Lib.hid hbA; obtain ⟨hxA1, hyA1, hlA1⟩ := Calm.boxed hsA (p := pA1) (.head _) (by first | exact box_sec | exact box_sec3); clear hqA1; clear hsA hbA; (try simp only [World.size_alloc, World.size_setCell, World.size_drew] at hzA hpA1))
      go_wp2_with fail
      (refine Calm.go 7 (by kernel_rfl) (by kernel_rfl) (by kernel_rfl) ?_; intro w0 hw0; have hr := Calm.rule hw0; simp only [Calm.heads, Calm.isAlloc]; haveI hnon : Nonempty (Ext (Below w0.heap.size w0)) := ⟨⟨w0, Below.refl _ _⟩⟩; (repeat (go_big_quiet_step (first | (go_at_call 16; exact Ext.calm below_calm (Of_any _ _)) | (go_at_call 20; exact Ext.calm below_calm (And_any _ _ _)) | (go_at_call 22; exact Ext.calm below_calm (Or_any _ _ _))))); refine wpQuiet_nil ?_; clear hnon hr hw0; clear w0; (repeat refine Calm.n_skip rfl ?_); refine Calm.n_zero ?_; intro WB hbB hsB; simp only [List.drop_succ_cons, List.drop_zero]; obtain ⟨hcB, hfB⟩ := bcell hbB; (try simp only [World.size_alloc, World.size_setCell, World.size_drew] at hcB hfB); have hzB := hbB.size; have hbhB := Lib.hid hbB; clear hsB hbB; (try simp only [World.size_alloc, World.size_setCell, World.size_drew] at hzB))
      go_wp2_with (first | (go_at_call 22; refine (Or_any _ _ _).mono ?_; rintro e w1 ⟨rfl, hb⟩; have hcf := bcell hb; (try simp only [World.size_alloc, World.size_setCell, World.size_drew] at hcf); have hz := hb.size; (try simp only [World.size_alloc, World.size_setCell, World.size_drew] at hz); have hbh := Lib.hid hb; clear hb; obtain ⟨hc, hf⟩ := hcf))
      go_roundw
      case rel =>
        refine ⟨k + 1, by omega, by go_num, ?_, ?_, ?_, ?_, ?_, ?_, ?_, ?_, ?_, ?_, ?_, ?_⟩
        all_goals first | (rw [hd1.out]; simp [go_sem, ↓IntWalk.iteOmega, *]; done) | (rw [hd2.out]; simp [go_sem, ↓IntWalk.iteOmega, *]; done) | (simp [go_sem, ↓IntWalk.iteOmega, *]; done) | (simp; omega) | (repeat' (first | exact Below.refl _ _ | refine bl_set (by (first | omega | (simp; done) | (simp; omega))) ?_ _ | refine bl_alloc (by (first | omega | (simp; done) | (simp; omega))) ?_ _ | refine bl_drewN ?_ _ | refine bl_drew ?_ | refine bl_then (by assumption) ?_ (by (first | omega | (simp; done) | (simp; omega))) | refine Step.bl (by assumption) (by assumption) (by (first | omega | (simp; done) | (simp; omega))) (by (first | omega | (simp; done) | (simp; omega))) ?_))
      case measure => simp [intOf]; omega
    · have hge : n ≤ k := by omega
      have hE := Lib.hid (show k = n by omega)
      have HW := Lib.hid hW
      clear hW
      go_wp2_with fail
      go_region_held3 (fun w' => w'.cell? ⟨wf.heap.size, 0, none⟩ = some (.int .u32 (Sk.pto a b f k)) ∧ w'.cell? ⟨wf.heap.size + 1, 0, none⟩ = some (.int .u32 (Sk.pany a b f k))) ((simp [go_sem, ↓IntWalk.iteOmega, *]; done)) (fail)
      all_goals go_wp2_with fail
      all_goals
        refine ret_sec2 (x := Sk.pto a b f k) (y := Sk.pany a b f k) rfl rfl rfl ?_ ?_ rfl ⟨?_, ?_⟩
        · simp [go_sem, ↓IntWalk.iteOmega, *]
        · simp [go_sem, ↓IntWalk.iteOmega, *]
        · rw [hE.out]
        · (repeat' (first | exact Below.refl _ _ | refine bl_set (by (first | omega | (simp; done) | (simp; omega))) ?_ _ | refine bl_alloc (by (first | omega | (simp; done) | (simp; omega))) ?_ _ | refine bl_drewN ?_ _ | refine bl_drew ?_ | refine bl_then (by assumption) ?_ (by (first | omega | (simp; done) | (simp; omega))) | refine Step.bl (by assumption) (by assumption) (by (first | omega | (simp; done) | (simp; omega))) (by (first | omega | (simp; done) | (simp; omega))) ?_))
theorem ret_tmp2 {fn : Func} {R : Ending → World → Prop} {a : Act} {w : World} {t u : Tmp} {x y : Value} (hr : fn.results = #[.tmp t, .tmp u])
    (ht : a.tmps.getD t undef = x) (hu : a.tmps.getD u undef = y) (hd : a.defers = []) (hR : R (.returned (.tuple #[x, y])) w) : bodyPost Try.prog fn R .ret a w := by
  refine bodyPost_ret (v := .tuple #[x, y]) ?_ hd hR
  have ht' : a.tmps[t]?.getD undef = x := by simpa using ht
  have hu' : a.tmps[u]?.getD undef = y := by simpa using hu
  simp [results, hr, ht', hu', go_sem]
set_option maxRecDepth 20000 in
set_option maxHeartbeats 1600000 in
theorem rTwo_any (w : World) (A : Option Addr) (n c : Nat) (f : Nat → Nat → Int) (h : Tab w A n 3 f) (hn : n ≤ 1000) (a b : Int) :
    Calls Try.prog 53 #[.slice A n c, .int .u32 a, .int .u32 b] w fun e w' => e = .returned (.tuple #[.int .u32 (Sk.rto a b f n), .bool (Sk.rany a b f n)]) ∧ w' = w := by
  obtain ⟨B, off, hA⟩ := h.at
  have HA := Lib.hid hA
  clear hA h
  go_enter Try.func53, Try.ntmps53
  go_wp2_with fail
  go_loopw [8, 9, 10] (fun a8 a9 i wr => ∃ k : Nat, k ≤ n ∧ i = .int .i64 k ∧ a8 = .int .u32 (Sk.rto a b f k) ∧ a9 = .bool (Sk.rany a b f k) ∧ wr = w) (fun _ _ i _ => n - (intOf i).toNat)
  case atStart => exact ⟨0, by omega, rfl, by rw [Sk.rto_zero], by rw [Sk.rany_zero], rfl⟩
  case round =>
    obtain ⟨k, hk, rfl, rfl, rfl, rfl⟩ := hrel
    by_cases hkm : k < n
    · obtain ⟨rfl, hB, hcell⟩ := HA.out (by omega)
      have g0 := hcell k 0 hkm (by decide)
      rw [Nat.add_zero] at g0
      have g1 := hcell k 1 hkm (by decide)
      have g2 := hcell k 2 hkm (by decide)
      clear hcell
      have d1 := Sk.rto_succ a b f k
      have d2 := Sk.rany_succ a b f k
      have hh : Sk.hit a b f k = (f k 0 == a && f k 1 == b) := rfl
      obtain ⟨x, hx⟩ : ∃ x, f k 0 = x := ⟨_, rfl⟩
      obtain ⟨y, hy⟩ : ∃ y, f k 1 = y := ⟨_, rfl⟩
      obtain ⟨z, hz⟩ : ∃ z, f k 2 = z := ⟨_, rfl⟩
      obtain ⟨T, hT⟩ : ∃ T, Sk.rto a b f k = T := ⟨_, rfl⟩
      obtain ⟨U, hU⟩ : ∃ U, Sk.rany a b f k = U := ⟨_, rfl⟩
      rw [hx] at g0 hh
      rw [hy] at g1 hh
      rw [hz] at g2 d1
      rw [hT] at d1
      rw [hU] at d2
      rw [hT, hU]
      clear hx hy hz hT hU
      cases h1 : (x == a)
      all_goals
        cases h2 : (y == b)
      all_goals
        rw [h1, h2] at hh
        rw [hh] at d1 d2
        have D1 := Lib.hid d1
        have D2 := Lib.hid d2
        clear d1 d2 hh
        go_wp2_with fail
        refine ⟨⟨k + 1, by omega, by go_num, ?_, ?_, trivial⟩, ?_⟩
        · rw [D1.out]; rfl
        · rw [D2.out]; rfl
        · simp [intOf]; omega
    · have hge : n ≤ k := by omega
      have hE := Lib.hid (show k = n by omega)
      go_wp2_with fail
      refine ret_tmp2 (x := .int .u32 (Sk.rto a b f k)) (y := .bool (Sk.rany a b f k)) rfl rfl rfl rfl ?_
      exact ⟨by rw [hE.out], rfl⟩
end Go.Proofs.Ytcaaapfminenoaa
