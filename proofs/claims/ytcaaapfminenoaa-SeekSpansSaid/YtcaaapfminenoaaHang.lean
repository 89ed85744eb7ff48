/- The calls of package hangul on words. No condition. -/
import Derived.Test.YtcaaapfminenoaaCt
import Derived.Test.YtcaaapfminenoaaCtPlain
import Derived.Test.YtcaaapfminenoaaCalm
import Derived.Test.YtcaaapfminenoaaHangDef
namespace Go.Proofs.Ytcaaapfminenoaa
open Go.RowKit
set_option linter.unusedSimpArgs false
set_option linter.unusedVariables false
attribute [local go_sem] IntKind.wrap_u32' signed_u32 max_u32
attribute [local go_sem ↓] Go.wp_at_zero Go.wp_at_succ
attribute [local go_sem] Calm.C
attribute [local go_sem low] Calm.al_cell Calm.al_frozen
theorem box_sec : Calm.box Try.prog 26 = .cells #[.int .u32 0] 26 (0, 0) := by kernel_rfl
set_option maxHeartbeats 400000 in
theorem hBelow_any (x n : Int) (w : World) : Calls Try.prog 81 #[.agg #[.int .u32 x], .int .u32 n] w fun e w' => e = .returned (.agg #[.int .u32 (Ct.Lt x n)]) ∧ Below w.heap.size w w' := by
  go_enter Try.func81, Try.ntmps81
  go_wp2_with fail
  (refine Calm.go 4 (by kernel_rfl) (by kernel_rfl) (by kernel_rfl) ?_; intro w0 hw0; have hr := Calm.rule hw0; simp only [Calm.heads, Calm.isAlloc]; haveI hnon : Nonempty (Ext (Below w0.heap.size w0)) := ⟨⟨w0, Below.refl _ _⟩⟩; (repeat (go_big_quiet_step (first | (go_at_call 16; exact Ext.calm below_calm (Of_any _ _)) | (go_at_call 29; exact Ext.calm below_calm (Lt_any _ _ _))))); refine wpQuiet_nil ?_; clear hnon hr hw0; clear w0; (repeat refine Calm.n_skip rfl ?_); refine Calm.n_zero ?_; intro WA hbA hsA; simp only [List.drop_succ_cons, List.drop_zero]; obtain ⟨hcA, hfA⟩ := bcell hbA; (try simp only [World.size_alloc, World.size_setCell, World.size_drew] at hcA hfA); have hzA := hbA.size; have hbhA := Lib.hid hbA; clear hsA hbA; (try simp only [World.size_alloc, World.size_setCell, World.size_drew] at hzA))
  go_wp2
  ((refine ret_sec rfl rfl (World.cell?_setCell_same' _ _ _ ?_) rfl ⟨rfl, ?_⟩) <;> first | (simp [go_sem, ↓IntWalk.iteOmega, *]; done) | ((repeat' (first | exact Below.refl _ _ | refine bl_set (by (first | omega | (simp; done) | (simp; omega))) ?_ _ | refine bl_alloc (by (first | omega | (simp; done) | (simp; omega))) ?_ _ | refine bl_drewN ?_ _ | refine bl_drew ?_ | refine bl_then (by assumption) ?_ (by (first | omega | (simp; done) | (simp; omega))))); done))
set_option maxHeartbeats 400000 in
theorem hPart_any (m base n : Int) (w : World) : Calls Try.prog 83 #[.agg #[.int .u32 m], .int .u32 base, .agg #[.int .u32 n]] w fun e w' => e = .returned (.agg #[.int .u32 (Hg.Part m base n)]) ∧ Below w.heap.size w w' := by
  unfold Hg.Part
  go_enter Try.func83, Try.ntmps83
  go_wp2_with fail
  (refine Calm.go 6 (by kernel_rfl) (by kernel_rfl) (by kernel_rfl) ?_; intro w0 hw0; have hr := Calm.rule hw0; simp only [Calm.heads, Calm.isAlloc]; haveI hnon : Nonempty (Ext (Below w0.heap.size w0)) := ⟨⟨w0, Below.refl _ _⟩⟩; (repeat (go_big_quiet_step (first | (go_at_call 16; exact Ext.calm below_calm (Of_any _ _)) | (go_at_call 18; exact Ext.calm below_calm (Add_any _ _ _)) | (go_at_call 20; exact Ext.calm below_calm (And_any _ _ _))))); refine wpQuiet_nil ?_; clear hnon hr hw0; clear w0; (repeat refine Calm.n_skip rfl ?_); refine Calm.n_zero ?_; intro WA hbA hsA; simp only [List.drop_succ_cons, List.drop_zero]; obtain ⟨hcA, hfA⟩ := bcell hbA; (try simp only [World.size_alloc, World.size_setCell, World.size_drew] at hcA hfA); have hzA := hbA.size; have hbhA := Lib.hid hbA; clear hsA hbA; (try simp only [World.size_alloc, World.size_setCell, World.size_drew] at hzA))
  go_wp2
  ((refine ret_sec rfl rfl (World.cell?_setCell_same' _ _ _ ?_) rfl ⟨rfl, ?_⟩) <;> first | (simp [go_sem, ↓IntWalk.iteOmega, *]; done) | ((repeat' (first | exact Below.refl _ _ | refine bl_set (by (first | omega | (simp; done) | (simp; omega))) ?_ _ | refine bl_alloc (by (first | omega | (simp; done) | (simp; omega))) ?_ _ | refine bl_drewN ?_ _ | refine bl_drew ?_ | refine bl_then (by assumption) ?_ (by (first | omega | (simp; done) | (simp; omega))))); done))
set_option maxHeartbeats 800000 in
theorem hTimes_any (x d : Int) (h0 : 0 ≤ d) (h1 : d < 4294967296) (w : World) : Calls Try.prog 82 #[.agg #[.int .u32 x], .int .u32 d] w fun e w' => e = .returned (.agg #[.int .u32 (Hg.times x d)]) ∧ Below w.heap.size w w' := by
  go_enter Try.func82, Try.ntmps82
  go_wp2_with (first | (go_at_call 16; refine (Of_any _ _).mono ?_; rintro e w1 ⟨rfl, hb⟩; have hcf := bcell hb; (try simp only [World.size_alloc, World.size_setCell, World.size_drew] at hcf); have hz := hb.size; (try simp only [World.size_alloc, World.size_setCell, World.size_drew] at hz); have hbh := Lib.hid hb; clear hb; obtain ⟨hc, hf⟩ := hcf))
  go_loopw [6] (fun i wr => ∃ k : Nat, k ≤ 32 ∧ i = .int .i64 k ∧ wr.cell? ⟨w.heap.size, 0, none⟩ = some (.int .u32 x) ∧ wr.cell? ⟨w.heap.size + 1, 0, none⟩ = some (.int .u32 0) ∧ wr.cell? ⟨w1.heap.size, 0, none⟩ = some (.int .u32 (Hg.tsum x d k)) ∧
      wr.frozen? ⟨w1.heap.size, 0, none⟩ = false ∧ wr.frozen? ⟨w.heap.size + 1, 0, none⟩ = false ∧ w1.heap.size < wr.heap.size ∧ Below w.heap.size w wr) (fun i _ => 32 - (intOf i).toNat)
  case atStart =>
    obtain ⟨hc3, hf3⟩ := Calm.al_rule w1 (.cells #[.int .u32 0] 26)
    refine ⟨0, by omega, rfl, ?_, ?_, ?_, ?_, ?_, ?_, ?_⟩
    all_goals first | (simp [go_sem, Hg.tsum]; done) | (simp [go_sem, ↓IntWalk.iteOmega, *]; done) | (repeat' (first | exact Below.refl _ _ | refine bl_set (by (first | omega | (simp; done) | (simp; omega))) ?_ _ | refine bl_alloc (by (first | omega | (simp; done) | (simp; omega))) ?_ _ | refine bl_drewN ?_ _ | refine bl_drew ?_ | refine bl_then (by assumption) ?_ (by (first | omega | (simp; done) | (simp; omega))) | refine Step.bl (by assumption) (by assumption) (by (first | omega | (simp; done) | (simp; omega))) (by (first | omega | (simp; done) | (simp; omega))) ?_))
  case round =>
    obtain ⟨k, hk, rfl, hc1, hc2, hc3, hf1, hf2, hlt, hW⟩ := hrel
    have hWs := hW.size
    have HW := Lib.hid hW
    clear hW hc hf hbh
    by_cases hq : 0 < d / 2 ^ k
    · have hk32 : k < 32 := by
        rcases Nat.lt_or_ge k 32 with h | h
        · exact h
        · have : k = 32 := by omega
          subst this
          have : d / 2 ^ 32 = 0 := Int.ediv_eq_zero_of_lt h0 (by omega)
          omega
      by_cases hb : (bits .and .u32 (d / 2 ^ k) 1 == 1) = true
      · have hts := Lib.hid (show Hg.tsum x d (k + 1) = Ct.Add (Hg.tsum x d k) (Ct.Shl x k) by show (if (bits .and .u32 (d / 2 ^ k) 1 == 1) = true then _ else _) = _; rw [if_pos hb])
        go_wp2_with fail
        (refine Calm.go 5 (by kernel_rfl) (by kernel_rfl) (by kernel_rfl) ?_; intro w0 hw0; have hr := Calm.rule hw0; simp only [Calm.heads, Calm.isAlloc]; haveI hnon : Nonempty (Ext (Below w0.heap.size w0)) := ⟨⟨w0, Below.refl _ _⟩⟩; (repeat (go_big_quiet_step (first | (go_at_call 33; exact Ext.calm below_calm (Shl_any _ _ _)) | (go_at_call 18; exact Ext.calm below_calm (Add_any _ _ _))))); refine wpQuiet_nil ?_; clear hnon hr hw0; clear w0; (repeat refine Calm.n_skip rfl ?_); refine Calm.n_zero ?_; intro WA hbA hsA; simp only [List.drop_succ_cons, List.drop_zero]; obtain ⟨hcA, hfA⟩ := bcell hbA; (try simp only [World.size_alloc, World.size_setCell, World.size_drew] at hcA hfA); have hzA := hbA.size; have hbhA := Lib.hid hbA; clear hsA hbA; (try simp only [World.size_alloc, World.size_setCell, World.size_drew] at hzA))
        go_wp2_with fail
        go_roundw
        case rel =>
          refine ⟨k + 1, by omega, by go_num, ?_, ?_, ?_, ?_, ?_, ?_, ?_⟩
          all_goals first | (rw [hts.out]; simp [go_sem, ↓IntWalk.iteOmega, *]; done) | (simp [go_sem, ↓IntWalk.iteOmega, *]; done) | (simp; omega) | (have HW' := HW.out; (repeat' (first | exact Below.refl _ _ | refine bl_set (by (first | omega | (simp; done) | (simp; omega))) ?_ _ | refine bl_alloc (by (first | omega | (simp; done) | (simp; omega))) ?_ _ | refine bl_drewN ?_ _ | refine bl_drew ?_ | refine bl_then (by assumption) ?_ (by (first | omega | (simp; done) | (simp; omega))) | refine Step.bl (by assumption) (by assumption) (by (first | omega | (simp; done) | (simp; omega))) (by (first | omega | (simp; done) | (simp; omega))) ?_)))
        case measure => simp [intOf]; omega
      · have hb : (bits .and .u32 (d / 2 ^ k) 1 == 1) = false := by simpa using hb
        have hts := Lib.hid (show Hg.tsum x d (k + 1) = Hg.tsum x d k by show (if (bits .and .u32 (d / 2 ^ k) 1 == 1) = true then _ else _) = _; rw [hb]; rfl)
        go_wp2_with fail
        go_roundw
        case rel => exact ⟨k + 1, by omega, by go_num, hc1, hc2, by rw [hts.out]; exact hc3, hf1, hf2, hlt, HW.out⟩
        case measure => simp [intOf]; omega
    · have hz0 : d / 2 ^ k = 0 := Int.le_antisymm (by omega) (Int.ediv_nonneg h0 (Int.pow_nonneg (by decide)))
      have hts := Lib.hid (show Hg.times x d = Hg.tsum x d k from Hg.tsum_stop x k hz0 32 hk)
      have hq : d / 2 ^ k ≤ 0 := by omega
      clear hz0
      go_wp2_with fail
      refine ret_sec rfl rfl (World.cell?_setCell_same' _ _ _ ?_) rfl ⟨by rw [hts.out], ?_⟩
      all_goals first | exact ⟨_, hc2⟩ | (simp [hc2]; done) | (repeat' (first | exact Below.refl _ _ | refine bl_set (by (first | omega | (simp; done) | (simp; omega))) ?_ _ | refine bl_alloc (by (first | omega | (simp; done) | (simp; omega))) ?_ _ | refine bl_drewN ?_ _ | refine bl_drew ?_ | refine bl_then (by assumption) ?_ (by (first | omega | (simp; done) | (simp; omega))) | refine Step.bl (by assumption) (by assumption) (by (first | omega | (simp; done) | (simp; omega))) (by (first | omega | (simp; done) | (simp; omega))) ?_))
theorem hTimesA_any (x : Int) (w : World) : Calls Try.prog 82 #[.agg #[.int .u32 x], .int .u32 588] w fun e w' => e = .returned (.agg #[.int .u32 (Hg.times x 588)]) ∧ Below w.heap.size w w' := hTimes_any x 588 (by decide) (by decide) w
theorem hTimesB_any (x : Int) (w : World) : Calls Try.prog 82 #[.agg #[.int .u32 x], .int .u32 28] w fun e w' => e = .returned (.agg #[.int .u32 (Hg.times x 28)]) ∧ Below w.heap.size w w' := hTimes_any x 28 (by decide) (by decide) w
set_option maxHeartbeats 800000 in
theorem hDiv_any (x d : Int) (m : Nat) (hm : m ≤ 1000) (w : World) : Calls Try.prog 85 #[.agg #[.int .u32 x], .int .u32 d, .int .i64 m] w fun e w' => e = .returned (.tuple #[.agg #[.int .u32 (Hg.dq d x m)], .agg #[.int .u32 (Hg.dx d x m)]]) ∧ Below w.heap.size w w' := by
  go_enter Try.func85, Try.ntmps85
  go_wp2_with (first | (go_at_call 16; refine (Of_any _ _).mono ?_; rintro e w1 ⟨rfl, hb⟩; have hcf := bcell hb; (try simp only [World.size_alloc, World.size_setCell, World.size_drew] at hcf); have hz := hb.size; (try simp only [World.size_alloc, World.size_setCell, World.size_drew] at hz); have hbh := Lib.hid hb; clear hb; obtain ⟨hc, hf⟩ := hcf))
  go_loopw [12] (fun i wr => ∃ k : Nat, k ≤ m ∧ i = .int .i64 k ∧ wr.cell? ⟨w.heap.size, 0, none⟩ = some (.int .u32 (Hg.dx d x k)) ∧ wr.cell? ⟨w.heap.size + 1, 0, none⟩ = some (.int .u32 0) ∧ wr.cell? ⟨w.heap.size + 2, 0, none⟩ = some (.int .u32 0) ∧ wr.cell? ⟨w1.heap.size, 0, none⟩ = some (.int .u32 (Hg.dq d x k)) ∧
      wr.frozen? ⟨w1.heap.size, 0, none⟩ = false ∧ wr.frozen? ⟨w.heap.size, 0, none⟩ = false ∧ wr.frozen? ⟨w.heap.size + 1, 0, none⟩ = false ∧ wr.frozen? ⟨w.heap.size + 2, 0, none⟩ = false ∧ w1.heap.size < wr.heap.size ∧ Below w.heap.size w wr) (fun i _ => m - (intOf i).toNat)
  case atStart =>
    obtain ⟨hc3, hf3⟩ := Calm.al_rule w1 (.cells #[.int .u32 0] 26)
    refine ⟨0, by omega, rfl, ?_, ?_, ?_, ?_, ?_, ?_, ?_, ?_, ?_, ?_⟩
    all_goals first | (simp [go_sem, Hg.dq]; done) | (simp [go_sem, ↓IntWalk.iteOmega, *, Hg.dx]; done) | (repeat' (first | exact Below.refl _ _ | refine bl_set (by (first | omega | (simp; done) | (simp; omega))) ?_ _ | refine bl_alloc (by (first | omega | (simp; done) | (simp; omega))) ?_ _ | refine bl_drewN ?_ _ | refine bl_drew ?_ | refine bl_then (by assumption) ?_ (by (first | omega | (simp; done) | (simp; omega))) | refine Step.bl (by assumption) (by assumption) (by (first | omega | (simp; done) | (simp; omega))) (by (first | omega | (simp; done) | (simp; omega))) ?_))
  case round =>
    obtain ⟨k, hk, rfl, hc1, hc2, hc3, hc4, hf1, hf2, hf3, hf4, hlt, hW⟩ := hrel
    have hWs := hW.size
    have HW := Lib.hid hW
    clear hW hc hf hbh
    by_cases hkm : k < m
    · have hd1 := Lib.hid (show Hg.dx d x (k + 1) = Ct.Sub (Hg.dx d x k) (Ct.And (Ct.Not (Ct.Lt (Hg.dx d x k) d)) d) from rfl)
      have hd2 := Lib.hid (show Hg.dq d x (k + 1) = Ct.Sub (Hg.dq d x k) (Ct.Not (Ct.Lt (Hg.dx d x k) d)) from rfl)
      go_wp2_with (first | (go_at_call 81; refine (hBelow_any _ _ _).mono ?_; rintro e w1 ⟨rfl, hb⟩; have hcf := bcell hb; (try simp only [World.size_alloc, World.size_setCell, World.size_drew] at hcf); have hz := hb.size; (try simp only [World.size_alloc, World.size_setCell, World.size_drew] at hz); have hbh := Lib.hid hb; clear hb; obtain ⟨hc, hf⟩ := hcf) | (go_at_call 24; refine (Not_any _ _).mono ?_; rintro e w1 ⟨rfl, hb⟩; have hcf := bcell hb; (try simp only [World.size_alloc, World.size_setCell, World.size_drew] at hcf); have hz := hb.size; (try simp only [World.size_alloc, World.size_setCell, World.size_drew] at hz); have hbh := Lib.hid hb; clear hb; obtain ⟨hc, hf⟩ := hcf))
      (refine Calm.go 6 (by kernel_rfl) (by kernel_rfl) (by kernel_rfl) ?_; intro w0 hw0; have hr := Calm.rule hw0; simp only [Calm.heads, Calm.isAlloc]; haveI hnon : Nonempty (Ext (Below w0.heap.size w0)) := ⟨⟨w0, Below.refl _ _⟩⟩; (repeat (go_big_quiet_step (first | (go_at_call 16; exact Ext.calm below_calm (Of_any _ _)) | (go_at_call 20; exact Ext.calm below_calm (And_any _ _ _)) | (go_at_call 19; exact Ext.calm below_calm (Sub_any _ _ _))))); refine wpQuiet_nil ?_; clear hnon hr hw0; clear w0; (repeat refine Calm.n_skip rfl ?_); refine Calm.n_zero ?_; intro WA hbA hsA; simp only [List.drop_succ_cons, List.drop_zero]; obtain ⟨hcA, hfA⟩ := bcell hbA; (try simp only [World.size_alloc, World.size_setCell, World.size_drew] at hcA hfA); have hzA := hbA.size; have hbhA := Lib.hid hbA; clear hsA hbA; (try simp only [World.size_alloc, World.size_setCell, World.size_drew] at hzA))
      go_wp2_with (first | (go_at_call 19; refine (Sub_any _ _ _).mono ?_; rintro e w1 ⟨rfl, hb⟩; have hcf := bcell hb; (try simp only [World.size_alloc, World.size_setCell, World.size_drew] at hcf); have hz := hb.size; (try simp only [World.size_alloc, World.size_setCell, World.size_drew] at hz); have hbh := Lib.hid hb; clear hb; obtain ⟨hc, hf⟩ := hcf))
      go_roundw
      case rel =>
        refine ⟨k + 1, by omega, by go_num, ?_, ?_, ?_, ?_, ?_, ?_, ?_, ?_, ?_, ?_⟩
        all_goals first | (rw [hd1.out]; simp [go_sem, ↓IntWalk.iteOmega, *]; done) | (rw [hd2.out]; simp [go_sem, ↓IntWalk.iteOmega, *]; done) | (simp [go_sem, ↓IntWalk.iteOmega, *]; done) | (simp; omega) | (repeat' (first | exact Below.refl _ _ | refine bl_set (by (first | omega | (simp; done) | (simp; omega))) ?_ _ | refine bl_alloc (by (first | omega | (simp; done) | (simp; omega))) ?_ _ | refine bl_drewN ?_ _ | refine bl_drew ?_ | refine bl_then (by assumption) ?_ (by (first | omega | (simp; done) | (simp; omega))) | refine Step.bl (by assumption) (by assumption) (by (first | omega | (simp; done) | (simp; omega))) (by (first | omega | (simp; done) | (simp; omega))) ?_))
      case measure => simp [intOf]; omega
    · have hge : m ≤ k := by omega
      go_wp2_with fail
      go_region_held3 (fun w' => w'.cell? ⟨w.heap.size, 0, none⟩ = some (.int .u32 (Hg.dx d x k)) ∧ w'.cell? ⟨w1.heap.size, 0, none⟩ = some (.int .u32 (Hg.dq d x k))) ((simp [go_sem, ↓IntWalk.iteOmega, *]; done)) (fail)
      all_goals go_wp2_with fail
      all_goals
        refine ret_sec2 (x := Hg.dq d x k) (y := Hg.dx d x k) rfl rfl rfl ?_ ?_ rfl ⟨?_, ?_⟩
        · simp [go_sem, ↓IntWalk.iteOmega, *]
        · simp [go_sem, ↓IntWalk.iteOmega, *]
        · have hkm : k = m := by omega
          subst hkm
          rfl
        · (repeat' (first | exact Below.refl _ _ | refine bl_set (by (first | omega | (simp; done) | (simp; omega))) ?_ _ | refine bl_alloc (by (first | omega | (simp; done) | (simp; omega))) ?_ _ | refine bl_drewN ?_ _ | refine bl_drew ?_ | refine bl_then (by assumption) ?_ (by (first | omega | (simp; done) | (simp; omega))) | refine Step.bl (by assumption) (by assumption) (by (first | omega | (simp; done) | (simp; omega))) (by (first | omega | (simp; done) | (simp; omega))) ?_))
theorem hDivA_any (x : Int) (w : World) : Calls Try.prog 85 #[.agg #[.int .u32 x], .int .u32 588, .int .i64 18] w fun e w' => e = .returned (.tuple #[.agg #[.int .u32 (Hg.dq 588 x 18)], .agg #[.int .u32 (Hg.dx 588 x 18)]]) ∧ Below w.heap.size w w' := hDiv_any x 588 18 (by decide) w
theorem hDivB_any (x : Int) (w : World) : Calls Try.prog 85 #[.agg #[.int .u32 x], .int .u32 28, .int .i64 20] w fun e w' => e = .returned (.tuple #[.agg #[.int .u32 (Hg.dq 28 x 20)], .agg #[.int .u32 (Hg.dx 28 x 20)]]) ∧ Below w.heap.size w w' := hDiv_any x 28 20 (by decide) w
theorem ret_parts {fn : Func} {R : Ending → World → Prop} {a : Act} {w : World} {t u : Tmp} {b : Nat} {bd : Addr} {x y z m : Int} (hr : fn.results = #[.cell t 81, .cell u 26])
    (ht : a.tmps.getD t undef = .pointer (some ⟨b, 0, none⟩)) (hu : a.tmps.getD u undef = .pointer (some bd)) (h0 : w.cell? ⟨b, 0, none⟩ = some (.int .u32 x)) (h1 : w.cell? ⟨b, 1, none⟩ = some (.int .u32 y)) (h2 : w.cell? ⟨b, 2, none⟩ = some (.int .u32 z))
    (hc' : w.cell? bd = some (.int .u32 m)) (hd : a.defers = [])
    (hR : R (.returned (.tuple #[.agg #[.int .u32 x, .int .u32 y, .int .u32 z], .agg #[.int .u32 m]])) w) : bodyPost Try.prog fn R .ret a w := by
  refine bodyPost_ret (v := .tuple #[.agg #[.int .u32 x, .int .u32 y, .int .u32 z], .agg #[.int .u32 m]]) ?_ hd hR
  have ht' : a.tmps[t]?.getD undef = .pointer (some ⟨b, 0, none⟩) := by simpa using ht
  have hu' : a.tmps[u]?.getD undef = .pointer (some bd) := by simpa using hu
  simp [results, hr, ht', hu', go_sem, h0, h1, h2, hc']
attribute [local irreducible] Hg.dx Hg.dq Hg.tsum Hg.times Hg.Part Hg.l Hg.v Hg.t Hg.is
theorem box_sec3 : Calm.box Try.prog 81 = .cells #[.int .u32 0, .int .u32 0, .int .u32 0] 81 (0, 0) := by kernel_rfl
set_option maxHeartbeats 800000 in
theorem hParts_any (p : Int) (w : World) : Calls Try.prog 65 #[.agg #[.int .u32 p]] w fun e w' => e = .returned (.tuple #[.agg #[.int .u32 (Hg.l p), .int .u32 (Hg.v p), .int .u32 (Hg.t p)], .agg #[.int .u32 (Hg.is p)]]) ∧ Below w.heap.size w w' := by
  go_enter Try.func65, Try.ntmps65
  go_wp2_with fail
  (refine Calm.go 4 (by kernel_rfl) (by kernel_rfl) (by kernel_rfl) ?_; intro w0 hw0; have hr := Calm.rule hw0; simp only [Calm.heads, Calm.isAlloc]; haveI hnon : Nonempty (Ext (Below w0.heap.size w0)) := ⟨⟨w0, Below.refl _ _⟩⟩; (repeat (go_big_quiet_step (first | (go_at_call 16; exact Ext.calm below_calm (Of_any _ _)) | (go_at_call 19; exact Ext.calm below_calm (Sub_any _ _ _))))); refine wpQuiet_nil ?_; clear hnon hr hw0; clear w0; (repeat refine Calm.n_skip rfl ?_); refine Calm.n_new rfl ?_; intro pA1 hpA1 hqA1; (repeat refine Calm.n_skip rfl ?_); refine Calm.n_zero ?_; intro WA hbA hsA; simp only [List.drop_succ_cons, List.drop_zero]; obtain ⟨hcA, hfA⟩ := bcell hbA; (try simp only [World.size_alloc, World.size_setCell, World.size_drew] at hcA hfA); have hzA := hbA.size; have hbhA := Lib.hid hbA; obtain ⟨hxA1, hyA1, hlA1⟩ := Calm.boxed hsA (p := pA1) (.head _) (by first | exact box_sec | exact box_sec3); clear hqA1; clear hsA hbA; (try simp only [World.size_alloc, World.size_setCell, World.size_drew] at hzA hpA1))
  go_wp2_with (first | (go_at_call 81; refine (hBelow_any _ _ _).mono ?_; rintro e wa ⟨rfl, hb⟩; have hcf_wa := bcell hb; (try simp only [World.size_alloc, World.size_setCell, World.size_drew] at hcf_wa); have hz_wa := hb.size; (try simp only [World.size_alloc, World.size_setCell, World.size_drew] at hz_wa); have hbh_wa := Lib.hid hb; clear hb; obtain ⟨hc_wa, hf_wa⟩ := hcf_wa) | (go_at_call 20; refine (And_any _ _ _).mono ?_; rintro e wb ⟨rfl, hb⟩; have hcf_wb := bcell hb; (try simp only [World.size_alloc, World.size_setCell, World.size_drew] at hcf_wb); have hz_wb := hb.size; (try simp only [World.size_alloc, World.size_setCell, World.size_drew] at hz_wb); have hbh_wb := Lib.hid hb; clear hb; obtain ⟨hc_wb, hf_wb⟩ := hcf_wb) | (go_at_call 85; (with_reducible refine (hDivA_any _ _).mono ?_); rintro e wc ⟨rfl, hb⟩; have hcf_wc := bcell hb; (try simp only [World.size_alloc, World.size_setCell, World.size_drew] at hcf_wc); have hz_wc := hb.size; (try simp only [World.size_alloc, World.size_setCell, World.size_drew] at hz_wc); have hbh_wc := Lib.hid hb; clear hb; obtain ⟨hc_wc, hf_wc⟩ := hcf_wc) | (go_at_call 85; (with_reducible refine (hDivB_any _ _).mono ?_); rintro e wd ⟨rfl, hb⟩; have hcf_wd := bcell hb; (try simp only [World.size_alloc, World.size_setCell, World.size_drew] at hcf_wd); have hz_wd := hb.size; (try simp only [World.size_alloc, World.size_setCell, World.size_drew] at hz_wd); have hbh_wd := Lib.hid hb; clear hb; obtain ⟨hc_wd, hf_wd⟩ := hcf_wd))
  go_region_held3 (fun w' => w'.cell? ⟨wa.heap.size, 0, none⟩ = some (.int .u32 (Ct.Lt (Ct.Sub p 44032) 11172)) ∧ w'.cell? ⟨wc.heap.size, 0, none⟩ = some (.int .u32 (Hg.dq 588 (Ct.And (Ct.Lt (Ct.Sub p 44032) 11172) (Ct.Sub p 44032)) 18)) ∧
    w'.cell? ⟨wd.heap.size, 0, none⟩ = some (.int .u32 (Hg.dq 28 (Hg.dx 588 (Ct.And (Ct.Lt (Ct.Sub p 44032) 11172) (Ct.Sub p 44032)) 18) 20)) ∧ w'.cell? ⟨wd.heap.size + 1, 0, none⟩ = some (.int .u32 (Hg.dx 28 (Hg.dx 588 (Ct.And (Ct.Lt (Ct.Sub p 44032) 11172) (Ct.Sub p 44032)) 18) 20))) ((simp [go_sem, ↓IntWalk.iteOmega, *]; done)) (first | (go_at_call 83; refine (hPart_any _ _ _ _).mono ?_; rintro e w1 ⟨rfl, hb⟩; have hcf := bcell hb; (try simp only [World.size_alloc, World.size_setCell, World.size_drew] at hcf); have hz := hb.size; (try simp only [World.size_alloc, World.size_setCell, World.size_drew] at hz); have hbh := Lib.hid hb; clear hb; obtain ⟨hc, hf⟩ := hcf) | (go_at_call 30; refine (Zero_any _ _).mono ?_; rintro e w1 ⟨rfl, hb⟩; have hcf := bcell hb; (try simp only [World.size_alloc, World.size_setCell, World.size_drew] at hcf); have hz := hb.size; (try simp only [World.size_alloc, World.size_setCell, World.size_drew] at hz); have hbh := Lib.hid hb; clear hb; obtain ⟨hc, hf⟩ := hcf) | (go_at_call 24; refine (Not_any _ _).mono ?_; rintro e w1 ⟨rfl, hb⟩; have hcf := bcell hb; (try simp only [World.size_alloc, World.size_setCell, World.size_drew] at hcf); have hz := hb.size; (try simp only [World.size_alloc, World.size_setCell, World.size_drew] at hz); have hbh := Lib.hid hb; clear hb; obtain ⟨hc, hf⟩ := hcf) | (go_at_call 20; refine (And_any _ _ _).mono ?_; rintro e w1 ⟨rfl, hb⟩; have hcf := bcell hb; (try simp only [World.size_alloc, World.size_setCell, World.size_drew] at hcf); have hz := hb.size; (try simp only [World.size_alloc, World.size_setCell, World.size_drew] at hz); have hbh := Lib.hid hb; clear hb; obtain ⟨hc, hf⟩ := hcf))
  all_goals go_wp2_with fail
  all_goals
    refine ret_parts (x := Hg.l p) (y := Hg.v p) (z := Hg.t p) (m := Hg.is p) rfl rfl rfl ?_ ?_ ?_ ?_ rfl ⟨rfl, ?_⟩
    · simp [go_sem, ↓IntWalk.iteOmega, *]; unfold Hg.l Hg.n Hg.is; rfl
    · simp [go_sem, ↓IntWalk.iteOmega, *]; unfold Hg.v Hg.rest Hg.n Hg.is; rfl
    · simp [go_sem, ↓IntWalk.iteOmega, *]; unfold Hg.t Hg.t0 Hg.rest Hg.n Hg.is; rfl
    · simp [go_sem, ↓IntWalk.iteOmega, *]; unfold Hg.is; rfl
    · (repeat' (first | exact Below.refl _ _ | refine bl_set (by (first | omega | (simp; done) | (simp; omega))) ?_ _ | refine bl_alloc (by (first | omega | (simp; done) | (simp; omega))) ?_ _ | refine bl_drewN ?_ _ | refine bl_drew ?_ | refine bl_then (by assumption) ?_ (by (first | omega | (simp; done) | (simp; omega))) | refine Step.bl (by assumption) (by assumption) (by (first | omega | (simp; done) | (simp; omega))) (by (first | omega | (simp; done) | (simp; omega))) ?_))
end Go.Proofs.Ytcaaapfminenoaa
