/- The product of bytes that stay secret, a word's value, the document's inverse. No condition. -/
import Derived.Test.YtdakbejppnijdaaSh
import Derived.Test.YtdakbejppnijdaaLogB
import Derived.Test.YtdakbejppnijdaaArL
namespace Go.Proofs.Ytdakbejppnijdaa
open Go.RowKit
set_option linter.unusedSimpArgs false
set_option linter.unusedVariables false
attribute [local go_sem] IntKind.wrap_u32' signed_u32 max_u32
attribute [local go_sem ↓] Go.wp_at_zero Go.wp_at_succ
attribute [local go_sem] Calm.C
attribute [local go_sem low] Calm.al_cell Calm.al_frozen
attribute [local irreducible] Gf.R Gf.I
set_option maxRecDepth 20000 in
set_option maxHeartbeats 800000 in
theorem rInverse_any (a : Nat) (ha : a < 256) (hl : ∀ b, 1 ≤ b → b < 256 → (Gf.R a b = 1 ↔ (a ≠ 0 ∧ b = Gf.I a))) (h1 : a ≠ 0 → 1 ≤ Gf.I a) (h2 : Gf.I a < 256) (h3 : a = 0 → Gf.I a = 0) (w : World) : Calls Try.prog 84 #[.int .u8 a] w fun e w' => e = .returned (.int .u8 (Gf.I a : Nat)) ∧ w' = w := by
  go_enter Try.func84, Try.ntmps84
  go_wp2_with fail
  go_loopw [3] (fun a3 wr => ∃ m : Nat, 1 ≤ m ∧ m ≤ 256 ∧ (a ≠ 0 → m ≤ Gf.I a) ∧ a3 = .int .i64 m ∧ wr = w) (fun a3 _ => 256 - (intOf a3).toNat)
  case atStart => exact ⟨1, by decide, by decide, h1, rfl, rfl⟩
  case round =>
    obtain ⟨m, hm1, hm2, hmi, rfl, rfl⟩ := hrel
    by_cases h0 : m < 256
    · have L := hl m hm1 h0
      clear hl
      by_cases hr : Gf.R a m = 1
      · obtain ⟨ha0, hE⟩ := L.1 hr
        have hr' := Lib.hid hr
        have hE' := Lib.hid hE
        clear L hr hmi h1 h3 h2 hE
        have F1 : (((Gf.R a m : Nat) : Int) == 1) = true := by rw [hr'.out]; rfl
        go_wp2_with (first | (go_at_call 83; refine (rTimes_any _ _ (by omega) (by omega) _).mono ?_; rintro e w1 ⟨rfl, rfl⟩))
        go_ret
        exact ⟨by rw [← hE'.out]; first | rfl | simp, rfl⟩
      · have F1 : (((Gf.R a m : Nat) : Int) == 1) = false := by simp; omega
        have hne : a ≠ 0 → m ≠ Gf.I a := fun h e => hr (L.2 ⟨h, e⟩)
        clear L hr
        go_wp2_with (first | (go_at_call 83; refine (rTimes_any _ _ (by omega) (by omega) _).mono ?_; rintro e w1 ⟨rfl, rfl⟩))
        refine ⟨⟨m + 1, by omega, by omega, ?_, ?_, trivial⟩, ?_⟩
        · intro h; have := hmi h; have := hne h; omega
        · simp
        · simp [intOf]; omega
    · have hE : Gf.I a = 0 := by
        by_cases hz : a = 0
        · exact h3 hz
        · have := hmi hz; omega
      clear hl h1 h2 h3 hmi
      go_wp2_with fail
      go_ret
      exact ⟨by rw [hE]; rfl, rfl⟩
set_option maxHeartbeats 400000 in
theorem told42_any (a : Int) (w : World) : Calls Try.prog 71 #[.agg #[.int .u32 a]] w fun e w' => e = .returned (.int .u32 a) ∧ Below w.heap.size w w' := by
  go_enter Try.func71, Try.ntmps71
  go_wp2_with fail
  go_region_held3 (fun w' => w'.cell? ⟨w.heap.size, 0, none⟩ = some (.int .u32 a)) ((simp [go_sem, ↓IntWalk.iteOmega, *]; done)) (first | (go_at_call 68; refine (NewLog_any _).mono ?_; rintro e w1 ⟨p1, F1, rfl, hL1, hlow1, hb⟩; obtain ⟨hc, hf⟩ := bcell hb; have hz := hb.size; (try simp only [World.size_alloc, World.size_setCell, World.size_drew] at hz); have hn := foot_new hL1.most hlow1; have hlo := Lib.hid hlow1; clear hlow1; have hbh := Lib.hid hb; clear hb) | (go_at_call 69; refine' Calls.mono (Release_any _ _ _ _ _ ?_ ?_) ?_; rotate_left; rotate_left; (next => ((repeat' (first | assumption | refine Lg.alloc ?_ _ | refine Lg.set_ ?_ (by (intro hfoot; simp [*, ↓IntWalk.iteOmega] at hfoot)) _ | refine Lg.below ?_ (by assumption) | refine Lg.drew ?_ | refine Lg.drewN ?_ _)))); (next => (first | omega | (simp; done) | (simp; omega))); rintro e w1 ⟨rfl, F1, hL1, hs1⟩; obtain ⟨hc, hf, hn⟩ := hs1.rules; have hz := hs1.size; (try simp only [World.size_alloc, World.size_setCell, World.size_drew] at hz); have hsh := Lib.hid hs1; clear hs1))
  go_wp2_with fail
  go_ret
  refine ⟨rfl, ?_⟩
  (repeat' (first | with_reducible exact Below.refl _ _ | with_reducible refine bl_drewN ?_ _ | with_reducible refine bl_drew ?_ | refine bl_set (by (first | omega | (simp; done) | (simp; omega))) ?_ _ | refine bl_alloc (by (first | omega | (simp; done) | (simp; omega))) ?_ _ | refine bl_then (by assumption) ?_ (by (first | omega | (simp; done) | (simp; omega))) | refine Step.bl (by assumption) (by assumption) (by (first | omega | (simp; done) | (simp; omega))) (by (first | omega | (simp; done) | (simp; omega))) ?_))
set_option maxHeartbeats 800000 in
theorem sDouble_any (a : Int) (w : World) : Calls Try.prog 105 #[.agg #[.int .u32 a]] w fun e w' => e = .returned (.agg #[.int .u32 (Sh.double a)]) ∧ Below w.heap.size w w' := by
  unfold Sh.double
  go_enter Try.func105, Try.ntmps105
  go_wp2_with fail
  (refine Calm.go 7 (by kernel_rfl) (by kernel_rfl) (by kernel_rfl) ?_; intro w0 hw0; have hr := Calm.rule hw0; simp only [Calm.heads, Calm.isAlloc]; haveI hnon : Nonempty (Ext (Below w0.heap.size w0)) := ⟨⟨w0, Below.refl _ _⟩⟩; (repeat (go_big_quiet_step (first | (go_at_call 62; exact Ext.calm below_calm (Of_any _ _)) | (go_at_call 104; exact Ext.calm below_calm (Shr_any _ _ _)) | (go_at_call 76; exact Ext.calm below_calm (And_any _ _ _)) | (go_at_call 90; exact Ext.calm below_calm (Sub_any _ _ _))))); refine wpQuiet_nil ?_; clear hnon hr hw0; clear w0; (repeat refine Calm.n_skip rfl ?_); refine Calm.n_new rfl ?_; intro pA1 hpA1 hqA1; (repeat refine Calm.n_skip rfl ?_); refine Calm.n_zero ?_; intro WA hbA hsA; simp only [List.drop_succ_cons, List.drop_zero]; obtain ⟨hcA, hfA⟩ := bcell hbA; (try simp only [World.size_alloc, World.size_setCell, drew_size] at hcA hfA); have hzA := hbA.size; have hbhA := Lib.hid hbA; obtain ⟨hxA1, hyA1, hlA1⟩ := Calm.boxed hsA (p := pA1) (.head _) (by first | exact box_sec | exact box_sec3 | exact box_ust); clear hqA1; clear hsA hbA; (try simp only [World.size_alloc, World.size_setCell, World.size_drew] at hzA hpA1))
  go_wp2_with fail
  (refine Calm.go 8 (by kernel_rfl) (by kernel_rfl) (by kernel_rfl) ?_; intro w0 hw0; have hr := Calm.rule hw0; simp only [Calm.heads, Calm.isAlloc]; haveI hnon : Nonempty (Ext (Below w0.heap.size w0)) := ⟨⟨w0, Below.refl _ _⟩⟩; (repeat (go_big_quiet_step (first | (go_at_call 62; exact Ext.calm below_calm (Of_any _ _)) | (go_at_call 121; exact Ext.calm below_calm (Shl_any _ _ _)) | (go_at_call 76; exact Ext.calm below_calm (And_any _ _ _)) | (go_at_call 82; exact Ext.calm below_calm (Xor_any _ _ _))))); refine wpQuiet_nil ?_; clear hnon hr hw0; clear w0; (repeat refine Calm.n_skip rfl ?_); refine Calm.n_zero ?_; intro WB hbB hsB; simp only [List.drop_succ_cons, List.drop_zero]; obtain ⟨hcB, hfB⟩ := bcell hbB; (try simp only [World.size_alloc, World.size_setCell, drew_size] at hcB hfB); have hzB := hbB.size; have hbhB := Lib.hid hbB; clear hsB hbB; (try simp only [World.size_alloc, World.size_setCell, World.size_drew] at hzB))
  go_wp2
  ((refine ret_sec rfl rfl (World.cell?_setCell_same' _ _ _ ?_) rfl ⟨rfl, ?_⟩) <;> first | (simp [go_sem, ↓IntWalk.iteOmega, *]; done) | ((repeat' (first | with_reducible exact Below.refl _ _ | with_reducible refine bl_drewN ?_ _ | with_reducible refine bl_drew ?_ | refine bl_set (by (first | omega | (simp; done) | (simp; omega))) ?_ _ | refine bl_alloc (by (first | omega | (simp; done) | (simp; omega))) ?_ _ | refine bl_then (by assumption) ?_ (by (first | omega | (simp; done) | (simp; omega))))); done))
attribute [local irreducible] Sh.double Sh.ma Sh.ms
set_option maxHeartbeats 1600000 in
theorem sMul_any (a b : Int) (w : World) : Calls Try.prog 72 #[.agg #[.int .u32 a], .agg #[.int .u32 b]] w fun e w' => e = .returned (.agg #[.int .u32 (Sh.ms a b 8)]) ∧ Below w.heap.size w w' := by
  go_enter Try.func72, Try.ntmps72
  go_wp2_with fail
  (refine Calm.go 6 (by kernel_rfl) (by kernel_rfl) (by kernel_rfl) ?_; intro w0 hw0; have hr := Calm.rule hw0; simp only [Calm.heads, Calm.isAlloc]; haveI hnon : Nonempty (Ext (Below w0.heap.size w0)) := ⟨⟨w0, Below.refl _ _⟩⟩; (repeat (go_big_quiet_step (first | (go_at_call 62; exact Ext.calm below_calm (Of_any _ _)) | (go_at_call 76; exact Ext.calm below_calm (And_any _ _ _))))); refine wpQuiet_nil ?_; clear hnon hr hw0; clear w0; (repeat refine Calm.n_skip rfl ?_); refine Calm.n_zero ?_; intro WA hbA hsA; simp only [List.drop_succ_cons, List.drop_zero]; obtain ⟨hcA, hfA⟩ := bcell hbA; (try simp only [World.size_alloc, World.size_setCell, drew_size] at hcA hfA); have hzA := hbA.size; have hbhA := Lib.hid hbA; clear hsA hbA; (try simp only [World.size_alloc, World.size_setCell, World.size_drew] at hzA))
  go_wp2_with (first | (go_at_call 62; refine (Of_any _ _).mono ?_; rintro e wf ⟨rfl, hb⟩; have hcf_wf := bcell hb; (try simp only [World.size_alloc, World.size_setCell, drew_size] at hcf_wf); have hz_wf := hb.size; (try simp only [World.size_alloc, World.size_setCell, World.size_drew] at hz_wf); have hbh_wf := Lib.hid hb; clear hb; obtain ⟨hc_wf, hf_wf⟩ := hcf_wf))
  go_loopw [15] (fun i wr => ∃ k : Nat, k ≤ 8 ∧ i = .int .i64 k ∧ wr.cell? ⟨w.heap.size, 0, none⟩ = some (.int .u32 (Sh.ma a k)) ∧ wr.cell? ⟨w.heap.size + 1, 0, none⟩ = some (.int .u32 (Ct.And b 255)) ∧ wr.cell? ⟨w.heap.size + 2, 0, none⟩ = some (.int .u32 0) ∧ wr.cell? ⟨wf.heap.size, 0, none⟩ = some (.int .u32 (Sh.ms a b k)) ∧
      wr.frozen? ⟨wf.heap.size, 0, none⟩ = false ∧ wr.frozen? ⟨w.heap.size, 0, none⟩ = false ∧ wr.frozen? ⟨w.heap.size + 1, 0, none⟩ = false ∧ wr.frozen? ⟨w.heap.size + 2, 0, none⟩ = false ∧ wf.heap.size < wr.heap.size ∧ Below w.heap.size w wr) (fun i _ => 8 - (intOf i).toNat)
  case atStart =>
    obtain ⟨hc3, hf3⟩ := Calm.al_rule wf (.cells #[.int .u32 0] 32)
    refine ⟨0, by omega, rfl, ?_, ?_, ?_, ?_, ?_, ?_, ?_, ?_, ?_, ?_⟩
    all_goals first | (simp [go_sem]; done) | (rw [Sh.ms_zero]; simp [go_sem]; done) | (rw [Sh.ma_zero]; simp [go_sem, ↓IntWalk.iteOmega, *]; done) | (rw [Sh.ms_zero]; simp [go_sem, ↓IntWalk.iteOmega, *]; done) | (simp [go_sem, ↓IntWalk.iteOmega, *]; done) | (repeat' (first | with_reducible exact Below.refl _ _ | with_reducible refine bl_drewN ?_ _ | with_reducible refine bl_drew ?_ | refine bl_set (by (first | omega | (simp; done) | (simp; omega))) ?_ _ | refine bl_alloc (by (first | omega | (simp; done) | (simp; omega))) ?_ _ | refine bl_then (by assumption) ?_ (by (first | omega | (simp; done) | (simp; omega))) | refine Step.bl (by assumption) (by assumption) (by (first | omega | (simp; done) | (simp; omega))) (by (first | omega | (simp; done) | (simp; omega))) ?_))
  case round =>
    obtain ⟨k, hk, rfl, hc1, hc2, hc3, hc4, hf1, hf2, hf3, hf4, hlt, hW⟩ := hrel
    have hWs := hW.size
    have HW := Lib.hid hW
    clear hW
    by_cases hkm : k < 8
    · have hd1 := Lib.hid (Sh.ma_succ a k)
      have hd2 := Lib.hid (Sh.ms_succ a b k)
      go_wp2_with fail
      (refine Calm.go 8 (by kernel_rfl) (by kernel_rfl) (by kernel_rfl) ?_; intro w0 hw0; have hr := Calm.rule hw0; simp only [Calm.heads, Calm.isAlloc]; haveI hnon : Nonempty (Ext (Below w0.heap.size w0)) := ⟨⟨w0, Below.refl _ _⟩⟩; (repeat (go_big_quiet_step (first | (go_at_call 62; exact Ext.calm below_calm (Of_any _ _)) | (go_at_call 104; exact Ext.calm below_calm (Shr_any _ _ _)) | (go_at_call 76; exact Ext.calm below_calm (And_any _ _ _)) | (go_at_call 90; exact Ext.calm below_calm (Sub_any _ _ _))))); refine wpQuiet_nil ?_; clear hnon hr hw0; clear w0; (repeat refine Calm.n_skip rfl ?_); refine Calm.n_new rfl ?_; intro pA1 hpA1 hqA1; (repeat refine Calm.n_skip rfl ?_); refine Calm.n_zero ?_; intro WA hbA hsA; simp only [List.drop_succ_cons, List.drop_zero]; obtain ⟨hcA, hfA⟩ := bcell hbA; (try simp only [World.size_alloc, World.size_setCell, drew_size] at hcA hfA); have hzA := hbA.size; have hbhA := Lib.hid hbA; obtain ⟨hxA1, hyA1, hlA1⟩ := Calm.boxed hsA (p := pA1) (.head _) (by first | exact box_sec | exact box_sec3 | exact box_ust); clear hqA1; clear hsA hbA; (try simp only [World.size_alloc, World.size_setCell, World.size_drew] at hzA hpA1))
      go_wp2_with fail
      (refine Calm.go 5 (by kernel_rfl) (by kernel_rfl) (by kernel_rfl) ?_; intro w0 hw0; have hr := Calm.rule hw0; simp only [Calm.heads, Calm.isAlloc]; haveI hnon : Nonempty (Ext (Below w0.heap.size w0)) := ⟨⟨w0, Below.refl _ _⟩⟩; (repeat (go_big_quiet_step (first | (go_at_call 76; exact Ext.calm below_calm (And_any _ _ _)) | (go_at_call 82; exact Ext.calm below_calm (Xor_any _ _ _))))); refine wpQuiet_nil ?_; clear hnon hr hw0; clear w0; (repeat refine Calm.n_skip rfl ?_); refine Calm.n_zero ?_; intro WB hbB hsB; simp only [List.drop_succ_cons, List.drop_zero]; obtain ⟨hcB, hfB⟩ := bcell hbB; (try simp only [World.size_alloc, World.size_setCell, drew_size] at hcB hfB); have hzB := hbB.size; have hbhB := Lib.hid hbB; clear hsB hbB; (try simp only [World.size_alloc, World.size_setCell, World.size_drew] at hzB))
      go_wp2_with (first | (go_at_call 105; refine (sDouble_any _ _).mono ?_; rintro e w1 ⟨rfl, hb⟩; have hcf := bcell hb; (try simp only [World.size_alloc, World.size_setCell, drew_size] at hcf); have hz := hb.size; (try simp only [World.size_alloc, World.size_setCell, World.size_drew] at hz); have hbh := Lib.hid hb; clear hb; obtain ⟨hc, hf⟩ := hcf))
      go_roundw
      case rel =>
        refine ⟨k + 1, by omega, by go_num, ?_, ?_, ?_, ?_, ?_, ?_, ?_, ?_, ?_, ?_⟩
        all_goals first | (rw [hd1.out]; simp [go_sem, ↓IntWalk.iteOmega, *]; done) | (rw [hd2.out]; simp [go_sem, ↓IntWalk.iteOmega, *]; done) | (simp [go_sem, ↓IntWalk.iteOmega, *]; done) | (simp; omega) | (repeat' (first | with_reducible exact Below.refl _ _ | with_reducible refine bl_drewN ?_ _ | with_reducible refine bl_drew ?_ | refine bl_set (by (first | omega | (simp; done) | (simp; omega))) ?_ _ | refine bl_alloc (by (first | omega | (simp; done) | (simp; omega))) ?_ _ | refine bl_then (by assumption) ?_ (by (first | omega | (simp; done) | (simp; omega))) | refine Step.bl (by assumption) (by assumption) (by (first | omega | (simp; done) | (simp; omega))) (by (first | omega | (simp; done) | (simp; omega))) ?_))
      case measure => simp [intOf]; omega
    · have hk8 : k = 8 := by omega
      have hge : 8 ≤ k := by omega
      have hE := Lib.hid (show Sh.ms a b 8 = Sh.ms a b k by rw [hk8])
      clear hk8 hkm
      go_wp2_with fail
      refine ret_sec rfl rfl (World.cell?_setCell_same' _ _ _ ?_) rfl ⟨by rw [hE.out], ?_⟩
      all_goals first | exact ⟨_, hc3⟩ | (simp [hc3]; done) | (repeat' (first | with_reducible exact Below.refl _ _ | with_reducible refine bl_drewN ?_ _ | with_reducible refine bl_drew ?_ | refine bl_set (by (first | omega | (simp; done) | (simp; omega))) ?_ _ | refine bl_alloc (by (first | omega | (simp; done) | (simp; omega))) ?_ _ | refine bl_then (by assumption) ?_ (by (first | omega | (simp; done) | (simp; omega))) | refine Step.bl (by assumption) (by assumption) (by (first | omega | (simp; done) | (simp; omega))) (by (first | omega | (simp; done) | (simp; omega))) ?_))
end Go.Proofs.Ytdakbejppnijdaa
