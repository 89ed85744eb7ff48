/- What a table says of a word: spans; the laws' own calls. No condition. -/
import Derived.Test.YtcaaapfminenoaaSkF
import Derived.Test.YtcaaapfminenoaaLogB
namespace Go.Proofs.Ytcaaapfminenoaa
open Go.RowKit
set_option linter.unusedSimpArgs false
set_option linter.unusedVariables false
attribute [local go_sem] IntKind.wrap_u32' signed_u32 max_u32
attribute [local go_sem ↓] Go.wp_at_zero Go.wp_at_succ
attribute [local go_sem] Calm.C
attribute [local go_sem low] Calm.al_cell Calm.al_frozen
set_option maxHeartbeats 800000 in
theorem kIn1_any (a b x : Int) (w : World) : Calls Try.prog 86 #[.agg #[.int .u32 a, .int .u32 b], .agg #[.int .u32 x]] w fun e w' => e = .returned (.agg #[.int .u32 (Sk.inn a b x)]) ∧ Below w.heap.size w w' := by
  unfold Sk.inn
  go_enter Try.func86, Try.ntmps86
  go_wp2_with fail
  (refine Calm.go 12 (by kernel_rfl) (by kernel_rfl) (by kernel_rfl) ?_; intro w0 hw0; have hr := Calm.rule hw0; simp only [Calm.heads, Calm.isAlloc]; haveI hnon : Nonempty (Ext (Below w0.heap.size w0)) := ⟨⟨w0, Below.refl _ _⟩⟩; (repeat (go_big_quiet_step (first | (go_at_call 16; exact Ext.calm below_calm (Of_any _ _)) | (go_at_call 29; exact Ext.calm below_calm (Lt_any _ _ _)) | (go_at_call 22; exact Ext.calm below_calm (Or_any _ _ _)) | (go_at_call 24; exact Ext.calm below_calm (Not_any _ _))))); refine wpQuiet_nil ?_; clear hnon hr hw0; clear w0; (repeat refine Calm.n_skip rfl ?_); refine Calm.n_zero ?_; intro WA hbA hsA; simp only [List.drop_succ_cons, List.drop_zero]; obtain ⟨hcA, hfA⟩ := bcell hbA; (try simp only [World.size_alloc, World.size_setCell, World.size_drew] at hcA hfA); have hzA := hbA.size; have hbhA := Lib.hid hbA; clear hsA hbA; (try simp only [World.size_alloc, World.size_setCell, World.size_drew] at hzA))
  go_wp2
  ((refine ret_sec rfl rfl (World.cell?_setCell_same' _ _ _ ?_) rfl ⟨rfl, ?_⟩) <;> first | (simp [go_sem, ↓IntWalk.iteOmega, *]; done) | ((repeat' (first | exact Below.refl _ _ | refine bl_set (by (first | omega | (simp; done) | (simp; omega))) ?_ _ | refine bl_alloc (by (first | omega | (simp; done) | (simp; omega))) ?_ _ | refine bl_drewN ?_ _ | refine bl_drew ?_ | refine bl_then (by assumption) ?_ (by (first | omega | (simp; done) | (simp; omega))))); done))
attribute [local irreducible] Sk.inn Sk.ins
set_option maxRecDepth 20000 in
set_option maxHeartbeats 1600000 in
theorem kIn_any (w : World) (A : Option Addr) (n c : Nat) (f : Nat → Nat → Int) (h : Tab w A n 2 f) (hn : n ≤ 1000) (x : Int) :
    Calls Try.prog 70 #[.slice A n c, .agg #[.int .u32 x]] w fun e w' => e = .returned (.agg #[.int .u32 (Sk.ins f x n)]) ∧ Below w.heap.size w w' := by
  obtain ⟨B, off, hA⟩ := h.at
  have HA := Lib.hid hA
  clear hA h
  go_enter Try.func70, Try.ntmps70
  go_wp2_with (first | (go_at_call 16; refine (Of_any _ _).mono ?_; rintro e wf ⟨rfl, hb⟩; have hcf_wf := bcell hb; (try simp only [World.size_alloc, World.size_setCell, World.size_drew] at hcf_wf); have hz_wf := hb.size; (try simp only [World.size_alloc, World.size_setCell, World.size_drew] at hz_wf); have hbh_wf := Lib.hid hb; clear hb; obtain ⟨hc_wf, hf_wf⟩ := hcf_wf))
  go_loopw [11] (fun i wr => ∃ k : Nat, k ≤ n ∧ i = .int .i64 k ∧ wr.cell? ⟨w.heap.size, 0, none⟩ = some (.int .u32 x) ∧ wr.cell? ⟨w.heap.size + 1, 0, none⟩ = some (.int .u32 0) ∧
      wr.cell? ⟨wf.heap.size, 0, none⟩ = some (.int .u32 (Sk.ins f x k)) ∧ wr.frozen? ⟨wf.heap.size, 0, none⟩ = false ∧ wr.frozen? ⟨w.heap.size + 1, 0, none⟩ = false ∧ wf.heap.size < wr.heap.size ∧ Below w.heap.size w wr) (fun i _ => n - (intOf i).toNat)
  case atStart =>
    obtain ⟨hc3, hf3⟩ := Calm.al_rule wf (.cells #[.int .u32 0] 26)
    refine ⟨0, by omega, rfl, ?_, ?_, ?_, ?_, ?_, ?_, ?_⟩
    all_goals first | (simp [go_sem]; done) | (rw [Sk.ins_zero]; simp [go_sem]; done) | (simp [go_sem, ↓IntWalk.iteOmega, *]; done) | (repeat' (first | exact Below.refl _ _ | refine bl_set (by (first | omega | (simp; done) | (simp; omega))) ?_ _ | refine bl_alloc (by (first | omega | (simp; done) | (simp; omega))) ?_ _ | refine bl_drewN ?_ _ | refine bl_drew ?_ | refine bl_then (by assumption) ?_ (by (first | omega | (simp; done) | (simp; omega))) | refine Step.bl (by assumption) (by assumption) (by (first | omega | (simp; done) | (simp; omega))) (by (first | omega | (simp; done) | (simp; omega))) ?_))
  case round =>
    obtain ⟨k, hk, rfl, hc1, hc2, hc3, hf1, hf2, hlt, hW⟩ := hrel
    have hWs := hW.size
    by_cases hkm : k < n
    · obtain ⟨rfl, hB, hcell⟩ := HA.out (by omega)
      have g0 : wr.cell? ⟨B, off + k * 2, none⟩ = some (.int .u32 (f k 0)) := (hW.cell (p := ⟨B, off + k * 2, none⟩) hB).trans (hcell k 0 hkm (by decide))
      have g1 : wr.cell? ⟨B, off + k * 2 + 1, none⟩ = some (.int .u32 (f k 1)) := (hW.cell (p := ⟨B, off + k * 2 + 1, none⟩) hB).trans (hcell k 1 hkm (by decide))
      have hd1 := Lib.hid (Sk.ins_succ f x k)
      have HW := Lib.hid hW
      clear hW hcell
      go_wp2_with fail
      (refine Calm.go 5 (by kernel_rfl) (by kernel_rfl) (by kernel_rfl) ?_; intro w0 hw0; have hr := Calm.rule hw0; simp only [Calm.heads, Calm.isAlloc]; haveI hnon : Nonempty (Ext (Below w0.heap.size w0)) := ⟨⟨w0, Below.refl _ _⟩⟩; (repeat (go_big_quiet_step (first | (go_at_call 86; exact Ext.calm below_calm (kIn1_any _ _ _ _)) | (go_at_call 22; exact Ext.calm below_calm (Or_any _ _ _))))); refine wpQuiet_nil ?_; clear hnon hr hw0; clear w0; (repeat refine Calm.n_skip rfl ?_); refine Calm.n_zero ?_; intro WA hbA hsA; simp only [List.drop_succ_cons, List.drop_zero]; obtain ⟨hcA, hfA⟩ := bcell hbA; (try simp only [World.size_alloc, World.size_setCell, World.size_drew] at hcA hfA); have hzA := hbA.size; have hbhA := Lib.hid hbA; clear hsA hbA; (try simp only [World.size_alloc, World.size_setCell, World.size_drew] at hzA))
      go_wp2_with fail
      go_roundw
      case rel =>
        refine ⟨k + 1, by omega, by go_num, ?_, ?_, ?_, ?_, ?_, ?_, ?_⟩
        all_goals first | (rw [hd1.out]; simp [go_sem, ↓IntWalk.iteOmega, *]; done) | (simp [go_sem, ↓IntWalk.iteOmega, *]; done) | (simp; omega) | (repeat' (first | exact Below.refl _ _ | refine bl_set (by (first | omega | (simp; done) | (simp; omega))) ?_ _ | refine bl_alloc (by (first | omega | (simp; done) | (simp; omega))) ?_ _ | refine bl_drewN ?_ _ | refine bl_drew ?_ | refine bl_then (by assumption) ?_ (by (first | omega | (simp; done) | (simp; omega))) | refine Step.bl (by assumption) (by assumption) (by (first | omega | (simp; done) | (simp; omega))) (by (first | omega | (simp; done) | (simp; omega))) ?_))
      case measure => simp [intOf]; omega
    · have hge : n ≤ k := by omega
      have hE := Lib.hid (show k = n by omega)
      have HW := Lib.hid hW
      clear hW
      go_wp2_with fail
      refine ret_sec rfl rfl (World.cell?_setCell_same' _ _ _ ?_) rfl ⟨by rw [hE.out], ?_⟩
      all_goals first | exact ⟨_, hc2⟩ | (simp [hc2]; done) | (repeat' (first | exact Below.refl _ _ | refine bl_set (by (first | omega | (simp; done) | (simp; omega))) ?_ _ | refine bl_alloc (by (first | omega | (simp; done) | (simp; omega))) ?_ _ | refine bl_drewN ?_ _ | refine bl_drew ?_ | refine bl_then (by assumption) ?_ (by (first | omega | (simp; done) | (simp; omega))) | refine Step.bl (by assumption) (by assumption) (by (first | omega | (simp; done) | (simp; omega))) (by (first | omega | (simp; done) | (simp; omega))) ?_))
set_option maxHeartbeats 400000 in
theorem is06_any (a v : Int) (w : World) : Calls Try.prog 51 #[.agg #[.int .u32 a], .int .u32 v] w fun e w' => e = .returned (.bool (a == v)) ∧ Below w.heap.size w w' := by
  go_enter Try.func51, Try.ntmps51
  go_wp2_with fail
  go_region_held3 (fun w' => w'.cell? ⟨w.heap.size, 0, none⟩ = some (.int .u32 a)) ((simp [go_sem, ↓IntWalk.iteOmega, *]; done)) (first | (go_at_call 38; refine (NewLog_any _).mono ?_; rintro e w1 ⟨p1, F1, rfl, hL1, hlow1, hb⟩; obtain ⟨hc, hf⟩ := bcell hb; have hz := hb.size; (try simp only [World.size_alloc, World.size_setCell, World.size_drew] at hz); have hn := foot_new hL1.most hlow1; have hlo := Lib.hid hlow1; clear hlow1; have hbh := Lib.hid hb; clear hb) | (go_at_call 43; refine' Calls.mono (Release_any _ _ _ _ _ ?_ ?_) ?_; rotate_left; rotate_left; (next => ((repeat' (first | assumption | refine Lg.alloc ?_ _ | refine Lg.set_ ?_ (by (intro hfoot; simp [*, ↓IntWalk.iteOmega] at hfoot)) _ | refine Lg.below ?_ (by assumption) | refine Lg.drew ?_ | refine Lg.drewN ?_ _)))); (next => (first | omega | (simp; done) | (simp; omega))); rintro e w1 ⟨rfl, F1, hL1, hs1⟩; obtain ⟨hc, hf, hn⟩ := hs1.rules; have hz := hs1.size; (try simp only [World.size_alloc, World.size_setCell, World.size_drew] at hz); have hsh := Lib.hid hs1; clear hs1))
  go_wp2_with fail
  go_ret
  refine ⟨rfl, ?_⟩
  (repeat' (first | exact Below.refl _ _ | refine bl_set (by (first | omega | (simp; done) | (simp; omega))) ?_ _ | refine bl_alloc (by (first | omega | (simp; done) | (simp; omega))) ?_ _ | refine bl_drewN ?_ _ | refine bl_drew ?_ | refine bl_then (by assumption) ?_ (by (first | omega | (simp; done) | (simp; omega))) | refine Step.bl (by assumption) (by assumption) (by (first | omega | (simp; done) | (simp; omega))) (by (first | omega | (simp; done) | (simp; omega))) ?_))
theorem is06_true (a v : Int) (w : World) (h : a = v) : Calls Try.prog 51 #[.agg #[.int .u32 a], .int .u32 v] w fun e w' => e = .returned (.bool true) ∧ Below w.heap.size w w' :=
  (is06_any a v w).mono fun e w' ⟨he, hb⟩ => ⟨by rw [he, h]; simp, hb⟩
/-! ### awake -/
def awK (i _c : Nat) : Int := if i = 0 then 4 else 7
def awF (i c : Nat) : Int := if i = 0 then (if c = 0 then 1 else 2) else (if c = 0 then 3 else 4)
def awS (_i c : Nat) : Int := if c = 0 then 5 else 9
theorem aw06 : Sk.ff 7 (fun i => awK i 0) 2 = 4294967295 ∧ Sk.fo 7 (fun i => awK i 0) 2 (Sk.wid 2 fun _ => 2) (fun _ => 2) awF 2 0 = 3 ∧ Sk.fo 7 (fun i => awK i 0) 2 (Sk.wid 2 fun _ => 2) (fun _ => 2) awF 2 1 = 4 ∧ Sk.ins awS 7 1 = 4294967295 := by decide +kernel
theorem kFindA (w : World) (k0 r0 : Nat) (A0 A1 : Nat) (h0 : w.cell? ⟨k0, 0, none⟩ = some (.int .u32 4)) (h1 : w.cell? ⟨k0, 1, none⟩ = some (.int .u32 7)) (h2 : w.cell? ⟨r0, 0, none⟩ = some (.slice (some ⟨A0, 0, none⟩) 2 2)) (h3 : w.cell? ⟨r0, 1, none⟩ = some (.slice (some ⟨A1, 0, none⟩) 2 2))
    (h4 : w.cell? ⟨A0, 0, none⟩ = some (.int .u32 1)) (h5 : w.cell? ⟨A0, 1, none⟩ = some (.int .u32 2)) (h6 : w.cell? ⟨A1, 0, none⟩ = some (.int .u32 3)) (h7 : w.cell? ⟨A1, 1, none⟩ = some (.int .u32 4)) :
    Calls Try.prog 49 #[.agg #[.slice (some ⟨k0, 0, none⟩) 2 2, .slice (some ⟨r0, 0, none⟩) 2 2], .agg #[.int .u32 7]] w fun e w' => ∃ g, e = .returned (.tuple #[.slice (some ⟨g, 0, none⟩) 2 2, .agg #[.int .u32 4294967295]]) ∧
      w.heap.size ≤ g ∧ g < w'.heap.size ∧ w'.cell? ⟨g, 0, none⟩ = some (.int .u32 3) ∧ w'.cell? ⟨g, 1, none⟩ = some (.int .u32 4) ∧ Below w.heap.size w w' := by
  have hK : Tab w (some ⟨k0, 0, none⟩) 2 1 awK := fun _ => ⟨k0, 0, rfl, World.block_lt_of_cell? w _ h0, fun i c hi hc => by
    obtain rfl : c = 0 := by omega
    rcases (by omega : i = 0 ∨ i = 1) with rfl | rfl
    · exact h0
    · exact h1⟩
  have hR : Rowz w (some ⟨r0, 0, none⟩) 2 (fun _ => 2) awF r0 0 (fun i => some ⟨if i = 0 then A0 else A1, 0, none⟩) (fun _ => 2) := {
    at_ := fun _ => ⟨rfl, World.block_lt_of_cell? w _ h2⟩
    cell := fun i hi => by
      rcases (by omega : i = 0 ∨ i = 1) with rfl | rfl
      · exact h2
      · exact h3
    cap := fun _ _ => Nat.le_refl _
    row := fun i hi _ => by
      rcases (by omega : i = 0 ∨ i = 1) with rfl | rfl
      · refine ⟨A0, 0, rfl, World.block_lt_of_cell? w _ h4, fun c hc => ?_⟩
        rcases (by omega : c = 0 ∨ c = 1) with rfl | rfl
        · exact h4
        · exact h5
      · refine ⟨A1, 0, rfl, World.block_lt_of_cell? w _ h6, fun c hc => ?_⟩
        rcases (by omega : c = 0 ∨ c = 1) with rfl | rfl
        · exact h6
        · exact h7 }
  refine (kFind_any w _ _ 2 2 2 2 awK (fun _ => 2) awF hK r0 0 _ _ hR (by decide) (by decide) (by decide) 7).mono ?_
  rintro e w' ⟨g, he, hg1, hg2, hc, hb⟩
  have c0 := hc 0 (by decide)
  have c1 := hc 1 (by decide)
  rw [aw06.2.1] at c0
  rw [aw06.2.2.1] at c1
  rw [aw06.1] at he
  exact ⟨g, he, hg1, hg2, c0, c1, hb⟩
theorem kInA (w : World) (k0 : Nat) (h0 : w.cell? ⟨k0, 0, none⟩ = some (.int .u32 5)) (h1 : w.cell? ⟨k0, 1, none⟩ = some (.int .u32 9)) :
    Calls Try.prog 70 #[.slice (some ⟨k0, 0, none⟩) 1 1, .agg #[.int .u32 7]] w fun e w' => e = .returned (.agg #[.int .u32 4294967295]) ∧ Below w.heap.size w w' := by
  have hK : Tab w (some ⟨k0, 0, none⟩) 1 2 awS := fun _ => ⟨k0, 0, rfl, World.block_lt_of_cell? w _ h0, fun i c hi hc => by
    obtain rfl : i = 0 := by omega
    rcases (by omega : c = 0 ∨ c = 1) with rfl | rfl
    · exact h0
    · exact h1⟩
  refine (kIn_any w _ 1 1 awS hK (by decide) 7).mono ?_
  rintro e w' ⟨he, hb⟩
  rw [aw06.2.2.2] at he
  exact ⟨he, hb⟩
set_option maxRecDepth 20000 in
set_option maxHeartbeats 1600000 in
theorem awake06_any (w : World) : Calls Try.prog 48 #[] w fun e w' => e = .returned (.bool true) ∧ Below w.heap.size w w' := by
  go_enter Try.func48, Try.ntmps48
  go_wp2_with (first | (go_at_call 49; refine (kFindA _ w.heap.size (w.heap.size + 1 + 1 + 1) (w.heap.size + 1) (w.heap.size + 1 + 1) (by simp [go_sem, ↓IntWalk.iteOmega, *]) (by simp [go_sem, ↓IntWalk.iteOmega, *]) (by simp [go_sem, ↓IntWalk.iteOmega, *]) (by simp [go_sem, ↓IntWalk.iteOmega, *]) (by simp [go_sem, ↓IntWalk.iteOmega, *]) (by simp [go_sem, ↓IntWalk.iteOmega, *]) (by simp [go_sem, ↓IntWalk.iteOmega, *]) (by simp [go_sem, ↓IntWalk.iteOmega, *])).mono ?_; rintro e wj ⟨g, rfl, hg1, hg2, hx0, hx1, hb⟩; have hcf_j := bcell hb; have hz_j := hb.size; (try simp only [World.size_alloc, World.size_setCell, World.size_drew] at hz_j hg1 hcf_j); have hbh_j := Lib.hid hb; clear hb; obtain ⟨hc_j, hf_j⟩ := hcf_j) | (go_at_call 70; refine (kInA _ _ (by simp [go_sem, ↓IntWalk.iteOmega, *]) (by simp [go_sem, ↓IntWalk.iteOmega, *])).mono ?_; rintro e wk ⟨rfl, hb⟩; have hcf_k := bcell hb; have hz_k := hb.size; (try simp only [World.size_alloc, World.size_setCell, World.size_drew] at hz_k hcf_k); have hbh_k := Lib.hid hb; clear hb; obtain ⟨hc_k, hf_k⟩ := hcf_k) | first | (go_at_call 16; refine (Of_any _ _).mono ?_; rintro e w1 ⟨rfl, hb⟩; have hcf := bcell hb; (try simp only [World.size_alloc, World.size_setCell, World.size_drew] at hcf); have hz := hb.size; (try simp only [World.size_alloc, World.size_setCell, World.size_drew] at hz); have hbh := Lib.hid hb; clear hb; obtain ⟨hc, hf⟩ := hcf) | (go_at_call 51; refine' Calls.mono (is06_true _ _ _ ?_) ?_; (next => (rfl)); rintro e w1 ⟨rfl, hb⟩; have hcf := bcell hb; (try simp only [World.size_alloc, World.size_setCell, World.size_drew] at hcf); have hz := hb.size; (try simp only [World.size_alloc, World.size_setCell, World.size_drew] at hz); have hbh := Lib.hid hb; clear hb; obtain ⟨hc, hf⟩ := hcf))
  go_ret
  refine ⟨rfl, ?_⟩
  (repeat' (first | exact Below.refl _ _ | refine bl_set (by (first | omega | (simp; done) | (simp; omega))) ?_ _ | refine bl_alloc (by (first | omega | (simp; done) | (simp; omega))) ?_ _ | refine bl_drewN ?_ _ | refine bl_drew ?_ | refine bl_then (by assumption) ?_ (by (first | omega | (simp; done) | (simp; omega))) | refine Step.bl (by assumption) (by assumption) (by (first | omega | (simp; done) | (simp; omega))) (by (first | omega | (simp; done) | (simp; omega))) ?_))
end Go.Proofs.Ytcaaapfminenoaa
