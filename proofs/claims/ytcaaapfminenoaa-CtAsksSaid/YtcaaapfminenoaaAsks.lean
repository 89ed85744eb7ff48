/- Layer 1: what is asked of two words: the law's call. No condition. -/
import Derived.Test.YtcaaapfminenoaaLaw01
namespace Go.Proofs.Ytcaaapfminenoaa
open Go.RowKit
set_option linter.unusedSimpArgs false
set_option linter.unusedVariables false
attribute [local go_sem] IntKind.wrap_u32' signed_u32 max_u32
attribute [local go_sem ↓] Go.wp_at_zero Go.wp_at_succ
theorem asks_facts (x y m : Nat) (hx : x < 4294967296) (hy : y < 4294967296) (hm : m < 4294967296) : (Ct.Eq x y = Ct.Mask ((x : Int) == (y : Int))) ∧ (Ct.Lt x y = Ct.Mask (decide (x < y))) ∧ (Ct.Zero x = Ct.Mask ((x : Int) == 0)) ∧ (Ct.Sel m x y = Rf.sel m x y) ∧
    (Ct.Sel (Ct.Lt x y) x y = if x < y then (x : Int) else y) ∧ (Ct.Sel (Ct.Lt x y) y x = if x < y then (y : Int) else x) := by
  refine ⟨?_, Ct.lt_nat x y hx hy, ?_, (rsel m x y hm hx hy).symm, ?_, ?_⟩
  · rw [Ct.eq_nat x y hx hy]; congr 1; rw [Bool.eq_iff_iff]; simp; omega
  · rw [Ct.zero_nat x hx]; congr 1; rw [Bool.eq_iff_iff]; simp
  · rw [Ct.lt_nat x y hx hy, Ct.sel_mask _ x y hx hy]
    by_cases h : x < y <;> simp [h]
  · rw [Ct.lt_nat x y hx hy, Ct.sel_mask _ y x hy hx]
    by_cases h : x < y <;> simp [h]
set_option maxRecDepth 10000 in
set_option maxHeartbeats 4000000 in
theorem CtAsks_lt (x y m : Nat) (hx : x < 4294967296) (hy : y < 4294967296) (hm : m < 4294967296) (hlt : x < y) (w : World) : Calls Try.prog 6 #[.int .u32 x, .int .u32 y, .int .u32 m] w fun e w' => e = .returned (.bool true) ∧ Below w.heap.size w w' := by
  obtain ⟨f1, f2, f3, f4, f5, f6⟩ := asks_facts x y m hx hy hm
  have ht : decide (x < y) = true := by simp; omega
  have F1 := Lib.hid f1
  have F8 := Lib.hid f2
  have F3 := Lib.hid f3
  have F4 := Lib.hid f4
  have F2 : Hid (Ct.Lt x y = Ct.Mask true) := by rw [ht] at f2; exact f2
  have F5 : Hid (Ct.Sel (Ct.Lt x y) x y = (x : Int)) := by show _ = _; rw [f5, if_pos hlt]
  have F6 : Hid (Ct.Sel (Ct.Lt x y) y x = (y : Int)) := by show _ = _; rw [f6, if_pos hlt]
  have F7 : Hid (((x : Int) == (y : Int)) = false) := by show _ = _; simp; omega
  clear f1 f2 f3 f4 f5 f6 ht
  go_enter Try.func6, Try.ntmps6
  go_wp2_with (first | (go_at_call 15; refine (awake01_any _).mono ?_; rintro e w1 ⟨rfl, hb⟩; have hcf := bcell hb; have hz := hb.size; (try simp only [World.size_alloc, World.size_setCell, World.size_drew] at hz); have hbh := Lib.hid hb; clear hb; obtain ⟨hc, hf⟩ := hcf) | (go_at_call 16; refine (Of_any _ _).mono ?_; rintro e w1 ⟨rfl, hb⟩; have hcf := bcell hb; have hz := hb.size; (try simp only [World.size_alloc, World.size_setCell, World.size_drew] at hz); have hbh := Lib.hid hb; clear hb; obtain ⟨hc, hf⟩ := hcf))
  obtain ⟨W0, hW0⟩ : ∃ W0, ((w1.alloc (.cells #[.int .u32 x] 26)).alloc (.cells #[.int .u32 y] 26)) = W0 := ⟨_, rfl⟩
  have hs1 : ∀ n : Ext (Below W0.heap.size W0), n.w.cell? ⟨w1.heap.size, 0, none⟩ = some (.int .u32 x) := Ext.rd (by rw [← hW0]; simp [go_sem])
  have hs2 : ∀ n : Ext (Below W0.heap.size W0), n.w.cell? ⟨w1.heap.size + 1, 0, none⟩ = some (.int .u32 y) := Ext.rd (by rw [← hW0]; simp [go_sem])
  have hbw : Hid (Below w.heap.size w W0) := by
    refine Lib.hid ?_
    rw [← hW0]
    (repeat' (first | exact Below.refl _ _ | refine bl_set (by (first | omega | (simp; done) | (simp; omega))) ?_ _ | refine bl_alloc (by (first | omega | (simp; done) | (simp; omega))) ?_ _ | refine bl_drewN ?_ _ | refine bl_drew ?_ | refine bl_then (by assumption) ?_ (by (first | omega | (simp; done) | (simp; omega))) | refine Step.bl (by assumption) (by assumption) (by (first | omega | (simp; done) | (simp; omega))) (by (first | omega | (simp; done) | (simp; omega))) ?_))
  have hws : w.heap.size ≤ W0.heap.size := hbw.out.size
  rw [hW0]
  clear hW0 hc hf
  haveI hne : Nonempty (Ext (Below W0.heap.size W0)) := ⟨⟨W0.drew, below_start _⟩⟩
  refine wp_region_calm (S := Below W0.heap.size W0) (by kernel_rfl) (by kernel_rfl) (below_start _) ?_
  repeat (go_big_quiet_step (first | (go_at_call 16; exact Ext.calm below_calm (Of_any _ _)) | (go_at_call 28; exact Ext.calm below_calm (Eq_any _ _ _)) | (go_at_call 29; exact Ext.calm below_calm (Lt_any _ _ _)) | (go_at_call 30; exact Ext.calm below_calm (Zero_any _ _)) | (go_at_call 31; exact Ext.calm below_calm (Sel_any _ _ _ _)) | (go_at_call 25; exact Ext.calm_same (All_any _ _)) | (go_at_call 32; with_reducible exact Ext.calm below_calm (RSel_any _ _ _ (by omega) (by omega) (by omega) (by omega) (by omega) (by omega) _)) | (go_at_call 17; (refine Ext.calm below_calm (is01_true _ _ _ ?_)); (first | with_reducible exact F1.out | with_reducible exact F2.out | with_reducible exact F3.out | with_reducible exact F4.out | with_reducible exact F5.out | with_reducible exact F6.out | with_reducible exact F8.out | (rw [F1.out, F7.out])))))
  refine wpQuiet_nil ?_
  rintro _ ⟨n, rfl⟩
  have hbn := Lib.hid n.h
  go_wp2_with fail
  go_ret
  exact ⟨rfl, bl_then hbn hbw.out hws⟩
set_option maxRecDepth 10000 in
set_option maxHeartbeats 4000000 in
theorem CtAsks_ge (x y m : Nat) (hx : x < 4294967296) (hy : y < 4294967296) (hm : m < 4294967296) (hlt : y < x) (w : World) : Calls Try.prog 6 #[.int .u32 x, .int .u32 y, .int .u32 m] w fun e w' => e = .returned (.bool true) ∧ Below w.heap.size w w' := by
  obtain ⟨f1, f2, f3, f4, f5, f6⟩ := asks_facts x y m hx hy hm
  have ht : decide (x < y) = false := by simp; omega
  have F1 := Lib.hid f1
  have F8 := Lib.hid f2
  have F3 := Lib.hid f3
  have F4 := Lib.hid f4
  have F2 : Hid (Ct.Lt x y = Ct.Mask false) := by rw [ht] at f2; exact f2
  have F5 : Hid (Ct.Sel (Ct.Lt x y) x y = (y : Int)) := by show _ = _; rw [f5, if_neg (by omega)]
  have F6 : Hid (Ct.Sel (Ct.Lt x y) y x = (x : Int)) := by show _ = _; rw [f6, if_neg (by omega)]
  have F7 : Hid (((x : Int) == (y : Int)) = false) := by show _ = _; simp; omega
  clear f1 f2 f3 f4 f5 f6 ht
  go_enter Try.func6, Try.ntmps6
  go_wp2_with (first | (go_at_call 15; refine (awake01_any _).mono ?_; rintro e w1 ⟨rfl, hb⟩; have hcf := bcell hb; have hz := hb.size; (try simp only [World.size_alloc, World.size_setCell, World.size_drew] at hz); have hbh := Lib.hid hb; clear hb; obtain ⟨hc, hf⟩ := hcf) | (go_at_call 16; refine (Of_any _ _).mono ?_; rintro e w1 ⟨rfl, hb⟩; have hcf := bcell hb; have hz := hb.size; (try simp only [World.size_alloc, World.size_setCell, World.size_drew] at hz); have hbh := Lib.hid hb; clear hb; obtain ⟨hc, hf⟩ := hcf))
  obtain ⟨W0, hW0⟩ : ∃ W0, ((w1.alloc (.cells #[.int .u32 x] 26)).alloc (.cells #[.int .u32 y] 26)) = W0 := ⟨_, rfl⟩
  have hs1 : ∀ n : Ext (Below W0.heap.size W0), n.w.cell? ⟨w1.heap.size, 0, none⟩ = some (.int .u32 x) := Ext.rd (by rw [← hW0]; simp [go_sem])
  have hs2 : ∀ n : Ext (Below W0.heap.size W0), n.w.cell? ⟨w1.heap.size + 1, 0, none⟩ = some (.int .u32 y) := Ext.rd (by rw [← hW0]; simp [go_sem])
  have hbw : Hid (Below w.heap.size w W0) := by
    refine Lib.hid ?_
    rw [← hW0]
    (repeat' (first | exact Below.refl _ _ | refine bl_set (by (first | omega | (simp; done) | (simp; omega))) ?_ _ | refine bl_alloc (by (first | omega | (simp; done) | (simp; omega))) ?_ _ | refine bl_drewN ?_ _ | refine bl_drew ?_ | refine bl_then (by assumption) ?_ (by (first | omega | (simp; done) | (simp; omega))) | refine Step.bl (by assumption) (by assumption) (by (first | omega | (simp; done) | (simp; omega))) (by (first | omega | (simp; done) | (simp; omega))) ?_))
  have hws : w.heap.size ≤ W0.heap.size := hbw.out.size
  rw [hW0]
  clear hW0 hc hf
  haveI hne : Nonempty (Ext (Below W0.heap.size W0)) := ⟨⟨W0.drew, below_start _⟩⟩
  refine wp_region_calm (S := Below W0.heap.size W0) (by kernel_rfl) (by kernel_rfl) (below_start _) ?_
  repeat (go_big_quiet_step (first | (go_at_call 16; exact Ext.calm below_calm (Of_any _ _)) | (go_at_call 28; exact Ext.calm below_calm (Eq_any _ _ _)) | (go_at_call 29; exact Ext.calm below_calm (Lt_any _ _ _)) | (go_at_call 30; exact Ext.calm below_calm (Zero_any _ _)) | (go_at_call 31; exact Ext.calm below_calm (Sel_any _ _ _ _)) | (go_at_call 25; exact Ext.calm_same (All_any _ _)) | (go_at_call 32; with_reducible exact Ext.calm below_calm (RSel_any _ _ _ (by omega) (by omega) (by omega) (by omega) (by omega) (by omega) _)) | (go_at_call 17; (refine Ext.calm below_calm (is01_true _ _ _ ?_)); (first | with_reducible exact F1.out | with_reducible exact F2.out | with_reducible exact F3.out | with_reducible exact F4.out | with_reducible exact F5.out | with_reducible exact F6.out | with_reducible exact F8.out | (rw [F1.out, F7.out])))))
  refine wpQuiet_nil ?_
  rintro _ ⟨n, rfl⟩
  have hbn := Lib.hid n.h
  go_wp2_with fail
  go_ret
  exact ⟨rfl, bl_then hbn hbw.out hws⟩
set_option maxRecDepth 10000 in
set_option maxHeartbeats 4000000 in
theorem CtAsks_eq (x m : Nat) (hx : x < 4294967296) (hm : m < 4294967296)  (w : World) : Calls Try.prog 6 #[.int .u32 x, .int .u32 x, .int .u32 m] w fun e w' => e = .returned (.bool true) ∧ Below w.heap.size w w' := by
  obtain ⟨f1, f2, f3, f4, f5, f6⟩ := asks_facts x x m hx hx hm
  have ht : decide (x < x) = false := by simp
  have F1 := Lib.hid f1
  have F8 := Lib.hid f2
  have F3 := Lib.hid f3
  have F4 := Lib.hid f4
  have F2 : Hid (Ct.Lt x x = Ct.Mask false) := by rw [ht] at f2; exact f2
  have F5 : Hid (Ct.Sel (Ct.Lt x x) x x = (x : Int)) := by show _ = _; rw [f5]; simp
  have F6 : Hid (Ct.Sel (Ct.Lt x x) x x = (x : Int)) := by show _ = _; rw [f6]; simp
  have F7 : Hid (((x : Int) == (x : Int)) = true) := by show _ = _; simp
  clear f1 f2 f3 f4 f5 f6 ht
  go_enter Try.func6, Try.ntmps6
  go_wp2_with (first | (go_at_call 15; refine (awake01_any _).mono ?_; rintro e w1 ⟨rfl, hb⟩; have hcf := bcell hb; have hz := hb.size; (try simp only [World.size_alloc, World.size_setCell, World.size_drew] at hz); have hbh := Lib.hid hb; clear hb; obtain ⟨hc, hf⟩ := hcf) | (go_at_call 16; refine (Of_any _ _).mono ?_; rintro e w1 ⟨rfl, hb⟩; have hcf := bcell hb; have hz := hb.size; (try simp only [World.size_alloc, World.size_setCell, World.size_drew] at hz); have hbh := Lib.hid hb; clear hb; obtain ⟨hc, hf⟩ := hcf))
  obtain ⟨W0, hW0⟩ : ∃ W0, ((w1.alloc (.cells #[.int .u32 x] 26)).alloc (.cells #[.int .u32 x] 26)) = W0 := ⟨_, rfl⟩
  have hs1 : ∀ n : Ext (Below W0.heap.size W0), n.w.cell? ⟨w1.heap.size, 0, none⟩ = some (.int .u32 x) := Ext.rd (by rw [← hW0]; simp [go_sem])
  have hs2 : ∀ n : Ext (Below W0.heap.size W0), n.w.cell? ⟨w1.heap.size + 1, 0, none⟩ = some (.int .u32 x) := Ext.rd (by rw [← hW0]; simp [go_sem])
  have hbw : Hid (Below w.heap.size w W0) := by
    refine Lib.hid ?_
    rw [← hW0]
    (repeat' (first | exact Below.refl _ _ | refine bl_set (by (first | omega | (simp; done) | (simp; omega))) ?_ _ | refine bl_alloc (by (first | omega | (simp; done) | (simp; omega))) ?_ _ | refine bl_drewN ?_ _ | refine bl_drew ?_ | refine bl_then (by assumption) ?_ (by (first | omega | (simp; done) | (simp; omega))) | refine Step.bl (by assumption) (by assumption) (by (first | omega | (simp; done) | (simp; omega))) (by (first | omega | (simp; done) | (simp; omega))) ?_))
  have hws : w.heap.size ≤ W0.heap.size := hbw.out.size
  rw [hW0]
  clear hW0 hc hf
  haveI hne : Nonempty (Ext (Below W0.heap.size W0)) := ⟨⟨W0.drew, below_start _⟩⟩
  refine wp_region_calm (S := Below W0.heap.size W0) (by kernel_rfl) (by kernel_rfl) (below_start _) ?_
  repeat (go_big_quiet_step (first | (go_at_call 16; exact Ext.calm below_calm (Of_any _ _)) | (go_at_call 28; exact Ext.calm below_calm (Eq_any _ _ _)) | (go_at_call 29; exact Ext.calm below_calm (Lt_any _ _ _)) | (go_at_call 30; exact Ext.calm below_calm (Zero_any _ _)) | (go_at_call 31; exact Ext.calm below_calm (Sel_any _ _ _ _)) | (go_at_call 25; exact Ext.calm_same (All_any _ _)) | (go_at_call 32; with_reducible exact Ext.calm below_calm (RSel_any _ _ _ (by omega) (by omega) (by omega) (by omega) (by omega) (by omega) _)) | (go_at_call 17; (refine Ext.calm below_calm (is01_true _ _ _ ?_)); (first | with_reducible exact F1.out | with_reducible exact F2.out | with_reducible exact F3.out | with_reducible exact F4.out | with_reducible exact F5.out | with_reducible exact F6.out | with_reducible exact F8.out | (rw [F1.out, F7.out])))))
  refine wpQuiet_nil ?_
  rintro _ ⟨n, rfl⟩
  have hbn := Lib.hid n.h
  go_wp2_with fail
  go_ret
  exact ⟨rfl, bl_then hbn hbw.out hws⟩
theorem CtAsks_any (x y m : Nat) (hx : x < 4294967296) (hy : y < 4294967296) (hm : m < 4294967296) (w : World) : Calls Try.prog 6 #[.int .u32 x, .int .u32 y, .int .u32 m] w fun e w' => e = .returned (.bool true) ∧ Below w.heap.size w w' := by
  rcases Nat.lt_trichotomy x y with hlt | rfl | hlt
  · exact CtAsks_lt x y m hx hy hm hlt w
  · exact CtAsks_eq x m hx hm w
  · exact CtAsks_ge x y m hx hy hm hlt w
end Go.Proofs.Ytcaaapfminenoaa
