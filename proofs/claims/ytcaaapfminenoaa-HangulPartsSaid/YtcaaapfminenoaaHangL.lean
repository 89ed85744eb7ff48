/- HangulJoins: the law's call. No condition. -/
import Derived.Test.YtcaaapfminenoaaHangJ
import Derived.Test.YtcaaapfminenoaaHangP
import Derived.Test.YtcaaapfminenoaaLog
import Derived.Test.YtcaaapfminenoaaRef01
namespace Go.Proofs.Ytcaaapfminenoaa
open Go.RowKit
set_option linter.unusedSimpArgs false
set_option linter.unusedVariables false
attribute [local go_sem] IntKind.wrap_u32' signed_u32 max_u32
attribute [local go_sem ↓] Go.wp_at_zero Go.wp_at_succ
attribute [local go_sem] Calm.C
attribute [local go_sem low] Calm.al_cell Calm.al_frozen
attribute [local irreducible] Hg.dx Hg.dq Hg.tsum Hg.times Hg.Part Hg.l Hg.v Hg.t Hg.is Hg.join Hg.ok
set_option maxHeartbeats 400000 in
theorem is11_any (a v : Int) (w : World) : Calls Try.prog 57 #[.agg #[.int .u32 a], .int .u32 v] w fun e w' => e = .returned (.bool (a == v)) ∧ Below w.heap.size w w' := by
  go_enter Try.func57, Try.ntmps57
  go_wp2_with fail
  go_region_held3 (fun w' => w'.cell? ⟨w.heap.size, 0, none⟩ = some (.int .u32 a)) ((simp [go_sem, ↓IntWalk.iteOmega, *]; done)) (first | (go_at_call 38; refine (NewLog_any _).mono ?_; rintro e w1 ⟨p1, F1, rfl, hL1, hlow1, hb⟩; obtain ⟨hc, hf⟩ := bcell hb; have hz := hb.size; (try simp only [World.size_alloc, World.size_setCell, World.size_drew] at hz); have hn := foot_new hL1.most hlow1; have hlo := Lib.hid hlow1; clear hlow1; have hbh := Lib.hid hb; clear hb) | (go_at_call 43; refine' Calls.mono (Release_any _ _ _ _ _ ?_ ?_) ?_; rotate_left; rotate_left; (next => ((repeat' (first | assumption | refine Lg.alloc ?_ _ | refine Lg.set_ ?_ (by (intro hfoot; simp [*, ↓IntWalk.iteOmega] at hfoot)) _ | refine Lg.below ?_ (by assumption) | refine Lg.drew ?_ | refine Lg.drewN ?_ _)))); (next => (first | omega | (simp; done) | (simp; omega))); rintro e w1 ⟨rfl, F1, hL1, hs1⟩; obtain ⟨hc, hf, hn⟩ := hs1.rules; have hz := hs1.size; (try simp only [World.size_alloc, World.size_setCell, World.size_drew] at hz); have hsh := Lib.hid hs1; clear hs1))
  go_wp2_with fail
  go_ret
  refine ⟨rfl, ?_⟩
  (repeat' (first | exact Below.refl _ _ | refine bl_set (by (first | omega | (simp; done) | (simp; omega))) ?_ _ | refine bl_alloc (by (first | omega | (simp; done) | (simp; omega))) ?_ _ | refine bl_drewN ?_ _ | refine bl_drew ?_ | refine bl_then (by assumption) ?_ (by (first | omega | (simp; done) | (simp; omega))) | refine Step.bl (by assumption) (by assumption) (by (first | omega | (simp; done) | (simp; omega))) (by (first | omega | (simp; done) | (simp; omega))) ?_))
theorem is11_true (a v : Int) (w : World) (h : a = v) : Calls Try.prog 57 #[.agg #[.int .u32 a], .int .u32 v] w fun e w' => e = .returned (.bool true) ∧ Below w.heap.size w w' :=
  (is11_any a v w).mono fun e w' ⟨he, hb⟩ => ⟨by rw [he, h]; simp, hb⟩
set_option maxHeartbeats 400000 in
theorem rIs_any (p : Int) (w : World) : Calls Try.prog 66 #[.int .u32 p] w fun e w' => e = .returned (.bool (decide (44032 ≤ p ∧ p ≤ 55203))) ∧ w = w' := by
  by_cases h1 : 44032 ≤ p
  · by_cases h2 : p ≤ 55203
    · have h3 : decide (44032 ≤ p ∧ p ≤ 55203) = true := by simp [h1, h2]
      rw [h3]
      go_enter Try.func66, Try.ntmps66
      go_wp2
      go_ret
      exact ⟨rfl, rfl⟩
    · have h3 : decide (44032 ≤ p ∧ p ≤ 55203) = false := by simp [h2]
      rw [h3]
      have h2 : 55203 < p := by omega
      go_enter Try.func66, Try.ntmps66
      go_wp2
      go_ret
      exact ⟨rfl, rfl⟩
  · have h3 : decide (44032 ≤ p ∧ p ≤ 55203) = false := by simp [h1]
    rw [h3]
    have h1 : p < 44032 := by omega
    go_enter Try.func66, Try.ntmps66
    go_wp2
    go_ret
    exact ⟨rfl, rfl⟩
theorem aw_facts : Hid (Hg.l 44033 = 4352) ∧ Hid (Hg.v 44033 = 4449) ∧ Hid (Hg.t 44033 = 4520) ∧ Hid (Hg.is 44033 = 4294967295) := by
  refine ⟨?_, ?_, ?_, ?_⟩ <;> show _ = _
  · exact (Hg.l_nat 44033 (by decide)).trans (by decide)
  · exact (Hg.v_nat 44033 (by decide)).trans (by decide)
  · exact (Hg.t_nat 44033 (by decide)).trans (by decide)
  · exact (Hg.is_nat 44033 (by decide)).trans (by decide)
set_option maxHeartbeats 400000 in
theorem hSpans_any (w : World) : Calls Try.prog 80 #[] w fun e w' => ∃ g, e = .returned (.slice (some ⟨g, 0, none⟩) 1 1) ∧ cellX w' g 0 = some (.int .u32 44032) ∧ cellX w' g 1 = some (.int .u32 55203) ∧ w.heap.size ≤ g ∧ g < w'.heap.size ∧ Below w.heap.size w w' := by
  go_enter Try.func80, Try.ntmps80
  go_wp2
  go_ret
  refine ⟨_, rfl, ?_, ?_, Nat.le_refl _, ?_, ?_⟩
  · show World.cell? _ _ = _; simp [go_sem]
  · show World.cell? _ _ = _; simp [go_sem]
  · simp
  · (repeat' (first | exact Below.refl _ _ | refine bl_set (by (first | omega | (simp; done) | (simp; omega))) ?_ _ | refine bl_alloc (by (first | omega | (simp; done) | (simp; omega))) ?_ _ | refine bl_drewN ?_ _ | refine bl_drew ?_ | refine bl_then (by assumption) ?_ (by (first | omega | (simp; done) | (simp; omega))) | refine Step.bl (by assumption) (by assumption) (by (first | omega | (simp; done) | (simp; omega))) (by (first | omega | (simp; done) | (simp; omega))) ?_))
set_option maxRecDepth 10000 in
set_option maxHeartbeats 1000000 in
theorem awake11_any (w : World) : Calls Try.prog 54 #[] w fun e w' => e = .returned (.bool true) ∧ Below w.heap.size w w' := by
  obtain ⟨F1, F2, F3, F4⟩ := aw_facts
  go_enter Try.func54, Try.ntmps54
  go_wp2_with (first | (go_at_call 16; refine (Of_any _ _).mono ?_; rintro e w1 ⟨rfl, hb⟩; have hcf := bcell hb; (try simp only [World.size_alloc, World.size_setCell, World.size_drew] at hcf); have hz := hb.size; (try simp only [World.size_alloc, World.size_setCell, World.size_drew] at hz); have hbh := Lib.hid hb; clear hb; obtain ⟨hc, hf⟩ := hcf) | (go_at_call 65; refine (hParts_any _ _).mono ?_; rintro e w1 ⟨rfl, hb⟩; have hcf := bcell hb; (try simp only [World.size_alloc, World.size_setCell, World.size_drew] at hcf); have hz := hb.size; (try simp only [World.size_alloc, World.size_setCell, World.size_drew] at hz); have hbh := Lib.hid hb; clear hb; obtain ⟨hc, hf⟩ := hcf) | (go_at_call 57; refine' Calls.mono (is11_true _ _ _ ?_) ?_; (next => ((first | with_reducible exact F1.out | with_reducible exact F2.out | with_reducible exact F3.out | with_reducible exact F4.out))); rintro e w1 ⟨rfl, hb⟩; have hcf := bcell hb; (try simp only [World.size_alloc, World.size_setCell, World.size_drew] at hcf); have hz := hb.size; (try simp only [World.size_alloc, World.size_setCell, World.size_drew] at hz); have hbh := Lib.hid hb; clear hb; obtain ⟨hc, hf⟩ := hcf) | (go_at_call 80; refine (hSpans_any _).mono ?_; rintro e w1 ⟨g, rfl, hx0, hx1, hg1, hg2, hb⟩; have hcf := bcell hb; have hz := hb.size; (try simp only [World.size_alloc, World.size_setCell, World.size_drew] at hz hg1 hcf); have hbh := Lib.hid hb; clear hb; obtain ⟨hc, hf⟩ := hcf))
  go_ret
  refine ⟨rfl, ?_⟩
  (repeat' (first | exact Below.refl _ _ | refine bl_set (by (first | omega | (simp; done) | (simp; omega))) ?_ _ | refine bl_alloc (by (first | omega | (simp; done) | (simp; omega))) ?_ _ | refine bl_drewN ?_ _ | refine bl_drew ?_ | refine bl_then (by assumption) ?_ (by (first | omega | (simp; done) | (simp; omega))) | refine Step.bl (by assumption) (by assumption) (by (first | omega | (simp; done) | (simp; omega))) (by (first | omega | (simp; done) | (simp; omega))) ?_))
theorem rIs_t (p : Int) (h : 44032 ≤ p) (h' : p ≤ 55203) (w : World) : Calls Try.prog 66 #[.int .u32 p] w fun e w' => e = .returned (.bool true) ∧ w = w' :=
  (rIs_any p w).mono fun e w' ⟨he, hw⟩ => ⟨by rw [he]; simp [h, h'], hw⟩
theorem rIs_f (p : Int) (h : p < 44032 ∨ 55203 < p) (w : World) : Calls Try.prog 66 #[.int .u32 p] w fun e w' => e = .returned (.bool false) ∧ w = w' :=
  (rIs_any p w).mono fun e w' ⟨he, hw⟩ => ⟨by rw [he]; simp; omega, hw⟩
set_option maxRecDepth 20000 in
set_option maxHeartbeats 800000 in
theorem rJoin_L1 (a b : Nat) (ha : a < 4294967296) (hb : b < 4294967296) (h1 : (a : Int) < 4352) (w : World) : Calls Try.prog 56 #[.int .u32 a, .int .u32 b] w fun e w' => e = .returned (.int .u32 0) ∧ w = w' := by
  go_enter Try.func56, Try.ntmps56
  go_wp2_with (first | (go_at_call 66; refine (rIs_t _ (by omega) (by omega) _).mono ?_; rintro e w1 ⟨rfl, rfl⟩) | (go_at_call 66; refine (rIs_f _ (by omega) _).mono ?_; rintro e w1 ⟨rfl, rfl⟩))
  go_ret
  exact ⟨rfl, rfl⟩
set_option maxRecDepth 20000 in
set_option maxHeartbeats 800000 in
theorem rJoin_L2 (a b : Nat) (ha : a < 4294967296) (hb : b < 4294967296) (h1 : 4352 ≤ (a : Int)) (h2 : (a : Int) < 4371) (h3 : (b : Int) < 4449) (w : World) : Calls Try.prog 56 #[.int .u32 a, .int .u32 b] w fun e w' => e = .returned (.int .u32 0) ∧ w = w' := by
  go_enter Try.func56, Try.ntmps56
  go_wp2_with (first | (go_at_call 66; refine (rIs_t _ (by omega) (by omega) _).mono ?_; rintro e w1 ⟨rfl, rfl⟩) | (go_at_call 66; refine (rIs_f _ (by omega) _).mono ?_; rintro e w1 ⟨rfl, rfl⟩))
  go_ret
  exact ⟨rfl, rfl⟩
set_option maxRecDepth 20000 in
set_option maxHeartbeats 800000 in
theorem rJoin_L3 (a b : Nat) (ha : a < 4294967296) (hb : b < 4294967296) (h1 : 4352 ≤ (a : Int)) (h2 : (a : Int) < 4371) (h3 : 4470 ≤ (b : Int)) (w : World) : Calls Try.prog 56 #[.int .u32 a, .int .u32 b] w fun e w' => e = .returned (.int .u32 0) ∧ w = w' := by
  go_enter Try.func56, Try.ntmps56
  go_wp2_with (first | (go_at_call 66; refine (rIs_t _ (by omega) (by omega) _).mono ?_; rintro e w1 ⟨rfl, rfl⟩) | (go_at_call 66; refine (rIs_f _ (by omega) _).mono ?_; rintro e w1 ⟨rfl, rfl⟩))
  go_ret
  exact ⟨rfl, rfl⟩
set_option maxRecDepth 20000 in
set_option maxHeartbeats 800000 in
theorem rJoin_L4 (a b : Nat) (ha : a < 4294967296) (hb : b < 4294967296) (h1 : 4371 ≤ (a : Int)) (h2 : (a : Int) < 44032) (w : World) : Calls Try.prog 56 #[.int .u32 a, .int .u32 b] w fun e w' => e = .returned (.int .u32 0) ∧ w = w' := by
  have g1 : decide (4352 ≤ (a : Int)) = true := by simp; omega
  have g2 : decide ((a : Int) < 4371) = false := by simp; omega
  have H2 := Lib.hid h2
  clear h1 h2
  go_enter Try.func56, Try.ntmps56
  go_wp2_with ((go_at_call 66; refine (rIs_f _ (.inl H2.out) _).mono ?_; rintro e w1 ⟨rfl, rfl⟩))
  go_ret
  exact ⟨rfl, rfl⟩
set_option maxRecDepth 20000 in
set_option maxHeartbeats 800000 in
theorem rJoin_L5 (a b : Nat) (ha : a < 4294967296) (hb : b < 4294967296) (h1 : 55203 < (a : Int)) (w : World) : Calls Try.prog 56 #[.int .u32 a, .int .u32 b] w fun e w' => e = .returned (.int .u32 0) ∧ w = w' := by
  go_enter Try.func56, Try.ntmps56
  go_wp2_with (first | (go_at_call 66; refine (rIs_t _ (by omega) (by omega) _).mono ?_; rintro e w1 ⟨rfl, rfl⟩) | (go_at_call 66; refine (rIs_f _ (by omega) _).mono ?_; rintro e w1 ⟨rfl, rfl⟩))
  go_ret
  exact ⟨rfl, rfl⟩
set_option maxRecDepth 20000 in
set_option maxHeartbeats 800000 in
theorem rJoin_L6 (a b : Nat) (h1 : 44032 ≤ (a : Int)) (h2 : (a : Int) ≤ 55203) (h3 : ¬ ((a : Int) - 44032) % 28 = 0) (w : World) : Calls Try.prog 56 #[.int .u32 a, .int .u32 b] w fun e w' => e = .returned (.int .u32 0) ∧ w = w' := by
  have hs : ((a : Int) - 44032) % 4294967296 = (a : Int) - 44032 := by omega
  go_enter Try.func56, Try.ntmps56
  go_wp2_with (first | (go_at_call 66; refine (rIs_t _ (by omega) (by omega) _).mono ?_; rintro e w1 ⟨rfl, rfl⟩) | (go_at_call 66; refine (rIs_f _ (by omega) _).mono ?_; rintro e w1 ⟨rfl, rfl⟩))
  go_ret
  exact ⟨rfl, rfl⟩
set_option maxRecDepth 20000 in
set_option maxHeartbeats 800000 in
theorem rJoin_L7 (a b : Nat) (h1 : 44032 ≤ (a : Int)) (h2 : (a : Int) ≤ 55203) (h3 : ((a : Int) - 44032) % 28 = 0) (h4 : (b : Int) < 4520) (w : World) : Calls Try.prog 56 #[.int .u32 a, .int .u32 b] w fun e w' => e = .returned (.int .u32 0) ∧ w = w' := by
  have hs : ((a : Int) - 44032) % 4294967296 = (a : Int) - 44032 := by omega
  have g1 : decide (4520 ≤ (b : Int)) = false := by simp; omega
  clear h4
  go_enter Try.func56, Try.ntmps56
  go_wp2_with (first | (go_at_call 66; refine (rIs_t _ (by omega) (by omega) _).mono ?_; rintro e w1 ⟨rfl, rfl⟩) | (go_at_call 66; refine (rIs_f _ (by omega) _).mono ?_; rintro e w1 ⟨rfl, rfl⟩))
  go_ret
  exact ⟨rfl, rfl⟩
set_option maxRecDepth 20000 in
set_option maxHeartbeats 800000 in
theorem rJoin_L8 (a b : Nat) (h1 : 44032 ≤ (a : Int)) (h2 : (a : Int) ≤ 55203) (h3 : ((a : Int) - 44032) % 28 = 0) (h4 : 4546 < (b : Int)) (w : World) : Calls Try.prog 56 #[.int .u32 a, .int .u32 b] w fun e w' => e = .returned (.int .u32 0) ∧ w = w' := by
  have hs : ((a : Int) - 44032) % 4294967296 = (a : Int) - 44032 := by omega
  go_enter Try.func56, Try.ntmps56
  go_wp2_with (first | (go_at_call 66; refine (rIs_t _ (by omega) (by omega) _).mono ?_; rintro e w1 ⟨rfl, rfl⟩) | (go_at_call 66; refine (rIs_f _ (by omega) _).mono ?_; rintro e w1 ⟨rfl, rfl⟩))
  go_ret
  exact ⟨rfl, rfl⟩
set_option maxRecDepth 20000 in
set_option maxHeartbeats 800000 in
theorem rJoin_L9 (a b : Nat) (h1 : 44032 ≤ (a : Int)) (h2 : (a : Int) ≤ 55203) (h3 : ((a : Int) - 44032) % 28 = 0) (h4 : 4520 ≤ (b : Int)) (h5 : (b : Int) ≤ 4546) (w : World) : Calls Try.prog 56 #[.int .u32 a, .int .u32 b] w fun e w' => e = .returned (.int .u32 ((a : Int) + b - 4519)) ∧ w = w' := by
  have hs : ((a : Int) - 44032) % 4294967296 = (a : Int) - 44032 := by omega
  go_enter Try.func56, Try.ntmps56
  go_wp2_with (first | (go_at_call 66; refine (rIs_t _ (by omega) (by omega) _).mono ?_; rintro e w1 ⟨rfl, rfl⟩) | (go_at_call 66; refine (rIs_f _ (by omega) _).mono ?_; rintro e w1 ⟨rfl, rfl⟩))
  go_ret
  exact ⟨congrArg (fun z => Ending.returned (Value.int .u32 z)) (by omega), rfl⟩
set_option maxRecDepth 20000 in
set_option maxHeartbeats 800000 in
theorem rJoin_L0 (a b : Nat) (h1 : 4352 ≤ (a : Int)) (h2 : (a : Int) < 4371) (h3 : 4449 ≤ (b : Int)) (h4 : (b : Int) < 4470) (w : World) : Calls Try.prog 56 #[.int .u32 a, .int .u32 b] w fun e w' => e = .returned (.int .u32 (44032 + ((a : Int) - 4352) * 588 + ((b : Int) - 4449) * 28)) ∧ w = w' := by
  go_enter Try.func56, Try.ntmps56
  go_wp2_with fail
  go_ret
  exact ⟨congrArg (fun z => Ending.returned (Value.int .u32 z)) (by omega), rfl⟩
theorem rJoin_any (a b : Nat) (ha : a < 4294967296) (hb : b < 4294967296) (w : World) : Calls Try.prog 56 #[.int .u32 a, .int .u32 b] w fun e w' => e = .returned (.int .u32 (Hg.J a b)) ∧ w = w' := by
  unfold Hg.J
  by_cases c1 : 4352 ≤ a ∧ a < 4371 ∧ 4449 ≤ b ∧ b < 4470
  · rw [if_pos c1]
    refine (rJoin_L0 a b (by omega) (by omega) (by omega) (by omega) w).mono fun e w' ⟨he, hw⟩ => ⟨he.trans (congrArg (fun z => Ending.returned (Value.int .u32 z)) (by omega)), hw⟩
  · rw [if_neg c1]
    by_cases c2 : Hg.Syl a ∧ (a - 44032) % 28 = 0 ∧ 4520 ≤ b ∧ b ≤ 4546
    · rw [if_pos c2]
      unfold Hg.Syl at c2
      refine (rJoin_L9 a b (by omega) (by omega) (by omega) (by omega) (by omega) w).mono fun e w' ⟨he, hw⟩ => ⟨he.trans (congrArg (fun z => Ending.returned (Value.int .u32 z)) (by omega)), hw⟩
    · rw [if_neg c2]
      unfold Hg.Syl at c2
      show Calls _ _ _ _ fun e w' => e = .returned (.int .u32 0) ∧ w = w'
      by_cases d1 : a < 4352
      · exact rJoin_L1 a b ha hb (by omega) w
      by_cases d2 : a < 4371
      · by_cases d3 : b < 4449
        · exact rJoin_L2 a b ha hb (by omega) (by omega) (by omega) w
        · exact rJoin_L3 a b ha hb (by omega) (by omega) (by omega) w
      by_cases d4 : a < 44032
      · exact rJoin_L4 a b ha hb (by omega) (by omega) w
      by_cases d5 : 55203 < a
      · exact rJoin_L5 a b ha hb (by omega) w
      by_cases d6 : (a - 44032) % 28 = 0
      · by_cases d7 : b < 4520
        · exact rJoin_L7 a b (by omega) (by omega) (by omega) (by omega) w
        · exact rJoin_L8 a b (by omega) (by omega) (by omega) (by omega) w
      · exact rJoin_L6 a b (by omega) (by omega) (by omega) w
set_option maxRecDepth 20000 in
set_option maxHeartbeats 1000000 in
theorem HangulJoins_any (a b : Nat) (ha : a < 4294967296) (hb : b < 4294967296) (w : World) : Calls Try.prog 11 #[.int .u32 a, .int .u32 b] w fun e w' => e = .returned (.bool true) ∧ Below w.heap.size w w' := by
  have F1 := Lib.hid (Hg.join_nat a b ha hb)
  have F2 := Lib.hid (Hg.ok_nat a b ha hb)
  have hJ := Lib.hid (rJoin_any a b ha hb)
  go_enter Try.func11, Try.ntmps11
  go_wp2_with (first | (go_at_call 54; refine (awake11_any _).mono ?_; rintro e w1 ⟨rfl, hb⟩; have hcf := bcell hb; (try simp only [World.size_alloc, World.size_setCell, World.size_drew] at hcf); have hz := hb.size; (try simp only [World.size_alloc, World.size_setCell, World.size_drew] at hz); have hbh := Lib.hid hb; clear hb; obtain ⟨hc, hf⟩ := hcf) | (go_at_call 16; refine (Of_any _ _).mono ?_; rintro e w1 ⟨rfl, hb⟩; have hcf := bcell hb; (try simp only [World.size_alloc, World.size_setCell, World.size_drew] at hcf); have hz := hb.size; (try simp only [World.size_alloc, World.size_setCell, World.size_drew] at hz); have hbh := Lib.hid hb; clear hb; obtain ⟨hc, hf⟩ := hcf) | first | (go_at_call 55; refine (hJoin_any _ _ _).mono ?_; rintro e wj ⟨rfl, hb⟩; have hcf_wj := bcell hb; (try simp only [World.size_alloc, World.size_setCell, World.size_drew] at hcf_wj); have hz_wj := hb.size; (try simp only [World.size_alloc, World.size_setCell, World.size_drew] at hz_wj); have hbh_wj := Lib.hid hb; clear hb; obtain ⟨hc_wj, hf_wj⟩ := hcf_wj) | (go_at_call 56; refine (hJ.out _).mono ?_; rintro e w1 ⟨rfl, rfl⟩))
  go_region_held3 (fun w' => w'.cell? ⟨wj.heap.size, 0, none⟩ = some (.int .u32 (Hg.join a b)) ∧ w'.cell? ⟨wj.heap.size + 1, 0, none⟩ = some (.int .u32 (Hg.ok a b))) ((simp [go_sem, ↓IntWalk.iteOmega, *]; done)) (first | (go_at_call 57; refine' Calls.mono (is11_true _ _ _ ?_) ?_; (next => ((first | with_reducible exact F1.out | (rw [F2.out]; refine congrArg Ct.Mask ?_; rw [Bool.eq_iff_iff]; simp)))); rintro e w1 ⟨rfl, hb⟩; have hcf := bcell hb; (try simp only [World.size_alloc, World.size_setCell, World.size_drew] at hcf); have hz := hb.size; (try simp only [World.size_alloc, World.size_setCell, World.size_drew] at hz); have hbh := Lib.hid hb; clear hb; obtain ⟨hc, hf⟩ := hcf) | (go_at_call 25; refine (All_any _ _).mono ?_; rintro e w1 ⟨rfl, rfl⟩))
  go_wp2_with fail
  go_ret
  refine ⟨rfl, ?_⟩
  (repeat' (first | exact Below.refl _ _ | refine bl_set (by (first | omega | (simp; done) | (simp; omega))) ?_ _ | refine bl_alloc (by (first | omega | (simp; done) | (simp; omega))) ?_ _ | refine bl_drewN ?_ _ | refine bl_drew ?_ | refine bl_then (by assumption) ?_ (by (first | omega | (simp; done) | (simp; omega))) | refine Step.bl (by assumption) (by assumption) (by (first | omega | (simp; done) | (simp; omega))) (by (first | omega | (simp; done) | (simp; omega))) ?_))
end Go.Proofs.Ytcaaapfminenoaa
