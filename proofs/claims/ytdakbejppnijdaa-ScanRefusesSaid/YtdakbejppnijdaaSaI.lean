/- The law of scan: ScanRefuses' walk. No condition. -/
import Derived.Test.YtdakbejppnijdaaSaH
namespace Go.Proofs.Ytdakbejppnijdaa
open Go.RowKit
set_option linter.unusedSimpArgs false
set_option linter.unusedVariables false
attribute [local go_sem] IntKind.wrap_u32' signed_u32 max_u32
attribute [local go_sem ↓] Go.wp_at_zero Go.wp_at_succ
attribute [local go_sem] Calm.C
attribute [local go_sem low] Calm.al_cell Calm.al_frozen
attribute [local irreducible] putw stEvs shEvs Sa.la Sa.st Sa.ev Sa.Now Sa.Two
theorem Sa.now_ar {w0 W : World} {n : Int} {p g lp : Nat} {F : Nat → Prop} {ws : List Int} {top : Nat} {E : List Ev} (h : Sa.Now w0 n p g lp F ws top E W) : Ar W p g lp F ws top E := by unfold Sa.Now at h; exact h.1
theorem Sa.now_bl {w0 W : World} {n : Int} {p g lp : Nat} {F : Nat → Prop} {ws : List Int} {top : Nat} {E : List Ev} (h : Sa.Now w0 n p g lp F ws top E W) : Below w0.heap.size w0 W := by unfold Sa.Now at h; exact h.2.1
theorem Sa.now_cell {w0 W : World} {n : Int} {p g lp : Nat} {F : Nat → Prop} {ws : List Int} {top : Nat} {E : List Ev} (h : Sa.Now w0 n p g lp F ws top E W) : W.cell? ⟨w0.heap.size, 0, none⟩ = some (.int .i64 n) := by unfold Sa.Now at h; exact h.2.2.2.1
theorem Sa.now_lt {w0 W : World} {n : Int} {p g lp : Nat} {F : Nat → Prop} {ws : List Int} {top : Nat} {E : List Ev} (h : Sa.Now w0 n p g lp F ws top E W) : w0.heap.size < W.heap.size := by unfold Sa.Now at h; exact h.2.2.2.2
set_option maxRecDepth 100000 in
set_option maxHeartbeats 8000000 in
theorem ScanRefuses_any (w : World) (a0 a1 n : Int) (hn : -9223372036854775808 ≤ n ∧ n ≤ 9223372036854775807) :
    Calls Try.prog 8 #[.int .i64 a0, .int .i64 a1, .int .i64 n] w fun e w' => e = .returned (.bool true) ∧ Below w.heap.size w w' := by
  obtain ⟨B1, hB1⟩ : ∃ B1 : Bool, B1 = decide (0 ≤ a0 ∧ 0 ≤ n ∧ a0 + n ≤ 20) := ⟨_, rfl⟩
  obtain ⟨BW, hBW⟩ : ∃ BW : Bool, BW = decide (0 ≤ a1 ∧ 0 ≤ n ∧ a1 + n ≤ 20) := ⟨_, rfl⟩
  obtain ⟨B2, hB2⟩ : ∃ B2 : Bool, B2 = decide ((0 ≤ a0 ∧ 0 ≤ n ∧ a0 + n ≤ 20) ∧ (0 ≤ a1 ∧ 0 ≤ n ∧ a1 + n ≤ 20) ∧ (n = 0 ∨ a1 + n ≤ a0 ∨ a0 + n ≤ a1)) := ⟨_, rfl⟩
  have H1 : Hid (Sa.Is B1 (0 ≤ a0 ∧ 0 ≤ n ∧ a0 + n ≤ 20)) := Lib.hid (by unfold Sa.Is; rw [hB1]; exact decide_eq_true_iff)
  have HW : Hid (Sa.Is BW (0 ≤ a1 ∧ 0 ≤ n ∧ a1 + n ≤ 20)) := Lib.hid (by unfold Sa.Is; rw [hBW]; exact decide_eq_true_iff)
  have H2 : Hid (Sa.Is B2 (Sa.Two 20 a0 a1 n)) := Lib.hid (by unfold Sa.Is Sa.Two; rw [hB2]; exact decide_eq_true_iff)
  go_enter Try.func8, Try.ntmps8
  go_wp2_with (first
    | (first | (go_at_call 13; refine (awake05_any _).mono ?_; rintro e wq ⟨rfl, hb⟩; have hcf_wq := bcell hb; (try simp only [World.size_alloc, World.size_setCell, drew_size] at hcf_wq); have hz_wq := hb.size; (try simp only [World.size_alloc, World.size_setCell, World.size_drew] at hz_wq); have hbh_wq := Lib.hid hb; clear hb; obtain ⟨hc_wq, hf_wq⟩ := hcf_wq))
    | (go_at_call 27; refine (ANew_any 20 20 (by decide) _).mono ?_; rintro e wn1 ⟨p, g, lp, F0, rfl, hA0, hlow, hb⟩; have HAr := Lib.hid hA0; have HLOW := Lib.hid hlow; have BN := Lib.hid hb; have z2 := hb.size; clear hb hA0 hlow)
    | (go_at_call 28; refine (ATake_t HAr.out (by simp) 20 (by simp)).mono ?_; rintro e wt ⟨rfl, F1, hA1, hs1⟩; have HAt := Lib.hid hA1; have ST1 := Lib.hid hs1; have z3 := hs1.size; clear hA1 hs1)
    | (go_at_call 15; refine (ALog_any HAt.out).mono ?_; rintro e w1 ⟨rfl, hw1⟩; replace hw1 := hw1.symm; subst hw1)
    | (go_at_call 16; refine (Len_any _ _ _ _ HAt.out.lg).mono ?_; rintro e w1 ⟨rfl, hw1⟩; replace hw1 := hw1.symm; subst hw1))
  have N0 : Hid (Sa.Now w n p g lp F1 (List.replicate 20 0) 20 [⟨4, 0, 20⟩] w1) := Lib.hid (by
    unfold Sa.Now
    have hB0 : Below w.heap.size w wn1 := bl_then BN (bl_then hbh_wq (bl_alloc (Nat.le_refl _) (Below.refl _ _) _) (by simp)) (by omega)
    have hl0 : ∀ i, AF p g F0 i → w.heap.size + 1 ≤ i := fun i hi => by have := HLOW.out i hi; omega
    have k0 : wn1.cell? ⟨w.heap.size, 0, none⟩ = some (.int .i64 n) := (BN.out.cell (p := ⟨w.heap.size, 0, none⟩) (show w.heap.size < wq.heap.size by omega)).trans ((hbh_wq.out.cell (p := ⟨w.heap.size, 0, none⟩) (by simp)).trans ((Blk.new w _ _).cell 0))
    exact ⟨HAt.out, ST1.out.below hB0 (by omega) (fun i hi => by have := hl0 i hi; omega), ST1.out.low (by omega) hl0, (old_cell ST1.out (by omega) (fun hf => absurd (hl0 _ hf) (Nat.not_succ_le_self _))).trans k0, by omega⟩)
  have c0 := Sa.now_cell N0.out
  have z0 := Sa.now_lt N0.out
  have hE0 : (([⟨4, 0, 20⟩] : List Ev).length : Int) = 1 := rfl
  clear HAr HLOW BN HAt ST1 hc_wq hf_wq hbh_wq z2 z3 hz_wq
  have h6 : (B1 = false ∧ B2 = false ∧ ¬ (0 ≤ a0 ∧ 0 ≤ n ∧ a0 + n ≤ 20) ∧ True) ∨ (B1 = true ∧ BW = false ∧ B2 = false ∧ (0 ≤ a0 ∧ 0 ≤ n ∧ a0 + n ≤ 20)) ∨ (B1 = true ∧ BW = true ∧ B2 = true ∧ (0 ≤ a0 ∧ 0 ≤ n ∧ a0 + n ≤ 20) ∧ (0 ≤ a1 ∧ 0 ≤ n ∧ a1 + n ≤ 20) ∧ (n == 0) = true) ∨ (B1 = true ∧ BW = true ∧ B2 = true ∧ (0 ≤ a0 ∧ 0 ≤ n ∧ a0 + n ≤ 20) ∧ (0 ≤ a1 ∧ 0 ≤ n ∧ a1 + n ≤ 20) ∧ (n == 0) = false ∧ n ≤ a0 - a1) ∨ (B1 = true ∧ BW = true ∧ B2 = true ∧ (0 ≤ a0 ∧ 0 ≤ n ∧ a0 + n ≤ 20) ∧ (0 ≤ a1 ∧ 0 ≤ n ∧ a1 + n ≤ 20) ∧ (n == 0) = false ∧ a0 - a1 < n ∧ n ≤ a1 - a0) ∨ (B1 = true ∧ BW = true ∧ B2 = false ∧ (0 ≤ a0 ∧ 0 ≤ n ∧ a0 + n ≤ 20) ∧ (0 ≤ a1 ∧ 0 ≤ n ∧ a1 + n ≤ 20) ∧ (n == 0) = false ∧ a0 - a1 < n ∧ a1 - a0 < n) := by
    by_cases hA : (0 ≤ a0 ∧ 0 ≤ n ∧ a0 + n ≤ 20)
    · have q1 : B1 = true := hB1.trans (decide_eq_true hA)
      by_cases hB : (0 ≤ a1 ∧ 0 ≤ n ∧ a1 + n ≤ 20)
      · have q2 : BW = true := hBW.trans (decide_eq_true hB)
        by_cases h0 : n = 0
        · exact .inr (.inr (.inl ⟨q1, q2, hB2.trans (decide_eq_true ⟨hA, hB, .inl h0⟩), hA, hB, by rw [h0]; rfl⟩))
        · have h0' : (n == 0) = false := by simpa using h0
          by_cases h1 : n ≤ a0 - a1
          · exact .inr (.inr (.inr (.inl ⟨q1, q2, hB2.trans (decide_eq_true ⟨hA, hB, .inr (.inl (by omega))⟩), hA, hB, h0', h1⟩)))
          · by_cases h2 : n ≤ a1 - a0
            · exact .inr (.inr (.inr (.inr (.inl ⟨q1, q2, hB2.trans (decide_eq_true ⟨hA, hB, .inr (.inr (by omega))⟩), hA, hB, h0', by omega, h2⟩))))
            · exact .inr (.inr (.inr (.inr (.inr ⟨q1, q2, hB2.trans (decide_eq_false (fun h => by have := h.2.2; omega)), hA, hB, h0', by omega, by omega⟩))))
      · exact .inr (.inl ⟨q1, hBW.trans (decide_eq_false hB), hB2.trans (decide_eq_false (fun h => hB h.2.1)), hA⟩)
    · exact .inl ⟨hB1.trans (decide_eq_false hA), hB2.trans (decide_eq_false (fun h => hA h.1)), hA, trivial⟩
  clear hB1 hBW hB2
  rcases h6 with ⟨rfl, rfl, h6, _⟩ | ⟨rfl, rfl, rfl, h6⟩ | ⟨rfl, rfl, rfl, h6, h7, h8⟩ | ⟨rfl, rfl, rfl, h6, h7, h8, h9⟩ | ⟨rfl, rfl, rfl, h6, h7, h8, h9, h10⟩ | ⟨rfl, rfl, rfl, h6, h7, h8, h9, h10⟩
  all_goals
    first | have := decide_eq_true h9 | have := decide_eq_false (Int.not_le.2 h9) | skip
    first | have := decide_eq_true h10 | have := decide_eq_false (Int.not_le.2 h10) | skip
    go_wp2_with (first
      | (go_at_call 45; with_reducible refine (saWithin_any _ a0 n _ H1.out _ c0).mono ?_; rintro e w2 ⟨rfl, hw1⟩; replace hw1 := hw1.symm; subst hw1)
      | (go_at_call 45; with_reducible refine (saWithin_any _ a1 n _ HW.out _ c0).mono ?_; rintro e w2 ⟨rfl, hw1⟩; replace hw1 := hw1.symm; subst hw1)
      | (go_at_call 18; with_reducible refine (saSums_n N0.out (by omega) a0 n _ H1.out).mono ?_; rintro e w2 ⟨x1, rfl, F2, ws2, E2, hN, hE1⟩; (try simp only [if_true, if_false, Bool.false_eq_true, ↓reduceIte] at hE1); have c1 := Sa.now_cell hN; have z1 := Sa.now_lt hN; have N1 := Lib.hid hN; clear hN)
      | (go_at_call 19; with_reducible refine (saBefore_n (Sa.Now.alloc N1.out _) (by omega) a0 n _ H1.out).mono ?_; rintro e w3 ⟨x2, rfl, F3, ws3, E3, hN, hE2⟩; (try simp only [if_true, if_false, Bool.false_eq_true, ↓reduceIte] at hE2); have c2 := Sa.now_cell hN; have z2 := Sa.now_lt hN; have N2 := Lib.hid hN; clear hN)
      | (go_at_call 20; with_reducible refine (saOrs_n (Sa.Now.alloc N2.out _) (by omega) a0 n _ H1.out).mono ?_; rintro e w4 ⟨x3, rfl, F4, ws4, E4, hN, hE3⟩; (try simp only [if_true, if_false, Bool.false_eq_true, ↓reduceIte] at hE3); have c3 := Sa.now_cell hN; have z3 := Sa.now_lt hN; have N3 := Lib.hid hN; clear hN)
      | (go_at_call 22; with_reducible refine (saBehind_n (Sa.Now.alloc N3.out _) (by omega) a0 n _ H1.out).mono ?_; rintro e w5 ⟨x4, rfl, F5, ws5, E5, hN, hE4⟩; (try simp only [if_true, if_false, Bool.false_eq_true, ↓reduceIte] at hE4); have c4 := Sa.now_cell hN; have z4 := Sa.now_lt hN; have N4 := Lib.hid hN; clear hN)
      | (go_at_call 36; with_reducible refine (saFirst_n (Sa.Now.alloc N4.out _) (by omega) a0 a1 n _ H2.out).mono ?_; rintro e w6 ⟨x5, y5, rfl, F6, ws6, E6, hN, hE5⟩; (try simp only [if_true, if_false, Bool.false_eq_true, ↓reduceIte] at hE5); have c5 := Sa.now_cell hN; have z5 := Sa.now_lt hN; have N5 := Lib.hid hN; clear hN)
      | (go_at_call 37; with_reducible refine (saLast_n (Sa.Now.alloc (Sa.Now.alloc N5.out _) _) (by omega) a0 a1 n _ H2.out).mono ?_; rintro e w7 ⟨x6, y6, rfl, F7, ws7, E7, hN, hE6⟩; (try simp only [if_true, if_false, Bool.false_eq_true, ↓reduceIte] at hE6); have c6 := Sa.now_cell hN; have z6 := Sa.now_lt hN; have N6 := Lib.hid hN; clear hN)
      | (go_at_call 41; with_reducible refine (saCarry_n (Sa.Now.alloc (Sa.Now.alloc N6.out _) _) (by omega) a0 a1 n _ H2.out).mono ?_; rintro e w8 ⟨rfl, F8, ws8, E8, hN, hE7⟩; (try simp only [if_true, if_false, Bool.false_eq_true, ↓reduceIte] at hE7); have c7 := Sa.now_cell hN; have z7 := Sa.now_lt hN; have N7 := Lib.hid hN; clear hN)
      | (go_at_call 40; with_reducible refine (saBack_n N7.out (by omega) a0 a1 n _ H2.out).mono ?_; rintro e w9 ⟨rfl, F9, ws9, E9, hN, hE8⟩; (try simp only [if_true, if_false, Bool.false_eq_true, ↓reduceIte] at hE8); have c8 := Sa.now_cell hN; have z8 := Sa.now_lt hN; have N8 := Lib.hid hN; clear hN)
      | (go_at_call 15; with_reducible refine (ALog_any (Sa.now_ar N8.out)).mono ?_; rintro e w10 ⟨rfl, hw1⟩; replace hw1 := hw1.symm; subst hw1)
      | (go_at_call 16; with_reducible refine (Len_any _ _ _ _ (Sa.now_ar N8.out).lg).mono ?_; rintro e w10 ⟨rfl, hw1⟩; replace hw1 := hw1.symm; subst hw1))
    go_ret
    refine ⟨?_, Sa.now_bl N8.out⟩
    first
      | rfl
      | exact congrArg (fun b => Ending.returned (.bool b)) (beq_iff_eq.2 (by omega))
end Go.Proofs.Ytdakbejppnijdaa
