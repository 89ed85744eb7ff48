/- PackRefuses: the law's call. No condition. -/
import Derived.Test.YtjoehhojhfgooaaPk4
namespace Go.Proofs.Ytjoehhojhfgooaa
open Go.RowKit
set_option linter.unusedSimpArgs false
set_option linter.unusedVariables false
attribute [local go_sem] IntKind.wrap_u32' signed_u32 max_u32
attribute [local go_sem ↓] Go.wp_at_zero Go.wp_at_succ
attribute [local go_sem] Calm.C
attribute [local go_sem low] Calm.al_cell Calm.al_frozen
theorem lanes2_iff (top : Nat) (n keep lane : Int) : Lanes top n (Pk.KL keep (fun _ => lane)) (1 + 1) ↔ Fit top keep n ∧ Fit top lane n ∧ ¬ Meets lane keep n := by
  constructor
  · intro h
    exact ⟨(h 0 (by decide)).1, (h 1 (by decide)).1, (h 1 (by decide)).2 0 (by decide)⟩
  · rintro ⟨h0, h1, h2⟩ k hk
    rcases (by omega : k = 0 ∨ k = 1) with rfl | rfl
    · exact ⟨h0, fun j hj => by omega⟩
    · refine ⟨h1, fun j hj => ?_⟩
      obtain rfl : j = 0 := by omega
      exact h2
theorem pk_cond (N mo : Nat) (n keep lane : Int) : (0 ≤ n ∧ n ≤ 49152 ∧ Lanes (2 * N) n (Pk.KL keep (fun _ => lane)) (1 + 1) ∧ ((2 * N : Nat) : Int) + n ≤ (List.replicate (2 * N + mo) (0 : Int)).length) ↔
    (0 ≤ n ∧ n ≤ 49152 ∧ 0 ≤ keep ∧ keep + n ≤ 2 * N ∧ 0 ≤ lane ∧ lane + n ≤ 2 * N ∧ ¬ (0 < n ∧ lane < keep + n ∧ keep < lane + n) ∧ n ≤ mo) := by
  rw [lanes2_iff, List.length_replicate]
  unfold Fit Meets
  omega
theorem normN {w : World} {p g lp N : Nat} {F : Nat → Prop} {ws : List Int} (h : Ar w p g lp F ws (0 + (2 * (N : Int)).toNat) ([] ++ [⟨4, ((0 : Nat) : Int), 2 * (N : Int)⟩])) : Ar w p g lp F ws (2 * N) [⟨4, 0, 2 * (N : Int)⟩] := by
  rw [show 0 + (2 * (N : Int)).toNat = 2 * N by omega] at h
  exact h
theorem norm0 {w : World} {p g lp : Nat} {F : Nat → Prop} {ws : List Int} (h : Ar w p g lp F ws (0 + (0 : Int).toNat) ([] ++ [⟨4, ((0 : Nat) : Int), 0⟩])) : Ar w p g lp F ws 0 [⟨4, 0, 0⟩] := h
attribute [local irreducible] Pk.out Pk.kept Pk.evs
set_option maxRecDepth 10000 in
set_option maxHeartbeats 12000000 in
theorem PackRefuses_any (w : World) (n keep lane : Int) (more : Nat) (hmore : more < 256) : Calls Try.prog 9 #[.int .i64 n, .int .i64 keep, .int .i64 lane, .int .u8 more] w fun e w' => e = .returned (.bool true) ∧ Below w.heap.size w w' := by
  by_cases hskip : 30 < n ∧ n ≤ 49152
  · obtain ⟨h1, h2⟩ := hskip
    go_enter Try.func9, Try.ntmps9
    go_wp2_with (first | (go_at_call 36; refine (awake04_any _).mono ?_; rintro e w1 ⟨rfl, hb⟩; have hcf := bcell hb; (try simp only [World.size_alloc, World.size_setCell, drew_size] at hcf); have hz := hb.size; (try simp only [World.size_alloc, World.size_setCell, World.size_drew] at hz); have hbh := Lib.hid hb; clear hb; obtain ⟨hc, hf⟩ := hcf))
    go_ret
    refine ⟨rfl, ?_⟩
    (repeat' (first | with_reducible exact Below.refl _ _ | with_reducible refine bl_drewN ?_ _ | with_reducible refine bl_drew ?_ | refine bl_set (by (first | omega | (simp; done) | (simp; omega))) ?_ _ | refine bl_alloc (by (first | omega | (simp; done) | (simp; omega))) ?_ _ | refine bl_then (by assumption) ?_ (by (first | omega | (simp; done) | (simp; omega))) | refine Step.bl (by assumption) (by assumption) (by (first | omega | (simp; done) | (simp; omega))) (by (first | omega | (simp; done) | (simp; omega))) ?_))
  obtain ⟨N, hN⟩ : ∃ N : Nat, max (min n 30) 0 = (N : Int) := ⟨(max (min n 30) 0).toNat, by omega⟩
  have hN30 : N ≤ 30 := by omega
  obtain ⟨mo, hmo⟩ : ∃ mo : Nat, (more : Int) % 41 = (mo : Int) := ⟨more % 41, by omega⟩
  have hmo40 : mo ≤ 40 := by omega
  have HNW := Lib.hid (show (if (4194304 : Int) < (if 2 * (N : Int) + (mo : Int) < 0 then 0 else 2 * (N : Int) + (mo : Int)) then 4194304 else (if 2 * (N : Int) + (mo : Int) < 0 then 0 else 2 * (N : Int) + (mo : Int))) = ((2 * N + mo : Nat) : Int) by rw [if_neg (by omega), if_neg (by omega)]; omega)
  clear hmore
  by_cases a0 : n < 0
  · have HOK := Lib.hid (show ¬ (0 ≤ n ∧ n ≤ 49152 ∧ Lanes (2 * N) n (Pk.KL keep (fun _ => lane)) (1 + 1) ∧ ((2 * N : Nat) : Int) + n ≤ (List.replicate (2 * N + mo) (0 : Int)).length) by rw [pk_cond N mo]; omega)
    clear hskip
    go_enter Try.func9, Try.ntmps9
    go_wp2_with (first
      | (first | (go_at_call 36; refine (awake04_any _).mono ?_; rintro e w1 ⟨rfl, hb⟩; have hcf := bcell hb; (try simp only [World.size_alloc, World.size_setCell, drew_size] at hcf); have hz := hb.size; (try simp only [World.size_alloc, World.size_setCell, World.size_drew] at hz); have hbh := Lib.hid hb; clear hb; obtain ⟨hc, hf⟩ := hcf))
      | (go_at_call 24; with_reducible refine (ANew_any _ (2 * N + mo) HNW.out _).mono ?_; rintro e w0 ⟨p, g, lp, F0, rfl, hA, hlow, hb⟩; have H0 := Lib.hid hA; have LOW := Lib.hid hlow; have B0 := Lib.hid hb; have z0 := hb.size; clear hA hlow hb)
      | (go_at_call 25; with_reducible refine (ATake_j H0.out (by decide) _ (by omega) (by rw [List.length_replicate]; omega)).mono ?_; rintro e w2 ⟨rfl, F1, hA1, hs1⟩; have H1 := Lib.hid (normN hA1); have S1 := Lib.hid hs1; have z1 := hs1.size; clear hA1 hs1)
      | (go_at_call 14; with_reducible refine (ALog_any H1.out).mono ?_; rintro e w6 ⟨rfl, hw⟩; replace hw := hw.symm; subst hw)
      | (go_at_call 15; with_reducible refine (Len_any _ F1 lp [⟨4, 0, 2 * (N : Int)⟩] H1.out.lg).mono ?_; rintro e w6 ⟨rfl, hw⟩; subst hw))
    with_reducible refine (Pack_ok (H1.out.alloc _) (by simp only [List.length_cons, List.length_nil]; decide) keep n _ 1 1 (fun _ => lane) (Iti.one H1.out.most lane _) (by decide) false ⟨fun h => (by cases h), fun h => absurd h HOK.out⟩).mono ?_
    rintro e w4 ⟨x, F4, ws4, ev4, rfl, hA4, hev, hs4⟩
    have H4 := Lib.hid hA4
    have S4 := Lib.hid (H1.out.step0.alloc (.cells #[.int .i64 lane] 3) |>.trans hs4)
    have HEV := Lib.hid (show ev4.length = 1 by rw [hev rfl]; rfl)
    clear hA4 hs4 hev
    go_wp2_with (first
      | (go_at_call 14; with_reducible refine (ALog_any (H4.out.alloc _)).mono ?_; rintro e w6 ⟨rfl, hw⟩; replace hw := hw.symm; subst hw)
      | (go_at_call 15; with_reducible refine (Len_any _ F4 lp ev4 (H4.out.alloc _).lg).mono ?_; rintro e w6 ⟨rfl, hw⟩; rw [HEV.out]; subst hw)
      | (go_at_call 18; with_reducible refine (ATop_any (H4.out.alloc _)).mono ?_; rintro e w6 ⟨rfl, hw⟩; replace hw := hw.symm; subst hw))
    go_ret
    refine ⟨rfl, ?_⟩
    have b0 := bl_then B0 (bl_then hbh (Below.refl _ _) (Nat.le_refl _)) hbh.out.size
    have l0 : ∀ i, AF p g F0 i → w.heap.size ≤ i := fun i hi => Nat.le_trans hbh.out.size (LOW.out i hi)
    have b1 := S1.out.below b0 b0.size l0
    have l1 := S1.out.low b0.size l0
    have b4 := S4.out.below b1 b1.size l1
    exact b4.alloc b4.size _
  have q0 : 0 ≤ n := by omega
  by_cases a1 : 49152 < n
  · have HOK := Lib.hid (show ¬ (0 ≤ n ∧ n ≤ 49152 ∧ Lanes (2 * N) n (Pk.KL keep (fun _ => lane)) (1 + 1) ∧ ((2 * N : Nat) : Int) + n ≤ (List.replicate (2 * N + mo) (0 : Int)).length) by rw [pk_cond N mo]; omega)
    clear hskip
    go_enter Try.func9, Try.ntmps9
    go_wp2_with (first
      | (first | (go_at_call 36; refine (awake04_any _).mono ?_; rintro e w1 ⟨rfl, hb⟩; have hcf := bcell hb; (try simp only [World.size_alloc, World.size_setCell, drew_size] at hcf); have hz := hb.size; (try simp only [World.size_alloc, World.size_setCell, World.size_drew] at hz); have hbh := Lib.hid hb; clear hb; obtain ⟨hc, hf⟩ := hcf))
      | (go_at_call 24; with_reducible refine (ANew_any _ (2 * N + mo) HNW.out _).mono ?_; rintro e w0 ⟨p, g, lp, F0, rfl, hA, hlow, hb⟩; have H0 := Lib.hid hA; have LOW := Lib.hid hlow; have B0 := Lib.hid hb; have z0 := hb.size; clear hA hlow hb)
      | (go_at_call 25; with_reducible refine (ATake_j H0.out (by decide) _ (by omega) (by rw [List.length_replicate]; omega)).mono ?_; rintro e w2 ⟨rfl, F1, hA1, hs1⟩; have H1 := Lib.hid (normN hA1); have S1 := Lib.hid hs1; have z1 := hs1.size; clear hA1 hs1)
      | (go_at_call 14; with_reducible refine (ALog_any H1.out).mono ?_; rintro e w6 ⟨rfl, hw⟩; replace hw := hw.symm; subst hw)
      | (go_at_call 15; with_reducible refine (Len_any _ F1 lp [⟨4, 0, 2 * (N : Int)⟩] H1.out.lg).mono ?_; rintro e w6 ⟨rfl, hw⟩; subst hw))
    with_reducible refine (Pack_ok (H1.out.alloc _) (by simp only [List.length_cons, List.length_nil]; decide) keep n _ 1 1 (fun _ => lane) (Iti.one H1.out.most lane _) (by decide) false ⟨fun h => (by cases h), fun h => absurd h HOK.out⟩).mono ?_
    rintro e w4 ⟨x, F4, ws4, ev4, rfl, hA4, hev, hs4⟩
    have H4 := Lib.hid hA4
    have S4 := Lib.hid (H1.out.step0.alloc (.cells #[.int .i64 lane] 3) |>.trans hs4)
    have HEV := Lib.hid (show ev4.length = 1 by rw [hev rfl]; rfl)
    clear hA4 hs4 hev
    go_wp2_with (first
      | (go_at_call 14; with_reducible refine (ALog_any (H4.out.alloc _)).mono ?_; rintro e w6 ⟨rfl, hw⟩; replace hw := hw.symm; subst hw)
      | (go_at_call 15; with_reducible refine (Len_any _ F4 lp ev4 (H4.out.alloc _).lg).mono ?_; rintro e w6 ⟨rfl, hw⟩; rw [HEV.out]; subst hw)
      | (go_at_call 18; with_reducible refine (ATop_any (H4.out.alloc _)).mono ?_; rintro e w6 ⟨rfl, hw⟩; replace hw := hw.symm; subst hw))
    go_ret
    refine ⟨rfl, ?_⟩
    have b0 := bl_then B0 (bl_then hbh (Below.refl _ _) (Nat.le_refl _)) hbh.out.size
    have l0 : ∀ i, AF p g F0 i → w.heap.size ≤ i := fun i hi => Nat.le_trans hbh.out.size (LOW.out i hi)
    have b1 := S1.out.below b0 b0.size l0
    have l1 := S1.out.low b0.size l0
    have b4 := S4.out.below b1 b1.size l1
    exact b4.alloc b4.size _
  have q1 : n ≤ 30 := by omega
  clear a0 a1 hskip
  by_cases a2 : keep < 0
  · have HOK := Lib.hid (show ¬ (0 ≤ n ∧ n ≤ 49152 ∧ Lanes (2 * N) n (Pk.KL keep (fun _ => lane)) (1 + 1) ∧ ((2 * N : Nat) : Int) + n ≤ (List.replicate (2 * N + mo) (0 : Int)).length) by rw [pk_cond N mo]; omega)
    go_enter Try.func9, Try.ntmps9
    go_wp2_with (first
      | (first | (go_at_call 36; refine (awake04_any _).mono ?_; rintro e w1 ⟨rfl, hb⟩; have hcf := bcell hb; (try simp only [World.size_alloc, World.size_setCell, drew_size] at hcf); have hz := hb.size; (try simp only [World.size_alloc, World.size_setCell, World.size_drew] at hz); have hbh := Lib.hid hb; clear hb; obtain ⟨hc, hf⟩ := hcf))
      | (go_at_call 24; with_reducible refine (ANew_any _ (2 * N + mo) HNW.out _).mono ?_; rintro e w0 ⟨p, g, lp, F0, rfl, hA, hlow, hb⟩; have H0 := Lib.hid hA; have LOW := Lib.hid hlow; have B0 := Lib.hid hb; have z0 := hb.size; clear hA hlow hb)
      | (go_at_call 25; with_reducible refine (ATake_j H0.out (by decide) _ (by omega) (by rw [List.length_replicate]; omega)).mono ?_; rintro e w2 ⟨rfl, F1, hA1, hs1⟩; have H1 := Lib.hid (normN hA1); have S1 := Lib.hid hs1; have z1 := hs1.size; clear hA1 hs1)
      | (go_at_call 14; with_reducible refine (ALog_any H1.out).mono ?_; rintro e w6 ⟨rfl, hw⟩; replace hw := hw.symm; subst hw)
      | (go_at_call 15; with_reducible refine (Len_any _ F1 lp [⟨4, 0, 2 * (N : Int)⟩] H1.out.lg).mono ?_; rintro e w6 ⟨rfl, hw⟩; subst hw))
    with_reducible refine (Pack_ok (H1.out.alloc _) (by simp only [List.length_cons, List.length_nil]; decide) keep n _ 1 1 (fun _ => lane) (Iti.one H1.out.most lane _) (by decide) false ⟨fun h => (by cases h), fun h => absurd h HOK.out⟩).mono ?_
    rintro e w4 ⟨x, F4, ws4, ev4, rfl, hA4, hev, hs4⟩
    have H4 := Lib.hid hA4
    have S4 := Lib.hid (H1.out.step0.alloc (.cells #[.int .i64 lane] 3) |>.trans hs4)
    have HEV := Lib.hid (show ev4.length = 1 by rw [hev rfl]; rfl)
    clear hA4 hs4 hev
    go_wp2_with (first
      | (go_at_call 14; with_reducible refine (ALog_any (H4.out.alloc _)).mono ?_; rintro e w6 ⟨rfl, hw⟩; replace hw := hw.symm; subst hw)
      | (go_at_call 15; with_reducible refine (Len_any _ F4 lp ev4 (H4.out.alloc _).lg).mono ?_; rintro e w6 ⟨rfl, hw⟩; rw [HEV.out]; subst hw)
      | (go_at_call 18; with_reducible refine (ATop_any (H4.out.alloc _)).mono ?_; rintro e w6 ⟨rfl, hw⟩; replace hw := hw.symm; subst hw))
    go_ret
    refine ⟨rfl, ?_⟩
    have b0 := bl_then B0 (bl_then hbh (Below.refl _ _) (Nat.le_refl _)) hbh.out.size
    have l0 : ∀ i, AF p g F0 i → w.heap.size ≤ i := fun i hi => Nat.le_trans hbh.out.size (LOW.out i hi)
    have b1 := S1.out.below b0 b0.size l0
    have l1 := S1.out.low b0.size l0
    have b4 := S4.out.below b1 b1.size l1
    exact b4.alloc b4.size _
  have q2 : 0 ≤ keep := by omega
  clear a2
  by_cases a3 : 2 * (N : Int) - n < keep
  · have HOK := Lib.hid (show ¬ (0 ≤ n ∧ n ≤ 49152 ∧ Lanes (2 * N) n (Pk.KL keep (fun _ => lane)) (1 + 1) ∧ ((2 * N : Nat) : Int) + n ≤ (List.replicate (2 * N + mo) (0 : Int)).length) by rw [pk_cond N mo]; omega)
    go_enter Try.func9, Try.ntmps9
    go_wp2_with (first
      | (first | (go_at_call 36; refine (awake04_any _).mono ?_; rintro e w1 ⟨rfl, hb⟩; have hcf := bcell hb; (try simp only [World.size_alloc, World.size_setCell, drew_size] at hcf); have hz := hb.size; (try simp only [World.size_alloc, World.size_setCell, World.size_drew] at hz); have hbh := Lib.hid hb; clear hb; obtain ⟨hc, hf⟩ := hcf))
      | (go_at_call 24; with_reducible refine (ANew_any _ (2 * N + mo) HNW.out _).mono ?_; rintro e w0 ⟨p, g, lp, F0, rfl, hA, hlow, hb⟩; have H0 := Lib.hid hA; have LOW := Lib.hid hlow; have B0 := Lib.hid hb; have z0 := hb.size; clear hA hlow hb)
      | (go_at_call 25; with_reducible refine (ATake_j H0.out (by decide) _ (by omega) (by rw [List.length_replicate]; omega)).mono ?_; rintro e w2 ⟨rfl, F1, hA1, hs1⟩; have H1 := Lib.hid (normN hA1); have S1 := Lib.hid hs1; have z1 := hs1.size; clear hA1 hs1)
      | (go_at_call 14; with_reducible refine (ALog_any H1.out).mono ?_; rintro e w6 ⟨rfl, hw⟩; replace hw := hw.symm; subst hw)
      | (go_at_call 15; with_reducible refine (Len_any _ F1 lp [⟨4, 0, 2 * (N : Int)⟩] H1.out.lg).mono ?_; rintro e w6 ⟨rfl, hw⟩; subst hw))
    with_reducible refine (Pack_ok (H1.out.alloc _) (by simp only [List.length_cons, List.length_nil]; decide) keep n _ 1 1 (fun _ => lane) (Iti.one H1.out.most lane _) (by decide) false ⟨fun h => (by cases h), fun h => absurd h HOK.out⟩).mono ?_
    rintro e w4 ⟨x, F4, ws4, ev4, rfl, hA4, hev, hs4⟩
    have H4 := Lib.hid hA4
    have S4 := Lib.hid (H1.out.step0.alloc (.cells #[.int .i64 lane] 3) |>.trans hs4)
    have HEV := Lib.hid (show ev4.length = 1 by rw [hev rfl]; rfl)
    clear hA4 hs4 hev
    go_wp2_with (first
      | (go_at_call 14; with_reducible refine (ALog_any (H4.out.alloc _)).mono ?_; rintro e w6 ⟨rfl, hw⟩; replace hw := hw.symm; subst hw)
      | (go_at_call 15; with_reducible refine (Len_any _ F4 lp ev4 (H4.out.alloc _).lg).mono ?_; rintro e w6 ⟨rfl, hw⟩; rw [HEV.out]; subst hw)
      | (go_at_call 18; with_reducible refine (ATop_any (H4.out.alloc _)).mono ?_; rintro e w6 ⟨rfl, hw⟩; replace hw := hw.symm; subst hw))
    go_ret
    refine ⟨rfl, ?_⟩
    have b0 := bl_then B0 (bl_then hbh (Below.refl _ _) (Nat.le_refl _)) hbh.out.size
    have l0 : ∀ i, AF p g F0 i → w.heap.size ≤ i := fun i hi => Nat.le_trans hbh.out.size (LOW.out i hi)
    have b1 := S1.out.below b0 b0.size l0
    have l1 := S1.out.low b0.size l0
    have b4 := S4.out.below b1 b1.size l1
    exact b4.alloc b4.size _
  have q3 : keep ≤ 2 * (N : Int) - n := by omega
  clear a3
  by_cases a4 : lane < 0
  · have HOK := Lib.hid (show ¬ (0 ≤ n ∧ n ≤ 49152 ∧ Lanes (2 * N) n (Pk.KL keep (fun _ => lane)) (1 + 1) ∧ ((2 * N : Nat) : Int) + n ≤ (List.replicate (2 * N + mo) (0 : Int)).length) by rw [pk_cond N mo]; omega)
    go_enter Try.func9, Try.ntmps9
    go_wp2_with (first
      | (first | (go_at_call 36; refine (awake04_any _).mono ?_; rintro e w1 ⟨rfl, hb⟩; have hcf := bcell hb; (try simp only [World.size_alloc, World.size_setCell, drew_size] at hcf); have hz := hb.size; (try simp only [World.size_alloc, World.size_setCell, World.size_drew] at hz); have hbh := Lib.hid hb; clear hb; obtain ⟨hc, hf⟩ := hcf))
      | (go_at_call 24; with_reducible refine (ANew_any _ (2 * N + mo) HNW.out _).mono ?_; rintro e w0 ⟨p, g, lp, F0, rfl, hA, hlow, hb⟩; have H0 := Lib.hid hA; have LOW := Lib.hid hlow; have B0 := Lib.hid hb; have z0 := hb.size; clear hA hlow hb)
      | (go_at_call 25; with_reducible refine (ATake_j H0.out (by decide) _ (by omega) (by rw [List.length_replicate]; omega)).mono ?_; rintro e w2 ⟨rfl, F1, hA1, hs1⟩; have H1 := Lib.hid (normN hA1); have S1 := Lib.hid hs1; have z1 := hs1.size; clear hA1 hs1)
      | (go_at_call 14; with_reducible refine (ALog_any H1.out).mono ?_; rintro e w6 ⟨rfl, hw⟩; replace hw := hw.symm; subst hw)
      | (go_at_call 15; with_reducible refine (Len_any _ F1 lp [⟨4, 0, 2 * (N : Int)⟩] H1.out.lg).mono ?_; rintro e w6 ⟨rfl, hw⟩; subst hw))
    with_reducible refine (Pack_ok (H1.out.alloc _) (by simp only [List.length_cons, List.length_nil]; decide) keep n _ 1 1 (fun _ => lane) (Iti.one H1.out.most lane _) (by decide) false ⟨fun h => (by cases h), fun h => absurd h HOK.out⟩).mono ?_
    rintro e w4 ⟨x, F4, ws4, ev4, rfl, hA4, hev, hs4⟩
    have H4 := Lib.hid hA4
    have S4 := Lib.hid (H1.out.step0.alloc (.cells #[.int .i64 lane] 3) |>.trans hs4)
    have HEV := Lib.hid (show ev4.length = 1 by rw [hev rfl]; rfl)
    clear hA4 hs4 hev
    go_wp2_with (first
      | (go_at_call 14; with_reducible refine (ALog_any (H4.out.alloc _)).mono ?_; rintro e w6 ⟨rfl, hw⟩; replace hw := hw.symm; subst hw)
      | (go_at_call 15; with_reducible refine (Len_any _ F4 lp ev4 (H4.out.alloc _).lg).mono ?_; rintro e w6 ⟨rfl, hw⟩; rw [HEV.out]; subst hw)
      | (go_at_call 18; with_reducible refine (ATop_any (H4.out.alloc _)).mono ?_; rintro e w6 ⟨rfl, hw⟩; replace hw := hw.symm; subst hw))
    go_ret
    refine ⟨rfl, ?_⟩
    have b0 := bl_then B0 (bl_then hbh (Below.refl _ _) (Nat.le_refl _)) hbh.out.size
    have l0 : ∀ i, AF p g F0 i → w.heap.size ≤ i := fun i hi => Nat.le_trans hbh.out.size (LOW.out i hi)
    have b1 := S1.out.below b0 b0.size l0
    have l1 := S1.out.low b0.size l0
    have b4 := S4.out.below b1 b1.size l1
    exact b4.alloc b4.size _
  have q4 : 0 ≤ lane := by omega
  clear a4
  by_cases a5 : 2 * (N : Int) - n < lane
  · have HOK := Lib.hid (show ¬ (0 ≤ n ∧ n ≤ 49152 ∧ Lanes (2 * N) n (Pk.KL keep (fun _ => lane)) (1 + 1) ∧ ((2 * N : Nat) : Int) + n ≤ (List.replicate (2 * N + mo) (0 : Int)).length) by rw [pk_cond N mo]; omega)
    go_enter Try.func9, Try.ntmps9
    go_wp2_with (first
      | (first | (go_at_call 36; refine (awake04_any _).mono ?_; rintro e w1 ⟨rfl, hb⟩; have hcf := bcell hb; (try simp only [World.size_alloc, World.size_setCell, drew_size] at hcf); have hz := hb.size; (try simp only [World.size_alloc, World.size_setCell, World.size_drew] at hz); have hbh := Lib.hid hb; clear hb; obtain ⟨hc, hf⟩ := hcf))
      | (go_at_call 24; with_reducible refine (ANew_any _ (2 * N + mo) HNW.out _).mono ?_; rintro e w0 ⟨p, g, lp, F0, rfl, hA, hlow, hb⟩; have H0 := Lib.hid hA; have LOW := Lib.hid hlow; have B0 := Lib.hid hb; have z0 := hb.size; clear hA hlow hb)
      | (go_at_call 25; with_reducible refine (ATake_j H0.out (by decide) _ (by omega) (by rw [List.length_replicate]; omega)).mono ?_; rintro e w2 ⟨rfl, F1, hA1, hs1⟩; have H1 := Lib.hid (normN hA1); have S1 := Lib.hid hs1; have z1 := hs1.size; clear hA1 hs1)
      | (go_at_call 14; with_reducible refine (ALog_any H1.out).mono ?_; rintro e w6 ⟨rfl, hw⟩; replace hw := hw.symm; subst hw)
      | (go_at_call 15; with_reducible refine (Len_any _ F1 lp [⟨4, 0, 2 * (N : Int)⟩] H1.out.lg).mono ?_; rintro e w6 ⟨rfl, hw⟩; subst hw))
    with_reducible refine (Pack_ok (H1.out.alloc _) (by simp only [List.length_cons, List.length_nil]; decide) keep n _ 1 1 (fun _ => lane) (Iti.one H1.out.most lane _) (by decide) false ⟨fun h => (by cases h), fun h => absurd h HOK.out⟩).mono ?_
    rintro e w4 ⟨x, F4, ws4, ev4, rfl, hA4, hev, hs4⟩
    have H4 := Lib.hid hA4
    have S4 := Lib.hid (H1.out.step0.alloc (.cells #[.int .i64 lane] 3) |>.trans hs4)
    have HEV := Lib.hid (show ev4.length = 1 by rw [hev rfl]; rfl)
    clear hA4 hs4 hev
    go_wp2_with (first
      | (go_at_call 14; with_reducible refine (ALog_any (H4.out.alloc _)).mono ?_; rintro e w6 ⟨rfl, hw⟩; replace hw := hw.symm; subst hw)
      | (go_at_call 15; with_reducible refine (Len_any _ F4 lp ev4 (H4.out.alloc _).lg).mono ?_; rintro e w6 ⟨rfl, hw⟩; rw [HEV.out]; subst hw)
      | (go_at_call 18; with_reducible refine (ATop_any (H4.out.alloc _)).mono ?_; rintro e w6 ⟨rfl, hw⟩; replace hw := hw.symm; subst hw))
    go_ret
    refine ⟨rfl, ?_⟩
    have b0 := bl_then B0 (bl_then hbh (Below.refl _ _) (Nat.le_refl _)) hbh.out.size
    have l0 : ∀ i, AF p g F0 i → w.heap.size ≤ i := fun i hi => Nat.le_trans hbh.out.size (LOW.out i hi)
    have b1 := S1.out.below b0 b0.size l0
    have l1 := S1.out.low b0.size l0
    have b4 := S4.out.below b1 b1.size l1
    exact b4.alloc b4.size _
  have q5 : lane ≤ 2 * (N : Int) - n := by omega
  clear a5
  by_cases a6 : n = 0
  · obtain rfl : N = 0 := by omega
    obtain rfl : keep = 0 := by omega
    obtain rfl : lane = 0 := by omega
    subst a6
    have hN0 : max (min (0 : Int) 30) 0 = 0 := by decide
    clear hN q0 q1 q2 q3 q4 q5 HNW
    have HNW := Lib.hid (show (if (4194304 : Int) < (if (mo : Int) < 0 then 0 else (mo : Int)) then 4194304 else (if (mo : Int) < 0 then 0 else (mo : Int))) = ((mo : Nat) : Int) by rw [if_neg (by omega), if_neg (by omega)])
    have HOK := Lib.hid (show (0 : Int) ≤ 0 ∧ (0 : Int) ≤ 49152 ∧ Lanes 0 0 (Pk.KL 0 (fun _ => 0)) (1 + 1) ∧ ((0 : Nat) : Int) + 0 ≤ (List.replicate mo (0 : Int)).length by
      refine ⟨by decide, by decide, (lanes2_iff 0 0 0 0).2 ⟨by decide, by decide, by decide⟩, ?_⟩
      rw [List.length_replicate]
      omega)
    go_enter Try.func9, Try.ntmps9
    go_wp2_with (first
      | (first | (go_at_call 36; refine (awake04_any _).mono ?_; rintro e w1 ⟨rfl, hb⟩; have hcf := bcell hb; (try simp only [World.size_alloc, World.size_setCell, drew_size] at hcf); have hz := hb.size; (try simp only [World.size_alloc, World.size_setCell, World.size_drew] at hz); have hbh := Lib.hid hb; clear hb; obtain ⟨hc, hf⟩ := hcf))
      | (go_at_call 24; with_reducible refine (ANew_any _ mo HNW.out _).mono ?_; rintro e w0 ⟨p, g, lp, F0, rfl, hA, hlow, hb⟩; have H0 := Lib.hid hA; have LOW := Lib.hid hlow; have B0 := Lib.hid hb; have z0 := hb.size; clear hA hlow hb)
      | (go_at_call 25; with_reducible refine (ATake_j H0.out (by decide) 0 (by omega) (by rw [List.length_replicate]; omega)).mono ?_; rintro e w2 ⟨rfl, F1, hA1, hs1⟩; have H1 := Lib.hid (norm0 hA1); have S1 := Lib.hid hs1; have z1 := hs1.size; clear hA1 hs1)
      | (go_at_call 14; with_reducible refine (ALog_any H1.out).mono ?_; rintro e w6 ⟨rfl, hw⟩; replace hw := hw.symm; subst hw)
      | (go_at_call 15; with_reducible refine (Len_any _ F1 lp [⟨4, 0, 0⟩] H1.out.lg).mono ?_; rintro e w6 ⟨rfl, hw⟩; subst hw))
    with_reducible refine (Pack_ok (H1.out.alloc _) (by simp only [List.length_cons, List.length_nil]; decide) 0 0 _ 1 1 (fun _ => 0) (Iti.one H1.out.most 0 _) (by decide) true ⟨fun _ => HOK.out, fun _ => rfl⟩).mono ?_
    rintro e w4 ⟨x, F4, ws4, ev4, rfl, hA4, hev, hs4⟩
    have H4 := Lib.hid hA4
    have S4 := Lib.hid (H1.out.step0.alloc (.cells #[.int .i64 0] 3) |>.trans hs4)
    clear hA4 hs4 hev
    go_wp2_with (first
      | (go_at_call 18; with_reducible refine (ATop_any (H4.out.alloc _)).mono ?_; rintro e w6 ⟨rfl, hw⟩; replace hw := hw.symm; subst hw))
    go_ret
    refine ⟨rfl, ?_⟩
    have b0 := bl_then B0 (bl_then hbh (Below.refl _ _) (Nat.le_refl _)) hbh.out.size
    have l0 : ∀ i, AF p g F0 i → w.heap.size ≤ i := fun i hi => Nat.le_trans hbh.out.size (LOW.out i hi)
    have b1 := S1.out.below b0 b0.size l0
    have l1 := S1.out.low b0.size l0
    have b4 := S4.out.below b1 b1.size l1
    exact b4.alloc b4.size _
  have hz : (n == 0) = false := by simp; omega
  by_cases a7 : n ≤ lane - keep
  · have hz2 := a7
    by_cases room : n ≤ mo
    · have dr : decide (n ≤ (mo : Int)) = true := decide_eq_true room
      have HOK := Lib.hid (show (0 ≤ n ∧ n ≤ 49152 ∧ Lanes (2 * N) n (Pk.KL keep (fun _ => lane)) (1 + 1) ∧ ((2 * N : Nat) : Int) + n ≤ (List.replicate (2 * N + mo) (0 : Int)).length) by rw [pk_cond N mo]; omega)
      go_enter Try.func9, Try.ntmps9
      go_wp2_with (first
        | (first | (go_at_call 36; refine (awake04_any _).mono ?_; rintro e w1 ⟨rfl, hb⟩; have hcf := bcell hb; (try simp only [World.size_alloc, World.size_setCell, drew_size] at hcf); have hz := hb.size; (try simp only [World.size_alloc, World.size_setCell, World.size_drew] at hz); have hbh := Lib.hid hb; clear hb; obtain ⟨hc, hf⟩ := hcf))
        | (go_at_call 24; with_reducible refine (ANew_any _ (2 * N + mo) HNW.out _).mono ?_; rintro e w0 ⟨p, g, lp, F0, rfl, hA, hlow, hb⟩; have H0 := Lib.hid hA; have LOW := Lib.hid hlow; have B0 := Lib.hid hb; have z0 := hb.size; clear hA hlow hb)
        | (go_at_call 25; with_reducible refine (ATake_j H0.out (by decide) _ (by omega) (by rw [List.length_replicate]; omega)).mono ?_; rintro e w2 ⟨rfl, F1, hA1, hs1⟩; have H1 := Lib.hid (normN hA1); have S1 := Lib.hid hs1; have z1 := hs1.size; clear hA1 hs1)
        | (go_at_call 14; with_reducible refine (ALog_any H1.out).mono ?_; rintro e w6 ⟨rfl, hw⟩; replace hw := hw.symm; subst hw)
        | (go_at_call 15; with_reducible refine (Len_any _ F1 lp [⟨4, 0, 2 * (N : Int)⟩] H1.out.lg).mono ?_; rintro e w6 ⟨rfl, hw⟩; subst hw))
      with_reducible refine (Pack_ok (H1.out.alloc _) (by simp only [List.length_cons, List.length_nil]; decide) keep n _ 1 1 (fun _ => lane) (Iti.one H1.out.most lane _) (by decide) true ⟨fun _ => HOK.out, fun _ => rfl⟩).mono ?_
      rintro e w4 ⟨x, F4, ws4, ev4, rfl, hA4, hev, hs4⟩
      have H4 := Lib.hid hA4
      have S4 := Lib.hid (H1.out.step0.alloc (.cells #[.int .i64 lane] 3) |>.trans hs4)
      clear hA4 hs4 hev
      go_wp2_with (first
        | (go_at_call 14; with_reducible refine (ALog_any (H4.out.alloc _)).mono ?_; rintro e w6 ⟨rfl, hw⟩; replace hw := hw.symm; subst hw)
        | (go_at_call 15; with_reducible refine (Len_any _ F4 lp ev4 (H4.out.alloc _).lg).mono ?_; rintro e w6 ⟨rfl, hw⟩; subst hw)
        | (go_at_call 18; with_reducible refine (ATop_any (H4.out.alloc _)).mono ?_; rintro e w6 ⟨rfl, hw⟩; replace hw := hw.symm; subst hw))
      go_ret
      refine ⟨rfl, ?_⟩
      have b0 := bl_then B0 (bl_then hbh (Below.refl _ _) (Nat.le_refl _)) hbh.out.size
      have l0 : ∀ i, AF p g F0 i → w.heap.size ≤ i := fun i hi => Nat.le_trans hbh.out.size (LOW.out i hi)
      have b1 := S1.out.below b0 b0.size l0
      have l1 := S1.out.low b0.size l0
      have b4 := S4.out.below b1 b1.size l1
      exact b4.alloc b4.size _
    · have dr : decide (n ≤ (mo : Int)) = false := decide_eq_false room
      have HOK := Lib.hid (show ¬ (0 ≤ n ∧ n ≤ 49152 ∧ Lanes (2 * N) n (Pk.KL keep (fun _ => lane)) (1 + 1) ∧ ((2 * N : Nat) : Int) + n ≤ (List.replicate (2 * N + mo) (0 : Int)).length) by rw [pk_cond N mo]; omega)
      go_enter Try.func9, Try.ntmps9
      go_wp2_with (first
        | (first | (go_at_call 36; refine (awake04_any _).mono ?_; rintro e w1 ⟨rfl, hb⟩; have hcf := bcell hb; (try simp only [World.size_alloc, World.size_setCell, drew_size] at hcf); have hz := hb.size; (try simp only [World.size_alloc, World.size_setCell, World.size_drew] at hz); have hbh := Lib.hid hb; clear hb; obtain ⟨hc, hf⟩ := hcf))
        | (go_at_call 24; with_reducible refine (ANew_any _ (2 * N + mo) HNW.out _).mono ?_; rintro e w0 ⟨p, g, lp, F0, rfl, hA, hlow, hb⟩; have H0 := Lib.hid hA; have LOW := Lib.hid hlow; have B0 := Lib.hid hb; have z0 := hb.size; clear hA hlow hb)
        | (go_at_call 25; with_reducible refine (ATake_j H0.out (by decide) _ (by omega) (by rw [List.length_replicate]; omega)).mono ?_; rintro e w2 ⟨rfl, F1, hA1, hs1⟩; have H1 := Lib.hid (normN hA1); have S1 := Lib.hid hs1; have z1 := hs1.size; clear hA1 hs1)
        | (go_at_call 14; with_reducible refine (ALog_any H1.out).mono ?_; rintro e w6 ⟨rfl, hw⟩; replace hw := hw.symm; subst hw)
        | (go_at_call 15; with_reducible refine (Len_any _ F1 lp [⟨4, 0, 2 * (N : Int)⟩] H1.out.lg).mono ?_; rintro e w6 ⟨rfl, hw⟩; subst hw))
      with_reducible refine (Pack_ok (H1.out.alloc _) (by simp only [List.length_cons, List.length_nil]; decide) keep n _ 1 1 (fun _ => lane) (Iti.one H1.out.most lane _) (by decide) false ⟨fun h => (by cases h), fun h => absurd h HOK.out⟩).mono ?_
      rintro e w4 ⟨x, F4, ws4, ev4, rfl, hA4, hev, hs4⟩
      have H4 := Lib.hid hA4
      have S4 := Lib.hid (H1.out.step0.alloc (.cells #[.int .i64 lane] 3) |>.trans hs4)
      have HEV := Lib.hid (show ev4.length = 1 by rw [hev rfl]; rfl)
      clear hA4 hs4 hev
      go_wp2_with (first
        | (go_at_call 14; with_reducible refine (ALog_any (H4.out.alloc _)).mono ?_; rintro e w6 ⟨rfl, hw⟩; replace hw := hw.symm; subst hw)
        | (go_at_call 15; with_reducible refine (Len_any _ F4 lp ev4 (H4.out.alloc _).lg).mono ?_; rintro e w6 ⟨rfl, hw⟩; rw [HEV.out]; subst hw)
        | (go_at_call 18; with_reducible refine (ATop_any (H4.out.alloc _)).mono ?_; rintro e w6 ⟨rfl, hw⟩; replace hw := hw.symm; subst hw))
      go_ret
      refine ⟨rfl, ?_⟩
      have b0 := bl_then B0 (bl_then hbh (Below.refl _ _) (Nat.le_refl _)) hbh.out.size
      have l0 : ∀ i, AF p g F0 i → w.heap.size ≤ i := fun i hi => Nat.le_trans hbh.out.size (LOW.out i hi)
      have b1 := S1.out.below b0 b0.size l0
      have l1 := S1.out.low b0.size l0
      have b4 := S4.out.below b1 b1.size l1
      exact b4.alloc b4.size _
  by_cases a8 : n ≤ keep - lane
  · have hz2 := a8
    by_cases room : n ≤ mo
    · have dr : decide (n ≤ (mo : Int)) = true := decide_eq_true room
      have HOK := Lib.hid (show (0 ≤ n ∧ n ≤ 49152 ∧ Lanes (2 * N) n (Pk.KL keep (fun _ => lane)) (1 + 1) ∧ ((2 * N : Nat) : Int) + n ≤ (List.replicate (2 * N + mo) (0 : Int)).length) by rw [pk_cond N mo]; omega)
      go_enter Try.func9, Try.ntmps9
      go_wp2_with (first
        | (first | (go_at_call 36; refine (awake04_any _).mono ?_; rintro e w1 ⟨rfl, hb⟩; have hcf := bcell hb; (try simp only [World.size_alloc, World.size_setCell, drew_size] at hcf); have hz := hb.size; (try simp only [World.size_alloc, World.size_setCell, World.size_drew] at hz); have hbh := Lib.hid hb; clear hb; obtain ⟨hc, hf⟩ := hcf))
        | (go_at_call 24; with_reducible refine (ANew_any _ (2 * N + mo) HNW.out _).mono ?_; rintro e w0 ⟨p, g, lp, F0, rfl, hA, hlow, hb⟩; have H0 := Lib.hid hA; have LOW := Lib.hid hlow; have B0 := Lib.hid hb; have z0 := hb.size; clear hA hlow hb)
        | (go_at_call 25; with_reducible refine (ATake_j H0.out (by decide) _ (by omega) (by rw [List.length_replicate]; omega)).mono ?_; rintro e w2 ⟨rfl, F1, hA1, hs1⟩; have H1 := Lib.hid (normN hA1); have S1 := Lib.hid hs1; have z1 := hs1.size; clear hA1 hs1)
        | (go_at_call 14; with_reducible refine (ALog_any H1.out).mono ?_; rintro e w6 ⟨rfl, hw⟩; replace hw := hw.symm; subst hw)
        | (go_at_call 15; with_reducible refine (Len_any _ F1 lp [⟨4, 0, 2 * (N : Int)⟩] H1.out.lg).mono ?_; rintro e w6 ⟨rfl, hw⟩; subst hw))
      with_reducible refine (Pack_ok (H1.out.alloc _) (by simp only [List.length_cons, List.length_nil]; decide) keep n _ 1 1 (fun _ => lane) (Iti.one H1.out.most lane _) (by decide) true ⟨fun _ => HOK.out, fun _ => rfl⟩).mono ?_
      rintro e w4 ⟨x, F4, ws4, ev4, rfl, hA4, hev, hs4⟩
      have H4 := Lib.hid hA4
      have S4 := Lib.hid (H1.out.step0.alloc (.cells #[.int .i64 lane] 3) |>.trans hs4)
      clear hA4 hs4 hev
      go_wp2_with (first
        | (go_at_call 14; with_reducible refine (ALog_any (H4.out.alloc _)).mono ?_; rintro e w6 ⟨rfl, hw⟩; replace hw := hw.symm; subst hw)
        | (go_at_call 15; with_reducible refine (Len_any _ F4 lp ev4 (H4.out.alloc _).lg).mono ?_; rintro e w6 ⟨rfl, hw⟩; subst hw)
        | (go_at_call 18; with_reducible refine (ATop_any (H4.out.alloc _)).mono ?_; rintro e w6 ⟨rfl, hw⟩; replace hw := hw.symm; subst hw))
      go_ret
      refine ⟨rfl, ?_⟩
      have b0 := bl_then B0 (bl_then hbh (Below.refl _ _) (Nat.le_refl _)) hbh.out.size
      have l0 : ∀ i, AF p g F0 i → w.heap.size ≤ i := fun i hi => Nat.le_trans hbh.out.size (LOW.out i hi)
      have b1 := S1.out.below b0 b0.size l0
      have l1 := S1.out.low b0.size l0
      have b4 := S4.out.below b1 b1.size l1
      exact b4.alloc b4.size _
    · have dr : decide (n ≤ (mo : Int)) = false := decide_eq_false room
      have HOK := Lib.hid (show ¬ (0 ≤ n ∧ n ≤ 49152 ∧ Lanes (2 * N) n (Pk.KL keep (fun _ => lane)) (1 + 1) ∧ ((2 * N : Nat) : Int) + n ≤ (List.replicate (2 * N + mo) (0 : Int)).length) by rw [pk_cond N mo]; omega)
      go_enter Try.func9, Try.ntmps9
      go_wp2_with (first
        | (first | (go_at_call 36; refine (awake04_any _).mono ?_; rintro e w1 ⟨rfl, hb⟩; have hcf := bcell hb; (try simp only [World.size_alloc, World.size_setCell, drew_size] at hcf); have hz := hb.size; (try simp only [World.size_alloc, World.size_setCell, World.size_drew] at hz); have hbh := Lib.hid hb; clear hb; obtain ⟨hc, hf⟩ := hcf))
        | (go_at_call 24; with_reducible refine (ANew_any _ (2 * N + mo) HNW.out _).mono ?_; rintro e w0 ⟨p, g, lp, F0, rfl, hA, hlow, hb⟩; have H0 := Lib.hid hA; have LOW := Lib.hid hlow; have B0 := Lib.hid hb; have z0 := hb.size; clear hA hlow hb)
        | (go_at_call 25; with_reducible refine (ATake_j H0.out (by decide) _ (by omega) (by rw [List.length_replicate]; omega)).mono ?_; rintro e w2 ⟨rfl, F1, hA1, hs1⟩; have H1 := Lib.hid (normN hA1); have S1 := Lib.hid hs1; have z1 := hs1.size; clear hA1 hs1)
        | (go_at_call 14; with_reducible refine (ALog_any H1.out).mono ?_; rintro e w6 ⟨rfl, hw⟩; replace hw := hw.symm; subst hw)
        | (go_at_call 15; with_reducible refine (Len_any _ F1 lp [⟨4, 0, 2 * (N : Int)⟩] H1.out.lg).mono ?_; rintro e w6 ⟨rfl, hw⟩; subst hw))
      with_reducible refine (Pack_ok (H1.out.alloc _) (by simp only [List.length_cons, List.length_nil]; decide) keep n _ 1 1 (fun _ => lane) (Iti.one H1.out.most lane _) (by decide) false ⟨fun h => (by cases h), fun h => absurd h HOK.out⟩).mono ?_
      rintro e w4 ⟨x, F4, ws4, ev4, rfl, hA4, hev, hs4⟩
      have H4 := Lib.hid hA4
      have S4 := Lib.hid (H1.out.step0.alloc (.cells #[.int .i64 lane] 3) |>.trans hs4)
      have HEV := Lib.hid (show ev4.length = 1 by rw [hev rfl]; rfl)
      clear hA4 hs4 hev
      go_wp2_with (first
        | (go_at_call 14; with_reducible refine (ALog_any (H4.out.alloc _)).mono ?_; rintro e w6 ⟨rfl, hw⟩; replace hw := hw.symm; subst hw)
        | (go_at_call 15; with_reducible refine (Len_any _ F4 lp ev4 (H4.out.alloc _).lg).mono ?_; rintro e w6 ⟨rfl, hw⟩; rw [HEV.out]; subst hw)
        | (go_at_call 18; with_reducible refine (ATop_any (H4.out.alloc _)).mono ?_; rintro e w6 ⟨rfl, hw⟩; replace hw := hw.symm; subst hw))
      go_ret
      refine ⟨rfl, ?_⟩
      have b0 := bl_then B0 (bl_then hbh (Below.refl _ _) (Nat.le_refl _)) hbh.out.size
      have l0 : ∀ i, AF p g F0 i → w.heap.size ≤ i := fun i hi => Nat.le_trans hbh.out.size (LOW.out i hi)
      have b1 := S1.out.below b0 b0.size l0
      have l1 := S1.out.low b0.size l0
      have b4 := S4.out.below b1 b1.size l1
      exact b4.alloc b4.size _
  have HOK := Lib.hid (show ¬ (0 ≤ n ∧ n ≤ 49152 ∧ Lanes (2 * N) n (Pk.KL keep (fun _ => lane)) (1 + 1) ∧ ((2 * N : Nat) : Int) + n ≤ (List.replicate (2 * N + mo) (0 : Int)).length) by rw [pk_cond N mo]; omega)
  go_enter Try.func9, Try.ntmps9
  go_wp2_with (first
    | (first | (go_at_call 36; refine (awake04_any _).mono ?_; rintro e w1 ⟨rfl, hb⟩; have hcf := bcell hb; (try simp only [World.size_alloc, World.size_setCell, drew_size] at hcf); have hz := hb.size; (try simp only [World.size_alloc, World.size_setCell, World.size_drew] at hz); have hbh := Lib.hid hb; clear hb; obtain ⟨hc, hf⟩ := hcf))
    | (go_at_call 24; with_reducible refine (ANew_any _ (2 * N + mo) HNW.out _).mono ?_; rintro e w0 ⟨p, g, lp, F0, rfl, hA, hlow, hb⟩; have H0 := Lib.hid hA; have LOW := Lib.hid hlow; have B0 := Lib.hid hb; have z0 := hb.size; clear hA hlow hb)
    | (go_at_call 25; with_reducible refine (ATake_j H0.out (by decide) _ (by omega) (by rw [List.length_replicate]; omega)).mono ?_; rintro e w2 ⟨rfl, F1, hA1, hs1⟩; have H1 := Lib.hid (normN hA1); have S1 := Lib.hid hs1; have z1 := hs1.size; clear hA1 hs1)
    | (go_at_call 14; with_reducible refine (ALog_any H1.out).mono ?_; rintro e w6 ⟨rfl, hw⟩; replace hw := hw.symm; subst hw)
    | (go_at_call 15; with_reducible refine (Len_any _ F1 lp [⟨4, 0, 2 * (N : Int)⟩] H1.out.lg).mono ?_; rintro e w6 ⟨rfl, hw⟩; subst hw))
  with_reducible refine (Pack_ok (H1.out.alloc _) (by simp only [List.length_cons, List.length_nil]; decide) keep n _ 1 1 (fun _ => lane) (Iti.one H1.out.most lane _) (by decide) false ⟨fun h => (by cases h), fun h => absurd h HOK.out⟩).mono ?_
  rintro e w4 ⟨x, F4, ws4, ev4, rfl, hA4, hev, hs4⟩
  have H4 := Lib.hid hA4
  have S4 := Lib.hid (H1.out.step0.alloc (.cells #[.int .i64 lane] 3) |>.trans hs4)
  have HEV := Lib.hid (show ev4.length = 1 by rw [hev rfl]; rfl)
  clear hA4 hs4 hev
  go_wp2_with (first
    | (go_at_call 14; with_reducible refine (ALog_any (H4.out.alloc _)).mono ?_; rintro e w6 ⟨rfl, hw⟩; replace hw := hw.symm; subst hw)
    | (go_at_call 15; with_reducible refine (Len_any _ F4 lp ev4 (H4.out.alloc _).lg).mono ?_; rintro e w6 ⟨rfl, hw⟩; rw [HEV.out]; subst hw)
    | (go_at_call 18; with_reducible refine (ATop_any (H4.out.alloc _)).mono ?_; rintro e w6 ⟨rfl, hw⟩; replace hw := hw.symm; subst hw))
  go_ret
  refine ⟨rfl, ?_⟩
  have b0 := bl_then B0 (bl_then hbh (Below.refl _ _) (Nat.le_refl _)) hbh.out.size
  have l0 : ∀ i, AF p g F0 i → w.heap.size ≤ i := fun i hi => Nat.le_trans hbh.out.size (LOW.out i hi)
  have b1 := S1.out.below b0 b0.size l0
  have l1 := S1.out.low b0.size l0
  have b4 := S4.out.below b1 b1.size l1
  exact b4.alloc b4.size _
end Go.Proofs.Ytjoehhojhfgooaa
