/- UnutfEncodes: the law's call. No condition. -/
import Derived.Test.YtjoehhojhfgooaaUnQ
import Derived.Test.YtjoehhojhfgooaaUtDc
namespace Go.Proofs.Ytjoehhojhfgooaa
open Go.RowKit
set_option linter.unusedSimpArgs false
set_option linter.unusedVariables false
attribute [local go_sem] IntKind.wrap_u32' signed_u32 max_u32
attribute [local go_sem ↓] Go.wp_at_zero Go.wp_at_succ
attribute [local go_sem] Calm.C
attribute [local go_sem low] Calm.al_cell Calm.al_frozen
theorem late_reg {P : Program} {c : Code} {X : Exit → Act → World → Prop} {a : Act} {w : World} (R : Act → Act → World → Prop) (hreg : ∀ X' : Exit → Act → World → Prop, (∀ b W, R a b W → X' .normal b W) → Code.wp P c X' a w) (hk : ∀ b W, R a b W → X .normal b W) : Code.wp P c X a w := hreg X hk
theorem rdm {mk : World → World} {n : Nat} (X : World) {W : World} {B : Nat} (hB : X.heap.size = B) (hm : Below X.heap.size X (mk X) ∧ X.heap.size < (mk X).heap.size ∧ (∀ c, c < n → (mk X).cell? ⟨X.heap.size, c, none⟩ = some (.int .u32 0)) ∧ (∀ c, (mk X).frozen? ⟨X.heap.size, c, none⟩ = false)) (hb : Below (mk X).heap.size (mk X) W) :
    Rd W (some ⟨B, 0, none⟩) n (fun _ => 0) := fun _ => hB ▸
  ⟨X.heap.size, 0, rfl, Nat.lt_of_lt_of_le hm.2.1 hb.size, fun i hi => by
    rw [Nat.zero_add]
    exact (hb.cell (p := ⟨X.heap.size, i, none⟩) hm.2.1).trans (hm.2.2.1 i hi)⟩
theorem rt_lay (n m : Nat) (hn : n ≤ 24) (hm : m ≤ 4 * n) : Rt (2 * n + m) 0 n n (2 * (n : Int)) m := by
  refine ⟨by omega, by omega, by omega, by omega, ⟨by omega, by omega, by omega⟩, ⟨by omega, by omega, by omega⟩, ⟨by omega, by omega, by omega⟩, ?_, ?_, ?_⟩ <;> unfold Ovl <;> omega
attribute [local irreducible] Un.siz Un.ovr Un.fin Un.lay Un.layE Un.evs Un.cost stEvs putw Un.wl
set_option maxRecDepth 10000 in
set_option maxHeartbeats 6400000 in
theorem UnutfEncodes_any {w : World} {A KA : Option Addr} {n c kn kc : Nat} {pf kf : Nat → Nat} (hP : Rd w A n (fun i => (pf i : Int))) (hpf : ∀ i, pf i < 4294967296) (hn : n ≤ 9223372036854775807) (hK : Rd w KA kn (fun i => (kf i : Int))) (hkf : ∀ i, kf i < 4294967296) (hkn : kn ≤ 9223372036854775807) (x : Nat) (hx : x < 256) :
    Calls Try.prog 3 #[.slice A n c, .slice KA kn kc, .int .u8 x] w fun e w' => e = .returned (.bool true) ∧ Below w.heap.size w w' := by
  rcases (by omega : 24 < n ∨ (n ≤ 24 ∧ kn ≠ n) ∨ (n ≤ 24 ∧ kn = n)) with h60 | ⟨h60, h61⟩ | ⟨h60, h61⟩
  · clear hP hK
    go_enter Try.func3, Try.ntmps3
    go_wp2_with (first | (go_at_call 12; refine (awake10_any _).mono ?_; rintro e w1 ⟨rfl, hb⟩; have hcf := bcell hb; (try simp only [World.size_alloc, World.size_setCell, drew_size] at hcf); have hz := hb.size; (try simp only [World.size_alloc, World.size_setCell, World.size_drew] at hz); have hbh := Lib.hid hb; clear hb; obtain ⟨hc, hf⟩ := hcf))
    go_ret
    refine ⟨rfl, ?_⟩
    (repeat' (first | with_reducible exact Below.refl _ _ | with_reducible refine bl_drewN ?_ _ | with_reducible refine bl_drew ?_ | refine bl_set (by (first | omega | (simp; done) | (simp; omega))) ?_ _ | refine bl_alloc (by (first | omega | (simp; done) | (simp; omega))) ?_ _ | refine bl_then (by assumption) ?_ (by (first | omega | (simp; done) | (simp; omega))) | refine Step.bl (by assumption) (by assumption) (by (first | omega | (simp; done) | (simp; omega))) (by (first | omega | (simp; done) | (simp; omega))) ?_))
  · clear hP hK
    have d1 : decide ((24 : Int) < n) = false := decide_eq_false (by omega)
    have d2 : ((kn : Int) != (n : Int)) = true := by simp; omega
    go_enter Try.func3, Try.ntmps3
    go_wp2_with (first | (go_at_call 12; refine (awake10_any _).mono ?_; rintro e w1 ⟨rfl, hb⟩; have hcf := bcell hb; (try simp only [World.size_alloc, World.size_setCell, drew_size] at hcf); have hz := hb.size; (try simp only [World.size_alloc, World.size_setCell, World.size_drew] at hz); have hbh := Lib.hid hb; clear hb; obtain ⟨hc, hf⟩ := hcf))
    go_ret
    refine ⟨rfl, ?_⟩
    (repeat' (first | with_reducible exact Below.refl _ _ | with_reducible refine bl_drewN ?_ _ | with_reducible refine bl_drew ?_ | refine bl_set (by (first | omega | (simp; done) | (simp; omega))) ?_ _ | refine bl_alloc (by (first | omega | (simp; done) | (simp; omega))) ?_ _ | refine bl_then (by assumption) ?_ (by (first | omega | (simp; done) | (simp; omega))) | refine Step.bl (by assumption) (by assumption) (by (first | omega | (simp; done) | (simp; omega))) (by (first | omega | (simp; done) | (simp; omega))) ?_))
  subst h61
  obtain ⟨m, hm⟩ : ∃ m, x % (4 * kn + 1) = m := ⟨_, rfl⟩
  have hm4 : m ≤ 4 * kn := by
    have := Nat.mod_lt x (show 4 * kn + 1 > 0 by omega)
    omega
  have hxi : Int.tmod (x : Int) (4 * (kn : Int) + 1) = (m : Int) := by
    rw [Int.tmod_eq_emod_of_nonneg (by omega), ← hm]
    simp
  clear hm
  have hn0 : (4 * (kn : Int) + 1 == 0) = false := by simp; omega
  have HP := Lib.hid hP
  have HK := Lib.hid hK
  have HPF := Lib.hid hpf
  have HKF := Lib.hid hkf
  obtain ⟨mk, hmk⟩ := mk_words kn (by omega)
  have HMK := Lib.hid hmk
  have mkrun := fun w => (hmk w).1
  clear hP hK hpf hkf hmk
  go_enter Try.func3, Try.ntmps3
  go_wp2_with (first | (go_at_call 12; refine (awake10_any _).mono ?_; rintro e wq ⟨rfl, hb⟩; have hcf_wq := bcell hb; (try simp only [World.size_alloc, World.size_setCell, drew_size] at hcf_wq); have hz_wq := hb.size; (try simp only [World.size_alloc, World.size_setCell, World.size_drew] at hz_wq); have hbh_wq := Lib.hid hb; clear hb; obtain ⟨hc_wq, hf_wq⟩ := hcf_wq))
  refine late_reg (fun a b W => ∃ p g lp F p2 g2 lp2 F2, b = ((((((((((((a.put (some 43) (.slice A kn c)).put (some 44) (.slice KA kn kc)).put (some 45) (.int .i64 (m : Int))).put (some 46) (.pointer (some ⟨p, 0, none⟩))).put (some 47) (.int .i64 (kn : Int))).put (some 48) (b.tmps.getD 48 undef)).put (some 49) (.int .i64 (kn : Int))).put (some 50) (b.tmps.getD 50 undef)).put (some 51) (.int .i64 (m : Int))).put (some 52) (.pointer (some ⟨p2, 0, none⟩))).put (some 9) (.pointer (some ⟨p, 0, none⟩))).put (some 10) (.pointer (some ⟨p2, 0, none⟩))) ∧ Ar W p g lp F (Un.lay kn (fun i => (pf i : Int)) (fun i => (kf i : Int)) m) (2 * kn + m) (Un.layE kn m) ∧ Ar W p2 g2 lp2 F2 (Un.lay kn (fun _ => 0) (fun _ => 0) m) (2 * kn + m) (Un.layE kn m) ∧ (∀ i, AF p g F i → w.heap.size ≤ i) ∧ (∀ i, AF p2 g2 F2 i → w.heap.size ≤ i) ∧ (∀ i, AF p g F i → ¬ AF p2 g2 F2 i) ∧ Below w.heap.size w W) ?_ ?_
  · intro X' hX
    go_region_held3 (fun w' => Below w.heap.size w w') ((first | assumption | (refine bl_then (Lib.hid (HMK.out _).2.1) ?_ ?_ <;> first | assumption | ((repeat' (first | with_reducible exact Below.refl _ _ | with_reducible refine bl_drewN ?_ _ | with_reducible refine bl_drew ?_ | refine bl_set (by (first | omega | (simp; done) | (simp; omega))) ?_ _ | refine bl_alloc (by (first | omega | (simp; done) | (simp; omega))) ?_ _ | refine bl_then (by assumption) ?_ (by (first | omega | (simp; done) | (simp; omega))) | refine Step.bl (by assumption) (by assumption) (by (first | omega | (simp; done) | (simp; omega))) (by (first | omega | (simp; done) | (simp; omega))) ?_)); done) | exact Below.size (by assumption) | (refine Below.size (B := w.heap.size) (w := w) ?_; (repeat' (first | with_reducible exact Below.refl _ _ | with_reducible refine bl_drewN ?_ _ | with_reducible refine bl_drew ?_ | refine bl_set (by (first | omega | (simp; done) | (simp; omega))) ?_ _ | refine bl_alloc (by (first | omega | (simp; done) | (simp; omega))) ?_ _ | refine bl_then (by assumption) ?_ (by (first | omega | (simp; done) | (simp; omega))) | refine Step.bl (by assumption) (by assumption) (by (first | omega | (simp; done) | (simp; omega))) (by (first | omega | (simp; done) | (simp; omega))) ?_)); done)) | (refine bl_then (by assumption) ?_ ?_ <;> first | assumption | exact Below.size (by assumption)) | ((repeat' (first | with_reducible exact Below.refl _ _ | with_reducible refine bl_drewN ?_ _ | with_reducible refine bl_drew ?_ | refine bl_set (by (first | omega | (simp; done) | (simp; omega))) ?_ _ | refine bl_alloc (by (first | omega | (simp; done) | (simp; omega))) ?_ _ | refine bl_then (by assumption) ?_ (by (first | omega | (simp; done) | (simp; omega))) | refine Step.bl (by assumption) (by assumption) (by (first | omega | (simp; done) | (simp; omega))) (by (first | omega | (simp; done) | (simp; omega))) ?_)); done))) (first
      | (go_at_call 13; with_reducible refine (lay10_any (HP.out.below (by assumption)) (HK.out.below (by assumption)) (by omega) (m : Int) m rfl (by omega)).mono ?_; rintro e wX ⟨p, g, lp, F1, rfl, hA1, hlow1, hb1⟩; have HA := Lib.hid hA1; have LOWA := Lib.hid hlow1; have BA := Lib.hid hb1; have zA := hb1.size; clear hA1 hlow1 hb1)
      | (go_at_call 13; with_reducible refine (lay10_any (n := kn) (pf := fun _ => 0) (kf := fun _ => 0) ?_ ?_ (by omega) (m : Int) m rfl (by omega)).mono ?_; (next => (first | exact rdm wX (by first | rfl | (simp; done) | exact drew_size _) (HMK.out _).2 (by (repeat' (first | exact Below.refl _ _ | with_reducible refine below_thru ?_ (HMK.out _).2.1 | with_reducible refine below_thru ?_ BA.out | with_reducible refine below_thru ?_ BB.out))) | exact rdm (mk wX) (by first | rfl | (simp; done) | exact drew_size _) (HMK.out _).2 (by (repeat' (first | exact Below.refl _ _ | with_reducible refine below_thru ?_ (HMK.out _).2.1 | with_reducible refine below_thru ?_ BA.out | with_reducible refine below_thru ?_ BB.out))) | exact rdm wq.drew (by first | rfl | (simp; done) | exact drew_size _) (HMK.out _).2 (by (repeat' (first | exact Below.refl _ _ | with_reducible refine below_thru ?_ (HMK.out _).2.1 | with_reducible refine below_thru ?_ BA.out | with_reducible refine below_thru ?_ BB.out))) | exact rdm (mk wq.drew) (by first | rfl | (simp; done) | exact drew_size _) (HMK.out _).2 (by (repeat' (first | exact Below.refl _ _ | with_reducible refine below_thru ?_ (HMK.out _).2.1 | with_reducible refine below_thru ?_ BA.out | with_reducible refine below_thru ?_ BB.out))))); (next => (first | exact rdm wX (by first | rfl | (simp; done) | exact drew_size _) (HMK.out _).2 (by (repeat' (first | exact Below.refl _ _ | with_reducible refine below_thru ?_ (HMK.out _).2.1 | with_reducible refine below_thru ?_ BA.out | with_reducible refine below_thru ?_ BB.out))) | exact rdm (mk wX) (by first | rfl | (simp; done) | exact drew_size _) (HMK.out _).2 (by (repeat' (first | exact Below.refl _ _ | with_reducible refine below_thru ?_ (HMK.out _).2.1 | with_reducible refine below_thru ?_ BA.out | with_reducible refine below_thru ?_ BB.out))) | exact rdm wq.drew (by first | rfl | (simp; done) | exact drew_size _) (HMK.out _).2 (by (repeat' (first | exact Below.refl _ _ | with_reducible refine below_thru ?_ (HMK.out _).2.1 | with_reducible refine below_thru ?_ BA.out | with_reducible refine below_thru ?_ BB.out))) | exact rdm (mk wq.drew) (by first | rfl | (simp; done) | exact drew_size _) (HMK.out _).2 (by (repeat' (first | exact Below.refl _ _ | with_reducible refine below_thru ?_ (HMK.out _).2.1 | with_reducible refine below_thru ?_ BA.out | with_reducible refine below_thru ?_ BB.out))))); rintro e wY ⟨p2, g2, lp2, F2, rfl, hA2, hlow2, hb2⟩; have HB0 := Lib.hid hA2; have LOWB := Lib.hid hlow2; have BB := Lib.hid hb2; have zB := hb2.size; clear hA2 hlow2 hb2))
    all_goals
      have hqd : wq.drew.heap.size = wq.heap.size := drew_size wq
      have m1 := (HMK.out wq.drew).2.2.1
      have m2 := (HMK.out (mk wq.drew)).2.2.1
      have m3 := (HMK.out wX).2.2.1
      have m4 := (HMK.out (mk wX)).2.2.1
      refine hX _ _ ⟨p, g, lp, F1, p2, g2, lp2, F2, by simp only [Act.put, List.setIfInBounds_toArray, List.set_cons_zero, List.set_cons_succ, Array.getD_eq_getD_getElem?, List.getElem?_toArray, List.getElem?_cons_zero, List.getElem?_cons_succ, Option.getD_some], ?_, HB0.out, fun i hi => ?_, fun i hi => ?_, fun i h1 h2 => ?_, by assumption⟩
      · exact HA.out.below (Lib.hid (by (repeat' (first | exact Below.refl _ _ | with_reducible refine below_thru ?_ (HMK.out _).2.1 | with_reducible refine below_thru ?_ BA.out | with_reducible refine below_thru ?_ BB.out))))
      · have := LOWA.out i hi
        omega
      · have := LOWB.out i hi
        omega
      · have := LOWB.out i h2
        have := HA.out.most i h1
        omega
  · rintro b W0 ⟨p, g, lp, F, p2, g2, lp2, F2, hbb, hA, hB, lA, lB, dis, bW⟩
    obtain ⟨s1, h1⟩ : ∃ s1, b.tmps.getD 48 undef = s1 := ⟨_, rfl⟩
    obtain ⟨s2, h2⟩ : ∃ s2, b.tmps.getD 50 undef = s2 := ⟨_, rfl⟩
    rw [h1, h2] at hbb
    clear h1 h2
    subst hbb
    simp only [Act.put, List.setIfInBounds_toArray, List.set_cons_zero, List.set_cons_succ]
    have HA := Lib.hid hA
    have HB := Lib.hid hB
    have LA := Lib.hid lA
    have LB := Lib.hid lB
    have DIS := Lib.hid dis
    have B0 := Lib.hid bW
    have z0 := bW.size
    have hel : (Un.layE kn m).length = 2 * kn + 1 := Un.layE_len kn m
    have HEL := Lib.hid hel
    have HCO := Lib.hid (Un.cost_evs 0 kn kn (2 * kn) m (2 * kn + m))
    have HWL := Lib.hid (Un.lay_len kn (fun i => (pf i : Int)) (fun i => (kf i : Int)) m)
    have HWL2 := Lib.hid (Un.lay_len kn (fun _ => 0) (fun _ => 0) m)
    obtain ⟨WA, hWA⟩ : ∃ WA, Un.lay kn (fun i => (pf i : Int)) (fun i => (kf i : Int)) m = WA := ⟨_, rfl⟩
    obtain ⟨WB, hWB⟩ : ∃ WB, Un.lay kn (fun _ => 0) (fun _ => 0) m = WB := ⟨_, rfl⟩
    rw [hWA] at HA HWL
    rw [hWB] at HB HWL2
    have HWA := Lib.hid hWA
    obtain ⟨CL, hCL⟩ : ∃ CL, Un.cost kn m = CL := ⟨_, rfl⟩
    have hCLb : CL ≤ 20000000 := by
      rw [← hCL]
      have h1 := Pk.cs_le (4 * kn) 1 (by omega) (by decide) (Pk.stp (4 * kn))
      have h2 := Pk.stp_le (4 * kn) (by omega)
      unfold Un.cost
      omega
    rw [hCL] at HCO
    have HCC := Lib.hid hCL
    obtain ⟨T, hT⟩ : ∃ T, 2 * kn + m = T := ⟨_, rfl⟩
    have hTi : 2 * (kn : Int) + (m : Int) = (T : Int) := by omega
    have hT1 : T ≤ 2 * kn + m ∧ 2 * kn + m ≤ T := by omega
    have hRt := rt_lay kn m h60 hm4
    rw [hT] at HA HB HCO hRt
    clear hA hB lA lB dis bW hel mkrun HMK hWA hWB hCL hT hc_wq hf_wq hbh_wq
    go_wp2_with (first
      | (go_at_call 14; with_reducible refine (ALog_any HA.out).mono ?_; rintro e w6 ⟨rfl, hw⟩; replace hw := hw.symm; subst hw)
      | (go_at_call 15; with_reducible refine (Len_any _ F lp (Un.layE kn m) HA.out.lg).mono ?_; rintro e w6 ⟨rfl, hw⟩; rw [HEL.out]; subst hw))
    with_reducible refine (Encode_e HA.out (by rw [HEL.out]; omega) (by rw [HWL.out]; omega) 0 (kn : Int) (kn : Int) (2 * (kn : Int)) (m : Int) 0 kn kn (2 * kn) m rfl rfl rfl (by omega) rfl hRt (by rw [HWL.out]; omega)).mono ?_
    rintro e w5 ⟨rfl, F5, hA5, hs5⟩
    obtain ⟨EV, hEV⟩ : ∃ EV, Un.evs 0 kn kn (2 * kn) m T = EV := ⟨_, rfl⟩
    obtain ⟨X, hX⟩ : ∃ X, Un.siz 0 kn kn T WA = X := ⟨_, rfl⟩
    obtain ⟨O, hO⟩ : ∃ O, Un.ovr 0 kn kn m T WA = O := ⟨_, rfl⟩
    obtain ⟨PO, hPO⟩ : ∃ PO, Un.fin 0 kn kn (2 * kn) m T WA = PO := ⟨_, rfl⟩
    rw [hX, hO]
    rw [hEV, hPO] at hA5
    rw [hEV] at HCO
    have HX := Lib.hid hX
    have HO := Lib.hid hO
    have HPO := Lib.hid hPO
    have HEV := Lib.hid hEV
    have HS5 := Lib.hid hs5
    have HA5 := Lib.hid hA5
    have zw5 := hs5.size
    clear hX hO hPO hEV hs5 hA5
    go_wp2_with fail
    obtain ⟨W5, hW5⟩ : ∃ W5, (w5.alloc (.cells #[.int .u32 X] 32)).alloc (.cells #[.int .u32 O] 32) = W5 := ⟨_, rfl⟩
    obtain ⟨D, hD⟩ : ∃ D, w5.heap.size = D := ⟨_, rfl⟩
    have zW5 : W5.heap.size = D + 2 := by rw [← hW5, ← hD]; simp
    have c12 : W5.cell? ⟨D, 0, none⟩ = some (.int .u32 X) := by rw [← hW5, ← hD]; clear hW5 hD; simp [go_sem, ↓IntWalk.iteOmega]
    have c13 : W5.cell? ⟨D + 1, 0, none⟩ = some (.int .u32 O) := by rw [← hW5, ← hD]; clear hW5 hD; simp [go_sem, ↓IntWalk.iteOmega]
    have S5 := Lib.hid (show Step (AF p g F) (AF p g F5) W0 W5 by rw [← hW5]; exact (HS5.out.alloc _).alloc _)
    have HA5' := Lib.hid (show Ar W5 p g lp F5 PO T (Un.layE kn m ++ EV) by rw [← hW5]; exact (HA5.out.alloc _).alloc _)
    have nd : ∀ j, D ≤ j → ¬ AF p g F5 j := fun j hj hf => by have := HA5.out.most _ hf; omega
    have nd2 : ∀ j, D ≤ j → ¬ AF p2 g2 F2 j := fun j hj hf => by have := HB.out.most _ hf; omega
    have HB5 := Lib.hid (HB.out.beside S5.out (fun i h2 h1 => DIS.out i h1 h2))
    have B5 := Lib.hid (S5.out.below B0.out B0.out.size LA.out)
    have LA5 := Lib.hid (S5.out.low B0.out.size LA.out)
    have DIS5 := Lib.hid (show ∀ i, AF p g F5 i → ¬ AF p2 g2 F2 i from fun i h1 h2 => DIS.out i ((S5.out.foot i (HB.out.most i h2)).1 h1) h2)
    rw [hW5]
    rw [hD]
    clear hW5 hD HA5 HS5 HA HB DIS
    with_reducible refine (Encode_e HB5.out (by rw [HEL.out]; omega) (by rw [HWL2.out]; omega) 0 (kn : Int) (kn : Int) (2 * (kn : Int)) (m : Int) 0 kn kn (2 * kn) m rfl rfl rfl (by omega) rfl hRt (by rw [HWL2.out]; omega)).mono ?_
    rintro e w6 ⟨rfl, F6, hA6, hs6⟩
    rw [HEV.out] at hA6
    obtain ⟨X2, hX2⟩ : ∃ X, Un.siz 0 kn kn T WB = X := ⟨_, rfl⟩
    obtain ⟨O2, hO2⟩ : ∃ O, Un.ovr 0 kn kn m T WB = O := ⟨_, rfl⟩
    obtain ⟨PO2, hPO2⟩ : ∃ PO, Un.fin 0 kn kn (2 * kn) m T WB = PO := ⟨_, rfl⟩
    rw [hX2, hO2]
    rw [hPO2] at hA6
    have HS6 := Lib.hid hs6
    have HA6 := Lib.hid hA6
    clear hX2 hO2 hPO2 hs6 hA6
    obtain ⟨W6, hW6⟩ : ∃ W6, (w6.alloc (.cells #[.int .u32 X2] 32)).alloc (.cells #[.int .u32 O2] 32) = W6 := ⟨_, rfl⟩
    have S6 := Lib.hid (show Step (AF p2 g2 F2) (AF p2 g2 F6) W5 W6 by rw [← hW6]; exact (HS6.out.alloc _).alloc _)
    have HY := Lib.hid (show Ar W6 p2 g2 lp2 F6 PO2 T (Un.layE kn m ++ EV) by rw [← hW6]; exact (HA6.out.alloc _).alloc _)
    have HZ := Lib.hid (HA5'.out.beside S6.out DIS5.out)
    have d12 := (old_cell (o := 0) S6.out (b := D) (by omega) (nd2 D (Nat.le_refl _))).trans c12
    have d13 := (old_cell (o := 0) S6.out (b := D + 1) (by omega) (nd2 (D + 1) (by omega))).trans c13
    have B6 := Lib.hid (S6.out.below B5.out B5.out.size LB.out)
    have z6 := S6.out.size
    have hE1l : (Un.layE kn m ++ EV).length = 2 * kn + 1 + CL := by rw [List.length_append, HEL.out, HCO.out]
    obtain ⟨E1, hE1⟩ : ∃ E1, Un.layE kn m ++ EV = E1 := ⟨_, rfl⟩
    rw [hE1] at HY HZ hE1l
    have HE1L := Lib.hid hE1l
    have hci : (2 * (kn : Int) + 1 + (CL : Int)) - (2 * (kn : Int) + 1) = CL := by omega
    obtain ⟨EB, hEB⟩ : ∃ EB, blind E1 = EB := ⟨_, rfl⟩
    have HEB := Lib.hid hEB
    have HLB := Lib.hid (show EB.length = 2 * kn + 1 + CL by rw [← hEB, blind, List.length_map, hE1l])
    have hLb : 2 * kn + 1 + CL < 1099511627776 := by omega
    clear HA5' HB5 B5 DIS5 HS6 HA6 c12 c13 hE1 hE1l hEB nd2 S6 B0 S5
    go_wp2_with fail
    clear hW6
    obtain ⟨D6, hD6⟩ : ∃ D6, w6.heap.size = D6 := ⟨_, rfl⟩
    rw [hD6]
    clear hD6
    go_wp2_with (first
      | (go_at_call 14; with_reducible refine (ALog_any HZ.out).mono ?_; rintro e w6 ⟨rfl, hw⟩; replace hw := hw.symm; subst hw)
      | (go_at_call 15; with_reducible refine (Len_any _ F5 lp E1 HZ.out.lg).mono ?_; rintro e w6 ⟨rfl, hw⟩; rw [HE1L.out]; subst hw)
      | (go_at_call 17; with_reducible refine (unCost_any kn m (by omega) hm4 _).mono ?_; rintro e w6 ⟨rfl, hw⟩; rw [HCC.out]; replace hw := hw.symm; subst hw)
      | (go_at_call 18; with_reducible refine (ATop_any HZ.out).mono ?_; rintro e w6 ⟨rfl, hw⟩; replace hw := hw.symm; subst hw))
    obtain ⟨LL, hLL⟩ : ∃ LL, 2 * kn + 1 + CL = LL := ⟨_, rfl⟩
    rw [hLL] at HLB HE1L hLb
    clear hci
    go_wp2_with (first
      | (go_at_call 14; with_reducible refine (ALog_any HZ.out).mono ?_; rintro e w6 ⟨rfl, hw⟩; replace hw := hw.symm; subst hw)
      | (go_at_call 19; with_reducible refine (blind_of HZ.out.lg HE1L.out HEB.out hLb).mono ?_; rintro e w7 ⟨A7, c7, rfl, hO7, hb7⟩; have O7 := Lib.hid hO7; have B7 := Lib.hid hb7; have HY7 := Lib.hid (HY.out.below B7); have HZ7 := Lib.hid (HZ.out.below B7); have z7 := hb7.size; clear hO7 hb7)
      | (go_at_call 14; with_reducible refine (ALog_any HY7.out).mono ?_; rintro e w6 ⟨rfl, hw⟩; replace hw := hw.symm; subst hw)
      | (go_at_call 19; with_reducible refine (blind_of HY7.out.lg HE1L.out HEB.out hLb).mono ?_; rintro e w8 ⟨A8, c8, rfl, hO8, hb8⟩; have O8 := Lib.hid hO8; have B8 := Lib.hid hb8; have P8 := Lib.hid (own_below O7.out hb8); have HZ8 := Lib.hid (HZ7.out.below B8); have z8 := hb8.size; clear hO8 hb8))
    have B68 := Lib.hid (bl_then B8 B7.out B7.out.size)
    have z68 := B68.out.size
    have B08 := Lib.hid (bl_then B68 B6.out B6.out.size)
    have c12 := (B68.out.cell (p := ⟨D, 0, none⟩) (by show D < _; omega)).trans d12
    have c13 := (B68.out.cell (p := ⟨D + 1, 0, none⟩) (by show D + 1 < _; omega)).trans d13
    clear HZ HY HY7 HZ7 B6 d12 d13 B7 B8 O7
    have hHZ8 := HZ8.out.most
    have HMO := Lib.hid hHZ8
    clear hHZ8
    go_loopw [117] (fun i w9 => ∃ q : Nat, q ≤ LL ∧ i = .int .i64 (q : Int) ∧ Below w8.heap.size w8 w9) (fun i _ => LL - (intOf i).toNat)
    case atStart => exact ⟨0, Nat.zero_le _, rfl, Below.refl _ _⟩
    case round =>
      rename World => w9
      obtain ⟨q, hq, rfl, hW⟩ := hrel
      have z9 := hW.size
      have HW := Lib.hid hW
      clear hW
      by_cases hqn : q < LL
      · obtain ⟨g7, rfl, hg7, x0, x1, x2⟩ := ev_at P8.out HLB.out hqn
        obtain ⟨g8, rfl, hg8, y0, y1, y2⟩ := ev_at O8.out HLB.out hqn
        obtain ⟨e, he⟩ : ∃ e, EB.getD q evDef = e := ⟨_, rfl⟩
        rw [he] at x0 x1 x2 y0 y1 y2
        have X0 := (HW.out.cell (p := ⟨g7, q * 3, none⟩) hg7).trans x0
        have X1 := (HW.out.cell (p := ⟨g7, q * 3 + 1, none⟩) hg7).trans x1
        have X2 := (HW.out.cell (p := ⟨g7, q * 3 + 2, none⟩) hg7).trans x2
        have Y0 := (HW.out.cell (p := ⟨g8, q * 3, none⟩) hg8).trans y0
        have Y1 := (HW.out.cell (p := ⟨g8, q * 3 + 1, none⟩) hg8).trans y1
        have Y2 := (HW.out.cell (p := ⟨g8, q * 3 + 2, none⟩) hg8).trans y2
        clear x0 x1 x2 y0 y1 y2 he c12 c13
        go_wp2_with fail
        go_region_held3 (fun w' => w'.cell? ⟨g7, q * 3, none⟩ = some (.int .i64 e.k) ∧ w'.cell? ⟨g7, q * 3 + 1, none⟩ = some (.int .i64 e.i) ∧ w'.cell? ⟨g7, q * 3 + 2, none⟩ = some (.int .u32 e.v) ∧ w'.cell? ⟨g8, q * 3, none⟩ = some (.int .i64 e.k) ∧ w'.cell? ⟨g8, q * 3 + 1, none⟩ = some (.int .i64 e.i) ∧ w'.cell? ⟨g8, q * 3 + 2, none⟩ = some (.int .u32 e.v)) ((simp [go_sem, ↓IntWalk.iteOmega, *]; done)) (fail)
        all_goals (go_wp2_with fail)
        all_goals
          refine ⟨⟨q + 1, by omega, by go_num, ?_⟩, by simp [intOf]; omega⟩
          have HW' := HW.out
          (repeat' (first | with_reducible exact Below.refl _ _ | with_reducible refine bl_drewN ?_ _ | with_reducible refine bl_drew ?_ | refine bl_set (by (first | omega | (simp; done) | (simp; omega))) ?_ _ | refine bl_alloc (by (first | omega | (simp; done) | (simp; omega))) ?_ _ | refine bl_then (by assumption) ?_ (by (first | omega | (simp; done) | (simp; omega))) | refine Step.bl (by assumption) (by assumption) (by (first | omega | (simp; done) | (simp; omega))) (by (first | omega | (simp; done) | (simp; omega))) ?_))
      · have hge2 : LL ≤ q := by omega
        have c12' := (HW.out.cell (p := ⟨D, 0, none⟩) (by show D < _; omega)).trans c12
        have c13' := (HW.out.cell (p := ⟨D + 1, 0, none⟩) (by show D + 1 < _; omega)).trans c13
        have BW9 := Lib.hid (bl_then HW B08.out B08.out.size)
        have HZ9 := Lib.hid (HZ8.out.below HW)
        clear c12 c13
        go_wp2_with fail
        with_reducible refine (rEncode_any (HP.out.below BW9.out) (HK.out.below BW9.out) HPF.out HKF.out (by omega)).mono ?_
        rintro e wv ⟨B21, c21, rfl, hU, hUlo, hbv⟩
        obtain ⟨hs1, hs2, hs3⟩ := Un.enc_plain 0 kn kn (2 * kn) m T WA pf kf HPF.out HKF.out (by omega) (by omega) (by omega) (by rw [HWL.out]; omega) (by omega) (fun i hi => by rw [Nat.zero_add, ← HWA.out, Un.lay_get, if_pos hi]) (fun i hi => by rw [← HWA.out, Un.lay_get, if_neg (by omega), if_pos (by omega), Nat.add_sub_cancel_left]) (by omega) hm4
        rw [HX.out] at hs1
        rw [HO.out] at hs2
        rw [HPO.out] at hs3
        have hL4 := Un.wl_bound pf kf kn
        have hby := Un.bat_byte pf kf kn
        obtain ⟨Wl, hWl⟩ : ∃ Wl, Un.wl pf kf kn = Wl := ⟨_, rfl⟩
        rw [hWl] at hs1 hs2 hs3 hL4 hby hU hUlo ⊢
        have HWB := Lib.hid (show ∀ q, Wl.getD q 0 < 256 from fun q => by
          by_cases hql : q < Wl.length
          · rw [List.getD_eq_getElem?_getD, List.getElem?_eq_getElem hql]
            exact hby _ (List.getElem_mem hql)
          · rw [Un.getD_out _ _ (by omega)]; decide)
        obtain ⟨L, hL⟩ : ∃ L, Wl.length = L := ⟨_, rfl⟩
        rw [hL] at hs1 hs2 hs3 hL4 hU hUlo ⊢
        have HR1 := Lib.hid (show ∀ q, q < m → PO.getD (2 * kn + q) 0 = ((if L ≤ m then Wl.getD q 0 else 0 : Nat) : Int) from fun q hq => by
          rw [hs3 _ (by omega), if_pos (by omega), Nat.add_sub_cancel_left])
        have HR2 := Lib.hid (show ∀ i, i < kn → PO.getD i 0 = (pf i : Int) from fun i hi => by
          rw [hs3 _ (by omega), if_neg (by omega), ← HWA.out, Un.lay_get, if_pos hi])
        have HR3 := Lib.hid (show ∀ i, i < kn → PO.getD (kn + i) 0 = (kf i : Int) from fun i hi => by
          rw [hs3 _ (by omega), if_neg (by omega), ← HWA.out, Un.lay_get, if_neg (by omega), if_pos (by omega), Nat.add_sub_cancel_left])
        have HOUT := Lib.hid (show ∀ q, L ≤ q → Wl.getD q 0 = 0 from fun q hq => Un.getD_out _ _ (by omega))
        have HU := Lib.hid hU
        have HULO := Lib.hid hUlo
        have HBV := Lib.hid hbv
        obtain ⟨b, hb⟩ : ∃ b, decide (m < L) = b := ⟨_, rfl⟩
        rw [hb] at hs2
        have hov : (O != 0) = b := by rw [hs2]; cases b <;> decide
        have hd : decide ((m : Int) < (L : Int)) = b := by rw [← hb]; congr 1; simp only [eq_iff_iff]; omega
        have hdn : decide (m < L) = b := hb
        have hL32 : (L : Int) % 4294967296 = (L : Int) := by omega
        have c12 := (hbv.cell (p := ⟨D, 0, none⟩) (by show D < _; omega)).trans c12'
        have c13 := (hbv.cell (p := ⟨D + 1, 0, none⟩) (by show D + 1 < _; omega)).trans c13'
        have zv := hbv.size
        have HA := Lib.hid (HZ9.out.below HBV)
        have BWv := Lib.hid (bl_then HBV BW9.out BW9.out.size)
        subst hs1
        clear hs2 hs3 hby hU hUlo hbv hL hb hWl c12' c13' HX HO HPO HWA HWL HWL2 HEV
        go_wp2_with (first | (go_at_call 21; refine (told10_any _ _).mono ?_; rintro e wt ⟨rfl, hb⟩; have hcf_wt := bcell hb; (try simp only [World.size_alloc, World.size_setCell, drew_size] at hcf_wt); have hz_wt := hb.size; (try simp only [World.size_alloc, World.size_setCell, World.size_drew] at hz_wt); have hbh_wt := Lib.hid hb; clear hb; obtain ⟨hc_wt, hf_wt⟩ := hcf_wt))
        have BT := Lib.hid (show Below wv.heap.size wv wt by (repeat' (first | with_reducible exact Below.refl _ _ | with_reducible refine bl_drewN ?_ _ | with_reducible refine bl_drew ?_ | refine bl_set (by (first | omega | (simp; done) | (simp; omega))) ?_ _ | refine bl_alloc (by (first | omega | (simp; done) | (simp; omega))) ?_ _ | refine bl_then (by assumption) ?_ (by (first | omega | (simp; done) | (simp; omega))) | refine Step.bl (by assumption) (by assumption) (by (first | omega | (simp; done) | (simp; omega))) (by (first | omega | (simp; done) | (simp; omega))) ?_)))
        have HAt := Lib.hid (show Ar wt p g lp F5 PO T E1 by (repeat' (first | with_reducible exact HA.out | with_reducible refine' Ar.drewN ?_ _ | with_reducible refine' Ar.drew ?_ | with_reducible refine' Ar.farE ?_ ?_ _ | with_reducible refine' Ar.alloc ?_ _ | with_reducible refine' Ar.below ?_ (by assumption))); (try (all_goals (simp [*, ↓IntWalk.iteOmega]; first | done | fail))); (first | done | fail))
        have BWt := Lib.hid (bl_then BT BWv.out BWv.out.size)
        have HUt := Lib.hid (HU.out.below BT.out)
        have HPt := Lib.hid (HP.out.below BWt.out)
        have HKt := Lib.hid (HK.out.below BWt.out)
        have MT := Lib.hid (show ∀ i, AF p g F5 i → i < w9.heap.size from fun i hi => by have := HMO.out i hi; omega)
        have zt := BWt.out.size
        have hE1 := HE1L.out
        clear hc_wt hf_wt hbh_wt c12 c13 HA hov hd hdn hL32 BT HU HBV
        go_loopw [150] (fun i wr => ∃ (q : Nat) (F : Nat → Prop) (E : List Ev), q ≤ m ∧ i = .int .i64 (q : Int) ∧ Ar wr p g lp F PO T E ∧ E.length ≤ LL + 2 * q ∧ Step (AF p g F5) (AF p g F) wt wr) (fun i _ => m - (intOf i).toNat)
        case atStart => exact ⟨0, F5, E1, Nat.zero_le _, rfl, HAt.out, by omega, HAt.out.step0⟩
        case round =>
          rename World => wx
          obtain ⟨q, FF, E, hq, rfl, hA, hE, hS⟩ := hrel
          have HA := Lib.hid hA
          have HS := Lib.hid hS
          have zx := hS.size
          clear hA hS
          by_cases hqm : q < m
          · have hr1 := HR1.out q hqm
            have hw256 := HWB.out q
            obtain ⟨y, hy⟩ : ∃ y, Wl.getD q 0 = y := ⟨_, rfl⟩
            rw [hy] at hr1 hw256
            have hy32 : (y : Int) % 4294967296 = (y : Int) := by omega
            obtain ⟨Z, hZ⟩ : ∃ Z, PO.getD (2 * kn + q) 0 = Z := ⟨_, rfl⟩
            have HZZ := Lib.hid hZ
            rw [hZ] at hr1
            by_cases hqL : q < L
            · obtain ⟨bW, oW, rfl, hbW, hcW⟩ := HUt.out (by omega)
              have hlo := HULO.out bW oW (by omega) rfl
              have hnf : ¬ AF p g F5 bW := fun hf => by have := MT.out _ hf; omega
              have hcq := (old_cell (o := oW + q) HS.out hbW hnf).trans (hcW q hqL)
              have hcq2 : wx.cell? ⟨bW, oW + q, none⟩ = some (.int .u8 (y : Int)) := by rw [hcq]; simp only [hy]
              clear hcW hcq hy hZ
              by_cases hfit : L ≤ m
              · rw [if_pos hfit] at hr1
                subst hr1
                go_wp2_with (first
                  | (go_at_call 22; with_reducible refine' Calls.mono (ARelease_e ?_ ?_ _ (2 * kn + q) ?_ ?_) ?_; rotate_left 6; (next => (repeat' (first | with_reducible exact HA.out | with_reducible refine' Ar.drewN ?_ _ | with_reducible refine' Ar.drew ?_ | with_reducible refine' Ar.farE ?_ ?_ _ | with_reducible refine' Ar.alloc ?_ _ | with_reducible refine' Ar.below ?_ (by assumption))); (try (all_goals (simp [*, ↓IntWalk.iteOmega]; first | done | fail))); (first | done | fail)); (next => omega); (next => omega); (next => omega); rintro e w1 ⟨rfl, F1, hA1, hs1⟩; rw [HZZ.out]; obtain ⟨hc, hf, hn⟩ := hs1.rules; (try simp only [World.size_alloc, World.size_setCell, drew_size] at hc hf hn); have hz := hs1.size; (try simp only [World.size_alloc, World.size_setCell, World.size_drew] at hz); have hst := Lib.hid hs1; have HA := Lib.hid hA1; clear hA1 hs1))
                refine ⟨⟨q + 1, F1, _, by omega, by go_num, by (repeat' (first | with_reducible exact HA.out | with_reducible refine' Ar.drewN ?_ _ | with_reducible refine' Ar.drew ?_ | with_reducible refine' Ar.farE ?_ ?_ _ | with_reducible refine' Ar.alloc ?_ _ | with_reducible refine' Ar.below ?_ (by assumption))); (try (all_goals (simp [*, ↓IntWalk.iteOmega]; first | done | fail))); (first | done | fail), ?_, ?_⟩, by simp [intOf]; omega⟩
                · simp only [List.length_append, List.length_cons, List.length_nil]; omega
                · exact HS.out.trans hst.out
              · rw [if_neg hfit] at hr1
                subst hr1
                go_wp2_with (first
                  | (go_at_call 22; with_reducible refine' Calls.mono (ARelease_e ?_ ?_ _ (2 * kn + q) ?_ ?_) ?_; rotate_left 6; (next => (repeat' (first | with_reducible exact HA.out | with_reducible refine' Ar.drewN ?_ _ | with_reducible refine' Ar.drew ?_ | with_reducible refine' Ar.farE ?_ ?_ _ | with_reducible refine' Ar.alloc ?_ _ | with_reducible refine' Ar.below ?_ (by assumption))); (try (all_goals (simp [*, ↓IntWalk.iteOmega]; first | done | fail))); (first | done | fail)); (next => omega); (next => omega); (next => omega); rintro e w1 ⟨rfl, F1, hA1, hs1⟩; rw [HZZ.out]; obtain ⟨hc, hf, hn⟩ := hs1.rules; (try simp only [World.size_alloc, World.size_setCell, drew_size] at hc hf hn); have hz := hs1.size; (try simp only [World.size_alloc, World.size_setCell, World.size_drew] at hz); have hst := Lib.hid hs1; have HA := Lib.hid hA1; clear hA1 hs1))
                refine ⟨⟨q + 1, F1, _, by omega, by go_num, by (repeat' (first | with_reducible exact HA.out | with_reducible refine' Ar.drewN ?_ _ | with_reducible refine' Ar.drew ?_ | with_reducible refine' Ar.farE ?_ ?_ _ | with_reducible refine' Ar.alloc ?_ _ | with_reducible refine' Ar.below ?_ (by assumption))); (try (all_goals (simp [*, ↓IntWalk.iteOmega]; first | done | fail))); (first | done | fail), ?_, ?_⟩, by simp [intOf]; omega⟩
                · simp only [List.length_append, List.length_cons, List.length_nil]; omega
                · exact HS.out.trans hst.out
            · have hy0 := HOUT.out q (by omega)
              have hz0 : Z = 0 := by
                rw [hr1]
                split
                · rw [← hy, hy0]; rfl
                · rfl
              clear hr1 hy hZ
              subst hz0
              go_wp2_with (first
                | (go_at_call 22; with_reducible refine' Calls.mono (ARelease_e ?_ ?_ _ (2 * kn + q) ?_ ?_) ?_; rotate_left 6; (next => (repeat' (first | with_reducible exact HA.out | with_reducible refine' Ar.drewN ?_ _ | with_reducible refine' Ar.drew ?_ | with_reducible refine' Ar.farE ?_ ?_ _ | with_reducible refine' Ar.alloc ?_ _ | with_reducible refine' Ar.below ?_ (by assumption))); (try (all_goals (simp [*, ↓IntWalk.iteOmega]; first | done | fail))); (first | done | fail)); (next => omega); (next => omega); (next => omega); rintro e w1 ⟨rfl, F1, hA1, hs1⟩; rw [HZZ.out]; obtain ⟨hc, hf, hn⟩ := hs1.rules; (try simp only [World.size_alloc, World.size_setCell, drew_size] at hc hf hn); have hz := hs1.size; (try simp only [World.size_alloc, World.size_setCell, World.size_drew] at hz); have hst := Lib.hid hs1; have HA := Lib.hid hA1; clear hA1 hs1))
              refine ⟨⟨q + 1, F1, _, by omega, by go_num, by (repeat' (first | with_reducible exact HA.out | with_reducible refine' Ar.drewN ?_ _ | with_reducible refine' Ar.drew ?_ | with_reducible refine' Ar.farE ?_ ?_ _ | with_reducible refine' Ar.alloc ?_ _ | with_reducible refine' Ar.below ?_ (by assumption))); (try (all_goals (simp [*, ↓IntWalk.iteOmega]; first | done | fail))); (first | done | fail), ?_, ?_⟩, by simp [intOf]; omega⟩
              · simp only [List.length_append, List.length_cons, List.length_nil]; omega
              · exact HS.out.trans hst.out
          · have hgem : m ≤ q := by omega
            go_wp2_with fail
            go_loopw [178] (fun i wr => ∃ (q : Nat) (F : Nat → Prop) (E : List Ev), q ≤ kn ∧ i = .int .i64 (q : Int) ∧ Ar wr p g lp F PO T E ∧ E.length ≤ LL + 2 * m + 4 * q ∧ Step (AF p g F5) (AF p g F) wt wr) (fun i _ => kn - (intOf i).toNat)
            case atStart => exact ⟨0, FF, E, Nat.zero_le _, rfl, HA.out, by omega, HS.out⟩
            case round =>
              rename World => wi
              obtain ⟨i, FI, EI, hi, rfl, hAI, hEI, hSI⟩ := hrel
              clear HA HS
              have HA := Lib.hid hAI
              have SI := Lib.hid hSI
              have zi := hSI.size
              by_cases hin : i < kn
              · have hr2 := HR2.out i hin
                have hr3 := HR3.out i hin
                obtain ⟨b1, o1, rfl, hb1, hc1⟩ := HPt.out (by omega)
                obtain ⟨b2, o2, rfl, hb2, hc2⟩ := HKt.out (by omega)
                have h1w : b1 < w.heap.size := by
                  obtain ⟨b', o', e, h1, -⟩ := HP.out (by omega)
                  injection e with e1
                  injection e1 with e2
                  omega
                have h2w : b2 < w.heap.size := by
                  obtain ⟨b', o', e, h1, -⟩ := HK.out (by omega)
                  injection e with e1
                  injection e1 with e2
                  omega
                have n1 : ¬ AF p g F5 b1 := fun hf => by have := LA5.out _ hf; omega
                have n2 : ¬ AF p g F5 b2 := fun hf => by have := LA5.out _ hf; omega
                have q1 := (old_cell (o := o1 + i) hSI hb1 n1).trans (hc1 i hin)
                have q2 := (old_cell (o := o2 + i) hSI hb2 n2).trans (hc2 i hin)
                have m1 : FX (AF p g FI) b1 = False := eq_false (fun hf => n1 ((hSI.foot _ hb1).1 hf))
                have m2 : FX (AF p g FI) b2 = False := eq_false (fun hf => n2 ((hSI.foot _ hb2).1 hf))
                have hnI := foot_old hAI.most
                obtain ⟨X1, hX1⟩ : ∃ X1, pf i = X1 := ⟨_, rfl⟩
                obtain ⟨K1, hK1⟩ : ∃ K1, kf i = K1 := ⟨_, rfl⟩
                simp only [hX1] at q1
                simp only [hK1] at q2
                rw [hX1, List.getD_eq_getElem?_getD] at hr2
                rw [hK1, List.getD_eq_getElem?_getD] at hr3
                have hwi : IntKind.i64.wrap (i : Int) = (i : Int) := IntWalk.i64_in _ (by omega)
                have hw1 : IntKind.i64.wrap ((kn : Int) + (i : Int)) = (kn : Int) + (i : Int) := IntWalk.i64_in _ (by omega)
                have zi2 : b1 < wi.heap.size := by omega
                have zi3 : b2 < wi.heap.size := by omega
                clear hAI hSI hc1 hc2 hX1 hK1 n1 n2
                go_wp2_with fail
                go_region_held3 (fun w' => w'.cell? ⟨b1, o1 + i, none⟩ = some (.int .u32 (X1 : Int)) ∧ w'.cell? ⟨b2, o2 + i, none⟩ = some (.int .u32 (K1 : Int))) ((simp [go_sem, ↓IntWalk.iteOmega, *]; done)) (first
                  | (go_at_call 22; with_reducible refine' Calls.mono (ARelease_e ?_ ?_ _ (i) ?_ ?_) ?_; rotate_left 6; (next => (repeat' (first | with_reducible exact HA.out | with_reducible refine' Ar.drewN ?_ _ | with_reducible refine' Ar.drew ?_ | with_reducible refine' Ar.farE ?_ ?_ _ | with_reducible refine' Ar.alloc ?_ _ | with_reducible refine' Ar.below ?_ (by assumption))); (try (all_goals (simp [*, ↓IntWalk.iteOmega]; first | done | fail))); (first | done | fail)); (next => (first | omega | (simp only [List.length_append, List.length_cons, List.length_nil]; omega) | fail)); (next => (first | omega | (simp only [hwi]; omega) | fail)); (next => (first | omega | fail)); rintro e wA ⟨rfl, F_wA, hA1, hs1⟩; obtain ⟨hc_wA, hf_wA, hn_wA⟩ := hs1.rules; (try simp only [World.size_alloc, World.size_setCell, drew_size] at hc_wA hf_wA hn_wA); have hz_wA := hs1.size; (try simp only [World.size_alloc, World.size_setCell, World.size_drew] at hz_wA); have hst_wA := Lib.hid hs1; have HA := Lib.hid hA1; clear hA1 hs1)
                  | (go_at_call 22; with_reducible refine' Calls.mono (ARelease_e ?_ ?_ _ (kn + i) ?_ ?_) ?_; rotate_left 6; (next => (repeat' (first | with_reducible exact HA.out | with_reducible refine' Ar.drewN ?_ _ | with_reducible refine' Ar.drew ?_ | with_reducible refine' Ar.farE ?_ ?_ _ | with_reducible refine' Ar.alloc ?_ _ | with_reducible refine' Ar.below ?_ (by assumption))); (try (all_goals (simp [*, ↓IntWalk.iteOmega]; first | done | fail))); (first | done | fail)); (next => (first | omega | (simp only [List.length_append, List.length_cons, List.length_nil]; omega) | fail)); (next => (first | omega | (simp only [hw1]; omega) | fail)); (next => (first | omega | fail)); rintro e wB ⟨rfl, F_wB, hA1, hs1⟩; obtain ⟨hc_wB, hf_wB, hn_wB⟩ := hs1.rules; (try simp only [World.size_alloc, World.size_setCell, drew_size] at hc_wB hf_wB hn_wB); have hz_wB := hs1.size; (try simp only [World.size_alloc, World.size_setCell, World.size_drew] at hz_wB); have hst_wB := Lib.hid hs1; have HA := Lib.hid hA1; clear hA1 hs1))
                all_goals (go_wp2_with fail)
                all_goals
                  refine ⟨⟨i + 1, F_wB, _, by omega, by go_num, by (repeat' (first | with_reducible exact HA.out | with_reducible refine' Ar.drewN ?_ _ | with_reducible refine' Ar.drew ?_ | with_reducible refine' Ar.farE ?_ ?_ _ | with_reducible refine' Ar.alloc ?_ _ | with_reducible refine' Ar.below ?_ (by assumption))); (try (all_goals (simp [*, ↓IntWalk.iteOmega]; first | done | fail))); (first | done | fail), ?_, ?_⟩, by simp [intOf]; omega⟩
                  · simp only [List.length_append, List.length_cons, List.length_nil]; omega
                  · exact ((Step.drew SI.out).trans hst_wA.out).trans hst_wB.out
              · have hgen : kn ≤ i := by omega
                clear hAI hSI
                go_wp2_with fail
                go_ret
                exact ⟨rfl, SI.out.below BWt.out BWt.out.size LA5.out⟩
end Go.Proofs.Ytjoehhojhfgooaa
