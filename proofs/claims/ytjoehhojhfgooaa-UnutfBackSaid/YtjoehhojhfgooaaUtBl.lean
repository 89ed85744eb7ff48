/- UtfBlind: the law's call. No condition. -/
import Derived.Test.YtjoehhojhfgooaaUtG
import Derived.Test.YtjoehhojhfgooaaArZ
namespace Go.Proofs.Ytjoehhojhfgooaa
open Go.RowKit
set_option linter.unusedSimpArgs false
set_option linter.unusedVariables false
attribute [local go_sem] IntKind.wrap_u32' signed_u32 max_u32
attribute [local go_sem ↓] Go.wp_at_zero Go.wp_at_succ
attribute [local go_sem] Calm.C
attribute [local go_sem low] Calm.al_cell Calm.al_frozen
set_option maxHeartbeats 400000 in
theorem uCost_any (n : Nat) (hn : n ≤ 4096) (w : World) : Calls Try.prog 35 #[.int .i64 n] w fun e w' => e = .returned (.int .i64 (7 * (n : Int))) ∧ w' = w := by
  go_enter Try.func35, Try.ntmps35
  go_wp2_with fail
  go_ret
  exact ⟨rfl, rfl⟩
/-- What Decode notes tells no word. -/
theorem ev1_blind (inn out keep : Nat) : ∀ k, blind (Ut.ev1 inn out keep k) = Ut.ev1 inn out keep k
  | 0 => rfl
  | k + 1 => by rw [Ut.ev1_succ, blind_app, ev1_blind inn out keep k]; rfl
theorem ev2_blind (out keep : Nat) : ∀ k, blind (Ut.ev2 out keep k) = Ut.ev2 out keep k
  | 0 => rfl
  | k + 1 => by rw [Ut.ev2_succ, blind_app, ev2_blind out keep k]; rfl
theorem evs_blind (inn out keep n : Nat) : blind (Ut.evs inn out keep n) = Ut.evs inn out keep n := by
  unfold Ut.evs
  rw [blind_app, ev1_blind, ev2_blind]
theorem stEvs_blind (a : Nat) : ∀ k, blind (stEvs a k) = stEvs a k
  | 0 => rfl
  | k + 1 => by rw [stEvs_succ, blind_app, stEvs_blind a k]; rfl
theorem Try.infoU8A : (Try.prog.info? 5).map (fun i => (i.zero, i.size, i.bytes)) = some (some (.int .u8 0), 1, 1) := by kernel_rfl
/-- 'make' of n bytes, as a function of the world. -/
theorem mk_bytes (n : Nat) (hn : n ≤ 1000) : ∃ mk : World → World, ∀ w : World, (Instr.makeSlice 40 (.int .i64 n) (.int .i64 n)).run Try.prog w = .ok (.slice (some ⟨w.heap.size, 0, none⟩) n n) (mk w) ∧
    Below w.heap.size w (mk w) ∧ w.heap.size < (mk w).heap.size ∧ (∀ c, c < n → (mk w).cell? ⟨w.heap.size, c, none⟩ = some (.int .u8 0)) := by
  obtain ⟨i0, hi, hz0, hz1, hz2⟩ := info_parts Try.infoU8A
  have h : ∀ w : World, ∃ w', (Instr.makeSlice 40 (.int .i64 n) (.int .i64 n)).run Try.prog w = .ok (.slice (some ⟨w.heap.size, 0, none⟩) n n) w' ∧ Below w.heap.size w w' ∧ w.heap.size < w'.heap.size ∧ (∀ c, c < n → w'.cell? ⟨w.heap.size, c, none⟩ = some (.int .u8 0)) := fun w => by
    obtain ⟨w', hr, r1, r2⟩ := run_make_full (P := Try.prog) w w.heap.size 40 5 i0 _ 1 Try.underlying40 hi hz0 hz1 .i64 .i64 n (by rw [hz2]; omega) (by simp only [maxLen]; omega) (Nat.le_refl _)
    obtain ⟨-, h2, h3, -⟩ := made_own r1
    exact ⟨w', hr, none_bl r2, h2, h3⟩
  exact ⟨fun w => (h w).choose, fun w => (h w).choose_spec⟩
theorem bytes_below {w W : World} {A : Option Addr} {n : Nat} {f : Nat → Int} (h : 0 < n → ∃ b o, A = some ⟨b, o, none⟩ ∧ b < w.heap.size ∧ ∀ i, i < n → w.cell? ⟨b, o + i, none⟩ = some (.int .u8 (f i))) (hb : Below w.heap.size w W) :
    0 < n → ∃ b o, A = some ⟨b, o, none⟩ ∧ b < W.heap.size ∧ ∀ i, i < n → W.cell? ⟨b, o + i, none⟩ = some (.int .u8 (f i)) := fun h0 => by
  obtain ⟨b, o, e, hl, hc⟩ := h h0
  exact ⟨b, o, e, Nat.lt_of_lt_of_le hl hb.size, fun i hi => (hb.cell (p := ⟨b, o + i, none⟩) hl).trans (hc i hi)⟩
theorem zero_bytes {n B : Nat} {mk : World → World} (X : World) {W : World} (hB : X.heap.size = B) (hm : Below X.heap.size X (mk X) ∧ X.heap.size < (mk X).heap.size ∧ (∀ c, c < n → (mk X).cell? ⟨X.heap.size, c, none⟩ = some (.int .u8 0))) (hb : Below (mk X).heap.size (mk X) W) :
    0 < n → ∃ b o, some (⟨B, 0, none⟩ : Addr) = some ⟨b, o, none⟩ ∧ b < W.heap.size ∧ ∀ i, i < n → W.cell? ⟨b, o + i, none⟩ = some (.int .u8 ((fun _ => 0 : Nat → Int) i)) := fun _ => hB ▸
  ⟨X.heap.size, 0, rfl, Nat.lt_of_lt_of_le hm.2.1 hb.size, fun i hi => by
    rw [Nat.zero_add]
    exact (hb.cell (p := ⟨X.heap.size, i, none⟩) hm.2.1).trans (hm.2.2 i hi)⟩
theorem lanesN (n : Nat) : Lanes (3 * n) n (L3 0 n (2 * n)) 3 := by
  intro k hk
  rcases (by omega : k = 0 ∨ k = 1 ∨ k = 2) with rfl | rfl | rfl
  · exact ⟨by simp [Fit, L3]; omega, fun j hj => by omega⟩
  · refine ⟨by simp [Fit, L3]; omega, fun j hj => ?_⟩
    obtain rfl : j = 0 := by omega
    simp [Meets, L3]
  · refine ⟨by simp [Fit, L3]; omega, fun j hj => ?_⟩
    rcases (by omega : j = 0 ∨ j = 1) with rfl | rfl
    · simp [Meets, L3]; omega
    · simp [Meets, L3]; omega
theorem Decode_n {w : World} {p g lp : Nat} {FL : Nat → Prop} {ws : List Int} {n : Nat} {evs : List Ev} (h : Ar w p g lp FL ws (3 * n) evs) (he : evs.length < 1000000000000) (hn : n ≤ 1000) (len : Int) :
    Calls Try.prog 27 #[.pointer (some ⟨p, 0, none⟩), .int .i64 0, .int .i64 n, .agg #[.int .u32 len], .int .i64 n, .int .i64 (2 * (n : Int))] w fun e w' =>
      e = .returned (.tuple #[.agg #[.int .u32 (Ut.answer 0 n (2 * n) n len ws)], .bool true]) ∧
        ∃ FL', Ar w' p g lp FL' (Ut.out 0 n (2 * n) n len ws) (3 * n) (evs ++ Ut.evs 0 n (2 * n) n) ∧ Step (AF p g FL) (AF p g FL') w w' := by
  have := Decode_t h 0 n n (2 * n) len he (by omega) (by omega) (lanesN n)
  rw [show (0 : Int).toNat = 0 from rfl, Int.toNat_natCast, show (2 * (n : Int)).toNat = 2 * n by omega] at this
  exact this
attribute [local irreducible] Ut.out Ut.answer Ut.evs Ut.lay stEvs
set_option maxRecDepth 10000 in
set_option maxHeartbeats 3200000 in
theorem UtfBlind_any (w : World) (A : Option Addr) (n c : Nat) (f : Nat → Int) (hA : 0 < n → ∃ b o, A = some ⟨b, o, none⟩ ∧ b < w.heap.size ∧ ∀ i, i < n → w.cell? ⟨b, o + i, none⟩ = some (.int .u8 (f i))) (hn : n ≤ 9223372036854775807) (hf : ∀ i, i < n → 0 ≤ f i ∧ f i ≤ 255) (len : Int) :
    Calls Try.prog 8 #[.slice A n c, .int .u32 len] w fun e w' => e = .returned (.bool true) ∧ Below w.heap.size w w' := by
  by_cases h100 : 100 < n
  · clear hA
    go_enter Try.func8, Try.ntmps8
    go_wp2_with (first | (go_at_call 29; refine (awake09_any _).mono ?_; rintro e w1 ⟨rfl, hb⟩; have hcf := bcell hb; (try simp only [World.size_alloc, World.size_setCell, drew_size] at hcf); have hz := hb.size; (try simp only [World.size_alloc, World.size_setCell, World.size_drew] at hz); have hbh := Lib.hid hb; clear hb; obtain ⟨hc, hf⟩ := hcf))
    go_ret
    refine ⟨rfl, ?_⟩
    (repeat' (first | with_reducible exact Below.refl _ _ | with_reducible refine bl_drewN ?_ _ | with_reducible refine bl_drew ?_ | refine bl_set (by (first | omega | (simp; done) | (simp; omega))) ?_ _ | refine bl_alloc (by (first | omega | (simp; done) | (simp; omega))) ?_ _ | refine bl_then (by assumption) ?_ (by (first | omega | (simp; done) | (simp; omega))) | refine Step.bl (by assumption) (by assumption) (by (first | omega | (simp; done) | (simp; omega))) (by (first | omega | (simp; done) | (simp; omega))) ?_))
  obtain ⟨mk, hmk⟩ := mk_bytes n (by omega)
  have HMK := Lib.hid hmk
  have mkrun := fun w => (hmk w).1
  have HX := Lib.hid hA
  have HF := Lib.hid hf
  clear hA hf hmk
  have h100' : n ≤ 100 := by omega
  go_enter Try.func8, Try.ntmps8
  go_wp2_with (first | (go_at_call 29; refine (awake09_any _).mono ?_; rintro e wq ⟨rfl, hb⟩; have hcf_wq := bcell hb; (try simp only [World.size_alloc, World.size_setCell, drew_size] at hcf_wq); have hz_wq := hb.size; (try simp only [World.size_alloc, World.size_setCell, World.size_drew] at hz_wq); have hbh_wq := Lib.hid hb; clear hb; obtain ⟨hc_wq, hf_wq⟩ := hcf_wq))
  go_region_held3 (fun w' => Below w.heap.size w w') ((first | assumption | (refine bl_then (Lib.hid (HMK.out _).2.1) ?_ ?_ <;> first | assumption | ((repeat' (first | with_reducible exact Below.refl _ _ | with_reducible refine bl_drewN ?_ _ | with_reducible refine bl_drew ?_ | refine bl_set (by (first | omega | (simp; done) | (simp; omega))) ?_ _ | refine bl_alloc (by (first | omega | (simp; done) | (simp; omega))) ?_ _ | refine bl_then (by assumption) ?_ (by (first | omega | (simp; done) | (simp; omega))) | refine Step.bl (by assumption) (by assumption) (by (first | omega | (simp; done) | (simp; omega))) (by (first | omega | (simp; done) | (simp; omega))) ?_)); done) | exact Below.size (by assumption) | (refine Below.size (B := w.heap.size) (w := w) ?_; (repeat' (first | with_reducible exact Below.refl _ _ | with_reducible refine bl_drewN ?_ _ | with_reducible refine bl_drew ?_ | refine bl_set (by (first | omega | (simp; done) | (simp; omega))) ?_ _ | refine bl_alloc (by (first | omega | (simp; done) | (simp; omega))) ?_ _ | refine bl_then (by assumption) ?_ (by (first | omega | (simp; done) | (simp; omega))) | refine Step.bl (by assumption) (by assumption) (by (first | omega | (simp; done) | (simp; omega))) (by (first | omega | (simp; done) | (simp; omega))) ?_)); done)) | (refine bl_then (by assumption) ?_ ?_ <;> first | assumption | exact Below.size (by assumption)) | ((repeat' (first | with_reducible exact Below.refl _ _ | with_reducible refine bl_drewN ?_ _ | with_reducible refine bl_drew ?_ | refine bl_set (by (first | omega | (simp; done) | (simp; omega))) ?_ _ | refine bl_alloc (by (first | omega | (simp; done) | (simp; omega))) ?_ _ | refine bl_then (by assumption) ?_ (by (first | omega | (simp; done) | (simp; omega))) | refine Step.bl (by assumption) (by assumption) (by (first | omega | (simp; done) | (simp; omega))) (by (first | omega | (simp; done) | (simp; omega))) ?_)); done))) (first | (go_at_call 30; with_reducible refine (Lay_any (bytes_below HX.out (by assumption)) (by omega) HF.out).mono ?_; rintro e wX ⟨p, g, lp, F1, rfl, hA1, hlow1, hb1⟩; have HA := Lib.hid hA1; have LOWA := Lib.hid hlow1; have BA := Lib.hid hb1; have zA := hb1.size; clear hA1 hlow1 hb1) | (go_at_call 30; with_reducible refine (Lay_any (zero_bytes wX (by simp) (HMK.out _).2 (by exact Below.refl _ _)) (by omega) (fun i hi => by decide)).mono ?_; rintro e wY ⟨p2, g2, lp2, F2, rfl, hA2, hlow2, hb2⟩; have HB0 := Lib.hid hA2; have LOWB := Lib.hid hlow2; have BB := Lib.hid hb2; have zB := hb2.size; clear hA2 hlow2 hb2) | (go_at_call 30; with_reducible refine (Lay_any (zero_bytes wq.drew (by simp) (HMK.out _).2 (by exact BA.out)) (by omega) (fun i hi => by decide)).mono ?_; rintro e wY ⟨p2, g2, lp2, F2, rfl, hA2, hlow2, hb2⟩; have HB0 := Lib.hid hA2; have LOWB := Lib.hid hlow2; have BB := Lib.hid hb2; have zB := hb2.size; clear hA2 hlow2 hb2))
  all_goals
    have hBY : Hid (Below w.heap.size w wY) := Lib.hid (by first | assumption | exact And.left (by assumption))
    have HAY : Hid (Ar wY p g lp F1 (Ut.lay n f n) (3 * n) ([⟨4, 0, (n : Int) * 3⟩] ++ stEvs 0 n)) := Lib.hid (by first | exact HA.out.below BB | exact (HA.out.below (Lib.hid (HMK.out _).2.1)).below BB)
    have hmw := (HMK.out wX).2.2.1
    have hmq := (HMK.out wq.drew).2.2.1
    have hqd : wq.drew.heap.size = wq.heap.size := drew_size wq
    have APT : Hid (∀ i, AF p g F1 i → ¬ AF p2 g2 F2 i) := Lib.hid (fun i ha hb => by have h1 := HA.out.most i ha; have h2 := LOWB.out i hb; omega)
    have LA : Hid (∀ i, AF p g F1 i → w.heap.size ≤ i) := Lib.hid (fun i ha => by have h1 := LOWA.out i ha; omega)
    have LB : Hid (∀ i, AF p2 g2 F2 i → w.heap.size ≤ i) := Lib.hid (fun i ha => by have h1 := LOWB.out i ha; omega)
    clear hmw hmq hqd HA BA BB LOWA LOWB
    obtain ⟨E0, hE0⟩ : ∃ E0, [(⟨4, 0, (n : Int) * 3⟩ : Ev)] ++ stEvs 0 n = E0 := ⟨_, rfl⟩
    rw [hE0] at HAY
    have HB := Lib.hid (hE0 ▸ HB0.out)
    clear HB0
    have HL0 := Lib.hid (show E0.length = n + 1 by rw [← hE0, List.length_append, stEvs_len]; simp; omega)
    have HBL := Lib.hid (show blind E0 = E0 by rw [← hE0, blind_app, stEvs_blind]; rfl)
    clear hE0
    go_wp2_with (first | (go_at_call 28; refine (Of_any _ _).mono ?_; rintro e wo ⟨rfl, hb⟩; have hcf_wo := bcell hb; (try simp only [World.size_alloc, World.size_setCell, drew_size] at hcf_wo); have hz_wo := hb.size; (try simp only [World.size_alloc, World.size_setCell, World.size_drew] at hz_wo); have hbh_wo := Lib.hid hb; clear hb; obtain ⟨hc_wo, hf_wo⟩ := hcf_wo) | (go_at_call 14; with_reducible refine (ALog_any HAY.out).mono ?_; rintro e w6 ⟨rfl, hw⟩; replace hw := hw.symm; subst hw) | (go_at_call 15; with_reducible refine (Len_any _ F1 lp E0 HAY.out.lg).mono ?_; rintro e w6 ⟨rfl, hw⟩; rw [HL0.out]; subst hw) | (go_at_call 27; with_reducible refine (Decode_n (HAY.out.below hbh_wo) (by rw [HL0.out]; omega) (by omega) len).mono ?_; rintro e w3 ⟨rfl, F3, hA3, hs3⟩; have HA3 := Lib.hid hA3; have S3 := Lib.hid hs3; have BW1 := hbh_wo; have zw3 := hs3.size; clear hA3 hs3 hbh_wo hc_wo hf_wo))
    have HB3 := Lib.hid ((HB.out.below BW1).beside S3.out (fun i hi hj => APT.out i hj hi))
    have APT3 := Lib.hid (show ∀ i, AF p g F3 i → ¬ AF p2 g2 F2 i from fun i hi hj => APT.out i ((S3.out.foot i ((HB.out.below BW1).most i hj)).1 hi) hj)
    have LA3 := Lib.hid (S3.out.low (Nat.le_trans hBY.out.size BW1.out.size) LA.out)
    have B3 := Lib.hid (S3.out.below (bl_then BW1 hBY.out hBY.out.size) (Nat.le_trans hBY.out.size BW1.out.size) LA.out)
    clear BW1 S3 HAY HB APT LA hBY
    refine (Decode_n (HB3.out.below hbh_wo) (by rw [HL0.out]; omega) (by omega) 0).mono ?_
    rintro e w5 ⟨rfl, F5, hB5, hs5⟩
    have BW3 := Lib.hid (bl_then hbh_wo B3.out B3.out.size)
    have HA5 := Lib.hid ((HA3.out.below hbh_wo).beside hs5 APT3.out)
    have APT5 := Lib.hid (show ∀ i, AF p g F3 i → ¬ AF p2 g2 F5 i from fun i hi hj => APT3.out i hi ((hs5.foot i ((HA3.out.below hbh_wo).most i hi)).1 hj))
    have HB5 := Lib.hid hB5
    have B5 := Lib.hid (hs5.below BW3.out BW3.out.size LB.out)
    clear hB5 hs5 HB3 HA3 APT3 B3 BW3 LB LA3 hbh_wo hc_wo hf_wo
    obtain ⟨L, hL⟩ : ∃ L, 8 * n + 1 = L := ⟨_, rfl⟩
    obtain ⟨E, hE⟩ : ∃ E, E0 ++ Ut.evs 0 n (2 * n) n = E := ⟨_, rfl⟩
    rw [hE] at HA5 HB5
    have HL := Lib.hid (show E.length = L by rw [← hE, List.length_append, Ut.evs_len, HL0.out, ← hL]; omega)
    have HBE := Lib.hid (show blind E = E by rw [← hE, blind_app, HBL.out, evs_blind])
    clear hE HL0 HBL
    go_wp2_with (first
      | (go_at_call 14; with_reducible refine (ALog_any HA5.out).mono ?_; rintro e w6 ⟨rfl, hw⟩; replace hw := hw.symm; subst hw)
      | (go_at_call 19; with_reducible refine (blind_of HA5.out.lg HL.out HBE.out (by omega)).mono ?_; rintro e w7 ⟨A7, c7, rfl, hO7, hb7⟩; have O7 := Lib.hid hO7; have B7 := Lib.hid hb7; have HB7 := Lib.hid (HB5.out.below B7); have z7 := hb7.size; clear hO7 hb7)
      | (go_at_call 14; with_reducible refine (ALog_any HB7.out).mono ?_; rintro e w6 ⟨rfl, hw⟩; replace hw := hw.symm; subst hw)
      | (go_at_call 19; with_reducible refine (blind_of HB7.out.lg HL.out HBE.out (by omega)).mono ?_; rintro e w8 ⟨A8, c8, rfl, hO8, hb8⟩; have O8 := Lib.hid hO8; have B8 := Lib.hid hb8; have P8 := Lib.hid (own_below O7.out hb8); have z8 := hb8.size; clear hO8 hb8)
      | (go_at_call 35; with_reducible refine (uCost_any n (by omega) _).mono ?_; rintro e w6 ⟨rfl, hw⟩; replace hw := hw.symm; subst hw))
    clear HA5 HB5 HBE HB7 hc_wq hf_wq HMK mkrun
    go_loopw [70] (fun i w9 => ∃ q : Nat, q ≤ L ∧ i = .int .i64 q ∧ Below w8.heap.size w8 w9) (fun i _ => L - (intOf i).toNat)
    case atStart => exact ⟨0, Nat.zero_le _, rfl, Below.refl _ _⟩
    case round =>
      rename World => w9
      obtain ⟨q, hq, rfl, hW⟩ := hrel
      have z9 := hW.size
      have HW := Lib.hid hW
      clear hW
      by_cases hqn : q < L
      · obtain ⟨g7, rfl, hg7, x0, x1, x2⟩ := ev_at P8.out HL.out hqn
        obtain ⟨g8, rfl, hg8, y0, y1, y2⟩ := ev_at O8.out HL.out hqn
        obtain ⟨e, he⟩ : ∃ e, E.getD q evDef = e := ⟨_, rfl⟩
        rw [he] at x0 x1 x2 y0 y1 y2
        have X0 := (HW.out.cell (p := ⟨g7, q * 3, none⟩) hg7).trans x0
        have X1 := (HW.out.cell (p := ⟨g7, q * 3 + 1, none⟩) hg7).trans x1
        have X2 := (HW.out.cell (p := ⟨g7, q * 3 + 2, none⟩) hg7).trans x2
        have Y0 := (HW.out.cell (p := ⟨g8, q * 3, none⟩) hg8).trans y0
        have Y1 := (HW.out.cell (p := ⟨g8, q * 3 + 1, none⟩) hg8).trans y1
        have Y2 := (HW.out.cell (p := ⟨g8, q * 3 + 2, none⟩) hg8).trans y2
        clear x0 x1 x2 y0 y1 y2 he
        go_wp2_with fail
        go_region_held3 (fun w' => w'.cell? ⟨g7, q * 3, none⟩ = some (.int .i64 e.k) ∧ w'.cell? ⟨g7, q * 3 + 1, none⟩ = some (.int .i64 e.i) ∧ w'.cell? ⟨g7, q * 3 + 2, none⟩ = some (.int .u32 e.v) ∧ w'.cell? ⟨g8, q * 3, none⟩ = some (.int .i64 e.k) ∧ w'.cell? ⟨g8, q * 3 + 1, none⟩ = some (.int .i64 e.i) ∧ w'.cell? ⟨g8, q * 3 + 2, none⟩ = some (.int .u32 e.v)) ((simp [go_sem, ↓IntWalk.iteOmega, *]; done)) (fail)
        all_goals (go_wp2_with fail)
        all_goals
          refine ⟨⟨q + 1, by omega, by go_num, ?_⟩, by simp [intOf]; omega⟩
          have HW' := HW.out
          (repeat' (first | with_reducible exact Below.refl _ _ | with_reducible refine bl_drewN ?_ _ | with_reducible refine bl_drew ?_ | refine bl_set (by (first | omega | (simp; done) | (simp; omega))) ?_ _ | refine bl_alloc (by (first | omega | (simp; done) | (simp; omega))) ?_ _ | refine bl_then (by assumption) ?_ (by (first | omega | (simp; done) | (simp; omega))) | refine Step.bl (by assumption) (by assumption) (by (first | omega | (simp; done) | (simp; omega))) (by (first | omega | (simp; done) | (simp; omega))) ?_))
      · have hge2 : L ≤ q := by omega
        go_wp2_with fail
        go_ret
        refine ⟨by simp, ?_⟩
        have b7 := bl_then B7 B5.out B5.out.size
        have b8 := bl_then B8 b7 b7.size
        exact bl_then HW b8 b8.size
end Go.Proofs.Ytjoehhojhfgooaa
