/- UnutfBack: the law's call. No condition. -/
import Derived.Test.YtjoehhojhfgooaaUnT
import Derived.Test.YtjoehhojhfgooaaUnK
namespace Go.Proofs.Ytjoehhojhfgooaa
open Go.RowKit
set_option linter.unusedSimpArgs false
set_option linter.unusedVariables false
attribute [local go_sem] IntKind.wrap_u32' signed_u32 max_u32
attribute [local go_sem ↓] Go.wp_at_zero Go.wp_at_succ
attribute [local go_sem] Calm.C
attribute [local go_sem low] Calm.al_cell Calm.al_frozen
theorem lanes4 (n : Nat) : Lanes (4 * n) (n : Int) (L3 0 (n : Int) (2 * (n : Int))) 3 := by
  intro k hk
  rcases (by omega : k = 0 ∨ k = 1 ∨ k = 2) with rfl | rfl | rfl
  · exact ⟨by simp [Fit, L3]; omega, fun j hj => by omega⟩
  · refine ⟨by simp [Fit, L3]; omega, fun j hj => ?_⟩
    obtain rfl : j = 0 := by omega
    simp [Meets, L3]
  · refine ⟨by simp [Fit, L3]; omega, fun j hj => ?_⟩
    rcases (by omega : j = 0 ∨ j = 1) with rfl | rfl
    · simp [Meets, L3]; omega
    · simp [Meets, L3]; omega
theorem Decode_4 {w : World} {p g lp : Nat} {FL : Nat → Prop} {ws : List Int} {n : Nat} {evs : List Ev} (h : Ar w p g lp FL ws (4 * n) evs) (he : evs.length < 1000000000000) (hn : n ≤ 1000) (len : Int) :
    Calls Try.prog 27 #[.pointer (some ⟨p, 0, none⟩), .int .i64 0, .int .i64 n, .agg #[.int .u32 len], .int .i64 n, .int .i64 (2 * (n : Int))] w fun e w' =>
      e = .returned (.tuple #[.agg #[.int .u32 (Ut.answer 0 n (2 * n) n len ws)], .bool true]) ∧
        ∃ FL', Ar w' p g lp FL' (Ut.out 0 n (2 * n) n len ws) (4 * n) (evs ++ Ut.evs 0 n (2 * n) n) ∧ Step (AF p g FL) (AF p g FL') w w' := by
  have := Decode_t h 0 n n (2 * n) len he (by omega) (by omega) (lanes4 n)
  rw [show (0 : Int).toNat = 0 from rfl, Int.toNat_natCast, show (2 * (n : Int)).toNat = 2 * n by omega] at this
  exact this
theorem rt_back (n : Nat) (hn : n ≤ 60) : Rt (4 * n) n (2 * (n : Int)) n (3 * (n : Int)) n := by
  refine ⟨by omega, by omega, by omega, by omega, ⟨by omega, by omega, by omega⟩, ⟨by omega, by omega, by omega⟩, ⟨by omega, by omega, by omega⟩, ?_, ?_, ?_⟩ <;> unfold Ovl <;> omega
theorem putw_first (ws : List Int) (f : Nat → Int) : ∀ k, k ≤ ws.length → ∀ i, (putw ws 0 f k).getD i 0 = if i < k then f i else ws.getD i 0
  | 0, _, i => by rw [putw_zero, if_neg (Nat.not_lt_zero i)]
  | k + 1, hk, i => by
    have ih := putw_first ws f k (by omega) i
    rw [putw_succ, Ut.set_get _ _ _ _ (by rw [putw_len]; omega), Nat.zero_add, ih]
    by_cases h : i = k
    · subst h
      rw [if_pos rfl, if_pos (Nat.lt_succ_self _)]
    · rw [if_neg h]
      by_cases h2 : i < k
      · rw [if_pos h2, if_pos (by omega)]
      · rw [if_neg h2, if_neg (by omega)]
theorem dec_len (n : Nat) (ws : List Int) (len : Int) : (Ut.out 0 n (2 * n) n len ws).length = ws.length := by
  unfold Ut.out
  rw [Ut.dd_len, Ut.dc_len]
/-- What Decode and Encode make of right bytes. -/
theorem back_plain (n J : Nat) (hn : n ≤ 60) (f : Nat → Nat) (hf : ∀ i, f i < 256) (ws : List Int) (hl : ws.length = 16 * n) (hw : ∀ k, k < n → ws.getD k 0 = (f k : Int)) (hR : Ut.Rights f n J) (hp : Ut.pos f n J = n) (hb : Ut.isBad f n = false) :
    Un.siz n (2 * n) n (4 * n) (Ut.out 0 n (2 * n) n n ws) = (n : Int) ∧ Un.ovr n (2 * n) n n (4 * n) (Ut.out 0 n (2 * n) n n ws) = 0 ∧
    ∀ i, i < n → (Un.fin n (2 * n) n (3 * n) n (4 * n) (Ut.out 0 n (2 * n) n n ws)).getD (3 * n + i) 0 = (f i : Int) := by
  have hof := fun i => Ut.out_form n ws (by omega) f hf (fun k hk => by
    rw [hw k hk, show (255 : Int) = ((255 : Nat) : Int) from rfl, Ct.and_nat _ _ (by have := hf k; omega) (by decide), show (255 : Nat) = 2 ^ 8 - 1 from rfl, Nat.and_two_pow_sub_one_eq_mod, Nat.mod_eq_of_lt (hf k)]) n (by omega) (by omega) i
  simp only [Nat.min_self, hb] at hof
  obtain ⟨W2, hW2⟩ : ∃ W2, Ut.out 0 n (2 * n) n n ws = W2 := ⟨_, rfl⟩
  have hl2 : W2.length = 16 * n := by rw [← hW2, dec_len, hl]
  rw [hW2] at hof ⊢
  obtain ⟨h1, h2, h3⟩ := Un.enc_plain n (2 * n) n (3 * n) n (4 * n) W2 (Ut.ov f n) (Un.kpn f n) (Un.ov_lt f n hf) (Un.kpn_lt f n) (by omega) (by omega) (by omega) (by omega) (by omega)
    (fun i hi => by rw [hof, if_pos (by omega), if_neg (by simp), Nat.add_sub_cancel_left])
    (fun i hi => by
      rw [hof, if_neg (by omega), if_pos (by omega), Nat.add_sub_cancel_left, Ct.mask_nat]
      unfold Un.kpn
      simp) (by omega) (by omega)
  rw [Un.back_all f n J hf hR hp] at h1 h2 h3
  simp only [List.length_map, List.length_range] at h1 h2 h3
  refine ⟨h1, ?_, fun i hi => ?_⟩
  · rw [h2, decide_eq_false (by omega)]
    rfl
  · rw [h3 _ (by omega), if_pos (by omega), if_pos (Nat.le_refl _), Nat.add_sub_cancel_left, List.getD_eq_getElem?_getD, List.getElem?_map, List.getElem?_range hi]
    rfl
attribute [local irreducible] Un.siz Un.ovr Un.fin Un.evs Ut.out Ut.answer Ut.evs stEvs putw vals
set_option maxRecDepth 10000 in
set_option maxHeartbeats 6400000 in
theorem UnutfBack_any (w : World) (A : Option Addr) (n c : Nat) (f : Nat → Nat) (hA : U8s w A n f) (hn : n ≤ 9223372036854775807) (hf : ∀ i, f i < 256) (hc : n ≤ c) :
    Calls Try.prog 4 #[.slice A n c] w fun e w' => e = .returned (.bool true) ∧ Below w.heap.size w w' := by
  by_cases h60 : 60 < n
  · clear hA
    go_enter Try.func4, Try.ntmps4
    go_wp2_with (first | (go_at_call 12; refine (awake10_any _).mono ?_; rintro e w1 ⟨rfl, hb⟩; have hcf := bcell hb; (try simp only [World.size_alloc, World.size_setCell, drew_size] at hcf); have hz := hb.size; (try simp only [World.size_alloc, World.size_setCell, World.size_drew] at hz); have hbh := Lib.hid hb; clear hb; obtain ⟨hc, hf⟩ := hcf))
    go_ret
    refine ⟨rfl, ?_⟩
    (repeat' (first | with_reducible exact Below.refl _ _ | with_reducible refine bl_drewN ?_ _ | with_reducible refine bl_drew ?_ | refine bl_set (by (first | omega | (simp; done) | (simp; omega))) ?_ _ | refine bl_alloc (by (first | omega | (simp; done) | (simp; omega))) ?_ _ | refine bl_then (by assumption) ?_ (by (first | omega | (simp; done) | (simp; omega))) | refine Step.bl (by assumption) (by assumption) (by (first | omega | (simp; done) | (simp; omega))) (by (first | omega | (simp; done) | (simp; omega))) ?_))
  have h60' : n ≤ 60 := by omega
  have HX := Lib.hid hA
  have HF := Lib.hid hf
  clear hA hf
  go_enter Try.func4, Try.ntmps4
  go_wp2_with (first | (go_at_call 12; refine (awake10_any _).mono ?_; rintro e wq ⟨rfl, hb⟩; have hcf_wq := bcell hb; (try simp only [World.size_alloc, World.size_setCell, drew_size] at hcf_wq); have hz_wq := hb.size; (try simp only [World.size_alloc, World.size_setCell, World.size_drew] at hz_wq); have hbh_wq := Lib.hid hb; clear hb; obtain ⟨hc_wq, hf_wq⟩ := hcf_wq))
  with_reducible refine (rPoints_one (HX.out.below hbh_wq.out) HF.out (by omega) c hc).mono ?_
  rintro e wp ⟨J, A', c', R, rfl, hR, hp1, hp0, hbad, hown, hbp⟩
  have BP := Lib.hid (bl_then (Lib.hid hbp) hbh_wq.out hbh_wq.out.size)
  have HRt := Lib.hid hR
  have HP1 := Lib.hid hp1
  have HBAD := Lib.hid hbad
  have zp := BP.out.size
  clear hR hp1 hp0 hbad hown hbp hc_wq hf_wq hbh_wq
  cases R
  · go_wp2_with fail
    go_ret
    exact ⟨rfl, BP.out⟩
  have HN := Lib.hid (show (if (4194304 : Int) < (if 16 * (n : Int) < 0 then 0 else 16 * (n : Int)) then 4194304 else (if 16 * (n : Int) < 0 then 0 else 16 * (n : Int))) = ((16 * n : Nat) : Int) by rw [if_neg (by omega), if_neg (by omega)]; omega)
  go_wp2_with (go_at_call 24; with_reducible refine (ANew_any (16 * (n : Int)) (16 * n) HN.out _).mono ?_; rintro e w0 ⟨p, g, lp, F0, rfl, hA, hlow, hb⟩; have H0 := Lib.hid hA; have LOW := Lib.hid hlow; have B0 := Lib.hid hb; have z0 := hb.size; clear hA hlow hb)
  go_wp2_with (go_at_call 25; with_reducible refine (ATake_j H0.out (by decide) _ (by omega) (by rw [List.length_replicate]; omega)).mono ?_; rintro e w1 ⟨rfl, F1, hA1, hs1⟩; have H1 := Lib.hid hA1; have S1 := Lib.hid hs1; have z1 := hs1.size; clear hA1 hs1)
  have B1 : Hid (Below wp.heap.size wp w1) := Lib.hid (S1.out.below B0.out B0.out.size LOW.out)
  have L1 : Hid (∀ i, AF p g F1 i → wp.heap.size ≤ i) := Lib.hid (S1.out.low B0.out.size LOW.out)
  have H1 : Hid (Ar w1 p g lp F1 (List.replicate (16 * n) 0) (4 * n) [⟨4, 0, 4 * (n : Int)⟩]) := Lib.hid (by
    have h := H1.out
    rw [Nat.zero_add, show (4 * (n : Int)).toNat = 4 * n by omega] at h
    exact h)
  have BW1 := Lib.hid (bl_then B1 BP.out zp)
  have zw1 := BW1.out.size
  have HX1 := Lib.hid (HX.out.below BW1.out)
  clear H0 B0 S1 LOW HN
  have HP1 := Lib.hid (HP1.out (by first | trivial | rfl))
  go_loopw [38] (fun i wr => ∃ (k : Nat) (F : Nat → Prop), k ≤ n ∧ i = .int .i64 (k : Int) ∧ Ar wr p g lp F (putw (List.replicate (16 * n) 0) 0 (fun i => (f i : Int)) k) (4 * n) ([⟨4, 0, 4 * (n : Int)⟩] ++ stEvs 0 k) ∧ Step (AF p g F1) (AF p g F) w1 wr) (fun i _ => n - (intOf i).toNat)
  case atStart => exact ⟨0, F1, Nat.zero_le _, rfl, by rw [putw_zero, stEvs_zero, List.append_nil]; exact H1.out, H1.out.step0⟩
  case round =>
    obtain ⟨k, F, hk, rfl, hA, hs⟩ := hrel
    have HA := Lib.hid hA
    have HS := Lib.hid hs
    have zr := hs.size
    clear hA hs
    by_cases hkn : k < n
    · obtain ⟨b, o, rfl, hb, hcs⟩ := HX1.out (by omega)
      have hfk := HF.out k
      have hbw : b < w.heap.size := by
        obtain ⟨b', o', e, h1, -⟩ := HX.out (by omega)
        injection e with e1
        injection e1 with e2
        omega
      have hck : wr.cell? ⟨b, o + k, none⟩ = some (.int .u8 (f k : Int)) := by
        refine (old_cell HS.out hb (fun hf => ?_)).trans (hcs k hkn)
        have := L1.out b hf
        omega
      have hsl := stEvs_len 0 k
      obtain ⟨v, hv⟩ : ∃ v, f k = v := ⟨_, rfl⟩
      rw [hv] at hck hfk
      have hv256 : (v : Int) % 4294967296 = (v : Int) := by omega
      clear hcs
      go_wp2_with (go_at_call 26; with_reducible refine (APut_1 (HA.out.alloc _) (by rw [List.length_append]; simp only [List.length_cons, List.length_nil]; omega) k (v : Int) _ _ (by omega) (by simp) (fun hf => absurd (HA.out.most _ hf) (Nat.lt_irrefl _)) (new_cell _ _ _)).mono ?_; rintro e w2 ⟨rfl, F2, hA2, hs2⟩; have H2 := Lib.hid hA2; have S2 := Lib.hid hs2; clear hA2 hs2)
      refine ⟨⟨k + 1, F2, by omega, by go_num, ?_, ?_⟩, by simp [intOf]; omega⟩
      · rw [putw_succ, stEvs_succ, ← List.append_assoc, hv, Nat.zero_add]
        exact H2.out
      · exact HS.out.alloc _ |>.trans S2.out
    · have hkE : k = n := by omega
      subst hkE
      obtain ⟨WA, hWA⟩ : ∃ WA, putw (List.replicate (16 * k) 0) 0 (fun i => (f i : Int)) k = WA := ⟨_, rfl⟩
      have hWl : WA.length = 16 * k := by rw [← hWA, putw_len, List.length_replicate]
      have hWg : ∀ r, r < k → WA.getD r 0 = (f r : Int) := fun r hr => by
        rw [← hWA, putw_first _ _ _ (by rw [List.length_replicate]; omega), if_pos hr]
      rw [hWA] at HA
      obtain ⟨E0, hE0⟩ : ∃ E0, [(⟨4, 0, 4 * (k : Int)⟩ : Ev)] ++ stEvs 0 k = E0 := ⟨_, rfl⟩
      have hE0l : E0.length = k + 1 := by rw [← hE0, List.length_append, stEvs_len]; simp only [List.length_cons, List.length_nil]; omega
      rw [hE0] at HA
      have HPL := Lib.hid (back_plain k J h60' f HF.out WA hWl hWg HRt.out HP1.out (by rw [HBAD.out]; rfl))
      have hn32 : (k : Int) % 4294967296 = (k : Int) := by omega
      have HWL := Lib.hid hWl
      have HE0L := Lib.hid hE0l
      clear hWA hE0 hWg hWl hE0l
      go_wp2_with (first | (go_at_call 28; refine (Of_any _ _).mono ?_; rintro e wo ⟨rfl, hb⟩; have hcf_wo := bcell hb; (try simp only [World.size_alloc, World.size_setCell, drew_size] at hcf_wo); have hz_wo := hb.size; (try simp only [World.size_alloc, World.size_setCell, World.size_drew] at hz_wo); have hbh_wo := Lib.hid hb; clear hb; obtain ⟨hc_wo, hf_wo⟩ := hcf_wo))
      with_reducible refine (Decode_4 (HA.out.below hbh_wo) (by rw [HE0L.out]; omega) (by omega) (k : Int)).mono ?_
      rintro e w3 ⟨rfl, F3, hA3, hs3⟩
      have S3 := Lib.hid (HS.out.trans ((Step.of_below HA.out.most hbh_wo.out).trans hs3))
      obtain ⟨W2, hW2⟩ : ∃ W2, Ut.out 0 k (2 * k) k k WA = W2 := ⟨_, rfl⟩
      obtain ⟨AN, hAN⟩ : ∃ AN, Ut.answer 0 k (2 * k) k k WA = AN := ⟨_, rfl⟩
      have hW2l : W2.length = 16 * k := by rw [← hW2, dec_len, HWL.out]
      have hpl := HPL.out
      rw [hW2] at hA3 hpl
      rw [hAN]
      have HPL2 := Lib.hid hpl
      have HW2L := Lib.hid hW2l
      obtain ⟨E3, hE3⟩ : ∃ E3, E0 ++ Ut.evs 0 k (2 * k) k = E3 := ⟨_, rfl⟩
      have hE3l : E3.length = E0.length + (Ut.evs 0 k (2 * k) k).length := by rw [← hE3, List.length_append]
      rw [Ut.evs_len, HE0L.out] at hE3l
      rw [hE3] at hA3
      have HE3L := Lib.hid hE3l
      have HA3 := Lib.hid hA3
      have z3 := S3.out.size
      clear hW2 hAN hW2l hpl hE3 hE3l hA3 hs3 hbh_wo hc_wo hf_wo HA HS HPL H1
      go_wp2_with fail
      with_reducible refine (Encode_e (HA3.out.alloc _) (by rw [HE3L.out]; omega) (by rw [HW2L.out]; omega) (k : Int) (2 * (k : Int)) (k : Int) (3 * (k : Int)) (k : Int) k (2 * k) k (3 * k) k rfl (by omega) rfl (by omega) rfl (rt_back k h60') (by rw [HW2L.out]; omega)).mono ?_
      rintro e w4 ⟨rfl, F4, hA4, hs4⟩
      obtain ⟨hp1, hp2, hp3⟩ := HPL2.out
      rw [hp1, hp2]
      obtain ⟨W4, hW4⟩ : ∃ W4, Un.fin k (2 * k) k (3 * k) k (4 * k) W2 = W4 := ⟨_, rfl⟩
      rw [hW4] at hA4 hp3
      have HP3 := Lib.hid hp3
      obtain ⟨E4, hE4⟩ : ∃ E4, E3 ++ Un.evs k (2 * k) k (3 * k) k (4 * k) = E4 := ⟨_, rfl⟩
      have hpe := pkEvs_len2 (4 * k + 4 * k) (4 * k) (4 * k + 8 * k) 1 (fun _ => 4 * k) (by omega) (by decide)
      have hE4l : E4.length ≤ 20000000 := by
        rw [← hE4, List.length_append, Un.evs_len, HE3L.out]
        omega
      rw [hE4] at hA4
      have HA4 := Lib.hid hA4
      have S4 := Lib.hid (S3.out.trans ((HA3.out.step0.alloc (.cells #[.int .u32 AN] 32)).trans hs4))
      have hz4 := S4.out.size
      clear hp1 hp2 hp3 hW4 hE4 hpe hA4 hs4 HPL2 S3 HA3 HE3L
      go_wp2_with (first | (go_at_call 21; refine (told10_any _ _).mono ?_; rintro e wt ⟨rfl, hb⟩; have hcf_wt := bcell hb; (try simp only [World.size_alloc, World.size_setCell, drew_size] at hcf_wt); have hz_wt := hb.size; (try simp only [World.size_alloc, World.size_setCell, World.size_drew] at hz_wt); have hbh_wt := Lib.hid hb; clear hb; obtain ⟨hc_wt, hf_wt⟩ := hcf_wt))
      have BT := Lib.hid (show Below w4.heap.size w4 wt by (repeat' (first | with_reducible exact Below.refl _ _ | with_reducible refine bl_drewN ?_ _ | with_reducible refine bl_drew ?_ | refine bl_set (by (first | omega | (simp; done) | (simp; omega))) ?_ _ | refine bl_alloc (by (first | omega | (simp; done) | (simp; omega))) ?_ _ | refine bl_then (by assumption) ?_ (by (first | omega | (simp; done) | (simp; omega))) | refine Step.bl (by assumption) (by assumption) (by (first | omega | (simp; done) | (simp; omega))) (by (first | omega | (simp; done) | (simp; omega))) ?_)))
      have HAt : Hid (Ar wt p g lp F4 W4 (4 * k) E4) := Lib.hid (by
        have HA := HA4
        (repeat' (first | with_reducible exact HA.out | with_reducible refine' Ar.drewN ?_ _ | with_reducible refine' Ar.drew ?_ | with_reducible refine' Ar.farE ?_ ?_ _ | with_reducible refine' Ar.alloc ?_ _ | with_reducible refine' Ar.below ?_ (by assumption))); (try (all_goals (simp [*, ↓IntWalk.iteOmega]; first | done | fail))); (first | done | fail))
      have ST := Lib.hid (S4.out.trans (Step.of_below HA4.out.most BT.out))
      clear hc_wt hf_wt hbh_wt BT HA4 S4
      go_loopw [93] (fun i wr => ∃ (q : Nat) (F : Nat → Prop) (E : List Ev), q ≤ k ∧ i = .int .i64 (q : Int) ∧ Ar wr p g lp F W4 (4 * k) E ∧ E.length ≤ 20000000 + 2 * q ∧ Step (AF p g F1) (AF p g F) w1 wr) (fun i _ => k - (intOf i).toNat)
      case atStart => exact ⟨0, F4, E4, Nat.zero_le _, rfl, HAt.out, by omega, ST.out⟩
      case round =>
        rename World => wx
        obtain ⟨q, FF, E, hq, rfl, hA, hE, hS⟩ := hrel
        have HA := Lib.hid hA
        have HS := Lib.hid hS
        have zx := hS.size
        clear hA
        by_cases hqk : q < k
        · obtain ⟨b, o, rfl, hb, hcs⟩ := HX1.out (by omega)
          have hfk := HF.out q
          have hnb : ¬ AF p g F1 b := fun hf => by
            have := L1.out b hf
            obtain ⟨b', o', e, h1, -⟩ := HX.out (by omega)
            injection e with e1
            injection e1 with e2
            omega
          have hck := (old_cell (o := o + q) hS hb hnb).trans (hcs q hqk)
          have hp3 := HP3.out q hqk
          obtain ⟨v, hv⟩ : ∃ v, f q = v := ⟨_, rfl⟩
          rw [hv] at hck hfk hp3
          have HP3q := Lib.hid hp3
          have hv256 : (v : Int) % 4294967296 = (v : Int) := by omega
          clear hcs hS hp3 hv
          go_wp2_with (first
            | (go_at_call 22; with_reducible refine' Calls.mono (ARelease_e ?_ ?_ _ (3 * k + q) ?_ ?_) ?_; rotate_left 6; (next => (repeat' (first | with_reducible exact HA.out | with_reducible refine' Ar.drewN ?_ _ | with_reducible refine' Ar.drew ?_ | with_reducible refine' Ar.farE ?_ ?_ _ | with_reducible refine' Ar.alloc ?_ _ | with_reducible refine' Ar.below ?_ (by assumption))); (try (all_goals (simp [*, ↓IntWalk.iteOmega]; first | done | fail))); (first | done | fail)); (next => omega); (next => omega); (next => omega); rintro e w1' ⟨rfl, F1', hA1, hs1⟩; rw [HP3q.out]; obtain ⟨hc, hf, hn⟩ := hs1.rules; (try simp only [World.size_alloc, World.size_setCell, drew_size] at hc hf hn); have hz := hs1.size; (try simp only [World.size_alloc, World.size_setCell, World.size_drew] at hz); have hst := Lib.hid hs1; have HA := Lib.hid hA1; clear hA1 hs1))
          refine ⟨⟨q + 1, F1', _, by omega, by go_num, by (repeat' (first | with_reducible exact HA.out | with_reducible refine' Ar.drewN ?_ _ | with_reducible refine' Ar.drew ?_ | with_reducible refine' Ar.farE ?_ ?_ _ | with_reducible refine' Ar.alloc ?_ _ | with_reducible refine' Ar.below ?_ (by assumption))); (try (all_goals (simp [*, ↓IntWalk.iteOmega]; first | done | fail))); (first | done | fail), ?_, ?_⟩, by simp [intOf]; omega⟩
          · simp only [List.length_append, List.length_cons, List.length_nil]; omega
          · exact HS.out.trans hst.out
        · have hge : k ≤ q := by omega
          clear hS
          go_wp2_with fail
          go_ret
          exact ⟨rfl, HS.out.below BW1.out zw1 (fun i hi => by have := L1.out i hi; omega)⟩
end Go.Proofs.Ytjoehhojhfgooaa
