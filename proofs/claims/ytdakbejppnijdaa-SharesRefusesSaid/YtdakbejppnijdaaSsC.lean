/- shares.Split does what it says. No condition. -/
import Derived.Test.YtdakbejppnijdaaSsB
namespace Go.Proofs.Ytdakbejppnijdaa
open Go.RowKit
set_option linter.unusedSimpArgs false
set_option linter.unusedVariables false
attribute [local go_sem] IntKind.wrap_u32' signed_u32 max_u32
attribute [local go_sem ↓] Go.wp_at_zero Go.wp_at_succ
attribute [local go_sem] Calm.C
attribute [local go_sem low] Calm.al_cell Calm.al_frozen
theorem cl_step {k : IntKind} {w w' : World} {A : Option Addr} {n : Nat} {f : Nat → Nat} {F F' : Nat → Prop} (h : Sj.Cl k w A n f) (hs : Step F F' w w') (hn : ∀ x, A = some x → ¬ F x.block) : Sj.Cl k w' A n f := fun h0 => by
  obtain ⟨b, o, hA, hlt, hc⟩ := h h0
  exact ⟨b, o, hA, Nat.lt_of_lt_of_le hlt hs.size, fun i hi => (old_cell hs hlt (hn _ hA)).trans (hc i hi)⟩
theorem cl_cut {k : IntKind} {w : World} {A : Option Addr} {n c : Nat} {f : Nat → Nat} (h : Sj.Cl k w A n f) (hc : n ≤ c) (a L : Nat) (ha : a + L ≤ n) : Sj.Cl k w (if c = a then A else Option.map (fun x => x.add a) A) L (fun q => f (a + q)) := fun h0 => by
  obtain ⟨b, o, hA, hlt, hcc⟩ := h (by omega)
  rw [if_neg (by omega), hA]
  refine ⟨b, o + a, by rw [Option.map_some, Addr.add_lit], hlt, fun i hi => ?_⟩
  rw [Nat.add_assoc]
  exact hcc (a + i) (by omega)
theorem add_blk (x : Addr) (n : Nat) : (x.add n).block = x.block := by
  unfold Addr.add
  split <;> rfl
theorem cut_ap {A : Option Addr} {c a : Nat} {G : Nat → Prop} (h : ∀ x, A = some x → ¬ G x.block) : ∀ x, (if c = a then A else Option.map (fun x => x.add a) A) = some x → ¬ G x.block := fun x he => by
  split at he
  · exact h x he
  · cases A with
    | none => cases he
    | some y =>
      rw [Option.map_some] at he
      obtain rfl := Option.some.inj he
      rw [add_blk]
      exact h y rfl
attribute [local irreducible] Gf.T Ss.all Ss.row Bw.cvl Bw.bks
set_option maxRecDepth 100000 in
set_option maxHeartbeats 8000000 in
theorem sSplit_t {w : World} {p g lp : Nat} {FL : Nat → Prop} {ws : List Int} {top : Nat} {evs : List Ev} (h : Ar w p g lp FL ws top evs) (he : evs.length < 900000000000) {A : Option Addr} {ml : Nat} {mf : Nat → Nat} (hA : Sj.Cl .u8 w A ml mf) (hmf : ∀ i, mf i < 256) (hml : ml ≤ 9223372036854775807) (c : Nat)
    (hAF : ∀ x, A = some x → ¬ AF p g FL x.block)
    (at_ n cnt L out : Nat) (hn1 : 1 ≤ n) (hn : n ≤ 4096) (hL : L + 1 ≤ cnt) (hcnt : cnt ≤ 255) (hneed : n * L ≤ ml) (hcap : ml ≤ c) (h1 : at_ + n ≤ top) (h2 : out + cnt * n ≤ top) (h3 : out + cnt * n ≤ at_ ∨ at_ + n ≤ out) :
    Calls Try.prog 29 #[.pointer (some ⟨p, 0, none⟩), .int .i64 at_, .int .i64 n, .int .i64 cnt, .int .i64 ((L : Int) + 1), .slice A ml c, .int .i64 out] w fun e w' => e = .returned (.bool true) ∧
      ∃ FL' E, Ar w' p g lp FL' (Ss.all ws (Ss.sh ws mf at_ L) out n cnt n) top E ∧ E.length ≤ evs.length + n * (cnt + 1) ∧ Step (AF p g FL) (AF p g FL') w w' := by
  have HA := Lib.hid h
  have hmost := h.most
  have htop : (top : Int) ≤ 4194304 := by have := h.ht; have := h.hz; omega
  have HM := Lib.hid hmost
  have HX := Lib.hid hA
  have HMF := Lib.hid hmf
  have HAF := Lib.hid hAF
  obtain ⟨S, hS⟩ : ∃ S, cnt * n = S := ⟨_, rfl⟩
  have hSI : (cnt : Int) * (n : Int) = (S : Int) := by rw [← hS]; simp
  have HSn := Lib.hid hS
  rw [hS] at h2 h3
  have HND := Lib.hid (fun w => sNeed_in n (L + 1) (by omega) (by omega) w)
  obtain ⟨Q, hQ⟩ : ∃ Q, n * L = Q := ⟨_, rfl⟩
  have HQ := Lib.hid hQ
  rw [hQ] at hneed
  rw [show L + 1 - 1 = L by omega, hQ] at HND
  obtain ⟨ff, hff⟩ : ∃ ff, Ss.sh ws mf at_ L = ff := ⟨_, rfl⟩
  rw [hff]
  have HFF := Lib.hid hff
  clear h hmost hA hmf hAF hS hQ hff
  have dd1 : decide ((n : Int) < 1) = false := decide_eq_false (by omega)
  have dd2 : decide ((4096 : Int) < (n : Int)) = false := decide_eq_false (by omega)
  have dd3 : decide ((L : Int) + 1 < 1) = false := decide_eq_false (by omega)
  have dd4 : decide ((cnt : Int) < (L : Int) + 1) = false := decide_eq_false (by omega)
  have dd5 : decide ((255 : Int) < (cnt : Int)) = false := decide_eq_false (by omega)
  have dd6 : decide ((ml : Int) < (Q : Int)) = false := decide_eq_false (by omega)
  go_enter Try.func29, Try.ntmps29
  go_wp2_with (first
    | (go_at_call 30; refine (HND.out _).mono ?_; rintro e w1 ⟨rfl, hw1⟩; replace hw1 := hw1.symm; subst hw1)
    | (go_at_call 61; refine (Fits_t (p := p) (g := g) (lp := lp) (FL := FL) (ws := ws) (top := top) (evs := evs) HA.out _ _ (by omega) (by omega) (by omega)).mono ?_; rintro e w1 ⟨rfl, hw1⟩; replace hw1 := hw1.symm; subst hw1)
    | (go_at_call 75; refine (sApart_t _ _ _ _ (by omega) (by omega) (by omega) (by omega) (by omega) _).mono ?_; rintro e w1 ⟨rfl, hw1⟩; replace hw1 := hw1.symm; subst hw1))
  have HMq := HM
  go_loopw [15, 16, 17, 18, 71] (fun a b d e' i wr => ∃ (j : Nat) (u1 u2 u3 u4 : Value) (F : Nat → Prop) (E : List Ev), j ≤ n ∧ i = .int .i64 (j : Int) ∧ a = u1 ∧ b = u2 ∧ d = u3 ∧ e' = u4 ∧ Ar wr p g lp F (Ss.all ws ff out n cnt j) top E ∧ E.length ≤ evs.length + j * (cnt + 1) ∧ Step (AF p g FL) (AF p g F) w wr) (fun _ _ _ _ i _ => n - (intOf i).toNat)
  case atStart => exact ⟨0, _, _, _, _, FL, evs, Nat.zero_le _, rfl, rfl, rfl, rfl, rfl, by rw [Ss.all_zero]; exact HA.out, by omega, HA.out.step0⟩
  case round =>
    obtain ⟨j, u1, u2, u3, u4, F, E, hj, rfl, rfl, rfl, rfl, rfl, hAr, hE, hSt⟩ := hrel
    have HAr := Lib.hid hAr
    have HST := Lib.hid hSt
    have zr := hSt.size
    clear HA HMq
    by_cases hjn : j < n
    · have hj1 : j * (cnt + 1) ≤ 4096 * 256 := Nat.mul_le_mul (by omega) (by omega)
      obtain ⟨JM, hJM⟩ : ∃ JM, j * (cnt + 1) = JM := ⟨_, rfl⟩
      have HJM := Lib.hid hJM
      rw [hJM] at hE hj1
      have hjL : (j + 1) * L ≤ n * L := Nat.mul_le_mul_right L (by omega)
      rw [HQ.out, Nat.succ_mul] at hjL
      obtain ⟨JL, hJL⟩ : ∃ JL, j * L = JL := ⟨_, rfl⟩
      rw [hJL] at hjL
      have hJLI : (j : Int) * (L : Int) = (JL : Int) := by rw [← hJL]; simp
      have hJLI2 : ((j : Int) + 1) * (L : Int) = (JL : Int) + (L : Int) := by rw [← hJLI, Int.add_mul, Int.one_mul]
      have HJL := Lib.hid hJL
      have HMr := Lib.hid hAr.most
      obtain ⟨V, hV⟩ : ∃ V, Ss.all ws ff out n cnt j = V := ⟨_, rfl⟩
      rw [hV] at HAr
      have HVs := Lib.hid (Ss.all_succ ws ff out n cnt j)
      rw [hV] at HVs
      have HVf : Hid (V.getD (at_ + j) 0 = ws.getD (at_ + j) 0) := Lib.hid (by rw [← hV]; exact Ss.all_far ws ff out n cnt _ (by rw [HSn.out]; omega) j (by omega))
      have HA := HAr
      have HCC := Lib.hid (cl_cut HX.out hcap JL L (by omega))
      have HCA := Lib.hid (cut_ap (c := c) (a := JL) HAF.out)
      obtain ⟨A2, hA2⟩ : ∃ A2, (if c = JL then A else Option.map (fun x => x.add JL) A) = A2 := ⟨_, rfl⟩
      rw [hA2] at HCC HCA
      clear hAr hSt hV hJM hJL HAr
      go_wp2_with (first | (first | (go_at_call 62; refine (Of_any _ _).mono ?_; rintro e wa ⟨rfl, hb⟩; have hcf_wa := bcell hb; (try simp only [World.size_alloc, World.size_setCell, drew_size] at hcf_wa); have hz_wa := hb.size; (try simp only [World.size_alloc, World.size_setCell, World.size_drew] at hz_wa); have hbh_wa := Lib.hid hb; clear hb; obtain ⟨hc_wa, hf_wa⟩ := hcf_wa) | (go_at_call 76; refine (And_any _ _ _).mono ?_; rintro e wb ⟨rfl, hb⟩; have hcf_wb := bcell hb; (try simp only [World.size_alloc, World.size_setCell, drew_size] at hcf_wb); have hz_wb := hb.size; (try simp only [World.size_alloc, World.size_setCell, World.size_drew] at hz_wb); have hbh_wb := Lib.hid hb; clear hb; obtain ⟨hc_wb, hf_wb⟩ := hcf_wb)) | (go_at_call 77; with_reducible refine' Calls.mono (ALoad_e ?_ ?_ _ (at_ + j) ?_ ?_) ?_; rotate_left 6; (next => (repeat' (first | with_reducible exact HA.out | with_reducible refine' Ar.drewN ?_ _ | with_reducible refine' Ar.drew ?_ | with_reducible refine' Ar.farE ?_ ?_ _ | with_reducible refine' Ar.alloc ?_ _ | with_reducible refine' Ar.below ?_ (by assumption))); (try (all_goals (simp [*, ↓IntWalk.iteOmega]; first | done | fail))); (first | done | fail)); (next => (first | omega | (simp only [List.length_append, List.length_cons, List.length_nil]; omega) | fail)); (next => (first | omega | fail)); (next => (first | omega | fail)); rintro e wx ⟨rfl, F_wx, hA1, hs1⟩; obtain ⟨hc_wx, hf_wx, hn_wx⟩ := hs1.rules; (try simp only [World.size_alloc, World.size_setCell, drew_size] at hc_wx hf_wx hn_wx); have hz_wx := hs1.size; (try simp only [World.size_alloc, World.size_setCell, World.size_drew] at hz_wx); have hst_wx := Lib.hid hs1; have HA := Lib.hid hA1; clear hA1 hs1))
      obtain ⟨sec, hsec⟩ : ∃ sec, Ct.And (V[at_ + j]?.getD 0) 255 = sec := ⟨_, rfl⟩
      rw [hsec]
      have HSEC := Lib.hid (show Ct.And (ws.getD (at_ + j) 0) 255 = sec by rw [← HVf.out, List.getD_eq_getElem?_getD]; exact hsec)
      obtain ⟨W1, hW1⟩ : ∃ W1, wb.alloc (.cells #[.int .u32 sec] 32) = W1 := ⟨_, rfl⟩
      have HAb : Hid (Ar wb p g lp F_wx V top (E ++ [⟨1, ((at_ + j : Nat) : Int), 0⟩])) := Lib.hid (by (repeat' (first | with_reducible exact HA.out | with_reducible refine' Ar.drewN ?_ _ | with_reducible refine' Ar.drew ?_ | with_reducible refine' Ar.farE ?_ ?_ _ | with_reducible refine' Ar.alloc ?_ _ | with_reducible refine' Ar.below ?_ (by assumption))); (try (all_goals (simp [*, ↓IntWalk.iteOmega]; first | done | fail))); (first | done | fail))
      have q3 : ¬ AF p g F_wx wb.heap.size := fun hf => absurd (HAb.out.most _ hf) (Nat.lt_irrefl _)
      have S1 : Hid (Step (AF p g F) (AF p g F_wx) wr W1) := by
        rw [← hW1]
        refine Lib.hid ?_
        have hmost := HMr.out
        (repeat' (first | exact Step.refl (by assumption) | refine Step.set_ (by (first | omega | (simp; done) | (simp; omega))) ?_ _ | refine Step.alloc ?_ _ | refine Step.drewN ?_ _ | refine Step.drew ?_ | refine Step.then_ (by assumption) ?_ | refine Step.thenB (by assumption) ?_))
      have HA1 : Hid (Ar W1 p g lp F_wx V top (E ++ [⟨1, ((at_ + j : Nat) : Int), 0⟩])) := by
        rw [← hW1]
        exact Lib.hid (HAb.out.alloc _)
      obtain ⟨B, hB⟩ : ∃ B, wb.heap.size = B := ⟨_, rfl⟩
      have d3 : W1.cell? ⟨B, 0, none⟩ = some (.int .u32 sec) := by rw [← hW1, ← hB]; exact (Blk.new wb _ _).cell 0
      rw [hW1, hB]
      rw [hB] at q3
      have hB1 : B < W1.heap.size := World.block_lt_of_cell? W1 ⟨B, 0, none⟩ d3
      have HNB := Lib.hid q3
      have HM1 := Lib.hid HA1.out.most
      have hEl : (E ++ [(⟨1, ((at_ + j : Nat) : Int), 0⟩ : Ev)]).length = E.length + 1 := by rw [List.length_append]; rfl
      obtain ⟨E2, hE2⟩ : ∃ E2, E ++ [(⟨1, ((at_ + j : Nat) : Int), 0⟩ : Ev)] = E2 := ⟨_, rfl⟩
      rw [hE2] at HA1 hEl
      clear hc_wx hf_wx hn_wx hst_wx hc_wa hf_wa hbh_wa hc_wb hf_wb hbh_wb HA HAb hE2 hW1 hB q3 hsec
      have HA := HA1
      clear HA1
      rw [show JL + L - JL = L by omega]
      go_loopw [18] (fun i w3 => ∃ (q : Nat) (F' : Nat → Prop) (E' : List Ev), q ≤ cnt ∧ i = .int .i64 ((q : Int) + 1) ∧ Ar w3 p g lp F' (Ss.row (ff j) out n j V q) top E' ∧ E'.length ≤ E2.length + q ∧ Step (AF p g F_wx) (AF p g F') W1 w3) (fun i _ => cnt + 1 - (intOf i).toNat)
      case atStart => exact ⟨0, F_wx, E2, Nat.zero_le _, rfl, by rw [Ss.row_zero]; exact HA.out, by omega, HA.out.step0⟩
      case round =>
        rename World => w3
        obtain ⟨q, F', E', hq, rfl, hA3, hE3, hS3⟩ := hrel
        clear HA
        have HA := Lib.hid hA3
        have HS3 := Lib.hid hS3
        have z3 := hS3.size
        have e3 := (old_cell (o := 0) hS3 hB1 HNB.out).trans d3
        by_cases hqc : q < cnt
        · have hkn : (q + 1) * n ≤ cnt * n := Nat.mul_le_mul_right n (by omega)
          rw [Nat.succ_mul, HSn.out] at hkn
          obtain ⟨QN, hQN⟩ : ∃ QN, q * n = QN := ⟨_, rfl⟩
          have hQNI : (q : Int) * (n : Int) = (QN : Int) := by rw [← hQN]; simp
          rw [hQN] at hkn
          have hrs := Lib.hid (Ss.row_succ (ff j) out n j V q)
          rw [hQN] at hrs
          have hk256 : ((q : Int) + 1) % 256 = (q : Int) + 1 := by omega
          have hST3 := HST.out.trans (S1.out.trans hS3)
          have HCV : Hid (∀ w', Below w3.heap.size w3 w' → Calls Try.prog 79 #[.agg #[.int .u32 sec], .slice A2 L (c - JL), .int .u8 ((q : Int) + 1)] w' fun e w'' => e = .returned (.agg #[.int .u32 (ff j (q + 1))]) ∧ Below w'.heap.size w' w'') := Lib.hid fun w' hb => by
            have h1 := sCurve_any ((cl_step HCC.out hST3 HCA.out).below (Nat.le_refl _) hb) (fun i => HMF.out _) (by omega) (c - JL) sec (q + 1) (by omega)
            rw [← HSEC.out] at h1
            rw [← HFF.out, ← HSEC.out]
            show Calls _ _ _ _ _
            unfold Ss.sh
            rw [HJL.out]
            exact h1
          clear hA3 hS3 hQN hST3
          go_wp2_with (first
            | (go_at_call 79; refine (HCV.out _ (Below.refl _ _)).mono ?_; rintro e wc ⟨rfl, hb⟩; have HBc := Lib.hid hb; have zc := hb.size; clear hb)
            | (go_at_call 78; with_reducible refine' Calls.mono (AStore_e ?_ ?_ _ (out + QN + j) ?_ ?_ _) ?_; rotate_left 6; (next => (repeat' (first | with_reducible exact HA.out | with_reducible refine' Ar.drewN ?_ _ | with_reducible refine' Ar.drew ?_ | with_reducible refine' Ar.farE ?_ ?_ _ | with_reducible refine' Ar.alloc ?_ _ | with_reducible refine' Ar.below ?_ (by assumption))); (try (all_goals (simp [*, ↓IntWalk.iteOmega]; first | done | fail))); (first | done | fail)); (next => (first | omega | (simp only [List.length_append, List.length_cons, List.length_nil]; omega) | fail)); (next => (first | omega | fail)); (next => (first | omega | fail)); rintro e wz ⟨rfl, F_wz, hA1, hs1⟩; obtain ⟨hc_wz, hf_wz, hn_wz⟩ := hs1.rules; (try simp only [World.size_alloc, World.size_setCell, drew_size] at hc_wz hf_wz hn_wz); have hz_wz := hs1.size; (try simp only [World.size_alloc, World.size_setCell, World.size_drew] at hz_wz); have hst_wz := Lib.hid hs1; have HA := Lib.hid hA1; clear hA1 hs1))
          go_roundw
          case rel =>
            refine ⟨q + 1, F_wz, _, by omega, by go_num, by rw [hrs.out]; exact HA.out, ?_, ?_⟩
            · rw [List.length_append, List.length_singleton]
              omega
            · have hmost := HM1.out
              have HS3' := HS3.out
              (repeat' (first | exact Step.refl (by assumption) | refine Step.set_ (by (first | omega | (simp; done) | (simp; omega))) ?_ _ | refine Step.alloc ?_ _ | refine Step.drewN ?_ _ | refine Step.drew ?_ | refine Step.then_ (by assumption) ?_ | refine Step.thenB (by assumption) ?_))
          case measure => simp [intOf]; omega
        · have hge : (cnt : Int) < (q : Int) + 1 := by omega
          have eq : q = cnt := by omega
          rw [eq] at hA3 hE3
          have HA4 := Lib.hid hA3
          have S4 := Lib.hid (HST.out.trans (S1.out.trans hS3))
          have HMj : Hid ((j + 1) * (cnt + 1) = JM + cnt + 1) := Lib.hid (by rw [Nat.succ_mul, HJM.out]; omega)
          clear hA3 hS3 eq HA
          go_wp2_with fail
          go_roundw
          case rel =>
            refine ⟨j + 1, _, _, _, _, _, _, by omega, by go_num, rfl, rfl, rfl, rfl, by rw [HVs.out]; exact HA4.out, ?_, S4.out⟩
            rw [HMj.out]
            omega
          case measure => simp [intOf]; omega
    · have hge : (n : Int) ≤ j := by omega
      have e : j = n := by omega
      rw [e] at hAr hE
      have HA2 := Lib.hid hAr
      clear hAr hSt e
      go_wp2_with fail
      go_ret
      exact ⟨rfl, F, E, HA2.out, hE, HST.out⟩
end Go.Proofs.Ytdakbejppnijdaa
