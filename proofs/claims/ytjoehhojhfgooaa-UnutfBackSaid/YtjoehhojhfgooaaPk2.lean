/- Package pack: move. No condition. -/
import Derived.Test.YtjoehhojhfgooaaPk1
namespace Go.Proofs.Ytjoehhojhfgooaa
open Go.RowKit
set_option linter.unusedSimpArgs false
set_option linter.unusedVariables false
attribute [local go_sem] IntKind.wrap_u32' signed_u32 max_u32
attribute [local go_sem ↓] Go.wp_at_zero Go.wp_at_succ
attribute [local go_sem] Calm.C
attribute [local go_sem low] Calm.al_cell Calm.al_frozen
theorem pow_facts (bit : Nat) (hb : bit ≤ 20) : ∃ P : Nat, 2 ^ bit = P ∧ 1 ≤ P ∧ (P : Int) ≤ 1048576 ∧ wrap64 ((2 : Int) ^ bit) = P := by
  have h1 : 1 ≤ 2 ^ bit := Nat.one_le_pow _ _ (by decide)
  have h2 : 2 ^ bit ≤ 1048576 := Nat.le_trans (Nat.pow_le_pow_right (by decide) hb) (by decide)
  have h3 : (2 : Int) ^ bit = ((2 ^ bit : Nat) : Int) := by simp
  rw [h3]
  generalize 2 ^ bit = P at *
  exact ⟨P, rfl, h1, by omega, IntWalk.wrap64_in _ (by omega)⟩
attribute [local irreducible] Pk.mL Pk.mv Pk.mLe Pk.mve
set_option maxRecDepth 10000 in
set_option maxHeartbeats 3200000 in
theorem pkMove_any {w : World} {p g lp : Nat} {FL : Nat → Prop} {ws : List Int} {top : Nat} {evs : List Ev} (h : Ar w p g lp FL ws top evs) (he : evs.length < 900000000000) (far n bit : Nat) (A : Option Addr) (m c : Nat) (L : Nat → Nat) (hA : Its w (AF p g FL) A m L) (hm : m ≤ 1000) (hn : n ≤ 49152) (hb : bit ≤ 20)
    (hfr : far + n ≤ top) (hL : ∀ j, j < m → L j + n ≤ top) :
    Calls Try.prog 66 #[.pointer (some ⟨p, 0, none⟩), .int .i64 far, .int .i64 n, .int .i64 bit, .slice A m c] w fun e w' => e = .returned (.tuple #[]) ∧
      ∃ FL', Ar w' p g lp FL' (Pk.mv far bit L m ws (n - 2 ^ bit)) top (evs ++ Pk.mve far bit L m (n - 2 ^ bit)) ∧ Step (AF p g FL) (AF p g FL') w w' := by
  have HA := Lib.hid h
  have hmost := h.most
  have htop : (top : Int) ≤ 4194304 := by have := h.ht; have := h.hz; omega
  have HM := Lib.hid hmost
  have HX := Lib.hid hA
  have HL := Lib.hid hL
  obtain ⟨P, hP, hP1, hP3, hw0⟩ := pow_facts bit hb
  obtain ⟨K, hK⟩ : ∃ K, n - P = K := ⟨_, rfl⟩
  rw [hP, hK]
  have HP := Lib.hid hP
  clear h hmost hA hL hP
  go_enter Try.func66, Try.ntmps66
  go_wp2_with fail
  rw [hw0]
  go_loopw [10] (fun i wr => ∃ (k : Nat) (F : Nat → Prop) (E : List Ev) (V : List Int), k ≤ K ∧ i = .int .i64 ((P + k : Nat) : Int) ∧ Pk.mv far bit L m ws k = V ∧ E = evs ++ Pk.mve far bit L m k ∧ Ar wr p g lp F V top E ∧ Step (AF p g FL) (AF p g F) w wr) (fun i _ => n - (intOf i).toNat)
  case atStart => exact ⟨0, FL, evs, ws, Nat.zero_le _, by simp, Pk.mv_zero _ _ _ _ _, by rw [Pk.mve_zero, List.append_nil], HA.out, HA.out.step0⟩
  case round =>
    obtain ⟨k, F, E, V, hk, rfl, hmv, hE, hA, hS⟩ := hrel
    clear HA
    have HA := Lib.hid hA
    have HS := Lib.hid hS
    have zr := hS.size
    have hEl : E.length = evs.length + k * (1 + 4 * m) := by rw [hE, List.length_append, Pk.mve_len]
    have hEb : E.length + 10000 < 1099511627776 := by
      have : k * (1 + 4 * m) ≤ 49152 * 4001 := Nat.mul_le_mul (by omega) (by omega)
      omega
    have HE := Lib.hid hE
    have HMV := Lib.hid hmv
    have HX0 := Lib.hid (HX.out.step hS)
    clear hA hS hE hmv hEl
    by_cases hkn : k < K
    · have hnm : (P : Int) + (k : Int) < n := by omega
      have hsub : (P : Int) + (k : Int) - (P : Int) = (k : Int) := by omega
      go_wp2_with (first | (go_at_call 28; refine (Of_any _ _).mono ?_; rintro e wq ⟨rfl, hb⟩; have hcf_wq := bcell hb; (try simp only [World.size_alloc, World.size_setCell, drew_size] at hcf_wq); have hz_wq := hb.size; (try simp only [World.size_alloc, World.size_setCell, World.size_drew] at hz_wq); have hbh_wq := Lib.hid hb; clear hb; obtain ⟨hc_wq, hf_wq⟩ := hcf_wq) | (go_at_call 50; refine (And_any _ _ _).mono ?_; rintro e wa ⟨rfl, hb⟩; have hcf_wa := bcell hb; (try simp only [World.size_alloc, World.size_setCell, drew_size] at hcf_wa); have hz_wa := hb.size; (try simp only [World.size_alloc, World.size_setCell, World.size_drew] at hz_wa); have hbh_wa := Lib.hid hb; clear hb; obtain ⟨hc_wa, hf_wa⟩ := hcf_wa) | (go_at_call 69; refine (Sub_any _ _ _).mono ?_; rintro e wb ⟨rfl, hb⟩; have hcf_wb := bcell hb; (try simp only [World.size_alloc, World.size_setCell, drew_size] at hcf_wb); have hz_wb := hb.size; (try simp only [World.size_alloc, World.size_setCell, World.size_drew] at hz_wb); have hbh_wb := Lib.hid hb; clear hb; obtain ⟨hc_wb, hf_wb⟩ := hcf_wb) | (go_at_call 83; refine (Shr_any _ _ _).mono ?_; rintro e wh ⟨rfl, hb⟩; have hcf_wh := bcell hb; (try simp only [World.size_alloc, World.size_setCell, drew_size] at hcf_wh); have hz_wh := hb.size; (try simp only [World.size_alloc, World.size_setCell, World.size_drew] at hz_wh); have hbh_wh := Lib.hid hb; clear hb; obtain ⟨hc_wh, hf_wh⟩ := hcf_wh) | (go_at_call 52; with_reducible refine' Calls.mono (ALoad_e ?_ ?_ _ (far + (P + k)) ?_ ?_) ?_; rotate_left 6; (next => (repeat' (first | with_reducible exact HA.out | with_reducible refine' Ar.drewN ?_ _ | with_reducible refine' Ar.drew ?_ | with_reducible refine' Ar.farE ?_ ?_ _ | with_reducible refine' Ar.alloc ?_ _ | with_reducible refine' Ar.below ?_ (by assumption))); (try (all_goals (simp [*, ↓IntWalk.iteOmega]; first | done | fail))); (first | done | fail)); (next => (first | omega | (simp only [List.length_append, List.length_cons, List.length_nil]; omega))); (next => omega); (next => omega); rintro e w1 ⟨rfl, F1, hA1, hs1⟩; obtain ⟨hc, hf, hn⟩ := hs1.rules; (try simp only [World.size_alloc, World.size_setCell, drew_size] at hc hf hn); have hz := hs1.size; (try simp only [World.size_alloc, World.size_setCell, World.size_drew] at hz); have hst := Lib.hid hs1; have HA := Lib.hid hA1; clear hA1 hs1))
      obtain ⟨x, hx⟩ : ∃ x, Ct.Sub 0 (Ct.And (Ct.Shr (V[far + (P + k)]?.getD 0) bit) 1) = x := ⟨_, rfl⟩
      rw [hx]
      have HXX := Lib.hid (show Pk.mx far bit (P + k) V = x by unfold Pk.mx; rw [List.getD_eq_getElem?_getD]; exact hx)
      have HAb : Hid (Ar wb p g lp F1 V top (E ++ [⟨1, ((far + (P + k) : Nat) : Int), 0⟩])) := Lib.hid (by (repeat' (first | with_reducible exact HA.out | with_reducible refine' Ar.drewN ?_ _ | with_reducible refine' Ar.drew ?_ | with_reducible refine' Ar.farE ?_ ?_ _ | with_reducible refine' Ar.alloc ?_ _ | with_reducible refine' Ar.below ?_ (by assumption))); (try (all_goals (simp [*, ↓IntWalk.iteOmega]; first | done | fail))); (first | done | fail))
      have q3 : ¬ AF p g F1 wb.heap.size := fun hf => absurd (HAb.out.most _ hf) (Nat.lt_irrefl _)
      obtain ⟨W1, hW1⟩ : ∃ W1, wb.alloc (.cells #[.int .u32 x] 32) = W1 := ⟨_, rfl⟩
      have S1 : Hid (Step (AF p g FL) (AF p g F1) w W1) := by
        rw [← hW1]
        refine Lib.hid ?_
        have hmost := HM.out
        (repeat' (first | exact Step.refl (by assumption) | refine Step.set_ (by (first | omega | (simp; done) | (simp; omega))) ?_ _ | refine Step.alloc ?_ _ | refine Step.drewN ?_ _ | refine Step.drew ?_ | refine Step.then_ (by assumption) ?_ | refine Step.thenB (by assumption) ?_))
      have HA1 : Hid (Ar W1 p g lp F1 V top (E ++ [⟨1, ((far + (P + k) : Nat) : Int), 0⟩])) := by
        rw [← hW1]
        exact Lib.hid (HAb.out.alloc _)
      obtain ⟨B3, hB3⟩ : ∃ B3, wb.heap.size = B3 := ⟨_, rfl⟩
      have d3 : W1.cell? ⟨B3, 0, none⟩ = some (.int .u32 x) := by rw [← hW1, ← hB3]; exact (Blk.new wb _ _).cell 0
      rw [hW1, hB3]
      rw [hB3] at q3
      have hB3s : B3 < W1.heap.size := World.block_lt_of_cell? W1 ⟨B3, 0, none⟩ d3
      obtain ⟨E2, hE2⟩ : ∃ E2, E ++ [(⟨1, ((far + (P + k) : Nat) : Int), 0⟩ : Ev)] = E2 := ⟨_, rfl⟩
      rw [hE2] at HA1
      have hEl2 : E2.length = E.length + 1 := by rw [← hE2, List.length_append]; rfl
      have HE2 := Lib.hid hE2
      have HX1 := Lib.hid (HX.out.step S1.out)
      have HM1 := Lib.hid HA1.out.most
      clear hc hf hn hst hc_wh hf_wh hc_wq hf_wq hc_wa hf_wa hc_wb hf_wb hbh_wh hbh_wq hbh_wa hbh_wb HA HAb HS hE2 hW1 hx hB3 HX0
      have HA := HA1
      clear HA1
      go_loopw [41] (fun i w3 => ∃ (j : Nat) (F' : Nat → Prop) (E' : List Ev) (V' : List Int), j ≤ m ∧ i = .int .i64 j ∧ Pk.mL L (P + k) k x V j = V' ∧ E' = E2 ++ Pk.mLe L (P + k) k j ∧ Ar w3 p g lp F' V' top E' ∧ Step (AF p g F1) (AF p g F') W1 w3) (fun i _ => m - (intOf i).toNat)
      case atStart => exact ⟨0, F1, E2, V, Nat.zero_le _, rfl, Pk.mL_zero _ _ _ _ _, by rw [Pk.mLe_zero, List.append_nil], HA.out, HA.out.step0⟩
      case round =>
        rename World => w3
        obtain ⟨j, F', E', V', hj, rfl, hml, hE', hA3, hS3⟩ := hrel
        clear HA
        have HA := Lib.hid hA3
        have HS3 := Lib.hid hS3
        have z3 := hS3.size
        have e3 := (old_cell (o := 0) hS3 hB3s q3).trans d3
        have hEl3 : E'.length = E2.length + 4 * j := by rw [hE', List.length_append, Pk.mLe_len]
        by_cases hjm : j < m
        · obtain ⟨b, o, rfl, hbs, hbn, hbc⟩ := (HX1.out.step hS3) (by omega)
          have ej := hbc j hjm
          have hLj := HL.out j hjm
          have hn3 := foot_old hA3.most
          have p3 : FX (AF p g F') B3 = False := eq_false (fun hf => q3 ((hS3.foot B3 hB3s).1 hf))
          obtain ⟨a, ha⟩ : ∃ a, L j = a := ⟨_, rfl⟩
          rw [ha] at ej hLj
          have HLa := Lib.hid ha
          have HML := Lib.hid hml
          have HE3 := Lib.hid hE'
          clear hA3 hS3 hbc ha hml hE'
          go_wp2_with (first
            | (first | (go_at_call 78; refine (Sel_any _ _ _ _).mono ?_; rintro e wsel ⟨rfl, hb⟩; have hcf_wsel := bcell hb; (try simp only [World.size_alloc, World.size_setCell, drew_size] at hcf_wsel); have hz_wsel := hb.size; (try simp only [World.size_alloc, World.size_setCell, World.size_drew] at hz_wsel); have hbh_wsel := Lib.hid hb; clear hb; obtain ⟨hc_wsel, hf_wsel⟩ := hcf_wsel))
            | (go_at_call 52; with_reducible refine' Calls.mono (ALoad_e ?_ ?_ _ (a + (P + k)) ?_ ?_) ?_; rotate_left 6; (next => (repeat' (first | with_reducible exact HA.out | with_reducible refine' Ar.drewN ?_ _ | with_reducible refine' Ar.drew ?_ | with_reducible refine' Ar.farE ?_ ?_ _ | with_reducible refine' Ar.alloc ?_ _ | with_reducible refine' Ar.below ?_ (by assumption))); (try (all_goals (simp [*, ↓IntWalk.iteOmega]; first | done | fail))); (first | done | fail)); (next => (first | omega | (simp only [List.length_append, List.length_cons, List.length_nil]; omega) | fail)); (next => (first | omega | fail)); (next => (first | omega | fail)); rintro e wx ⟨rfl, F_wx, hA1, hs1⟩; obtain ⟨hc_wx, hf_wx, hn_wx⟩ := hs1.rules; (try simp only [World.size_alloc, World.size_setCell, drew_size] at hc_wx hf_wx hn_wx); have hz_wx := hs1.size; (try simp only [World.size_alloc, World.size_setCell, World.size_drew] at hz_wx); have hst_wx := Lib.hid hs1; have HA := Lib.hid hA1; clear hA1 hs1)
            | (go_at_call 52; with_reducible refine' Calls.mono (ALoad_e ?_ ?_ _ (a + k) ?_ ?_) ?_; rotate_left 6; (next => (repeat' (first | with_reducible exact HA.out | with_reducible refine' Ar.drewN ?_ _ | with_reducible refine' Ar.drew ?_ | with_reducible refine' Ar.farE ?_ ?_ _ | with_reducible refine' Ar.alloc ?_ _ | with_reducible refine' Ar.below ?_ (by assumption))); (try (all_goals (simp [*, ↓IntWalk.iteOmega]; first | done | fail))); (first | done | fail)); (next => (first | omega | (simp only [List.length_append, List.length_cons, List.length_nil]; omega) | fail)); (next => (first | omega | fail)); (next => (first | omega | fail)); rintro e wy ⟨rfl, F_wy, hA1, hs1⟩; obtain ⟨hc_wy, hf_wy, hn_wy⟩ := hs1.rules; (try simp only [World.size_alloc, World.size_setCell, drew_size] at hc_wy hf_wy hn_wy); have hz_wy := hs1.size; (try simp only [World.size_alloc, World.size_setCell, World.size_drew] at hz_wy); have hst_wy := Lib.hid hs1; have HA := Lib.hid hA1; clear hA1 hs1)
            | (go_at_call 49; with_reducible refine' Calls.mono (AStore_e ?_ ?_ _ (a + k) ?_ ?_ _) ?_; rotate_left 6; (next => (repeat' (first | with_reducible exact HA.out | with_reducible refine' Ar.drewN ?_ _ | with_reducible refine' Ar.drew ?_ | with_reducible refine' Ar.farE ?_ ?_ _ | with_reducible refine' Ar.alloc ?_ _ | with_reducible refine' Ar.below ?_ (by assumption))); (try (all_goals (simp [*, ↓IntWalk.iteOmega]; first | done | fail))); (first | done | fail)); (next => (first | omega | (simp only [List.length_append, List.length_cons, List.length_nil]; omega) | fail)); (next => (first | omega | fail)); (next => (first | omega | fail)); rintro e wz ⟨rfl, F_wz, hA1, hs1⟩; obtain ⟨hc_wz, hf_wz, hn_wz⟩ := hs1.rules; (try simp only [World.size_alloc, World.size_setCell, drew_size] at hc_wz hf_wz hn_wz); have hz_wz := hs1.size; (try simp only [World.size_alloc, World.size_setCell, World.size_drew] at hz_wz); have hst_wz := Lib.hid hs1; have HA := Lib.hid hA1; clear hA1 hs1))
          have g3 : wz.cell? ⟨B3, 0, none⟩ = some (.int .u32 x) := by simp (maxDischargeDepth := 10) [go_sem, ↓IntWalk.iteOmega, *]
          have g4 : wz.cell? ⟨wy.heap.size, 0, none⟩ = some (.int .u32 (V'[a + (P + k)]?.getD 0)) := by simp (maxDischargeDepth := 10) [go_sem, ↓IntWalk.iteOmega, *]
          have S4 : Hid (Step (AF p g F1) (AF p g F_wz) W1 wz) := by
            refine Lib.hid ?_
            have hmost := HM1.out
            have HS3' := HS3.out
            (repeat' (first | exact Step.refl (by assumption) | refine Step.set_ (by (first | omega | (simp; done) | (simp; omega))) ?_ _ | refine Step.alloc ?_ _ | refine Step.drewN ?_ _ | refine Step.drew ?_ | refine Step.then_ (by assumption) ?_ | refine Step.thenB (by assumption) ?_))
          have y3 : FX (AF p g F_wz) B3 = False := eq_false (fun hf => q3 ((S4.out.foot B3 hB3s).1 hf))
          have y4' : ¬ AF p g F_wz wy.heap.size := by (intro hfoot; simp [*, ↓IntWalk.iteOmega] at hfoot)
          have y4 : FX (AF p g F_wz) wy.heap.size = False := eq_false y4'
          clear y4'
          have hn4 := foot_old HA.out.most
          obtain ⟨B5, hB5⟩ : ∃ B5, wy.heap.size = B5 := ⟨_, rfl⟩
          rw [hB5] at g4 y4 ⊢
          have hB5s : B5 < wz.heap.size := World.block_lt_of_cell? wz ⟨B5, 0, none⟩ g4
          have hB3z : B3 < wz.heap.size := World.block_lt_of_cell? wz ⟨B3, 0, none⟩ g3
          have hEl4 : (E' ++ ([⟨1, ((a + (P + k) : Nat) : Int), 0⟩] : List Ev) ++ ([⟨1, ((a + k : Nat) : Int), 0⟩] : List Ev) ++ ([⟨2, ((a + k : Nat) : Int), 0⟩] : List Ev)).length = E'.length + 3 := by simp
          obtain ⟨E4, hE4⟩ : ∃ E4, E' ++ ([⟨1, ((a + (P + k) : Nat) : Int), 0⟩] : List Ev) ++ ([⟨1, ((a + k : Nat) : Int), 0⟩] : List Ev) ++ ([⟨2, ((a + k : Nat) : Int), 0⟩] : List Ev) = E4 := ⟨_, rfl⟩
          rw [hE4] at HA hEl4
          have HE4 := Lib.hid hE4
          obtain ⟨X, hX⟩ : ∃ X, V'[a + (P + k)]?.getD 0 = X := ⟨_, rfl⟩
          rw [hX] at HA g4 ⊢
          have HXv := Lib.hid hX
          have hw1 : IntKind.i64.wrap ((a : Int) + ((P : Int) + (k : Int))) = (a : Int) + ((P : Int) + (k : Int)) := IntWalk.i64_in _ (by omega)
          clear hc_wx hf_wx hn_wx hst_wx hc_wy hf_wy hn_wy hst_wy hc_wsel hf_wsel hbh_wsel hc_wz hf_wz hn_wz hst_wz e3 p3 hn3 ej hE4 hX hB5
          go_region_held3 (fun w' => w'.cell? ⟨B3, 0, none⟩ = some (.int .u32 x) ∧ w'.cell? ⟨B5, 0, none⟩ = some (.int .u32 X)) ((simp [go_sem, ↓IntWalk.iteOmega, *]; done)) (first
            | (first | (go_at_call 51; refine (Not_any _ _).mono ?_; rintro e w1 ⟨rfl, hb⟩; have hcf := bcell hb; (try simp only [World.size_alloc, World.size_setCell, drew_size] at hcf); have hz := hb.size; (try simp only [World.size_alloc, World.size_setCell, World.size_drew] at hz); have hbh := Lib.hid hb; clear hb; obtain ⟨hc, hf⟩ := hcf) | (go_at_call 50; refine (And_any _ _ _).mono ?_; rintro e w1 ⟨rfl, hb⟩; have hcf := bcell hb; (try simp only [World.size_alloc, World.size_setCell, drew_size] at hcf); have hz := hb.size; (try simp only [World.size_alloc, World.size_setCell, World.size_drew] at hz); have hbh := Lib.hid hb; clear hb; obtain ⟨hc, hf⟩ := hcf))
            | (go_at_call 49; with_reducible refine' Calls.mono (AStore_e ?_ ?_ _ (a + (P + k)) ?_ ?_ _) ?_; rotate_left 6; (next => (repeat' (first | with_reducible exact HA.out | with_reducible refine' Ar.drewN ?_ _ | with_reducible refine' Ar.drew ?_ | with_reducible refine' Ar.farE ?_ ?_ _ | with_reducible refine' Ar.alloc ?_ _ | with_reducible refine' Ar.below ?_ (by assumption))); (try (all_goals (simp [*, ↓IntWalk.iteOmega]; first | done | fail))); (first | done | fail)); (next => (first | omega | (simp only [List.length_append, List.length_cons, List.length_nil]; omega) | fail)); (next => (first | omega | (simp only [hw1]; omega) | fail)); (next => (first | omega | fail)); rintro e wu ⟨rfl, F_wu, hA1, hs1⟩; obtain ⟨hc_wu, hf_wu, hn_wu⟩ := hs1.rules; (try simp only [World.size_alloc, World.size_setCell, drew_size] at hc_wu hf_wu hn_wu); have hz_wu := hs1.size; (try simp only [World.size_alloc, World.size_setCell, World.size_drew] at hz_wu); have hst_wu := Lib.hid hs1; have HA := Lib.hid hA1; clear hA1 hs1))
          all_goals (go_wp2_with fail)
          all_goals
            refine ⟨⟨j + 1, F_wu, _, _, by omega, by go_num, ?_, ?_, by (repeat' (first | with_reducible exact HA.out | with_reducible refine' Ar.drewN ?_ _ | with_reducible refine' Ar.drew ?_ | with_reducible refine' Ar.farE ?_ ?_ _ | with_reducible refine' Ar.alloc ?_ _ | with_reducible refine' Ar.below ?_ (by assumption))); (try (all_goals (simp [*, ↓IntWalk.iteOmega]; first | done | fail))); (first | done | fail), ?_⟩, by simp [intOf]; omega⟩
            · rw [Pk.mL_succ _ _ _ _ _ _ _ HML.out, HLa.out]; simp only [List.getD_eq_getElem?_getD, HXv.out]
            · rw [← HE4.out, HE3.out, Pk.mLe_succ, HLa.out]; simp
            · have hmost := HM1.out
              have S4' := S4.out
              (repeat' (first | exact Step.refl (by assumption) | refine Step.set_ (by (first | omega | (simp; done) | (simp; omega))) ?_ _ | refine Step.alloc ?_ _ | refine Step.drewN ?_ _ | refine Step.drew ?_ | refine Step.then_ (by assumption) ?_ | refine Step.thenB (by assumption) ?_))
        · have hjE : j = m := by omega
          have hge : m ≤ j := by omega
          have HJE := Lib.hid hjE
          have HML := Lib.hid hml
          have HE3 := Lib.hid hE'
          have S3 := Lib.hid (S1.out.trans hS3)
          clear hA3 hS3 hjE hml hE' HX1 HM1
          go_wp2_with fail
          refine ⟨⟨k + 1, F', _, _, by omega, by simp; omega, ?_, ?_, HA.out, S3.out⟩, by simp [intOf]; omega⟩
          · rw [Pk.mv_succ _ _ _ _ _ _ _ HMV.out, HP.out, HXX.out, ← HJE.out, HML.out]
          · rw [HE3.out, ← HE2.out, HE.out, Pk.mve_succ, HP.out, HJE.out]; simp
    · have hkE : k = K := by omega
      have HKE := Lib.hid hkE
      have hge : (n : Int) ≤ (P : Int) + k := by omega
      clear hkE
      go_wp2_with fail
      go_end0
      refine ⟨rfl, F, ?_, HS.out⟩
      rw [← HKE.out, HMV.out, ← HE.out]
      exact HA.out
end Go.Proofs.Ytjoehhojhfgooaa
