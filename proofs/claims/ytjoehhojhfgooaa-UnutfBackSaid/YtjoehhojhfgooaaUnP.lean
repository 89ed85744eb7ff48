/- unutf: spread. No condition. -/
import Derived.Test.YtjoehhojhfgooaaUnB
import Derived.Test.YtjoehhojhfgooaaPk2
namespace Go.Proofs.Ytjoehhojhfgooaa
open Go.RowKit
set_option linter.unusedSimpArgs false
set_option linter.unusedVariables false
attribute [local go_sem] IntKind.wrap_u32' signed_u32 max_u32
attribute [local go_sem ↓] Go.wp_at_zero Go.wp_at_succ
attribute [local go_sem] Calm.C
attribute [local go_sem low] Calm.al_cell Calm.al_frozen
attribute [local irreducible] Un.byt Un.sh Un.in4 Un.in4e Un.sp Un.spe
theorem four_cells {W : World} {b : Nat} {f : Nat → Int} (h0 : W.cell? ⟨b, 0, none⟩ = some (.int .u32 (f 0))) (h1 : W.cell? ⟨b, 1, none⟩ = some (.int .u32 (f 1))) (h2 : W.cell? ⟨b, 2, none⟩ = some (.int .u32 (f 2))) (h3 : W.cell? ⟨b, 3, none⟩ = some (.int .u32 (f 3))) :
    ∀ k, k < 4 → W.cell? ⟨b, k, none⟩ = some (.int .u32 (f k)) := upto4 h0 h1 h2 h3
set_option maxRecDepth 10000 in
set_option maxHeartbeats 3200000 in
theorem unSpread_any {w : World} {p g lp : Nat} {FL : Nat → Prop} {ws : List Int} {top : Nat} {evs : List Ev} (h : Ar w p g lp FL ws top evs) (he : evs.length < 1000000000) (pt kl n to st : Nat) (hn : n ≤ 12288)
    (h1 : pt + n ≤ top) (h2 : kl + n ≤ top) (h3 : to + 4 * n ≤ top) (h4 : st + 4 * n ≤ top) :
    Calls Try.prog 47 #[.pointer (some ⟨p, 0, none⟩), .int .i64 pt, .int .i64 kl, .int .i64 n, .int .i64 to, .int .i64 st] w fun e w' => e = .returned (.tuple #[]) ∧
      ∃ FL', Ar w' p g lp FL' (Un.sp pt kl to st ws n) top (evs ++ Un.spe pt kl to st n) ∧ Step (AF p g FL) (AF p g FL') w w' := by
  have HA := Lib.hid h
  have hmost := h.most
  have htop : (top : Int) ≤ 4194304 := by have := h.ht; have := h.hz; omega
  have HM := Lib.hid hmost
  clear h hmost
  go_enter Try.func47, Try.ntmps47
  go_wp2_with fail
  go_loopw [19] (fun i wr => ∃ (k : Nat) (F : Nat → Prop) (E : List Ev) (V : List Int), k ≤ n ∧ i = .int .i64 (k : Int) ∧ Un.sp pt kl to st ws k = V ∧ E = evs ++ Un.spe pt kl to st k ∧ Ar wr p g lp F V top E ∧ Step (AF p g FL) (AF p g F) w wr) (fun i _ => n - (intOf i).toNat)
  case atStart => exact ⟨0, FL, evs, ws, Nat.zero_le _, rfl, Un.sp_zero _ _ _ _ _, by rw [Un.spe_zero, List.append_nil], HA.out, HA.out.step0⟩
  case round =>
    obtain ⟨k, F, E, V, hk, rfl, hsp, hE, hA, hS⟩ := hrel
    clear HA
    have HA := Lib.hid hA
    have HS := Lib.hid hS
    have zr := hS.size
    have hEl : E.length = evs.length + 10 * k := by rw [hE, List.length_append, Un.spe_len]
    have HE := Lib.hid hE
    have HSP := Lib.hid hsp
    clear hA hS hE hsp
    by_cases hkn : k < n
    · go_wp2_with (first | (first | (go_at_call 28; (with_reducible refine (Of21_any _).mono ?_); rintro e wo ⟨rfl, hb⟩; have hcf_wo := bcell hb; (try simp only [World.size_alloc, World.size_setCell, drew_size] at hcf_wo); have hz_wo := hb.size; (try simp only [World.size_alloc, World.size_setCell, World.size_drew] at hz_wo); have hbh_wo := Lib.hid hb; clear hb; obtain ⟨hc_wo, hf_wo⟩ := hcf_wo) | (go_at_call 50; (with_reducible refine (And21_any _ _).mono ?_); rintro e wa ⟨rfl, hb⟩; have hcf_wa := bcell hb; (try simp only [World.size_alloc, World.size_setCell, drew_size] at hcf_wa); have hz_wa := hb.size; (try simp only [World.size_alloc, World.size_setCell, World.size_drew] at hz_wa); have hbh_wa := Lib.hid hb; clear hb; obtain ⟨hc_wa, hf_wa⟩ := hcf_wa)) | (go_at_call 52; with_reducible refine' Calls.mono (ALoad_e ?_ ?_ _ (pt + k) ?_ ?_) ?_; rotate_left 6; (next => (repeat' (first | with_reducible exact HA.out | with_reducible refine' Ar.drewN ?_ _ | with_reducible refine' Ar.drew ?_ | with_reducible refine' Ar.farE ?_ ?_ _ | with_reducible refine' Ar.alloc ?_ _ | with_reducible refine' Ar.below ?_ (by assumption))); (try (all_goals (simp [*, ↓IntWalk.iteOmega]; first | done | fail))); (first | done | fail)); (next => (first | omega | (simp only [List.length_append, List.length_cons, List.length_nil]; omega) | fail)); (next => (first | omega | fail)); (next => (first | omega | fail)); rintro e wl ⟨rfl, F_wl, hA1, hs1⟩; obtain ⟨hc_wl, hf_wl, hn_wl⟩ := hs1.rules; (try simp only [World.size_alloc, World.size_setCell, drew_size] at hc_wl hf_wl hn_wl); have hz_wl := hs1.size; (try simp only [World.size_alloc, World.size_setCell, World.size_drew] at hz_wl); have hst_wl := Lib.hid hs1; have HA := Lib.hid hA1; clear hA1 hs1))
      obtain ⟨x, hx⟩ : ∃ x, Ct.And (V[pt + k]?.getD 0) 2097151 = x := ⟨_, rfl⟩
      rw [hx]
      have HXX := Lib.hid (show Un.sx pt k V = x by unfold Un.sx; rw [List.getD_eq_getElem?_getD]; exact hx)
      have HAb : Hid (Ar wa p g lp F_wl V top (E ++ [⟨1, ((pt + k : Nat) : Int), 0⟩])) := Lib.hid (by (repeat' (first | with_reducible exact HA.out | with_reducible refine' Ar.drewN ?_ _ | with_reducible refine' Ar.drew ?_ | with_reducible refine' Ar.farE ?_ ?_ _ | with_reducible refine' Ar.alloc ?_ _ | with_reducible refine' Ar.below ?_ (by assumption))); (try (all_goals (simp [*, ↓IntWalk.iteOmega]; first | done | fail))); (first | done | fail))
      have q3 : ¬ AF p g F_wl wa.heap.size := fun hf => absurd (HAb.out.most _ hf) (Nat.lt_irrefl _)
      obtain ⟨W1, hW1⟩ : ∃ W1, wa.alloc (.cells #[.int .u32 x] 32) = W1 := ⟨_, rfl⟩
      have S1 : Hid (Step (AF p g FL) (AF p g F_wl) w W1) := by
        rw [← hW1]
        refine Lib.hid ?_
        have hmost := HM.out
        (repeat' (first | exact Step.refl (by assumption) | refine Step.set_ (by (first | omega | (simp; done) | (simp; omega))) ?_ _ | refine Step.alloc ?_ _ | refine Step.drewN ?_ _ | refine Step.drew ?_ | refine Step.then_ (by assumption) ?_ | refine Step.thenB (by assumption) ?_))
      have HA1 : Hid (Ar W1 p g lp F_wl V top (E ++ [⟨1, ((pt + k : Nat) : Int), 0⟩])) := by
        rw [← hW1]
        exact Lib.hid (HAb.out.alloc _)
      obtain ⟨B3, hB3⟩ : ∃ B3, wa.heap.size = B3 := ⟨_, rfl⟩
      have d3 : W1.cell? ⟨B3, 0, none⟩ = some (.int .u32 x) := by rw [← hW1, ← hB3]; exact (Blk.new wa _ _).cell 0
      rw [hW1, hB3]
      rw [hB3] at q3
      have hB3s : B3 < W1.heap.size := World.block_lt_of_cell? W1 ⟨B3, 0, none⟩ d3
      clear HA HAb HS hW1 hx hB3 hc_wl hf_wl hn_wl hst_wl hc_wo hf_wo hbh_wo hc_wa hf_wa hbh_wa
      have HA := HA1
      have HM1 := Lib.hid HA1.out.most
      have hn1 := foot_old HA1.out.most
      have p3 : FX (AF p g F_wl) B3 = False := eq_false q3
      clear HA1
      go_wp2_with (first | (first | (go_at_call 28; refine (Of_any _ _).mono ?_; rintro e wq ⟨rfl, hb⟩; have hcf_wq := bcell hb; (try simp only [World.size_alloc, World.size_setCell, drew_size] at hcf_wq); have hz_wq := hb.size; (try simp only [World.size_alloc, World.size_setCell, World.size_drew] at hz_wq); have hbh_wq := Lib.hid hb; clear hb; obtain ⟨hc_wq, hf_wq⟩ := hcf_wq) | (go_at_call 50; refine (And_any _ _ _).mono ?_; rintro e wb ⟨rfl, hb⟩; have hcf_wb := bcell hb; (try simp only [World.size_alloc, World.size_setCell, drew_size] at hcf_wb); have hz_wb := hb.size; (try simp only [World.size_alloc, World.size_setCell, World.size_drew] at hz_wb); have hbh_wb := Lib.hid hb; clear hb; obtain ⟨hc_wb, hf_wb⟩ := hcf_wb) | (go_at_call 69; refine (Sub_any _ _ _).mono ?_; rintro e wc ⟨rfl, hb⟩; have hcf_wc := bcell hb; (try simp only [World.size_alloc, World.size_setCell, drew_size] at hcf_wc); have hz_wc := hb.size; (try simp only [World.size_alloc, World.size_setCell, World.size_drew] at hz_wc); have hbh_wc := Lib.hid hb; clear hb; obtain ⟨hc_wc, hf_wc⟩ := hcf_wc)) | (go_at_call 52; with_reducible refine' Calls.mono (ALoad_e ?_ ?_ _ (kl + k) ?_ ?_) ?_; rotate_left 6; (next => (repeat' (first | with_reducible exact HA.out | with_reducible refine' Ar.drewN ?_ _ | with_reducible refine' Ar.drew ?_ | with_reducible refine' Ar.farE ?_ ?_ _ | with_reducible refine' Ar.alloc ?_ _ | with_reducible refine' Ar.below ?_ (by assumption))); (try (all_goals (simp [*, ↓IntWalk.iteOmega]; first | done | fail))); (first | done | fail)); (next => (first | omega | (simp only [List.length_append, List.length_cons, List.length_nil]; omega) | fail)); (next => (first | omega | fail)); (next => (first | omega | fail)); rintro e wm ⟨rfl, F_wm, hA1, hs1⟩; obtain ⟨hc_wm, hf_wm, hn_wm⟩ := hs1.rules; (try simp only [World.size_alloc, World.size_setCell, drew_size] at hc_wm hf_wm hn_wm); have hz_wm := hs1.size; (try simp only [World.size_alloc, World.size_setCell, World.size_drew] at hz_wm); have hst_wm := Lib.hid hs1; have HA := Lib.hid hA1; clear hA1 hs1))
      obtain ⟨y, hy⟩ : ∃ y, Ct.Sub 0 (Ct.And (V[kl + k]?.getD 0) 1) = y := ⟨_, rfl⟩
      rw [hy]
      have HYY := Lib.hid (show Un.sy kl k V = y by unfold Un.sy; rw [List.getD_eq_getElem?_getD]; exact hy)
      have HAb : Hid (Ar wc p g lp F_wm V top (E ++ [⟨1, ((pt + k : Nat) : Int), 0⟩] ++ [⟨1, ((kl + k : Nat) : Int), 0⟩])) := Lib.hid (by (repeat' (first | with_reducible exact HA.out | with_reducible refine' Ar.drewN ?_ _ | with_reducible refine' Ar.drew ?_ | with_reducible refine' Ar.farE ?_ ?_ _ | with_reducible refine' Ar.alloc ?_ _ | with_reducible refine' Ar.below ?_ (by assumption))); (try (all_goals (simp [*, ↓IntWalk.iteOmega]; first | done | fail))); (first | done | fail))
      have q4 : ¬ AF p g F_wm wc.heap.size := fun hf => absurd (HAb.out.most _ hf) (Nat.lt_irrefl _)
      obtain ⟨W2, hW2⟩ : ∃ W2, wc.alloc (.cells #[.int .u32 y] 32) = W2 := ⟨_, rfl⟩
      have S2 : Hid (Step (AF p g F_wl) (AF p g F_wm) W1 W2) := by
        rw [← hW2]
        refine Lib.hid ?_
        have hmost := HM1.out
        clear S1
        (repeat' (first | exact Step.refl (by assumption) | refine Step.set_ (by (first | omega | (simp; done) | (simp; omega))) ?_ _ | refine Step.alloc ?_ _ | refine Step.drewN ?_ _ | refine Step.drew ?_ | refine Step.then_ (by assumption) ?_ | refine Step.thenB (by assumption) ?_))
      have d3' : W2.cell? ⟨B3, 0, none⟩ = some (.int .u32 x) := (old_cell S2.out hB3s q3).trans d3
      have HA2 : Hid (Ar W2 p g lp F_wm V top (E ++ [⟨1, ((pt + k : Nat) : Int), 0⟩] ++ [⟨1, ((kl + k : Nat) : Int), 0⟩])) := by
        rw [← hW2]
        exact Lib.hid (HAb.out.alloc _)
      obtain ⟨B4, hB4⟩ : ∃ B4, wc.heap.size = B4 := ⟨_, rfl⟩
      have d4 : W2.cell? ⟨B4, 0, none⟩ = some (.int .u32 y) := by rw [← hW2, ← hB4]; exact (Blk.new wc _ _).cell 0
      rw [hW2, hB4]
      rw [hB4] at q4
      have hB4s : B4 < W2.heap.size := World.block_lt_of_cell? W2 ⟨B4, 0, none⟩ d4
      have hB3t : B3 < W2.heap.size := World.block_lt_of_cell? W2 ⟨B3, 0, none⟩ d3'
      have T2 := Lib.hid (S1.out.trans S2.out)
      have hn2 := foot_old HA2.out.most
      have p4 : FX (AF p g F_wm) B4 = False := eq_false q4
      obtain ⟨E2, hE2⟩ : ∃ E2, E ++ [(⟨1, ((pt + k : Nat) : Int), 0⟩ : Ev)] ++ [(⟨1, ((kl + k : Nat) : Int), 0⟩ : Ev)] = E2 := ⟨_, rfl⟩
      rw [hE2] at HA2
      have hEl2 : E2.length = E.length + 2 := by rw [← hE2]; simp
      have HE2 := Lib.hid hE2
      clear HA HAb hW2 hy hB4 hc_wm hf_wm hn_wm hst_wm hc_wq hf_wq hbh_wq hc_wb hf_wb hbh_wb hc_wc hf_wc hbh_wc S1 S2 hn1 p3 d3 q3 hB3s hE2
      have HA := HA2
      clear HA2
      go_wp2_with (first | (go_at_call 70; (with_reducible refine (unShapeS_any _ _).mono ?_); rintro e wsh ⟨rfl, hb⟩; have hcf_wsh := bcell hb; (try simp only [World.size_alloc, World.size_setCell, drew_size] at hcf_wsh); have hz_wsh := hb.size; (try simp only [World.size_alloc, World.size_setCell, World.size_drew] at hz_wsh); have hbh_wsh := Lib.hid hb; clear hb; obtain ⟨hc_wsh, hf_wsh⟩ := hcf_wsh) | (go_at_call 71; (with_reducible refine (unBytesS_any _ _).mono ?_); rintro e wy ⟨rfl, hb⟩; have hcf_wy := bcell hb; (try simp only [World.size_alloc, World.size_setCell, drew_size] at hcf_wy); have hz_wy := hb.size; (try simp only [World.size_alloc, World.size_setCell, World.size_drew] at hz_wy); have hbh_wy := Lib.hid hb; clear hb; obtain ⟨hc_wy, hf_wy⟩ := hcf_wy))
      have HM2 := Lib.hid HA.out.most
      have f5 := Lib.hid (four_cells (W := wy) (b := wsh.heap.size) (f := Un.sh x) (by simp (maxDischargeDepth := 10) [go_sem, ↓IntWalk.iteOmega, *]) (by simp (maxDischargeDepth := 10) [go_sem, ↓IntWalk.iteOmega, *]) (by simp (maxDischargeDepth := 10) [go_sem, ↓IntWalk.iteOmega, *]) (by simp (maxDischargeDepth := 10) [go_sem, ↓IntWalk.iteOmega, *]))
      have e4 : wy.cell? ⟨B4, 0, none⟩ = some (.int .u32 y) := by simp (maxDischargeDepth := 10) [go_sem, ↓IntWalk.iteOmega, *]
      have HA3 : Hid (Ar wy p g lp F_wm V top E2) := Lib.hid (by (repeat' (first | with_reducible exact HA.out | with_reducible refine' Ar.drewN ?_ _ | with_reducible refine' Ar.drew ?_ | with_reducible refine' Ar.farE ?_ ?_ _ | with_reducible refine' Ar.alloc ?_ _ | with_reducible refine' Ar.below ?_ (by assumption))); (try (all_goals (simp [*, ↓IntWalk.iteOmega]; first | done | fail))); (first | done | fail))
      have S3 : Hid (Step (AF p g F_wm) (AF p g F_wm) W2 wy) := by
        refine Lib.hid ?_
        have hmost := HM2.out
        clear T2
        (repeat' (first | exact Step.refl (by assumption) | refine Step.set_ (by (first | omega | (simp; done) | (simp; omega))) ?_ _ | refine Step.alloc ?_ _ | refine Step.drewN ?_ _ | refine Step.drew ?_ | refine Step.then_ (by assumption) ?_ | refine Step.thenB (by assumption) ?_))
      have q5 : ¬ AF p g F_wm wsh.heap.size := fun hf => by
        have := HM2.out _ hf
        omega
      have hB5s : wsh.heap.size < wy.heap.size := World.block_lt_of_cell? wy ⟨wsh.heap.size, 0, none⟩ (f5.out 0 (by omega))
      have hB4t : B4 < wy.heap.size := World.block_lt_of_cell? wy ⟨B4, 0, none⟩ e4
      obtain ⟨B5, hB5⟩ : ∃ B5, wsh.heap.size = B5 := ⟨_, rfl⟩
      rw [hB5] at f5 q5 hB5s ⊢
      have T3 := Lib.hid (T2.out.trans S3.out)
      clear hc_wsh hf_wsh hbh_wsh hc_wy hf_wy hbh_wy HA HM2 S3 T2 hB5 p4 hn2 d4 d3'
      have HM3 := Lib.hid HA3.out.most
      have HA := HA3
      clear HA3
      go_loopw [43] (fun i w3 => ∃ (j : Nat) (F' : Nat → Prop) (E' : List Ev) (V' : List Int), j ≤ 4 ∧ i = .int .i64 (j : Int) ∧ Un.in4 (Un.byt x) (Un.sh x) y (to + 4 * k) (st + 4 * k) V j = V' ∧ E' = E2 ++ Un.in4e (to + 4 * k) (st + 4 * k) j ∧ Ar w3 p g lp F' V' top E' ∧ Step (AF p g F_wm) (AF p g F') wy w3) (fun i _ => 4 - (intOf i).toNat)
      case atStart => exact ⟨0, F_wm, E2, V, Nat.zero_le _, rfl, Un.in4_zero _ _ _ _ _ _, by rw [Un.in4e_zero, List.append_nil], HA.out, HA.out.step0⟩
      case round =>
        rename World => w3
        obtain ⟨j, F', E', V', hj, rfl, hml, hE', hA3, hS3⟩ := hrel
        clear HA
        have HA := Lib.hid hA3
        have HS3 := Lib.hid hS3
        have z3 := hS3.size
        have hEl3 : E'.length = E2.length + 2 * j := by rw [hE', List.length_append, Un.in4e_len]
        have HML := Lib.hid hml
        have HE3 := Lib.hid hE'
        by_cases hj4 : j < 4
        · have g4 := (old_cell (o := 0) hS3 hB4t q4).trans e4
          have g5 := (old_cell (o := j) hS3 hB5s q5).trans (f5.out j hj4)
          have hn3 := foot_old hA3.most
          have p4 : FX (AF p g F') B4 = False := eq_false (fun hf => q4 ((hS3.foot B4 hB4t).1 hf))
          have p5 : FX (AF p g F') B5 = False := eq_false (fun hf => q5 ((hS3.foot B5 hB5s).1 hf))
          have hix := ix_four (Un.byt x) hj4
          clear hA3 hS3 hml hE'
          go_wp2_with (first | (go_at_call 49; with_reducible refine' Calls.mono (AStore_e ?_ ?_ _ (to + 4 * k + j) ?_ ?_ _) ?_; rotate_left 6; (next => (repeat' (first | with_reducible exact HA.out | with_reducible refine' Ar.drewN ?_ _ | with_reducible refine' Ar.drew ?_ | with_reducible refine' Ar.farE ?_ ?_ _ | with_reducible refine' Ar.alloc ?_ _ | with_reducible refine' Ar.below ?_ (by assumption))); (try (all_goals (simp [*, ↓IntWalk.iteOmega]; first | done | fail))); (first | done | fail)); (next => (first | omega | (simp only [List.length_append, List.length_cons, List.length_nil]; omega) | fail)); (next => (first | omega | fail)); (next => (first | omega | fail)); rintro e wz ⟨rfl, F_wz, hA1, hs1⟩; obtain ⟨hc_wz, hf_wz, hn_wz⟩ := hs1.rules; (try simp only [World.size_alloc, World.size_setCell, drew_size] at hc_wz hf_wz hn_wz); have hz_wz := hs1.size; (try simp only [World.size_alloc, World.size_setCell, World.size_drew] at hz_wz); have hst_wz := Lib.hid hs1; have HA := Lib.hid hA1; clear hA1 hs1))
          have g4' : wz.cell? ⟨B4, 0, none⟩ = some (.int .u32 y) := by simp (maxDischargeDepth := 10) [go_sem, ↓IntWalk.iteOmega, *]
          have g5' : wz.cell? ⟨B5, j, none⟩ = some (.int .u32 (Un.sh x j)) := by simp (maxDischargeDepth := 10) [go_sem, ↓IntWalk.iteOmega, *]
          have S4 : Hid (Step (AF p g F_wm) (AF p g F_wz) wy wz) := by
            refine Lib.hid ?_
            have hmost := HM3.out
            have HS3' := HS3.out
            (repeat' (first | exact Step.refl (by assumption) | refine Step.set_ (by (first | omega | (simp; done) | (simp; omega))) ?_ _ | refine Step.alloc ?_ _ | refine Step.drewN ?_ _ | refine Step.drew ?_ | refine Step.then_ (by assumption) ?_ | refine Step.thenB (by assumption) ?_))
          have hB4z : B4 < wz.heap.size := World.block_lt_of_cell? wz ⟨B4, 0, none⟩ g4'
          have hB5z : B5 < wz.heap.size := World.block_lt_of_cell? wz ⟨B5, j, none⟩ g5'
          have y4 : FX (AF p g F_wz) B4 = False := eq_false (fun hf => q4 ((S4.out.foot B4 hB4t).1 hf))
          have y5 : FX (AF p g F_wz) B5 = False := eq_false (fun hf => q5 ((S4.out.foot B5 hB5s).1 hf))
          have hn4 := foot_old HA.out.most
          have hEl4 : (E' ++ ([⟨2, ((to + 4 * k + j : Nat) : Int), 0⟩] : List Ev)).length = E'.length + 1 := by simp
          obtain ⟨E4, hE4⟩ : ∃ E4, E' ++ ([⟨2, ((to + 4 * k + j : Nat) : Int), 0⟩] : List Ev) = E4 := ⟨_, rfl⟩
          rw [hE4] at HA hEl4
          have HE4 := Lib.hid hE4
          have hw0 : IntKind.i64.wrap (4 * (k : Int)) = 4 * (k : Int) := IntWalk.i64_in _ (by omega)
          have hw1 : IntKind.i64.wrap ((st : Int) + 4 * (k : Int)) = (st : Int) + 4 * (k : Int) := IntWalk.i64_in _ (by omega)
          have hw2 : IntKind.i64.wrap ((st : Int) + 4 * (k : Int) + (j : Int)) = (st : Int) + 4 * (k : Int) + (j : Int) := IntWalk.i64_in _ (by omega)
          have hwj : IntKind.i64.wrap (j : Int) = (j : Int) := IntWalk.i64_in _ (by omega)
          clear hc_wz hf_wz hn_wz hst_wz g4 g5 p4 p5 hn3 hE4
          go_region_held3 (fun w' => w'.cell? ⟨B4, 0, none⟩ = some (.int .u32 y) ∧ w'.cell? ⟨B5, j, none⟩ = some (.int .u32 (Un.sh x j))) ((simp [go_sem, ↓IntWalk.iteOmega, *]; done)) (first
            | (first | (go_at_call 50; refine (And_any _ _ _).mono ?_; rintro e w1 ⟨rfl, hb⟩; have hcf := bcell hb; (try simp only [World.size_alloc, World.size_setCell, drew_size] at hcf); have hz := hb.size; (try simp only [World.size_alloc, World.size_setCell, World.size_drew] at hz); have hbh := Lib.hid hb; clear hb; obtain ⟨hc, hf⟩ := hcf))
            | (go_at_call 49; with_reducible refine' Calls.mono (AStore_e ?_ ?_ _ (st + 4 * k + j) ?_ ?_ _) ?_; rotate_left 6; (next => (repeat' (first | with_reducible exact HA.out | with_reducible refine' Ar.drewN ?_ _ | with_reducible refine' Ar.drew ?_ | with_reducible refine' Ar.farE ?_ ?_ _ | with_reducible refine' Ar.alloc ?_ _ | with_reducible refine' Ar.below ?_ (by assumption))); (try (all_goals (simp [*, ↓IntWalk.iteOmega]; first | done | fail))); (first | done | fail)); (next => (first | omega | (simp only [List.length_append, List.length_cons, List.length_nil]; omega) | fail)); (next => (first | omega | (simp only [hw0, hw1, hw2]; omega) | fail)); (next => (first | omega | fail)); rintro e wu ⟨rfl, F_wu, hA1, hs1⟩; obtain ⟨hc_wu, hf_wu, hn_wu⟩ := hs1.rules; (try simp only [World.size_alloc, World.size_setCell, drew_size] at hc_wu hf_wu hn_wu); have hz_wu := hs1.size; (try simp only [World.size_alloc, World.size_setCell, World.size_drew] at hz_wu); have hst_wu := Lib.hid hs1; have HA := Lib.hid hA1; clear hA1 hs1))
          all_goals (go_wp2_with fail)
          all_goals
            refine ⟨⟨j + 1, F_wu, _, _, by omega, by go_num, ?_, ?_, by (repeat' (first | with_reducible exact HA.out | with_reducible refine' Ar.drewN ?_ _ | with_reducible refine' Ar.drew ?_ | with_reducible refine' Ar.farE ?_ ?_ _ | with_reducible refine' Ar.alloc ?_ _ | with_reducible refine' Ar.below ?_ (by assumption))); (try (all_goals (simp [*, ↓IntWalk.iteOmega]; first | done | fail))); (first | done | fail), ?_⟩, by simp [intOf]; omega⟩
            · rw [Un.in4_succ _ _ _ _ _ _ _ _ HML.out]
            · rw [← HE4.out, HE3.out, Un.in4e_succ]; simp
            · have hmost := HM3.out
              have S4' := S4.out
              (repeat' (first | exact Step.refl (by assumption) | refine Step.set_ (by (first | omega | (simp; done) | (simp; omega))) ?_ _ | refine Step.alloc ?_ _ | refine Step.drewN ?_ _ | refine Step.drew ?_ | refine Step.then_ (by assumption) ?_ | refine Step.thenB (by assumption) ?_))
        · have hjE : j = 4 := by omega
          have hge : 4 ≤ j := by omega
          have HJE := Lib.hid hjE
          have S3 := Lib.hid (T3.out.trans hS3)
          clear hA3 hS3 hjE hml hE'
          go_wp2_with fail
          refine ⟨⟨k + 1, F', _, _, by omega, by go_num, ?_, ?_, HA.out, S3.out⟩, by simp [intOf]; omega⟩
          · rw [Un.sp_succ _ _ _ _ _ _ _ HSP.out, HXX.out, HYY.out]
            have h := HML.out
            rw [HJE.out] at h
            exact h
          · rw [HE3.out, ← HE2.out, HE.out, Un.spe_succ, HJE.out]; simp
    · have hkE : k = n := by omega
      have HKE := Lib.hid hkE
      have hge : n ≤ k := by omega
      clear hkE
      go_wp2_with fail
      go_end0
      refine ⟨rfl, F, ?_, HS.out⟩
      rw [← HKE.out, HSP.out, ← HE.out]
      exact HA.out
end Go.Proofs.Ytjoehhojhfgooaa
