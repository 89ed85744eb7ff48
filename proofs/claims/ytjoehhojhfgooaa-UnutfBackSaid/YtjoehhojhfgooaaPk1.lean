/- Package pack: begin. No condition. -/
import Derived.Test.YtjoehhojhfgooaaPkDef
import Derived.Test.YtjoehhojhfgooaaUtE
import Derived.Test.YtjoehhojhfgooaaCt
namespace Go.Proofs.Ytjoehhojhfgooaa
open Go.RowKit
set_option linter.unusedSimpArgs false
set_option linter.unusedVariables false
attribute [local go_sem] IntKind.wrap_u32' signed_u32 max_u32
attribute [local go_sem ↓] Go.wp_at_zero Go.wp_at_succ
attribute [local go_sem] Calm.C
attribute [local go_sem low] Calm.al_cell Calm.al_frozen
theorem ALoad_e {w : World} {p g lp : Nat} {FL : Nat → Prop} {ws : List Int} {top : Nat} {evs : List Ev} (h : Ar w p g lp FL ws top evs) (hn : evs.length < 1099511627776) (a : Int) (i : Nat) (ha : a = i) (hi : i < top) :
    Calls Try.prog 52 #[.pointer (some ⟨p, 0, none⟩), .int .i64 a] w fun e w' => e = .returned (.agg #[.int .u32 (ws.getD i 0)]) ∧ ∃ FL', Ar w' p g lp FL' ws top (evs ++ [⟨1, (i : Int), 0⟩]) ∧ Step (AF p g FL) (AF p g FL') w w' := by
  subst ha
  exact ALoad_t h hn i hi
theorem AStore_e {w : World} {p g lp : Nat} {FL : Nat → Prop} {ws : List Int} {top : Nat} {evs : List Ev} (h : Ar w p g lp FL ws top evs) (hn : evs.length < 1099511627776) (a : Int) (i : Nat) (ha : a = i) (hi : i < top) (y : Int) :
    Calls Try.prog 49 #[.pointer (some ⟨p, 0, none⟩), .int .i64 a, .agg #[.int .u32 y]] w fun e w' => e = .returned (.bool true) ∧ ∃ FL', Ar w' p g lp FL' (ws.set i y) top (evs ++ [⟨2, (i : Int), 0⟩]) ∧ Step (AF p g FL) (AF p g FL') w w' := by
  subst ha
  exact AStore_t h hn i hi y
/-- A slice of ints that is read, apart from an arena. -/
def Its (w : World) (G : Nat → Prop) (A : Option Addr) (m : Nat) (L : Nat → Nat) : Prop := 0 < m → ∃ b o, A = some ⟨b, o, none⟩ ∧ b < w.heap.size ∧ ¬ G b ∧ ∀ j, j < m → w.cell? ⟨b, o + j, none⟩ = some (.int .i64 (L j))
theorem Its.step {w w' : World} {G G' : Nat → Prop} {A : Option Addr} {m : Nat} {L : Nat → Nat} (h : Its w G A m L) (hs : Step G G' w w') : Its w' G' A m L := fun h0 => by
  obtain ⟨b, o, e, hl, hn, hc⟩ := h h0
  exact ⟨b, o, e, Nat.lt_of_lt_of_le hl hs.size, fun hf => hn ((hs.foot b hl).1 hf), fun j hj => (old_cell hs hl hn).trans (hc j hj)⟩
attribute [local irreducible] Pk.bL Pk.bg Pk.bLe Pk.bge
set_option maxRecDepth 10000 in
set_option maxHeartbeats 3200000 in
theorem pkBegin_any {w : World} {p g lp : Nat} {FL : Nat → Prop} {ws : List Int} {top : Nat} {evs : List Ev} (h : Ar w p g lp FL ws top evs) (he : evs.length < 100000000000) (keep far n : Nat) (A : Option Addr) (m c : Nat) (L : Nat → Nat) (hA : Its w (AF p g FL) A m L) (hm : m ≤ 1000) (hn : n ≤ 49152)
    (hk : keep + n ≤ top) (hfr : far + n ≤ top) (hL : ∀ j, j < m → L j + n ≤ top) :
    Calls Try.prog 64 #[.pointer (some ⟨p, 0, none⟩), .int .i64 keep, .int .i64 far, .int .i64 n, .slice A m c] w fun e w' => e = .returned (.agg #[.int .u32 (Pk.bg keep far L m ws n).kept]) ∧
      ∃ FL', Ar w' p g lp FL' (Pk.bg keep far L m ws n).ws top (evs ++ Pk.bge keep far L m n) ∧ Step (AF p g FL) (AF p g FL') w w' := by
  have HA := Lib.hid h
  have hmost := h.most
  have hold := foot_old hmost
  have htop : (top : Int) ≤ 4194304 := by have := h.ht; have := h.hz; omega
  have HM := Lib.hid hmost
  have HX := Lib.hid hA
  have HL := Lib.hid hL
  clear h hmost hA hL
  go_enter Try.func64, Try.ntmps64
  go_wp2_with (first | (go_at_call 28; refine (Of_any _ _).mono ?_; rintro e wo ⟨rfl, hb⟩; have hcf_wo := bcell hb; (try simp only [World.size_alloc, World.size_setCell, drew_size] at hcf_wo); have hz_wo := hb.size; (try simp only [World.size_alloc, World.size_setCell, World.size_drew] at hz_wo); have hbh_wo := Lib.hid hb; clear hb; obtain ⟨hc_wo, hf_wo⟩ := hcf_wo))
  obtain ⟨W0, hW0⟩ : ∃ W0, ((wo.alloc (.cells #[.int .u32 0] 32)).alloc (.cells #[.int .u32 0] 32)) = W0 := ⟨_, rfl⟩
  rw [hW0]
  obtain ⟨B1, hB1⟩ : ∃ B1, wo.heap.size = B1 := ⟨_, rfl⟩
  rw [hB1] at hz_wo ⊢
  have hBw : w.heap.size < B1 := by omega
  have hz0 : W0.heap.size = B1 + 2 := by rw [← hW0]; simp [hB1]
  have HA0 : Hid (Ar W0 p g lp FL ws top evs) := by
    rw [← hW0]
    exact Lib.hid (by (repeat' (first | with_reducible exact HA.out | with_reducible refine' Ar.drewN ?_ _ | with_reducible refine' Ar.drew ?_ | with_reducible refine' Ar.farE ?_ ?_ _ | with_reducible refine' Ar.alloc ?_ _ | with_reducible refine' Ar.below ?_ (by assumption))); (try (all_goals (simp [*, ↓IntWalk.iteOmega]; first | done | fail))); (first | done | fail))
  have S0 : Hid (Step (AF p g FL) (AF p g FL) w W0) := by
    rw [← hW0]
    refine Lib.hid ?_
    have hmost := HM.out
    (repeat' (first | exact Step.refl (by assumption) | refine Step.set_ (by (first | omega | (simp; done) | (simp; omega))) ?_ _ | refine Step.alloc ?_ _ | refine Step.drewN ?_ _ | refine Step.drew ?_ | refine Step.then_ (by assumption) ?_ | refine Step.thenB (by assumption) ?_))
  have N0 : ∀ i, w.heap.size ≤ i → ¬ AF p g FL i := fun i hi hf => by
    have := HA.out.most i hf
    omega
  have d1 : W0.cell? ⟨B1, 0, none⟩ = some (.int .u32 0) := by rw [← hW0, ← hB1]; simp [go_sem, ↓IntWalk.iteOmega]
  have d2 : W0.cell? ⟨B1 + 1, 0, none⟩ = some (.int .u32 0) := by rw [← hW0, ← hB1]; simp [go_sem, ↓IntWalk.iteOmega]
  have d3 : W0.cell? ⟨w.heap.size, 0, none⟩ = some (.int .u32 0) := by
    rw [← hW0]
    clear hW0 HA0 S0
    subst hB1
    simp (maxDischargeDepth := 10) [go_sem, ↓IntWalk.iteOmega, *]
  have f1 : W0.frozen? ⟨B1, 0, none⟩ = false := by rw [← hW0, ← hB1]; simp [go_sem, ↓IntWalk.iteOmega]
  have f2 : W0.frozen? ⟨B1 + 1, 0, none⟩ = false := by rw [← hW0, ← hB1]; simp [go_sem, ↓IntWalk.iteOmega]
  have f3 : W0.frozen? ⟨w.heap.size, 0, none⟩ = false := by
    rw [← hW0]
    clear hW0 HA0 S0
    subst hB1
    simp (maxDischargeDepth := 10) [go_sem, ↓IntWalk.iteOmega, *]
  clear hc_wo hf_wo hbh_wo hW0 hB1 HA
  go_loopw [20] (fun i wr => ∃ (k : Nat) (F : Nat → Prop) (E : List Ev) (V : List Int) (gp kp : Int), k ≤ n ∧ i = .int .i64 k ∧ Pk.bg keep far L m ws k = ⟨V, gp, kp⟩ ∧ E = evs ++ Pk.bge keep far L m k ∧ Ar wr p g lp F V top E ∧ Step (AF p g FL) (AF p g F) w wr ∧ ¬ AF p g F w.heap.size ∧ ¬ AF p g F B1 ∧ ¬ AF p g F (B1 + 1) ∧ B1 + 2 ≤ wr.heap.size ∧
    wr.cell? ⟨w.heap.size, 0, none⟩ = some (.int .u32 0) ∧ wr.cell? ⟨B1, 0, none⟩ = some (.int .u32 gp) ∧ wr.cell? ⟨B1 + 1, 0, none⟩ = some (.int .u32 kp) ∧ wr.frozen? ⟨w.heap.size, 0, none⟩ = false ∧ wr.frozen? ⟨B1, 0, none⟩ = false ∧ wr.frozen? ⟨B1 + 1, 0, none⟩ = false) (fun i _ => n - (intOf i).toNat)
  case atStart => exact ⟨0, FL, evs, ws, 0, 0, Nat.zero_le _, rfl, Pk.bg_zero _ _ _ _ _, by rw [Pk.bge_zero, List.append_nil], HA0.out, S0.out, N0 _ (Nat.le_refl _), N0 _ (by omega), N0 _ (by omega), by omega, d3, d1, d2, f3, f1, f2⟩
  case round =>
    obtain ⟨k, F, E, V, gp, kp, hk, rfl, hbg, hE, hA, hS, n1, n2, n3, hzB, c0, c1, c2, c3, c4, c5⟩ := hrel
    clear HA0 S0 d1 d2 d3 f1 f2 f3 hz0
    have HA := Lib.hid hA
    have HS := Lib.hid hS
    have hn0 := foot_old hA.most
    have m1 : FX (AF p g F) w.heap.size = False := eq_false n1
    have m2 : FX (AF p g F) B1 = False := eq_false n2
    have m3 : FX (AF p g F) (B1 + 1) = False := eq_false n3
    have zr := hS.size
    have hEl : E.length = evs.length + k * (3 + 2 * m) := by rw [hE, List.length_append, Pk.bge_len]
    have hEb : E.length + 5000 < 1099511627776 := by
      have : k * (3 + 2 * m) ≤ 49152 * 2003 := Nat.mul_le_mul (by omega) (by omega)
      omega
    have HE := Lib.hid hE
    have HB := Lib.hid hbg
    clear hA hS hE hbg n1 n2 n3 hEl
    by_cases hkn : k < n
    · go_wp2_with (first | (go_at_call 52; with_reducible refine' Calls.mono (ALoad_s ?_ ?_ _ _ ?_) ?_; rotate_left 6; (next => (repeat' (first | with_reducible exact HA.out | with_reducible refine' Ar.drewN ?_ _ | with_reducible refine' Ar.drew ?_ | with_reducible refine' Ar.farE ?_ ?_ _ | with_reducible refine' Ar.alloc ?_ _ | with_reducible refine' Ar.below ?_ (by assumption))); (try (all_goals (simp [*, ↓IntWalk.iteOmega]; first | done | fail))); (first | done | fail)); (next => (first | omega | (simp only [List.length_append, List.length_cons, List.length_nil]; omega))); (next => omega); rintro e wl ⟨rfl, F1, hA1, hs1⟩; obtain ⟨hc_wl, hf_wl, hn⟩ := hs1.rules; (try simp only [World.size_alloc, World.size_setCell, drew_size] at hc_wl hf_wl hn); have hz_wl := hs1.size; (try simp only [World.size_alloc, World.size_setCell, World.size_drew] at hz_wl); have hst := Lib.hid hs1; have HA := Lib.hid hA1; clear hA1 hs1) | (go_at_call 49; with_reducible refine' Calls.mono (AStore_s ?_ ?_ _ _ ?_ _) ?_; rotate_left 6; (next => (repeat' (first | with_reducible exact HA.out | with_reducible refine' Ar.drewN ?_ _ | with_reducible refine' Ar.drew ?_ | with_reducible refine' Ar.farE ?_ ?_ _ | with_reducible refine' Ar.alloc ?_ _ | with_reducible refine' Ar.below ?_ (by assumption))); (try (all_goals (simp [*, ↓IntWalk.iteOmega]; first | done | fail))); (first | done | fail)); (next => (first | omega | (simp only [List.length_append, List.length_cons, List.length_nil]; omega))); (next => omega); rintro e ws1 ⟨rfl, F1, hA1, hs1⟩; obtain ⟨hc_ws1, hf_ws1, hn⟩ := hs1.rules; (try simp only [World.size_alloc, World.size_setCell, drew_size] at hc_ws1 hf_ws1 hn); have hz_ws1 := hs1.size; (try simp only [World.size_alloc, World.size_setCell, World.size_drew] at hz_ws1); have hst := Lib.hid hs1; have HA := Lib.hid hA1; clear hA1 hs1) | (go_at_call 28; refine (Of_any _ _).mono ?_; rintro e wq ⟨rfl, hb⟩; have hcf_wq := bcell hb; (try simp only [World.size_alloc, World.size_setCell, drew_size] at hcf_wq); have hz_wq := hb.size; (try simp only [World.size_alloc, World.size_setCell, World.size_drew] at hz_wq); have hbh_wq := Lib.hid hb; clear hb; obtain ⟨hc_wq, hf_wq⟩ := hcf_wq) | (go_at_call 50; refine (And_any _ _ _).mono ?_; rintro e wa ⟨rfl, hb⟩; have hcf_wa := bcell hb; (try simp only [World.size_alloc, World.size_setCell, drew_size] at hcf_wa); have hz_wa := hb.size; (try simp only [World.size_alloc, World.size_setCell, World.size_drew] at hz_wa); have hbh_wa := Lib.hid hb; clear hb; obtain ⟨hc_wa, hf_wa⟩ := hcf_wa) | (go_at_call 69; refine (Sub_any _ _ _).mono ?_; rintro e wb ⟨rfl, hb⟩; have hcf_wb := bcell hb; (try simp only [World.size_alloc, World.size_setCell, drew_size] at hcf_wb); have hz_wb := hb.size; (try simp only [World.size_alloc, World.size_setCell, World.size_drew] at hz_wb); have hbh_wb := Lib.hid hb; clear hb; obtain ⟨hc_wb, hf_wb⟩ := hcf_wb))
      obtain ⟨x, hx⟩ : ∃ x, Ct.Sub 0 (Ct.And (V[keep + k]?.getD 0) 1) = x := ⟨_, rfl⟩
      rw [hx] at HA ⊢
      have HXX := Lib.hid (show Pk.bx keep k V = x by unfold Pk.bx; rw [List.getD_eq_getElem?_getD]; exact hx)
      have d0 : ws1.cell? ⟨w.heap.size, 0, none⟩ = some (.int .u32 0) := by simp (maxDischargeDepth := 10) [go_sem, ↓IntWalk.iteOmega, *]
      have d1 : ws1.cell? ⟨B1, 0, none⟩ = some (.int .u32 gp) := by simp (maxDischargeDepth := 10) [go_sem, ↓IntWalk.iteOmega, *]
      have d2 : ws1.cell? ⟨B1 + 1, 0, none⟩ = some (.int .u32 kp) := by simp (maxDischargeDepth := 10) [go_sem, ↓IntWalk.iteOmega, *]
      have d3 : ws1.cell? ⟨wb.heap.size, 0, none⟩ = some (.int .u32 x) := by simp (maxDischargeDepth := 10) [go_sem, ↓IntWalk.iteOmega, *]
      have f0 : ws1.frozen? ⟨w.heap.size, 0, none⟩ = false := by simp (maxDischargeDepth := 10) [go_sem, ↓IntWalk.iteOmega, *]
      have f1 : ws1.frozen? ⟨B1, 0, none⟩ = false := by simp (maxDischargeDepth := 10) [go_sem, ↓IntWalk.iteOmega, *]
      have f2 : ws1.frozen? ⟨B1 + 1, 0, none⟩ = false := by simp (maxDischargeDepth := 10) [go_sem, ↓IntWalk.iteOmega, *]
      have q0 : ¬ AF p g F1 w.heap.size := by (intro hfoot; simp [*, ↓IntWalk.iteOmega] at hfoot)
      have q1 : ¬ AF p g F1 B1 := by (intro hfoot; simp [*, ↓IntWalk.iteOmega] at hfoot)
      have q2 : ¬ AF p g F1 (B1 + 1) := by (intro hfoot; simp [*, ↓IntWalk.iteOmega] at hfoot)
      have q3 : ¬ AF p g F1 wb.heap.size := by (intro hfoot; simp [*, ↓IntWalk.iteOmega] at hfoot)
      have S1 : Hid (Step (AF p g FL) (AF p g F1) w ws1) := by
        refine Lib.hid ?_
        have hmost := HM.out
        (repeat' (first | exact Step.refl (by assumption) | refine Step.set_ (by (first | omega | (simp; done) | (simp; omega))) ?_ _ | refine Step.alloc ?_ _ | refine Step.drewN ?_ _ | refine Step.drew ?_ | refine Step.then_ (by assumption) ?_ | refine Step.thenB (by assumption) ?_))
      obtain ⟨B3, hB3⟩ : ∃ B3, wb.heap.size = B3 := ⟨_, rfl⟩
      rw [hB3] at d3 q3 ⊢
      have hB13 : B1 + 2 ≤ B3 := by omega
      have hB3s : B3 < ws1.heap.size := World.block_lt_of_cell? ws1 ⟨B3, 0, none⟩ d3
      obtain ⟨V2, hV2⟩ : ∃ V2, (V.set (keep + k) x).set (far + k) (Ct.And x gp) = V2 := ⟨_, rfl⟩
      have HA2 : Hid (∃ E2, E2 = E ++ [⟨1, ((keep + k : Nat) : Int), 0⟩, ⟨2, ((keep + k : Nat) : Int), 0⟩, ⟨2, ((far + k : Nat) : Int), 0⟩] ∧ Ar ws1 p g lp F1 V2 top E2) := by
        refine Lib.hid ⟨_, ?_, hV2 ▸ HA.out⟩
        simp
      clear HA
      obtain ⟨E2, hE2, hA2⟩ := HA2.out
      have HA := Lib.hid hA2
      have HV2 := Lib.hid hV2
      have HE2 := Lib.hid hE2
      have hEl2 : E2.length = E.length + 3 := by rw [hE2, List.length_append]; rfl
      have HX1 := Lib.hid (HX.out.step S1.out)
      have HM1 := Lib.hid hA2.most
      clear hc_wl hf_wl hc_wq hf_wq hc_wa hf_wa hc_wb hf_wb hc_ws1 hf_ws1 hn hst hbh_wq hbh_wa hbh_wb HS c0 c1 c2 c3 c4 c5 m1 m2 m3 hn0 hx hV2 hE2 hA2 HA2 hB3 hold
      have zs1 := S1.out.size
      go_loopw [48] (fun i w3 => ∃ (j : Nat) (F' : Nat → Prop) (E' : List Ev) (V' : List Int), j ≤ m ∧ i = .int .i64 j ∧ Pk.bL L k x V2 j = V' ∧ E' = E2 ++ Pk.bLe L k j ∧ Ar w3 p g lp F' V' top E' ∧ Step (AF p g F1) (AF p g F') ws1 w3) (fun i _ => m - (intOf i).toNat)
      case atStart => exact ⟨0, F1, E2, V2, Nat.zero_le _, rfl, Pk.bL_zero _ _ _ _, by rw [Pk.bLe_zero, List.append_nil], HA.out, HA.out.step0⟩
      case round =>
        rename World => w3
        obtain ⟨j, F', E', V', hj, rfl, hbl, hE', hA3, hS3⟩ := hrel
        clear HA
        have HA := Lib.hid hA3
        have HS3 := Lib.hid hS3
        have z3 := hS3.size
        have e3 := (old_cell (o := 0) hS3 hB3s q3).trans d3
        have hEl3 : E'.length = E2.length + 2 * j := by rw [hE', List.length_append, Pk.bLe_len]
        by_cases hjm : j < m
        · obtain ⟨b, o, rfl, hbs, hbn, hbc⟩ := (HX1.out.step hS3) (by omega)
          have ej := hbc j hjm
          have hLj := HL.out j hjm
          have hn3 := foot_old hA3.most
          have p3 : FX (AF p g F') B3 = False := eq_false (fun hf => q3 ((hS3.foot B3 hB3s).1 hf))
          obtain ⟨a, ha⟩ : ∃ a, L j = a := ⟨_, rfl⟩
          rw [ha] at ej hLj
          have HLa := Lib.hid ha
          have HBL := Lib.hid hbl
          have HE3 := Lib.hid hE'
          have hw1 : IntKind.i64.wrap ((a : Int) + (k : Int)) = (a : Int) + k := IntWalk.i64_in _ (by omega)
          clear hA3 hS3 hbc ha hbl hE'
          go_wp2_with fail
          go_region_held3 (fun w' => w'.cell? ⟨B3, 0, none⟩ = some (.int .u32 x)) ((simp [go_sem, ↓IntWalk.iteOmega, *]; done)) (first
            | (first | (go_at_call 50; refine (And_any _ _ _).mono ?_; rintro e w1 ⟨rfl, hb⟩; have hcf := bcell hb; (try simp only [World.size_alloc, World.size_setCell, drew_size] at hcf); have hz := hb.size; (try simp only [World.size_alloc, World.size_setCell, World.size_drew] at hz); have hbh := Lib.hid hb; clear hb; obtain ⟨hc, hf⟩ := hcf))
            | (go_at_call 52; with_reducible refine' Calls.mono (ALoad_e ?_ ?_ _ (a + k) ?_ ?_) ?_; rotate_left 6; (next => (repeat' (first | with_reducible exact HA.out | with_reducible refine' Ar.drewN ?_ _ | with_reducible refine' Ar.drew ?_ | with_reducible refine' Ar.farE ?_ ?_ _ | with_reducible refine' Ar.alloc ?_ _ | with_reducible refine' Ar.below ?_ (by assumption))); (try (all_goals (simp [*, ↓IntWalk.iteOmega]; first | done | fail))); (first | done | fail)); (next => omega); (next => (first | omega | (simp only [hw1]; omega))); (next => omega); rintro e w1 ⟨rfl, F1, hA1, hs1⟩; obtain ⟨hc, hf, hn⟩ := hs1.rules; (try simp only [World.size_alloc, World.size_setCell, drew_size] at hc hf hn); have hz := hs1.size; (try simp only [World.size_alloc, World.size_setCell, World.size_drew] at hz); have hst := Lib.hid hs1; have HA := Lib.hid hA1; clear hA1 hs1)
            | (go_at_call 49; with_reducible refine' Calls.mono (AStore_e ?_ ?_ _ (a + k) ?_ ?_ _) ?_; rotate_left 6; (next => (repeat' (first | with_reducible exact HA.out | with_reducible refine' Ar.drewN ?_ _ | with_reducible refine' Ar.drew ?_ | with_reducible refine' Ar.farE ?_ ?_ _ | with_reducible refine' Ar.alloc ?_ _ | with_reducible refine' Ar.below ?_ (by assumption))); (try (all_goals (simp [*, ↓IntWalk.iteOmega]; first | done | fail))); (first | done | fail)); (next => (first | omega | (simp only [List.length_append, List.length_cons, List.length_nil]; omega))); (next => (first | omega | (simp only [hw1]; omega))); (next => omega); rintro e w1 ⟨rfl, F1, hA1, hs1⟩; obtain ⟨hc, hf, hn⟩ := hs1.rules; (try simp only [World.size_alloc, World.size_setCell, drew_size] at hc hf hn); have hz := hs1.size; (try simp only [World.size_alloc, World.size_setCell, World.size_drew] at hz); have hst := Lib.hid hs1; have HA := Lib.hid hA1; clear hA1 hs1))
          all_goals (go_wp2_with fail)
          all_goals
            refine ⟨⟨j + 1, F1, _, _, by omega, by go_num, ?_, ?_, by (repeat' (first | with_reducible exact HA.out | with_reducible refine' Ar.drewN ?_ _ | with_reducible refine' Ar.drew ?_ | with_reducible refine' Ar.farE ?_ ?_ _ | with_reducible refine' Ar.alloc ?_ _ | with_reducible refine' Ar.below ?_ (by assumption))); (try (all_goals (simp [*, ↓IntWalk.iteOmega]; first | done | fail))); (first | done | fail), ?_⟩, by simp [intOf]; omega⟩
            · rw [Pk.bL_succ _ _ _ _ _ _ HBL.out, HLa.out]; simp only [List.getD_eq_getElem?_getD]
            · rw [HE3.out, Pk.bLe_succ, HLa.out]; simp
            · have hmost := HM1.out
              have HS3' := HS3.out
              (repeat' (first | exact Step.refl (by assumption) | refine Step.set_ (by (first | omega | (simp; done) | (simp; omega))) ?_ _ | refine Step.alloc ?_ _ | refine Step.drewN ?_ _ | refine Step.drew ?_ | refine Step.then_ (by assumption) ?_ | refine Step.thenB (by assumption) ?_))
        · have hjE : j = m := by omega
          have hge : m ≤ j := by omega
          have HJE := Lib.hid hjE
          have HBL := Lib.hid hbl
          have HE3 := Lib.hid hE'
          have g0 := (old_cell (o := 0) hS3 (Nat.lt_of_lt_of_le (by omega) (Nat.le_refl ws1.heap.size)) q0).trans d0
          have g1 := (old_cell (o := 0) hS3 (Nat.lt_of_lt_of_le (by omega) (Nat.le_refl ws1.heap.size)) q1).trans d1
          have g2 := (old_cell (o := 0) hS3 (Nat.lt_of_lt_of_le (by omega) (Nat.le_refl ws1.heap.size)) q2).trans d2
          have h0 := (old_frozen (o := 0) hS3 (Nat.lt_of_lt_of_le (by omega) (Nat.le_refl ws1.heap.size)) q0).trans f0
          have h1 := (old_frozen (o := 0) hS3 (Nat.lt_of_lt_of_le (by omega) (Nat.le_refl ws1.heap.size)) q1).trans f1
          have h2 := (old_frozen (o := 0) hS3 (Nat.lt_of_lt_of_le (by omega) (Nat.le_refl ws1.heap.size)) q2).trans f2
          have hn3 := foot_old hA3.most
          have p0 : FX (AF p g F') w.heap.size = False := eq_false (fun hf => q0 ((hS3.foot _ (by omega)).1 hf))
          have p1 : FX (AF p g F') B1 = False := eq_false (fun hf => q1 ((hS3.foot _ (by omega)).1 hf))
          have p2 : FX (AF p g F') (B1 + 1) = False := eq_false (fun hf => q2 ((hS3.foot _ (by omega)).1 hf))
          have S3 := Lib.hid (S1.out.trans hS3)
          clear hA3 hS3 d0 d1 d2 d3 f0 f1 f2 hjE hbl hE' HX1 HM1
          go_wp2_with (first | (go_at_call 69; refine (Sub_any _ _ _).mono ?_; rintro e wc ⟨rfl, hb⟩; have hcf_wc := bcell hb; (try simp only [World.size_alloc, World.size_setCell, drew_size] at hcf_wc); have hz_wc := hb.size; (try simp only [World.size_alloc, World.size_setCell, World.size_drew] at hz_wc); have hbh_wc := Lib.hid hb; clear hb; obtain ⟨hc_wc, hf_wc⟩ := hcf_wc))
          (refine Calm.go 6 (by kernel_rfl) (by kernel_rfl) (by kernel_rfl) ?_; intro w0 hw0; have hr := Calm.rule hw0; simp only [Calm.heads, Calm.isAlloc]; haveI hnon : Nonempty (Ext (Below w0.heap.size w0)) := ⟨⟨w0, Below.refl _ _⟩⟩; (repeat (go_big_quiet_step (first | (go_at_call 51; exact Ext.calm below_calm (Not_any _ _)) | (go_at_call 28; exact Ext.calm below_calm (Of_any _ _)) | (go_at_call 50; exact Ext.calm below_calm (And_any _ _ _)) | (go_at_call 81; exact Ext.calm below_calm (Add_any _ _ _))))); refine wpQuiet_nil ?_; clear hnon hr hw0; clear w0; (repeat refine Calm.n_skip rfl ?_); refine Calm.n_zero ?_; intro WC hbC hsC; simp only [List.drop_succ_cons, List.drop_zero]; obtain ⟨hcC, hfC⟩ := bcell hbC; (try simp only [World.size_alloc, World.size_setCell, drew_size] at hcC hfC); have hzC := hbC.size; have hbhC := Lib.hid hbC; clear hsC hbC; (try simp only [World.size_alloc, World.size_setCell, World.size_drew] at hzC))
          go_wp2_with fail
          refine ⟨⟨k + 1, F', _, _, Ct.Add gp (Ct.And (Ct.Not x) 1), Ct.Sub kp x, by omega, by go_num, ?_, ?_, by (repeat' (first | with_reducible exact HA.out | with_reducible refine' Ar.drewN ?_ _ | with_reducible refine' Ar.drew ?_ | with_reducible refine' Ar.farE ?_ ?_ _ | with_reducible refine' Ar.alloc ?_ _ | with_reducible refine' Ar.below ?_ (by assumption))); (try (all_goals (simp [*, ↓IntWalk.iteOmega]; first | done | fail))); (first | done | fail), ?_, ?_, ?_, ?_, ?_, ?_, ?_, ?_, ?_, ?_, ?_⟩, by simp [intOf]; omega⟩
          · rw [Pk.bg_succ _ _ _ _ _ _ _ _ _ HB.out, HXX.out, HV2.out, ← HJE.out, HBL.out]
          · rw [HE3.out, HE2.out, HE.out, Pk.bge_succ, HJE.out]; simp
          · have hmost := HM.out
            have S3' := S3.out
            (repeat' (first | exact Step.refl (by assumption) | refine Step.set_ (by (first | omega | (simp; done) | (simp; omega))) ?_ _ | refine Step.alloc ?_ _ | refine Step.drewN ?_ _ | refine Step.drew ?_ | refine Step.then_ (by assumption) ?_ | refine Step.thenB (by assumption) ?_))
          · (intro hfoot; simp [*, ↓IntWalk.iteOmega] at hfoot)
          · (intro hfoot; simp [*, ↓IntWalk.iteOmega] at hfoot)
          · (intro hfoot; simp [*, ↓IntWalk.iteOmega] at hfoot)
          · first | omega | (simp; omega)
          · simp (maxDischargeDepth := 10) [go_sem, ↓IntWalk.iteOmega, *]
          · simp (maxDischargeDepth := 10) [go_sem, ↓IntWalk.iteOmega, *]
          · simp (maxDischargeDepth := 10) [go_sem, ↓IntWalk.iteOmega, *]
          · simp (maxDischargeDepth := 10) [go_sem, ↓IntWalk.iteOmega, *]
          · simp (maxDischargeDepth := 10) [go_sem, ↓IntWalk.iteOmega, *]
          · simp (maxDischargeDepth := 10) [go_sem, ↓IntWalk.iteOmega, *]
    · have hkE : k = n := by omega
      have HKE := Lib.hid hkE
      have hge : n ≤ k := by omega
      clear hkE
      go_wp2_with fail
      refine ret_sec rfl rfl (World.cell?_setCell_same' _ _ _ (by simp [c0])) rfl ⟨?_, F, ?_, ?_⟩
      · rw [← HKE.out, HB.out]
      · rw [← HKE.out, HB.out, ← HE.out]
        exact HA.out.far (fun hf => m1.mp hf) _
      · exact HS.out.set_ (Nat.le_refl _) _
end Go.Proofs.Ytjoehhojhfgooaa
