/- The document's carries, first and last. No condition. -/
import Derived.Test.YtdakbejppnijdaaSaQ
import Derived.Test.YtdakbejppnijdaaSaT
namespace Go.Proofs.Ytdakbejppnijdaa
open Go.RowKit
set_option linter.unusedSimpArgs false
set_option linter.unusedVariables false
attribute [local go_sem] IntKind.wrap_u32' signed_u32 max_u32
attribute [local go_sem ↓] Go.wp_at_zero Go.wp_at_succ
attribute [local go_sem] Calm.C
attribute [local go_sem low] Calm.al_cell Calm.al_frozen
theorem rHas05_b (a : Nat) (ha : a < 4294967296) (b : Bool) (hb : decide (a % 2 = 1) = b) (w : World) : Calls Try.prog 87 #[.int .u32 a] w fun e w' => e = .returned (.bool b) ∧ w' = w := by
  rcases (by omega : a % 2 = 0 ∨ a % 2 = 1) with h | h
  · have hK1 : (a : Int).tmod 2 = 0 := by rw [Int.tmod_eq_emod_of_nonneg (by omega)]; omega
    rw [h] at hb
    obtain rfl : b = false := hb.symm
    go_enter Try.func87, Try.ntmps87
    go_wp2_with fail
    go_ret
    exact ⟨rfl, rfl⟩
  · have hK1 : (a : Int).tmod 2 = 1 := by rw [Int.tmod_eq_emod_of_nonneg (by omega)]; omega
    rw [h] at hb
    obtain rfl : b = true := hb.symm
    go_enter Try.func87, Try.ntmps87
    go_wp2_with fail
    go_ret
    exact ⟨rfl, rfl⟩
theorem rAll05_any (b : Bool) (w : World) : Calls Try.prog 39 #[.bool b] w fun e w' => e = .returned (.int .u32 (Ct.Mask b)) ∧ w' = w := by
  cases b
  all_goals
    go_enter Try.func39, Try.ntmps39
    go_wp2_with fail
    go_ret
    exact ⟨rfl, rfl⟩
attribute [local irreducible] Sa.lv Sa.ev1 Sa.an Sa.bw Sa.od wcells
set_option maxRecDepth 20000 in
set_option maxHeartbeats 4000000 in
theorem rEnd05_any {w : World} {A B : Option Addr} {n : Nat} {f h : Nat → Nat} (hA : Sj.Cl .u32 w A n f) (hB : Sj.Cl .u32 w B n h) (hh : ∀ i, h i < 4294967296) (hn : n ≤ 1000) (c d : Nat) (last : Bool) :
    Calls Try.prog 38 #[.slice A n c, .slice B n d, .bool last] w fun e w' => e = .returned (.tuple #[.int .u32 (if last then Sa.lv f h n else Sa.ev1 f h n : Nat), .bool (Sa.an h n)]) ∧ w' = w := by
  have HA := Lib.hid hA
  have HB := Lib.hid hB
  have HH := Lib.hid hh
  obtain ⟨V, hV⟩ : ∃ V : Nat → Nat, V = fun k => (if last then Sa.lv f h k else Sa.ev1 f h k) := ⟨_, rfl⟩
  have HV := Lib.hid hV
  have hV0 : V 0 = 0 := by
    rw [hV]
    dsimp only
    split
    · exact Sa.lv_zero f h
    · exact Sa.ev1_zero f h
  have hVs : Hid (∀ k, V (k + 1) = if (Sa.od h k && (last || !Sa.an h k)) then f k else V k) := Lib.hid (fun k => by
    rw [hV]
    dsimp only
    cases last
    · rw [if_neg Bool.false_ne_true, if_neg Bool.false_ne_true, Sa.ev1_succ, Bool.false_or]
    · rw [if_pos rfl, if_pos rfl, Sa.lv_succ, Bool.true_or, Bool.and_true])
  rw [show (if last then Sa.lv f h n else Sa.ev1 f h n) = V n from by rw [hV]]
  clear hA hB hh hV
  go_enter Try.func38, Try.ntmps38
  go_wp2_with fail
  go_loopw [8, 9, 10] (fun v a ii wr => ∃ i : Nat, i ≤ n ∧ v = .int .u32 (V i : Nat) ∧ a = .bool (Sa.an h i) ∧ ii = .int .i64 (i : Int) ∧ wr = w) (fun _ _ ii _ => n - (intOf ii).toNat)
  case atStart => exact ⟨0, Nat.zero_le _, by rw [hV0]; rfl, by rw [Sa.an_zero], rfl, rfl⟩
  case round =>
    obtain ⟨i, hi, rfl, rfl, rfl, hw⟩ := hrel
    replace hw := hw.symm
    subst hw
    by_cases hin : i < n
    · obtain ⟨b1, o1, rfl, hb1, hc1⟩ := HA.out (by omega)
      obtain ⟨b2, o2, rfl, hb2, hc2⟩ := HB.out (by omega)
      have q1 := hc1 i hin
      have q2 := hc2 i hin
      have hHas := Lib.hid (fun (b : Bool) (hb : Sa.od h i = b) => rHas05_b (h i) (HH.out i) b (by rw [← hb]; unfold Sa.od; rfl))
      have hs1 := Lib.hid (hVs.out i)
      have hs2 := Lib.hid (Sa.an_succ h i)
      clear hc1 hc2
      generalize f i = x at *
      generalize h i = y at *
      generalize V i = a at *
      generalize Sa.an h i = z at *
      cases hO : Sa.od h i
      all_goals
        have hHas2 := Lib.hid (hHas.out _ hO)
        rw [hO] at hs1 hs2
        clear hHas
        cases z
        all_goals
          cases last
          all_goals
            go_wp2_with (go_at_call 87; with_reducible refine (hHas2.out _).mono ?_; rintro e w2 ⟨rfl, hw⟩; replace hw := hw.symm; subst hw)
            refine ⟨⟨i + 1, by omega, by rw [hs1.out]; rfl, by rw [hs2.out]; rfl, by go_num, by trivial⟩, by simp [intOf]; omega⟩
    · have e : i = n := by omega
      subst e
      go_wp2_with fail
      exact ret_two (x := .int .u32 (V i : Nat)) (y := .bool (Sa.an h i)) rfl rfl rfl rfl ⟨rfl, rfl⟩
set_option maxRecDepth 20000 in
set_option maxHeartbeats 4000000 in
theorem rCarry05_any {w : World} {A B : Option Addr} {n : Nat} {f h : Nat → Nat} (hA : Sj.Cl .u32 w A n f) (hB : Sj.Cl .u32 w B n h) (hh : ∀ i, h i < 4294967296) (hn : n ≤ 1000) (c d : Nat) (b : Bool) :
    Calls Try.prog 42 #[.slice A n c, .slice B n d, .bool b] w fun e w' => ∃ L : List Int, e = .returned (.slice (some ⟨w.heap.size, 0, none⟩) n n) ∧ Blk w' w.heap.size 30 (wcells L) ∧ L.length = n ∧ (∀ j, j < n → L.getD j 0 = (if b then Sa.bw f h n (n - j) else Sa.lv f h (j + 1) : Nat)) ∧ Below w.heap.size w w' := by
  obtain ⟨mk, HMK0⟩ := mk_words n hn
  have hmk : ∀ w, (Instr.makeSlice 22 (.int .i64 n) (.int .i64 n)).run Try.prog w = .ok (.slice (some ⟨w.heap.size, 0, none⟩) n n) (mk w) := fun w => (HMK0 w).1
  have HM1 := Lib.hid (HMK0 w).2.1
  have HM2 := Lib.hid (HMK0 w).2.2
  have HA := Lib.hid hA
  have HB2 := Lib.hid hB
  have HH := Lib.hid hh
  obtain ⟨vv, hvv⟩ : ∃ vv : Nat → Nat, vv = fun j => (if b then Sa.bw f h n (n - j) else Sa.lv f h (j + 1)) := ⟨_, rfl⟩
  have HVV := Lib.hid hvv
  have hvr : Hid (∀ j, (if b then Sa.bw f h n (n - j) else Sa.lv f h (j + 1)) = vv j) := Lib.hid (fun j => by rw [HVV.out])
  clear HMK0 hA hB hh hvv
  cases b
  all_goals
    go_enter Try.func42, Try.ntmps42
    go_wp2_with fail
    generalize mk w = W1 at *
    clear hmk
    obtain ⟨G, hG⟩ : ∃ G, w.heap.size = G := ⟨_, rfl⟩
    rw [hG] at HM2 ⊢
    go_loopw [8, 9, 10] (fun ii k1 k2 wr => ∃ (i : Nat) (u1 u2 : Value) (L : List Int), i ≤ n ∧ ii = .int .i64 (i : Int) ∧ k1 = u1 ∧ k2 = u2 ∧ Blk wr G 30 (wcells L) ∧ L.length = n ∧ (∀ j, j < n → L.getD j 0 = if j < i then ((vv j : Nat) : Int) else 0) ∧ Below w.heap.size w wr) (fun ii _ _ _ => n - (intOf ii).toNat)
    case atStart => exact ⟨0, _, _, _, Nat.zero_le _, rfl, rfl, rfl, HM2.out, List.length_replicate, fun j hj => by rw [if_neg (Nat.not_lt_zero j), Sa.rep_get], HM1.out⟩
  case round =>
    obtain ⟨i, u1, u2, L, hi, rfl, rfl, rfl, hB, hL, hg, hb⟩ := hrel
    have HB := Lib.hid hB
    have HL := Lib.hid hL
    have HG := Lib.hid hg
    have HBE := Lib.hid hb
    have zr := hb.size
    clear hB hL hg hb HM1 HM2
    by_cases hin : i < n
    · have h0 := HG.out i hin
      rw [if_neg (Nat.lt_irrefl i)] at h0
      obtain ⟨b1, o1, rfl, hb1, hc1⟩ := HA.out (by omega)
      obtain ⟨b2, o2, rfl, hb2, hc2⟩ := HB2.out (by omega)
      have HC1 := Lib.hid hc1
      have HC2 := Lib.hid hc2
      clear hc1 hc2
      go_wp2_with fail
      go_loopw [10] (fun kk w3 => ∃ k : Nat, k ≤ i + 1 ∧ kk = .int .i64 (k : Int) ∧ Blk w3 G 30 (wcells (L.set i (Sa.lv f h k : Nat))) ∧ Below w.heap.size w w3) (fun kk _ => i + 1 - (intOf kk).toNat)
      case atStart => exact ⟨0, Nat.zero_le _, rfl, by rw [Sa.lv_zero, show ((0 : Nat) : Int) = 0 from rfl, Sa.set_same L i 0 (by rw [HL.out]; exact hin) h0]; exact HB.out, HBE.out⟩
      case round =>
        rename World => w3
        obtain ⟨k, hk, rfl, hB3, hb3⟩ := hrel
        have HB3 := Lib.hid hB3
        have HB3E := Lib.hid hb3
        have z3 := hb3.size
        have q1 := hB3.cell i
        rw [wcells_get _ i (by rw [List.length_set, HL.out]; exact hin), Sa.getD_set _ _ _ _ (by rw [HL.out]; exact hin), if_pos rfl] at q1
        have q2 := hB3.frozen i
        have zG := hB3.lt
        clear hB3 hb3
        by_cases hki : k ≤ i
        · have q3 := (HB3E.out.cell (p := ⟨b1, o1 + k, none⟩) hb1).trans (HC1.out k (by omega))
          have q4 := (HB3E.out.cell (p := ⟨b2, o2 + k, none⟩) hb2).trans (HC2.out k (by omega))
          have hd1 := decide_eq_true hki
          have hHas := Lib.hid (fun (b : Bool) (hb : Sa.od h k = b) => rHas05_b (h k) (HH.out k) b (by rw [← hb]; unfold Sa.od; rfl))
          have hs1 := Lib.hid (Sa.lv_succ f h k)
          generalize f k = x at *
          generalize h k = y at *
          generalize Sa.lv f h k = a at *
          cases hO : Sa.od h k
          all_goals
            have hHas2 := Lib.hid (hHas.out _ hO)
            rw [hO] at hs1
            clear hHas
            go_wp2_with (go_at_call 87; with_reducible refine (hHas2.out _).mono ?_; rintro e w2 ⟨rfl, hw⟩; subst hw)
          · refine ⟨⟨k + 1, by omega, by go_num, by rw [hs1.out]; exact HB3.out, HB3E.out⟩, by simp [intOf]; omega⟩
          · have h2 := HB3.out.set_ i (.int .u32 (x : Int))
            rw [wcells_set, List.set_set] at h2
            refine ⟨⟨k + 1, by omega, by go_num, by rw [hs1.out]; exact h2, bl_set (by omega) HB3E.out _⟩, by simp [intOf]; omega⟩
        · have e : k = i + 1 := by omega
          subst e
          have hd1 := decide_eq_false hki
          have hvi : Hid (vv i = Sa.lv f h (i + 1)) := Lib.hid (by rw [HVV.out]; rfl)
          have hG2 : Hid (∀ j, j < n → (L.set i (Sa.lv f h (i + 1) : Nat)).getD j 0 = if j < i + 1 then ((vv j : Nat) : Int) else 0) := Lib.hid (fun j hj => by
            rw [Sa.getD_set _ _ _ _ (by rw [HL.out]; exact hin)]
            by_cases hjk : j = i
            · subst hjk
              rw [if_pos rfl, if_pos (Nat.lt_succ_self j), hvi.out]
            · rw [if_neg hjk, HG.out j hj]
              by_cases hlt : j < i
              · rw [if_pos hlt, if_pos (show j < i + 1 by omega)]
              · rw [if_neg hlt, if_neg (show ¬ j < i + 1 by omega)])
          clear HG h0
          go_wp2_with fail
          refine ⟨⟨i + 1, _, _, _, by omega, by go_num, rfl, rfl, HB3.out, by rw [List.length_set]; exact HL.out, hG2.out, HB3E.out⟩, by simp [intOf]; omega⟩
    · have e : i = n := by omega
      subst e
      have hbe := HBE.out
      rw [hG] at hbe
      have hgg : Hid (∀ j, j < i → L.getD j 0 = ((Sa.lv f h (j + 1) : Nat) : Int)) := Lib.hid (fun j hj => by have := HG.out j hj; rw [if_pos hj] at this; rw [this, HVV.out]; rfl)
      go_wp2_with fail
      go_ret
      exact ⟨rfl, L, HB.out, HL.out, by simpa using hgg.out, hbe⟩
  case round =>
    obtain ⟨i, u1, u2, L, hi, rfl, rfl, rfl, hB, hL, hg, hb⟩ := hrel
    have HB := Lib.hid hB
    have HL := Lib.hid hL
    have HG := Lib.hid hg
    have HBE := Lib.hid hb
    have zr := hb.size
    clear hB hL hg hb HM1 HM2
    by_cases hin : i < n
    · have h0 := HG.out i hin
      rw [if_neg (Nat.lt_irrefl i)] at h0
      obtain ⟨b1, o1, rfl, hb1, hc1⟩ := HA.out (by omega)
      obtain ⟨b2, o2, rfl, hb2, hc2⟩ := HB2.out (by omega)
      have HC1 := Lib.hid hc1
      have HC2 := Lib.hid hc2
      clear hc1 hc2
      go_wp2_with fail
      go_loopw [9] (fun kk w3 => ∃ j : Nat, j ≤ n - i ∧ kk = .int .i64 ((n : Int) - 1 - (j : Int)) ∧ Blk w3 G 30 (wcells (L.set i (Sa.bw f h n j : Nat))) ∧ Below w.heap.size w w3) (fun kk _ => (intOf kk + 1).toNat)
      case atStart => exact ⟨0, Nat.zero_le _, congrArg (Value.int .i64) (by omega), by rw [Sa.bw_zero, show ((0 : Nat) : Int) = 0 from rfl, Sa.set_same L i 0 (by rw [HL.out]; exact hin) h0]; exact HB.out, HBE.out⟩
      case round =>
        rename World => w3
        obtain ⟨j, hj, rfl, hB3, hb3⟩ := hrel
        have HB3 := Lib.hid hB3
        have HB3E := Lib.hid hb3
        have z3 := hb3.size
        have q1 := hB3.cell i
        rw [wcells_get _ i (by rw [List.length_set, HL.out]; exact hin), Sa.getD_set _ _ _ _ (by rw [HL.out]; exact hin), if_pos rfl] at q1
        have q2 := hB3.frozen i
        have zG := hB3.lt
        clear hB3 hb3
        by_cases hki : j < n - i
        · obtain ⟨K, hK⟩ : ∃ K, n - 1 - j = K := ⟨_, rfl⟩
          have hKn : K < n := by omega
          have hiK : i ≤ K := by omega
          have hKI : (n : Int) - 1 - (j : Int) = (K : Int) := by omega
          have hKj : Hid ((n : Int) - 1 - ((j + 1 : Nat) : Int) = (K : Int) - 1) := Lib.hid (by omega)
          rw [hKI]
          have q3 := (HB3E.out.cell (p := ⟨b1, o1 + K, none⟩) hb1).trans (HC1.out K hKn)
          have q4 := (HB3E.out.cell (p := ⟨b2, o2 + K, none⟩) hb2).trans (HC2.out K hKn)
          have hd1 := decide_eq_true hiK
          have hHas := Lib.hid (fun (b : Bool) (hb : Sa.od h K = b) => rHas05_b (h K) (HH.out K) b (by rw [← hb]; unfold Sa.od; rfl))
          have hs1 := Lib.hid (Sa.bw_succ f h n j)
          rw [hK] at hs1
          clear hK hKI
          generalize f K = x at *
          generalize h K = y at *
          generalize Sa.bw f h n j = a at *
          cases hO : Sa.od h K
          all_goals
            have hHas2 := Lib.hid (hHas.out _ hO)
            rw [hO] at hs1
            clear hHas
            go_wp2_with (go_at_call 87; with_reducible refine (hHas2.out _).mono ?_; rintro e w2 ⟨rfl, hw⟩; subst hw)
          · refine ⟨⟨j + 1, by omega, congrArg (Value.int .i64) (by rw [hKj.out]), by rw [hs1.out]; exact HB3.out, HB3E.out⟩, by simp [intOf]⟩
          · have h2 := HB3.out.set_ i (.int .u32 (x : Int))
            rw [wcells_set, List.set_set] at h2
            refine ⟨⟨j + 1, by omega, congrArg (Value.int .i64) (by rw [hKj.out]), by rw [hs1.out]; exact h2, bl_set (by omega) HB3E.out _⟩, by simp [intOf]⟩
        · have e : j = n - i := by omega
          subst e
          have hKI : (n : Int) - 1 - ((n - i : Nat) : Int) = (i : Int) - 1 := by omega
          rw [hKI]
          have hd1 := decide_eq_false (show ¬ (i : Int) ≤ (i : Int) - 1 by omega)
          have hvi : Hid (vv i = Sa.bw f h n (n - i)) := Lib.hid (by rw [HVV.out]; rfl)
          have hG2 : Hid (∀ j, j < n → (L.set i (Sa.bw f h n (n - i) : Nat)).getD j 0 = if j < i + 1 then ((vv j : Nat) : Int) else 0) := Lib.hid (fun j hj => by
            rw [Sa.getD_set _ _ _ _ (by rw [HL.out]; exact hin)]
            by_cases hjk : j = i
            · subst hjk
              rw [if_pos rfl, if_pos (Nat.lt_succ_self j), hvi.out]
            · rw [if_neg hjk, HG.out j hj]
              by_cases hlt : j < i
              · rw [if_pos hlt, if_pos (show j < i + 1 by omega)]
              · rw [if_neg hlt, if_neg (show ¬ j < i + 1 by omega)])
          clear HG h0 hKI
          go_wp2_with fail
          refine ⟨⟨i + 1, _, _, _, by omega, by go_num, rfl, rfl, HB3.out, by rw [List.length_set]; exact HL.out, hG2.out, HB3E.out⟩, by simp [intOf]; omega⟩
    · have e : i = n := by omega
      subst e
      have hbe := HBE.out
      rw [hG] at hbe
      have hgg : Hid (∀ j, j < i → L.getD j 0 = ((Sa.bw f h i (i - j) : Nat) : Int)) := Lib.hid (fun j hj => by have := HG.out j hj; rw [if_pos hj] at this; rw [this, HVV.out]; rfl)
      go_wp2_with fail
      go_ret
      exact ⟨rfl, L, HB.out, HL.out, by simpa using hgg.out, hbe⟩
end Go.Proofs.Ytdakbejppnijdaa
