/- Lanes that are within an arena and have no words in common: the calls that ask it. No condition. -/
import Derived.Test.YtjoehhojhfgooaaArS
namespace Go.Proofs.Ytjoehhojhfgooaa
open Go.RowKit
set_option linter.unusedSimpArgs false
set_option linter.unusedVariables false
attribute [local go_sem] IntKind.wrap_u32' signed_u32 max_u32
attribute [local go_sem ↓] Go.wp_at_zero Go.wp_at_succ
attribute [local go_sem] Calm.C
attribute [local go_sem low] Calm.al_cell Calm.al_frozen
def Fit (top : Nat) (a n : Int) : Prop := 0 ≤ a ∧ 0 ≤ n ∧ a + n ≤ top
instance (top : Nat) (a n : Int) : Decidable (Fit top a n) := by unfold Fit; infer_instance
theorem Fits_any {w : World} {p g lp : Nat} {FL : Nat → Prop} {ws : List Int} {top : Nat} {evs : List Ev} (h : Ar w p g lp FL ws top evs) (a n : Int) :
    Calls Try.prog 56 #[.pointer (some ⟨p, 0, none⟩), .int .i64 a, .int .i64 n] w fun e w' => e = .returned (.bool (decide (Fit top a n))) ∧ w' = w := by
  by_cases hc : Fit top a n
  · rw [decide_eq_true hc]; unfold Fit at hc; exact Fits_t h a n hc.1 hc.2.1 hc.2.2
  · rw [decide_eq_false hc]; unfold Fit at hc; exact Fits_f h a n hc
def Meets (a b n : Int) : Prop := 0 < n ∧ a < b + n ∧ b < a + n
instance (a b n : Int) : Decidable (Meets a b n) := by unfold Meets; infer_instance
def Lanes (top : Nat) (n : Int) (L : Nat → Int) (m : Nat) : Prop := ∀ k, k < m → Fit top (L k) n ∧ ∀ j, j < k → ¬ Meets (L k) (L j) n
theorem Lanes.succ {top : Nat} {n : Int} {L : Nat → Int} {m : Nat} (h : Lanes top n L m) (hf : Fit top (L m) n) (hj : ∀ j, j < m → ¬ Meets (L m) (L j) n) : Lanes top n L (m + 1) := by
  intro k hk
  rcases Nat.lt_or_ge k m with h' | h'
  · exact h k h'
  · obtain rfl : k = m := by omega
    exact ⟨hf, hj⟩
set_option maxRecDepth 10000 in
set_option maxHeartbeats 1600000 in
theorem uApart_any {w : World} {p g lp : Nat} {FL : Nat → Prop} {ws : List Int} {top : Nat} {evs : List Ev} (h : Ar w p g lp FL ws top evs) (n : Int) (A : Option Addr) (m c : Nat) (L : Nat → Int)
    (hA : 0 < m → ∃ b o, A = some ⟨b, o, none⟩ ∧ ∀ i, i < m → w.cell? ⟨b, o + i, none⟩ = some (.int .i64 (L i))) (hm : m ≤ 1000000) (hmc : m ≤ c) :
    Calls Try.prog 59 #[.pointer (some ⟨p, 0, none⟩), .int .i64 n, .slice A m c] w fun e w' => ∃ r : Bool, e = .returned (.bool r) ∧ (r = true ↔ Lanes top n L m) ∧ w' = w := by
  have H := Lib.hid h
  have HA := Lib.hid hA
  have ht : (top : Int) ≤ 4194304 := by have := h.ht; have := h.hz; omega
  clear h hA
  go_enter Try.func59, Try.ntmps59
  go_wp2_with fail
  go_loopw [13] (fun i wr => ∃ k : Nat, k ≤ m ∧ i = .int .i64 k ∧ Lanes top n L k ∧ wr = w) (fun i _ => m - (intOf i).toNat)
  case atStart => exact ⟨0, Nat.zero_le _, rfl, fun k hk => absurd hk (Nat.not_lt_zero k), rfl⟩
  case round =>
    obtain ⟨k, hk, rfl, hL, hwr⟩ := hrel
    replace hwr := hwr.symm
    subst hwr
    have HL := Lib.hid hL
    clear hL
    by_cases hkm : k < m
    · obtain ⟨b, o, rfl, hcs⟩ := HA.out (by omega)
      have hck := hcs k hkm
      obtain ⟨x, hx⟩ : ∃ x, L k = x := ⟨_, rfl⟩
      rw [hx] at hck
      have HC := Lib.hid hcs
      clear hcs
      by_cases hf : Fit top x n
      · have hd := decide_eq_true hf
        go_wp2_with (go_at_call 56; with_reducible refine (Fits_any H.out _ _).mono ?_; rintro e w1 ⟨rfl, hw⟩; replace hw := hw.symm; subst hw; rw [hd])
        unfold Fit at hf
        go_loopw [27] (fun i w2 => ∃ q : Nat, q ≤ k ∧ i = .int .i64 q ∧ (∀ j, j < q → ¬ Meets x (L j) n) ∧ w2 = w) (fun i _ => k - (intOf i).toNat)
        case atStart => exact ⟨0, Nat.zero_le _, rfl, fun j hj => absurd hj (Nat.not_lt_zero j), rfl⟩
        case round =>
          obtain ⟨q, hq, rfl, hM, hwr⟩ := hrel
          replace hwr := hwr.symm
          subst hwr
          have HM := Lib.hid hM
          clear hM
          by_cases hqk : q < k
          · have hcq := HC.out q (by omega)
            have hfq := (HL.out q hqk).1
            obtain ⟨y, hy⟩ : ∃ y, L q = y := ⟨_, rfl⟩
            rw [hy] at hcq hfq
            unfold Fit at hfq
            by_cases h1 : 0 < n
            · by_cases h2 : x < y + n
              · by_cases h3 : y < x + n
                · go_wp2_with fail
                  go_ret
                  refine ⟨false, rfl, ⟨fun h => absurd h (by simp), fun h => ?_⟩, rfl⟩
                  have h4 := (h k hkm).2 q hqk
                  rw [hx, hy] at h4
                  exact absurd ⟨h1, h2, h3⟩ h4
                · have h3' : x + n ≤ y := by omega
                  clear h3
                  go_wp2_with fail
                  refine ⟨⟨q + 1, by omega, by go_num, fun j hj => ?_, trivial⟩, by simp [intOf]; omega⟩
                  rcases Nat.lt_or_ge j q with h5 | h5
                  · exact HM.out j h5
                  · obtain rfl : j = q := by omega
                    rw [hy]; unfold Meets; omega
              · have h2' : y + n ≤ x := by omega
                clear h2
                go_wp2_with fail
                refine ⟨⟨q + 1, by omega, by go_num, fun j hj => ?_, trivial⟩, by simp [intOf]; omega⟩
                rcases Nat.lt_or_ge j q with h5 | h5
                · exact HM.out j h5
                · obtain rfl : j = q := by omega
                  rw [hy]; unfold Meets; omega
            · have h1' : n ≤ 0 := by omega
              clear h1
              go_wp2_with fail
              refine ⟨⟨q + 1, by omega, by go_num, fun j hj => ?_, trivial⟩, by simp [intOf]; omega⟩
              rcases Nat.lt_or_ge j q with h5 | h5
              · exact HM.out j h5
              · obtain rfl : j = q := by omega
                rw [hy]; unfold Meets; omega
          · have hge : k ≤ q := by omega
            go_wp2_with fail
            refine ⟨⟨k + 1, by omega, by go_num, ?_, trivial⟩, by simp [intOf]; omega⟩
            refine HL.out.succ (by rw [hx]; exact hf) (fun j hj => ?_)
            rw [hx]
            exact HM.out j (by omega)
      · have hd := decide_eq_false hf
        go_wp2_with (go_at_call 56; with_reducible refine (Fits_any H.out _ _).mono ?_; rintro e w1 ⟨rfl, hw⟩; replace hw := hw.symm; subst hw; rw [hd])
        go_ret
        refine ⟨false, rfl, ⟨fun h => absurd h (by simp), fun h => ?_⟩, rfl⟩
        have h4 := (h k hkm).1
        rw [hx] at h4
        exact absurd h4 hf
    · have hge : m ≤ k := by omega
      go_wp2_with fail
      go_ret
      have hE : k = m := by omega
      exact ⟨true, rfl, ⟨fun _ => by rw [← hE]; exact HL.out, fun _ => rfl⟩, rfl⟩
set_option maxRecDepth 10000 in
set_option maxHeartbeats 1600000 in
theorem pApart_any {w : World} {p g lp : Nat} {FL : Nat → Prop} {ws : List Int} {top : Nat} {evs : List Ev} (h : Ar w p g lp FL ws top evs) (n : Int) (A : Option Addr) (m c : Nat) (L : Nat → Int)
    (hA : 0 < m → ∃ b o, A = some ⟨b, o, none⟩ ∧ ∀ i, i < m → w.cell? ⟨b, o + i, none⟩ = some (.int .i64 (L i))) (hm : m ≤ 1000000) (hmc : m ≤ c) :
    Calls Try.prog 63 #[.pointer (some ⟨p, 0, none⟩), .int .i64 n, .slice A m c] w fun e w' => ∃ r : Bool, e = .returned (.bool r) ∧ (r = true ↔ Lanes top n L m) ∧ w' = w := by
  have H := Lib.hid h
  have HA := Lib.hid hA
  have ht : (top : Int) ≤ 4194304 := by have := h.ht; have := h.hz; omega
  clear h hA
  go_enter Try.func63, Try.ntmps63
  go_wp2_with fail
  go_loopw [13] (fun i wr => ∃ k : Nat, k ≤ m ∧ i = .int .i64 k ∧ Lanes top n L k ∧ wr = w) (fun i _ => m - (intOf i).toNat)
  case atStart => exact ⟨0, Nat.zero_le _, rfl, fun k hk => absurd hk (Nat.not_lt_zero k), rfl⟩
  case round =>
    obtain ⟨k, hk, rfl, hL, hwr⟩ := hrel
    replace hwr := hwr.symm
    subst hwr
    have HL := Lib.hid hL
    clear hL
    by_cases hkm : k < m
    · obtain ⟨b, o, rfl, hcs⟩ := HA.out (by omega)
      have hck := hcs k hkm
      obtain ⟨x, hx⟩ : ∃ x, L k = x := ⟨_, rfl⟩
      rw [hx] at hck
      have HC := Lib.hid hcs
      clear hcs
      by_cases hf : Fit top x n
      · have hd := decide_eq_true hf
        go_wp2_with (go_at_call 56; with_reducible refine (Fits_any H.out _ _).mono ?_; rintro e w1 ⟨rfl, hw⟩; replace hw := hw.symm; subst hw; rw [hd])
        unfold Fit at hf
        go_loopw [27] (fun i w2 => ∃ q : Nat, q ≤ k ∧ i = .int .i64 q ∧ (∀ j, j < q → ¬ Meets x (L j) n) ∧ w2 = w) (fun i _ => k - (intOf i).toNat)
        case atStart => exact ⟨0, Nat.zero_le _, rfl, fun j hj => absurd hj (Nat.not_lt_zero j), rfl⟩
        case round =>
          obtain ⟨q, hq, rfl, hM, hwr⟩ := hrel
          replace hwr := hwr.symm
          subst hwr
          have HM := Lib.hid hM
          clear hM
          by_cases hqk : q < k
          · have hcq := HC.out q (by omega)
            have hfq := (HL.out q hqk).1
            obtain ⟨y, hy⟩ : ∃ y, L q = y := ⟨_, rfl⟩
            rw [hy] at hcq hfq
            unfold Fit at hfq
            by_cases h1 : 0 < n
            · by_cases h2 : x < y + n
              · by_cases h3 : y < x + n
                · go_wp2_with fail
                  go_ret
                  refine ⟨false, rfl, ⟨fun h => absurd h (by simp), fun h => ?_⟩, rfl⟩
                  have h4 := (h k hkm).2 q hqk
                  rw [hx, hy] at h4
                  exact absurd ⟨h1, h2, h3⟩ h4
                · have h3' : x + n ≤ y := by omega
                  clear h3
                  go_wp2_with fail
                  refine ⟨⟨q + 1, by omega, by go_num, fun j hj => ?_, trivial⟩, by simp [intOf]; omega⟩
                  rcases Nat.lt_or_ge j q with h5 | h5
                  · exact HM.out j h5
                  · obtain rfl : j = q := by omega
                    rw [hy]; unfold Meets; omega
              · have h2' : y + n ≤ x := by omega
                clear h2
                go_wp2_with fail
                refine ⟨⟨q + 1, by omega, by go_num, fun j hj => ?_, trivial⟩, by simp [intOf]; omega⟩
                rcases Nat.lt_or_ge j q with h5 | h5
                · exact HM.out j h5
                · obtain rfl : j = q := by omega
                  rw [hy]; unfold Meets; omega
            · have h1' : n ≤ 0 := by omega
              clear h1
              go_wp2_with fail
              refine ⟨⟨q + 1, by omega, by go_num, fun j hj => ?_, trivial⟩, by simp [intOf]; omega⟩
              rcases Nat.lt_or_ge j q with h5 | h5
              · exact HM.out j h5
              · obtain rfl : j = q := by omega
                rw [hy]; unfold Meets; omega
          · have hge : k ≤ q := by omega
            go_wp2_with fail
            refine ⟨⟨k + 1, by omega, by go_num, ?_, trivial⟩, by simp [intOf]; omega⟩
            refine HL.out.succ (by rw [hx]; exact hf) (fun j hj => ?_)
            rw [hx]
            exact HM.out j (by omega)
      · have hd := decide_eq_false hf
        go_wp2_with (go_at_call 56; with_reducible refine (Fits_any H.out _ _).mono ?_; rintro e w1 ⟨rfl, hw⟩; replace hw := hw.symm; subst hw; rw [hd])
        go_ret
        refine ⟨false, rfl, ⟨fun h => absurd h (by simp), fun h => ?_⟩, rfl⟩
        have h4 := (h k hkm).1
        rw [hx] at h4
        exact absurd h4 hf
    · have hge : m ≤ k := by omega
      go_wp2_with fail
      go_ret
      have hE : k = m := by omega
      exact ⟨true, rfl, ⟨fun _ => by rw [← hE]; exact HL.out, fun _ => rfl⟩, rfl⟩
end Go.Proofs.Ytjoehhojhfgooaa
