/- shares.Split refuses. No condition. -/
import Derived.Test.YtdakbejppnijdaaSsC
namespace Go.Proofs.Ytdakbejppnijdaa
open Go.RowKit
set_option linter.unusedSimpArgs false
set_option linter.unusedVariables false
attribute [local go_sem] IntKind.wrap_u32' signed_u32 max_u32
attribute [local go_sem ↓] Go.wp_at_zero Go.wp_at_succ
attribute [local go_sem] Calm.C
attribute [local go_sem low] Calm.al_cell Calm.al_frozen
theorem Fits_d {w : World} {p g lp : Nat} {FL : Nat → Prop} {ws : List Int} {top : Nat} {evs : List Ev} (h : Ar w p g lp FL ws top evs) (a n : Int) (b : Bool) (hb : decide (0 ≤ a ∧ 0 ≤ n ∧ a + n ≤ top) = b) :
    Calls Try.prog 61 #[.pointer (some ⟨p, 0, none⟩), .int .i64 a, .int .i64 n] w fun e w' => e = .returned (.bool b) ∧ w' = w := by
  subst hb
  by_cases hc : 0 ≤ a ∧ 0 ≤ n ∧ a + n ≤ top
  · rw [decide_eq_true hc]
    exact Fits_t h a n hc.1 hc.2.1 hc.2.2
  · rw [decide_eq_false hc]
    exact Fits_f h a n hc
theorem sApart_f (x nx y ny : Int) (h1 : -1000000000 ≤ x ∧ x ≤ 1000000000) (h2 : -1000000000 ≤ nx ∧ nx ≤ 1000000000) (h3 : -1000000000 ≤ y ∧ y ≤ 1000000000) (h4 : -1000000000 ≤ ny ∧ ny ≤ 1000000000) (h : ¬ (x ≥ y + ny ∨ y ≥ x + nx)) (w : World) :
    Calls Try.prog 75 #[.int .i64 x, .int .i64 nx, .int .i64 y, .int .i64 ny] w fun e w' => e = .returned (.bool false) ∧ w' = w := by
  have h5 : decide (y + ny ≤ x) = false := decide_eq_false (by omega)
  have h6 : decide (x + nx ≤ y) = false := decide_eq_false (by omega)
  go_enter Try.func75, Try.ntmps75
  go_wp2_with fail
  go_ret
  exact ⟨rfl, rfl⟩
set_option maxRecDepth 100000 in
set_option maxHeartbeats 4000000 in
/-- The numbers may not be. -/
theorem sSplit_a (w : World) (p : Nat) (A : Option Addr) (ml c : Nat) (hml : ml ≤ 9223372036854775807) (at_ n cnt L out : Int) (h : ¬ (1 ≤ n ∧ n ≤ 4096 ∧ 1 ≤ L ∧ L ≤ cnt ∧ cnt ≤ 255)) :
    Calls Try.prog 29 #[.pointer (some ⟨p, 0, none⟩), .int .i64 at_, .int .i64 n, .int .i64 cnt, .int .i64 L, .slice A ml c, .int .i64 out] w fun e w' => e = .returned (.bool false) ∧ w' = w := by
  rcases (by omega : n < 1 ∨ (¬ n < 1 ∧ 4096 < n) ∨ (¬ n < 1 ∧ ¬ 4096 < n ∧ L < 1) ∨ (¬ n < 1 ∧ ¬ 4096 < n ∧ ¬ L < 1 ∧ cnt < L) ∨ (¬ n < 1 ∧ ¬ 4096 < n ∧ ¬ L < 1 ∧ ¬ cnt < L ∧ 255 < cnt)) with h1 | ⟨h1, h2⟩ | ⟨h1, h2, h3⟩ | ⟨h1, h2, h3, h4⟩ | ⟨h1, h2, h3, h4, h5⟩
  · have d1 : decide (n < 1) = true := decide_eq_true h1
    clear h
    go_enter Try.func29, Try.ntmps29
    go_wp2_with fail
    go_ret
    exact ⟨rfl, rfl⟩
  · have d1 : decide (n < 1) = false := decide_eq_false h1
    have d2 : decide (4096 < n) = true := decide_eq_true h2
    clear h
    go_enter Try.func29, Try.ntmps29
    go_wp2_with fail
    go_ret
    exact ⟨rfl, rfl⟩
  · have d1 : decide (n < 1) = false := decide_eq_false h1
    have d2 : decide (4096 < n) = false := decide_eq_false h2
    have d3 : decide (L < 1) = true := decide_eq_true h3
    clear h
    go_enter Try.func29, Try.ntmps29
    go_wp2_with fail
    go_ret
    exact ⟨rfl, rfl⟩
  · have d1 : decide (n < 1) = false := decide_eq_false h1
    have d2 : decide (4096 < n) = false := decide_eq_false h2
    have d3 : decide (L < 1) = false := decide_eq_false h3
    have d4 : decide (cnt < L) = true := decide_eq_true h4
    clear h
    go_enter Try.func29, Try.ntmps29
    go_wp2_with fail
    go_ret
    exact ⟨rfl, rfl⟩
  · have d1 : decide (n < 1) = false := decide_eq_false h1
    have d2 : decide (4096 < n) = false := decide_eq_false h2
    have d3 : decide (L < 1) = false := decide_eq_false h3
    have d4 : decide (cnt < L) = false := decide_eq_false h4
    have d5 : decide (255 < cnt) = true := decide_eq_true h5
    clear h
    go_enter Try.func29, Try.ntmps29
    go_wp2_with fail
    go_ret
    exact ⟨rfl, rfl⟩
set_option maxRecDepth 100000 in
set_option maxHeartbeats 4000000 in
/-- Too few bytes more, or lanes that are not within, or not apart. -/
theorem sSplit_b {w : World} {p g lp : Nat} {FL : Nat → Prop} {ws : List Int} {top : Nat} {evs : List Ev} (h : Ar w p g lp FL ws top evs) (A : Option Addr) (ml c : Nat) (hml : ml ≤ 9223372036854775807) (at_ out : Int) (n cnt L : Nat) (hn1 : 1 ≤ n) (hn : n ≤ 4096) (hL : L + 1 ≤ cnt) (hcnt : cnt ≤ 255)
    (hno : ¬ (n * L ≤ ml ∧ (0 ≤ at_ ∧ at_ + n ≤ top) ∧ (0 ≤ out ∧ out + (cnt * n : Nat) ≤ top) ∧ (at_ ≥ out + (cnt * n : Nat) ∨ out ≥ at_ + n))) :
    Calls Try.prog 29 #[.pointer (some ⟨p, 0, none⟩), .int .i64 at_, .int .i64 n, .int .i64 cnt, .int .i64 ((L : Int) + 1), .slice A ml c, .int .i64 out] w fun e w' => e = .returned (.bool false) ∧ w' = w := by
  have HA := Lib.hid h
  have htop : (top : Int) ≤ 4194304 := by have := h.ht; have := h.hz; omega
  obtain ⟨S, hS⟩ : ∃ S, cnt * n = S := ⟨_, rfl⟩
  have hSI : (cnt : Int) * (n : Int) = (S : Int) := by rw [← hS]; simp
  have hS1 : S ≤ 255 * 4096 := by rw [← hS]; exact Nat.mul_le_mul hcnt hn
  rw [hS] at hno
  have HND := Lib.hid (fun w => sNeed_in n (L + 1) (by omega) (by omega) w)
  obtain ⟨Q, hQ⟩ : ∃ Q, n * L = Q := ⟨_, rfl⟩
  rw [hQ] at hno
  rw [show L + 1 - 1 = L by omega, hQ] at HND
  have HNO := Lib.hid hno
  have dd1 : decide ((n : Int) < 1) = false := decide_eq_false (by omega)
  have dd2 : decide ((4096 : Int) < (n : Int)) = false := decide_eq_false (by omega)
  have dd3 : decide ((L : Int) + 1 < 1) = false := decide_eq_false (by omega)
  have dd4 : decide ((cnt : Int) < (L : Int) + 1) = false := decide_eq_false (by omega)
  have dd5 : decide ((255 : Int) < (cnt : Int)) = false := decide_eq_false (by omega)
  clear h hS hQ hno
  by_cases hq : ml < Q
  · have dd6 : decide ((ml : Int) < (Q : Int)) = true := decide_eq_true (by omega)
    go_enter Try.func29, Try.ntmps29
    go_wp2_with (go_at_call 30; refine (HND.out _).mono ?_; rintro e w1 ⟨rfl, hw1⟩; replace hw1 := hw1.symm; subst hw1)
    go_ret
    exact ⟨rfl, rfl⟩
  · have dd6 : decide ((ml : Int) < (Q : Int)) = false := decide_eq_false (by omega)
    by_cases hf1 : 0 ≤ at_ ∧ 0 ≤ (n : Int) ∧ at_ + n ≤ top
    · have F1 := Lib.hid (decide_eq_true hf1)
      by_cases hf2 : 0 ≤ out ∧ 0 ≤ (S : Int) ∧ out + S ≤ top
      · have F2 := Lib.hid (decide_eq_true hf2)
        have hap : ¬ (at_ ≥ out + (S : Int) ∨ out ≥ at_ + (n : Int)) := fun hx => HNO.out ⟨by omega, ⟨hf1.1, hf1.2.2⟩, ⟨hf2.1, hf2.2.2⟩, hx⟩
        have HAP := Lib.hid hap
        obtain ⟨a1, a2, a3⟩ := hf1
        obtain ⟨b1, b2, b3⟩ := hf2
        clear hap
        go_enter Try.func29, Try.ntmps29
        go_wp2_with (first
          | (go_at_call 30; refine (HND.out _).mono ?_; rintro e w1 ⟨rfl, hw1⟩; replace hw1 := hw1.symm; subst hw1)
          | (go_at_call 61; (first | (with_reducible refine (Fits_d HA.out _ _ true F1.out).mono ?_) | (with_reducible refine (Fits_d HA.out _ _ true F2.out).mono ?_)); rintro e w1 ⟨rfl, hw1⟩; replace hw1 := hw1.symm; subst hw1)
          | (go_at_call 75; refine (sApart_f _ _ _ _ (by omega) (by omega) (by omega) (by omega) HAP.out _).mono ?_; rintro e w1 ⟨rfl, hw1⟩; replace hw1 := hw1.symm; subst hw1))
        go_ret
        exact ⟨rfl, rfl⟩
      · have F2 := Lib.hid (decide_eq_false hf2)
        clear hf2
        go_enter Try.func29, Try.ntmps29
        go_wp2_with (first
          | (go_at_call 30; refine (HND.out _).mono ?_; rintro e w1 ⟨rfl, hw1⟩; replace hw1 := hw1.symm; subst hw1)
          | (go_at_call 61; (first | (with_reducible refine (Fits_d HA.out _ _ true F1.out).mono ?_) | (with_reducible refine (Fits_d HA.out _ _ false F2.out).mono ?_)); rintro e w1 ⟨rfl, hw1⟩; replace hw1 := hw1.symm; subst hw1))
        go_ret
        exact ⟨rfl, rfl⟩
    · have F1 := Lib.hid (decide_eq_false hf1)
      clear hf1
      go_enter Try.func29, Try.ntmps29
      go_wp2_with (first
        | (go_at_call 30; refine (HND.out _).mono ?_; rintro e w1 ⟨rfl, hw1⟩; replace hw1 := hw1.symm; subst hw1)
        | (go_at_call 61; (with_reducible refine (Fits_d HA.out _ _ false F1.out).mono ?_); rintro e w1 ⟨rfl, hw1⟩; replace hw1 := hw1.symm; subst hw1))
      go_ret
      exact ⟨rfl, rfl⟩
end Go.Proofs.Ytdakbejppnijdaa
