/- SortnetCounts: the law's call, for every two ints. No condition. -/
import Derived.Test.YtflapbnbeipddaaSnW
import Derived.Test.YtflapbnbeipddaaSnN
namespace Go.Proofs.Ytflapbnbeipddaa
open Go.RowKit
set_option linter.unusedSimpArgs false
set_option linter.unusedVariables false
attribute [local go_sem] IntKind.wrap_u32' signed_u32 max_u32
attribute [local go_sem ↓] Go.wp_at_zero Go.wp_at_succ
set_option maxRecDepth 20000 in
set_option maxHeartbeats 4000000 in
theorem SortnetCounts_any (w : World) (N Lw : Int) (hN : -9223372036854775808 ≤ N ∧ N ≤ 9223372036854775807) (hL : -9223372036854775808 ≤ Lw ∧ Lw ≤ 9223372036854775807) :
    Calls Try.prog 7 #[.int .i64 N, .int .i64 Lw] w fun e w' => e = .returned (.bool true) ∧ Below w.heap.size w w' := by
  by_cases h1 : 400 < N ∧ N ≤ 12288
  · obtain ⟨h1, h2⟩ := h1
    go_enter Try.func7, Try.ntmps7
    go_wp2_with (go_at_call 13; refine (awake03_any _).mono ?_; rintro e w1 ⟨rfl, hb⟩; have B1 := Lib.hid hb; clear hb)
    go_ret
    exact ⟨rfl, B1.out⟩
  have hlim := Sn.nets_le N
  have hfew := Lib.hid (Sn.nets_few N)
  have hcnt := Lib.hid (Sn.counts N.toNat)
  have HC := Lib.hid (fun w => snCount_any N w)
  have HP := Lib.hid (fun w => snPairs1_any N w)
  obtain ⟨M, hM⟩ : ∃ M, (Sn.nets N).length = M := ⟨_, rfl⟩
  rw [hM] at HC HP hlim hfew
  have HM := Lib.hid hM
  clear hM
  by_cases hl : 1000 < Lw
  · rcases (show N ≤ 400 ∨ (400 < N ∧ 12288 < N) by omega) with hn | ⟨hn, hn2⟩
    all_goals
      go_enter Try.func7, Try.ntmps7
      go_wp2_with (go_at_call 13; refine (awake03_any _).mono ?_; rintro e w1 ⟨rfl, hb⟩; have B1 := Lib.hid hb; clear hb)
      go_ret
      exact ⟨rfl, B1.out⟩
  have HK := Lib.hid (fun w => snCost_any N Lw (by omega) w)
  rw [HM.out] at HK
  rcases (show (N < 2 ∨ 12288 < N) ∨ (2 ≤ N ∧ N ≤ 400) by omega) with hn | ⟨hn1, hn2⟩
  · have hM0 : M = 0 := hfew.out hn
    subst hM0
    have z1 : (((0 : Nat) : Int) * 4 * Lw) = 0 := by simp
    rcases hn with hn | hn
    all_goals
      rcases (show Lw < 2 ∨ 2 ≤ Lw by omega) with hl2 | hl2
      all_goals
        first | rw [if_pos hl2] at HK | rw [if_neg (show ¬ Lw < 2 by omega), z1] at HK
        go_enter Try.func7, Try.ntmps7
        go_wp2_with (first
      | (go_at_call 13; refine (awake03_any _).mono ?_; rintro e w1 ⟨rfl, hb⟩; have B1 := Lib.hid hb; have hs1 := hb.size; clear hb)
      | (go_at_call 26; refine (HC.out _).mono ?_; rintro e w2 ⟨rfl, hb⟩; have B2 := Lib.hid hb; have hs2 := hb.size; clear hb)
      | (go_at_call 14; refine (HP.out _).mono ?_; rintro e w3 ⟨v, rfl, hown, hb⟩; have B3 := Lib.hid hb; have hs3 := hb.size; clear hb; obtain ⟨Ap, cp, rfl⟩ := own_slice hown; clear hown)
      | (go_at_call 27; refine (HK.out _).mono ?_; rintro e w4 ⟨rfl, hb⟩; have B4 := Lib.hid hb; have hs4 := hb.size; clear hb)
      | (go_at_call 28; refine (HBt.out _).mono ?_; rintro e w5 ⟨rfl, hb⟩; have B5 := Lib.hid hb; have hs5 := hb.size; clear hb))
        go_ret
        exact ⟨rfl, bl_then B4 (bl_then B3 (bl_then B2 B1.out hs1) (by omega)) (by omega)⟩
  · obtain ⟨n, rfl⟩ := Int.eq_ofNat_of_zero_le (show 0 ≤ N by omega)
    have c := hcnt.out
    rw [Int.toNat_natCast] at c
    obtain ⟨c1, c2, c3⟩ := c (by omega) (by omega)
    rw [HM.out] at c1 c2
    have HBt := Lib.hid (fun w => bits03_any n (by omega) w)
    have hn4 : n ≤ 400 := by omega
    generalize Lib.bitLen n = b at *
    have d1 : (b : Int) * b ≤ 64 * 64 := Int.mul_le_mul (by omega) (by omega) (by omega) (by omega)
    have d0 : 0 ≤ (b : Int) * b := Int.mul_nonneg (by omega) (by omega)
    have d2 : (n : Int) * ((b : Int) * b + b) ≤ 400 * 4160 := Int.mul_le_mul (by omega) (by omega) (by omega) (by omega)
    have d3 : 0 ≤ (n : Int) * ((b : Int) * b + b) := Int.mul_nonneg (by omega) (by omega)
    have d4 : 4 * (M : Int) ≤ (n : Int) * ((b : Int) * b + b) := by
      have := Int.ofNat_le.2 c1
      simpa using this
    have d5 : wrap64 ((b : Int) * b) = (b : Int) * b := IntWalk.wrap64_in _ (by omega)
    have d6 : wrap64 ((b : Int) * b + b) = (b : Int) * b + b := IntWalk.wrap64_in _ (by omega)
    have d7 : wrap64 ((n : Int) * ((b : Int) * b + b)) = (n : Int) * ((b : Int) * b + b) := IntWalk.wrap64_in _ (by omega)
    clear c c1 hcnt hfew
    rcases (show Lw < 2 ∨ 2 ≤ Lw by omega) with hl2 | hl2
    · rw [if_pos hl2] at HK
      go_enter Try.func7, Try.ntmps7
      go_wp2_with (first
      | (go_at_call 13; refine (awake03_any _).mono ?_; rintro e w1 ⟨rfl, hb⟩; have B1 := Lib.hid hb; have hs1 := hb.size; clear hb)
      | (go_at_call 26; refine (HC.out _).mono ?_; rintro e w2 ⟨rfl, hb⟩; have B2 := Lib.hid hb; have hs2 := hb.size; clear hb)
      | (go_at_call 14; refine (HP.out _).mono ?_; rintro e w3 ⟨v, rfl, hown, hb⟩; have B3 := Lib.hid hb; have hs3 := hb.size; clear hb; obtain ⟨Ap, cp, rfl⟩ := own_slice hown; clear hown)
      | (go_at_call 27; refine (HK.out _).mono ?_; rintro e w4 ⟨rfl, hb⟩; have B4 := Lib.hid hb; have hs4 := hb.size; clear hb)
      | (go_at_call 28; refine (HBt.out _).mono ?_; rintro e w5 ⟨rfl, hb⟩; have B5 := Lib.hid hb; have hs5 := hb.size; clear hb))
      go_ret
      exact ⟨congrArg (fun x : Bool => Ending.returned (.bool x)) (decide_eq_true (by omega)), bl_then B5 (bl_then B4 (bl_then B3 (bl_then B2 B1.out hs1) (by omega)) (by omega)) (by omega)⟩
    · rw [if_neg (show ¬ Lw < 2 by omega)] at HK
      have b1 : 0 ≤ (M : Int) * 4 * Lw := Int.mul_nonneg (by omega) (by omega)
      have b2 : (M : Int) * 4 * Lw ≤ 16000000 * 1000 := Int.mul_le_mul (by omega) (by omega) (by omega) (by omega)
      have e1 : wrap64 ((M : Int) * 4) = (M : Int) * 4 := IntWalk.wrap64_in _ (by omega)
      have e2 : wrap64 ((M : Int) * 4 * Lw) = (M : Int) * 4 * Lw := IntWalk.wrap64_in _ (by omega)
      go_enter Try.func7, Try.ntmps7
      go_wp2_with (first
      | (go_at_call 13; refine (awake03_any _).mono ?_; rintro e w1 ⟨rfl, hb⟩; have B1 := Lib.hid hb; have hs1 := hb.size; clear hb)
      | (go_at_call 26; refine (HC.out _).mono ?_; rintro e w2 ⟨rfl, hb⟩; have B2 := Lib.hid hb; have hs2 := hb.size; clear hb)
      | (go_at_call 14; refine (HP.out _).mono ?_; rintro e w3 ⟨v, rfl, hown, hb⟩; have B3 := Lib.hid hb; have hs3 := hb.size; clear hb; obtain ⟨Ap, cp, rfl⟩ := own_slice hown; clear hown)
      | (go_at_call 27; refine (HK.out _).mono ?_; rintro e w4 ⟨rfl, hb⟩; have B4 := Lib.hid hb; have hs4 := hb.size; clear hb)
      | (go_at_call 28; refine (HBt.out _).mono ?_; rintro e w5 ⟨rfl, hb⟩; have B5 := Lib.hid hb; have hs5 := hb.size; clear hb))
      go_ret
      exact ⟨congrArg (fun x : Bool => Ending.returned (.bool x)) (decide_eq_true (by omega)), bl_then B5 (bl_then B4 (bl_then B3 (bl_then B2 B1.out hs1) (by omega)) (by omega)) (by omega)⟩
end Go.Proofs.Ytflapbnbeipddaa
