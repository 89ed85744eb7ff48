/- The products of bytes that all may know. No condition. -/
import Derived.Test.YtdakbejppnijdaaCt
import Derived.Test.YtdakbejppnijdaaCtPlain
import Derived.Test.YtdakbejppnijdaaCalm
import Derived.Test.YtdakbejppnijdaaShDef
namespace Go.Proofs.Ytdakbejppnijdaa
open Go.RowKit
set_option linter.unusedSimpArgs false
set_option linter.unusedVariables false
attribute [local go_sem] IntKind.wrap_u32' signed_u32 max_u32
attribute [local go_sem ↓] Go.wp_at_zero Go.wp_at_succ
attribute [local irreducible] Gf.pw Gf.sum Gf.cl Gf.red
theorem and128 (A : Nat) (hA : A < 256) : bits .and .u8 (A : Int) 128 = if A < 128 then 0 else 128 := by
  rw [show bits .and .u8 (A : Int) 128 = ((A &&& 128 : Nat) : Int) from u8_and_nat A 128 hA (by decide)]
  have : ∀ x : Fin 256, ((x.val &&& 128 : Nat) : Int) = if x.val < 128 then 0 else 128 := by decide +kernel
  exact this ⟨A, hA⟩
theorem i64_xor_nat (a b : Nat) (ha : a < 4294967296) (hb : b < 4294967296) : bits .xor .i64 (a : Int) (b : Int) = ((a ^^^ b : Nat) : Int) := by
  have hx : a ^^^ b < 2 ^ 32 := Nat.xor_lt_two_pow (by omega) (by omega)
  show IntKind.i64.wrap ((BitVec.ofInt 64 (a : Int) ^^^ BitVec.ofInt 64 (b : Int)).toNat : Int) = _
  rw [BitVec.toNat_xor, ofInt_u64 a (by omega), ofInt_u64 b (by omega), IntKind.wrap_i64]
  omega
theorem i64_and_nat (a b : Nat) (ha : a < 4294967296) (hb : b < 4294967296) : bits .and .i64 (a : Int) (b : Int) = ((a &&& b : Nat) : Int) := by
  have hx : a &&& b < 2 ^ 32 := Nat.and_lt_two_pow _ (by omega)
  show IntKind.i64.wrap ((BitVec.ofInt 64 (a : Int) &&& BitVec.ofInt 64 (b : Int)).toNat : Int) = _
  rw [BitVec.toNat_and, ofInt_u64 a (by omega), ofInt_u64 b (by omega), IntKind.wrap_i64]
  omega
set_option maxHeartbeats 800000 in
theorem sTimes_any (a b : Nat) (ha : a < 256) (hb : b < 256) (w : World) : Calls Try.prog 70 #[.int .u8 a, .int .u8 b] w fun e w' => e = .returned (.int .u8 (Gf.T a b : Nat)) ∧ w' = w := by
  go_enter Try.func70, Try.ntmps70
  go_wp2_with fail
  go_loopw [0, 1, 5] (fun a0 a1 a5 wr => ∃ k : Nat, k ≤ 8 ∧ a0 = .int .u8 (Gf.pw a k : Nat) ∧ a1 = .int .u8 (b / 2 ^ k : Nat) ∧ a5 = .int .u8 (Gf.sum a b k : Nat) ∧ wr = w) (fun _ a1 _ _ => (intOf a1).toNat)
  case atStart => exact ⟨0, by decide, by rw [Gf.pw_zero], by simp, by rw [Gf.sum_zero]; rfl, rfl⟩
  case round =>
    obtain ⟨k, hk, rfl, rfl, rfl, rfl⟩ := hrel
    have P := Gf.pw_succ a k
    have M := Gf.sum_succ a b k
    have D : b / 2 ^ (k + 1) = b / 2 ^ k / 2 := by rw [Nat.pow_succ, Nat.div_div_eq_div_mul]
    have E := Gf.sum_stop a b k
    have L : 0 < b / 2 ^ k → k < 8 := fun h => Nat.lt_of_not_le fun hc => by
      have : k = 8 := by omega
      subst this
      omega
    have hA' := Gf.pw_lt a ha k
    have hB' : b / 2 ^ k < 256 := Nat.lt_of_le_of_lt (Nat.div_le_self _ _) hb
    have hS' := Gf.sum_lt a b ha k
    generalize Gf.pw a k = A at *
    generalize b / 2 ^ k = B at *
    generalize Gf.sum a b k = S at *
    by_cases h0 : 0 < B
    · have q1 : bits .and .u8 (B : Int) 1 = ((B % 2 : Nat) : Int) := by rw [← Nat.and_one_is_mod]; exact u8_and_nat B 1 hB' (by decide)
      have q2 : bits .xor .u8 (S : Int) (A : Int) = ((S ^^^ A : Nat) : Int) := u8_xor_nat S A hS' hA'
      have q3 := and128 A hA'
      have q4 : bits .xor .u8 ((A : Int) * 2 % 256) 27 = ((A * 2 % 256 ^^^ 27 : Nat) : Int) := u8_xor_nat (A * 2 % 256) 27 (by omega) (by decide)
      have hk8 := L h0
      clear E L
      by_cases h1 : B % 2 = 1
      all_goals
        by_cases h2 : A < 128
      all_goals
        first | rw [if_pos h1] at M | rw [if_neg h1] at M
        first | (rw [if_pos h2] at q3; rw [Gf.dbl_small A h2] at P) | (rw [if_neg h2] at q3; rw [Gf.dbl_large A h2] at P)
        go_wp2_with fail
        refine ⟨⟨k + 1, by omega, ?_, ?_, ?_, trivial⟩, ?_⟩
        · first | (rw [P]; done) | (rw [P]; simp; done)
        · first | (rw [D]; done) | (rw [D]; simp; done)
        · rw [M]
        · simp [intOf]; omega
    · have hB0 : B = 0 := by omega
      have hE : Gf.T a b = S := by have := E hB0 (8 - k); rw [show k + (8 - k) = 8 by omega] at this; exact this
      clear E L hB0
      go_wp2_with fail
      go_ret
      exact ⟨by rw [hE]; rfl, rfl⟩
attribute [local irreducible] Gf.T Gf.inv
set_option maxHeartbeats 800000 in
theorem sInverse_any (a : Nat) (ha : a < 256) (w : World) : Calls Try.prog 73 #[.int .u8 a] w fun e w' => e = .returned (.int .u8 (Gf.I a : Nat)) ∧ w' = w := by
  go_enter Try.func73, Try.ntmps73
  go_wp2_with fail
  go_loopw [3, 4, 5] (fun a3 a4 a5 wr => ∃ k : Nat, k ≤ 8 ∧ a3 = .int .u8 ((Gf.inv a k).1 : Nat) ∧ a4 = .int .u8 ((Gf.inv a k).2 : Nat) ∧ a5 = .int .i64 (254 / 2 ^ k : Nat) ∧ wr = w) (fun _ _ a5 _ => (intOf a5).toNat)
  case atStart => exact ⟨0, by decide, by rw [Gf.inv_zero]; rfl, by rw [Gf.inv_zero], by simp, rfl⟩
  case round =>
    obtain ⟨k, hk, rfl, rfl, rfl, rfl⟩ := hrel
    have M := Gf.inv_succ a k
    have D : 254 / 2 ^ (k + 1) = 254 / 2 ^ k / 2 := by rw [Nat.pow_succ, Nat.div_div_eq_div_mul]
    have L : 0 < 254 / 2 ^ k → k < 8 := fun h => Nat.lt_of_not_le fun hc => by
      have : k = 8 := by omega
      subst this
      omega
    have L' : ¬ 0 < 254 / 2 ^ k → k = 8 := fun h => by
      rcases (by omega : k = 0 ∨ k = 1 ∨ k = 2 ∨ k = 3 ∨ k = 4 ∨ k = 5 ∨ k = 6 ∨ k = 7 ∨ k = 8) with rfl | rfl | rfl | rfl | rfl | rfl | rfl | rfl | rfl <;> simp at h ⊢
    have hX := Gf.inv_lt a ha k
    have hB' : 254 / 2 ^ k < 256 := Nat.lt_of_le_of_lt (Nat.div_le_self _ _) (by decide)
    have hI : k = 8 → Gf.I a = (Gf.inv a k).1 := fun h => by rw [h]; rfl
    generalize 254 / 2 ^ k = B at *
    generalize Gf.inv a k = X at *
    obtain ⟨S, A⟩ := X
    obtain ⟨hS', hA'⟩ := hX
    dsimp only at *
    by_cases h0 : 0 < B
    · have q1 : bits .and .i64 (B : Int) 1 = ((B % 2 : Nat) : Int) := by rw [← Nat.and_one_is_mod]; exact i64_and_nat B 1 (by omega) (by decide)
      have hk8 := L h0
      clear hI L L'
      by_cases h1 : B % 2 = 1
      all_goals
        first | rw [if_pos h1] at M | rw [if_neg h1] at M
        go_wp2_with (first | (go_at_call 70; refine (sTimes_any _ _ (by omega) (by omega) _).mono ?_; rintro e w1 ⟨rfl, rfl⟩))
        refine ⟨⟨k + 1, by omega, ?_, ?_, ?_, trivial⟩, ?_⟩
        · rw [M]
        · rw [M]
        · first | (rw [D]; done) | (rw [D]; simp; done)
        · simp [intOf]; omega
    · have hE := hI (L' h0)
      clear hI L L'
      go_wp2_with fail
      go_ret
      exact ⟨by rw [hE]; rfl, rfl⟩
set_option maxHeartbeats 1600000 in
theorem rTimes_any (a b : Nat) (ha : a < 256) (hb : b < 256) (w : World) : Calls Try.prog 83 #[.int .u8 a, .int .u8 b] w fun e w' => e = .returned (.int .u8 (Gf.R a b : Nat)) ∧ w' = w := by
  go_enter Try.func83, Try.ntmps83
  go_wp2_with fail
  go_loopw [5, 6] (fun a5 a6 wr => ∃ k : Nat, k ≤ 8 ∧ a5 = .int .i64 (Gf.cl a b k : Nat) ∧ a6 = .int .i64 k ∧ wr = w) (fun _ a6 _ => 8 - (intOf a6).toNat)
  case atStart => exact ⟨0, by decide, by rw [Gf.cl_zero]; rfl, by simp, rfl⟩
  case round =>
    obtain ⟨k, hk, rfl, rfl, rfl⟩ := hrel
    have hS' := Gf.cl_lt a b ha k hk
    have M := Gf.cl_succ a b k
    have q2 : ∀ c : Nat, c ≤ 128 → bits .xor .i64 ((Gf.cl a b k : Nat) : Int) ((a : Int) * (c : Int)) = ((Gf.cl a b k ^^^ a * c : Nat) : Int) := fun c hc => by
      have h1 : a * c ≤ 255 * 128 := Nat.mul_le_mul (by omega) hc
      have := i64_xor_nat (Gf.cl a b k) (a * c) (by omega) (by omega)
      simpa using this
    rcases (by omega : k < 8 ∨ k = 8) with hk8 | rfl
    · by_cases h1 : b / 2 ^ k % 2 = 1
      all_goals
        rcases (by omega : k = 0 ∨ k = 1 ∨ k = 2 ∨ k = 3 ∨ k = 4 ∨ k = 5 ∨ k = 6 ∨ k = 7) with rfl | rfl | rfl | rfl | rfl | rfl | rfl | rfl
      all_goals
        first | rw [if_pos h1] at M | rw [if_neg h1] at M
        have p1 : bits .xor .i64 ((Gf.cl a b _ : Nat) : Int) (a : Int) = ((Gf.cl a b _ ^^^ a : Nat) : Int) := (by simpa using q2 1 (by decide))
        try simp only [Nat.pow_zero, Nat.mul_one] at M
        have p2 : bits .xor .i64 ((Gf.cl a b _ : Nat) : Int) ((a : Int) * 2) = ((Gf.cl a b _ ^^^ a * 2 : Nat) : Int) := q2 2 (by decide)
        have p4 : bits .xor .i64 ((Gf.cl a b _ : Nat) : Int) ((a : Int) * 4) = ((Gf.cl a b _ ^^^ a * 4 : Nat) : Int) := q2 4 (by decide)
        have p8 : bits .xor .i64 ((Gf.cl a b _ : Nat) : Int) ((a : Int) * 8) = ((Gf.cl a b _ ^^^ a * 8 : Nat) : Int) := q2 8 (by decide)
        have p16 : bits .xor .i64 ((Gf.cl a b _ : Nat) : Int) ((a : Int) * 16) = ((Gf.cl a b _ ^^^ a * 16 : Nat) : Int) := q2 16 (by decide)
        have p32 : bits .xor .i64 ((Gf.cl a b _ : Nat) : Int) ((a : Int) * 32) = ((Gf.cl a b _ ^^^ a * 32 : Nat) : Int) := q2 32 (by decide)
        have p64 : bits .xor .i64 ((Gf.cl a b _ : Nat) : Int) ((a : Int) * 64) = ((Gf.cl a b _ ^^^ a * 64 : Nat) : Int) := q2 64 (by decide)
        have p128 : bits .xor .i64 ((Gf.cl a b _ : Nat) : Int) ((a : Int) * 128) = ((Gf.cl a b _ ^^^ a * 128 : Nat) : Int) := q2 128 (by decide)
        clear q2
        generalize Gf.cl a b _ = S at *
        go_wp2_with fail
        refine ⟨⟨_, ?_, congrArg (fun z : Nat => Value.int .i64 z) M.symm, ?_, trivial⟩, ?_⟩
        · decide
        · rfl
        · decide
    · clear q2
      go_wp2_with fail
      have hp := hS'
      have hR : Gf.R a b = Gf.red (Gf.cl a b 8) 7 % 256 := rfl
      generalize Gf.cl a b 8 = p at *
      go_loopw [5, 7] (fun a5 a7 ws => ∃ j : Nat, j ≤ 7 ∧ a5 = .int .i64 (Gf.red p j : Nat) ∧ a7 = .int .i64 (14 - (j : Int)) ∧ ws = wr) (fun _ a7 _ => (intOf a7).toNat)
      case atStart => exact ⟨0, by decide, by rw [Gf.red_zero], by simp, rfl⟩
      case round =>
        obtain ⟨j, hj, rfl, rfl, rfl⟩ := hrel
        have hT' := Gf.red_lt p hp j
        have N := Gf.red_succ p j
        have hE : j = 7 → Gf.R a b = Gf.red p j % 256 := fun h => by rw [hR, h]
        clear hR
        have q2 : ∀ c : Nat, c ≤ 283 * 64 → bits .xor .i64 ((Gf.red p j : Nat) : Int) (c : Int) = ((Gf.red p j ^^^ c : Nat) : Int) := fun c hc => i64_xor_nat _ c (by omega) (by omega)
        generalize Gf.red p j = S at *
        rcases (by omega : j < 7 ∨ j = 7) with hk8 | rfl
        · by_cases h1 : S / 2 ^ (14 - j) % 2 = 1
          all_goals
            rcases (by omega : j = 0 ∨ j = 1 ∨ j = 2 ∨ j = 3 ∨ j = 4 ∨ j = 5 ∨ j = 6) with rfl | rfl | rfl | rfl | rfl | rfl | rfl
          all_goals
            first | rw [if_pos h1] at N | rw [if_neg h1] at N
            have p283 : bits .xor .i64 (S : Int) 283 = ((S ^^^ 283 : Nat) : Int) := q2 283 (by decide)
            have p566 : bits .xor .i64 (S : Int) 566 = ((S ^^^ 566 : Nat) : Int) := q2 566 (by decide)
            have p1132 : bits .xor .i64 (S : Int) 1132 = ((S ^^^ 1132 : Nat) : Int) := q2 1132 (by decide)
            have p2264 : bits .xor .i64 (S : Int) 2264 = ((S ^^^ 2264 : Nat) : Int) := q2 2264 (by decide)
            have p4528 : bits .xor .i64 (S : Int) 4528 = ((S ^^^ 4528 : Nat) : Int) := q2 4528 (by decide)
            have p9056 : bits .xor .i64 (S : Int) 9056 = ((S ^^^ 9056 : Nat) : Int) := q2 9056 (by decide)
            have p18112 : bits .xor .i64 (S : Int) 18112 = ((S ^^^ 18112 : Nat) : Int) := q2 18112 (by decide)
            clear q2 hE
            go_wp2_with fail
            refine ⟨⟨_, ?_, congrArg (fun z : Nat => Value.int .i64 z) N.symm, ?_, trivial⟩, ?_⟩
            · decide
            · rfl
            · decide
        · have hE := hE rfl
          clear q2
          go_wp2_with fail
          go_ret
          exact ⟨by first | rfl | (rw [hE]; rfl), rfl⟩
end Go.Proofs.Ytdakbejppnijdaa
