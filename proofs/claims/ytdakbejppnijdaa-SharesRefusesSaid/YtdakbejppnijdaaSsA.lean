/- shares.Need; shares.Split refuses. No condition. -/
import Derived.Test.YtdakbejppnijdaaBwC
import Derived.Test.YtdakbejppnijdaaSjJ
namespace Go.Proofs.Ytdakbejppnijdaa
open Go.RowKit
set_option linter.unusedSimpArgs false
set_option linter.unusedVariables false
attribute [local go_sem] IntKind.wrap_u32' signed_u32 max_u32
attribute [local go_sem ↓] Go.wp_at_zero Go.wp_at_succ
attribute [local go_sem] Calm.C
attribute [local go_sem low] Calm.al_cell Calm.al_frozen
set_option maxRecDepth 20000 in
set_option maxHeartbeats 2000000 in
theorem sNeed_in (n l : Nat) (h1 : 1 ≤ n ∧ n ≤ 4096) (h2 : 1 ≤ l ∧ l ≤ 4096) (w : World) :
    Calls Try.prog 30 #[.int .i64 n, .int .i64 l] w fun e w' => e = .returned (.int .i64 ((n * (l - 1) : Nat) : Int)) ∧ w' = w := by
  obtain ⟨k, rfl⟩ : ∃ k, l = k + 1 := ⟨l - 1, by omega⟩
  have hq : n * k ≤ 4096 * 4095 := Nat.mul_le_mul h1.2 (by omega)
  have hI : (n : Int) * (k : Int) = ((n * k : Nat) : Int) := by simp
  rw [show k + 1 - 1 = k by omega]
  generalize n * k = Q at *
  go_enter Try.func30, Try.ntmps30
  go_wp2_with fail
  go_ret
  exact ⟨rfl, rfl⟩
theorem sNeed_a (w : World) : Calls Try.prog 30 #[.int .i64 (-1), .int .i64 5] w fun e w' => e = .returned (.int .i64 0) ∧ w' = w := by
  go_enter Try.func30, Try.ntmps30
  go_wp2_with fail
  go_ret
  exact ⟨rfl, rfl⟩
theorem sNeed_b (w : World) : Calls Try.prog 30 #[.int .i64 3, .int .i64 3] w fun e w' => e = .returned (.int .i64 6) ∧ w' = w := sNeed_in 3 3 (by decide) (by decide) w
end Go.Proofs.Ytdakbejppnijdaa
