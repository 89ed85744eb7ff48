/- shares.Split. No condition. -/
import Derived.Test.YtdakbejppnijdaaSsA
namespace Go.Proofs.Ytdakbejppnijdaa
open Go.RowKit
set_option linter.unusedSimpArgs false
set_option linter.unusedVariables false
attribute [local go_sem] IntKind.wrap_u32' signed_u32 max_u32
attribute [local go_sem ↓] Go.wp_at_zero Go.wp_at_succ
attribute [local go_sem] Calm.C
attribute [local go_sem low] Calm.al_cell Calm.al_frozen
namespace Ss
/-- The k-th share of the i-th byte. -/
def sh (ws : List Int) (mf : Nat → Nat) (at_ L i k : Nat) : Int := Ct.Xor (Ct.And (ws.getD (at_ + i) 0) 255) (Bw.cvl k (Bw.bks (fun q => mf (i * L + q)) L) : Nat)
def row (f : Nat → Int) (out n i : Nat) (V : List Int) : Nat → List Int
  | 0 => V
  | k + 1 => (row f out n i V k).set (out + k * n + i) (f (k + 1))
def all (ws : List Int) (f : Nat → Nat → Int) (out n cnt : Nat) : Nat → List Int
  | 0 => ws
  | i + 1 => row (f i) out n i (all ws f out n cnt i) cnt
theorem row_zero (f : Nat → Int) (out n i : Nat) (V : List Int) : row f out n i V 0 = V := rfl
theorem row_succ (f : Nat → Int) (out n i : Nat) (V : List Int) (k : Nat) : row f out n i V (k + 1) = (row f out n i V k).set (out + k * n + i) (f (k + 1)) := rfl
theorem all_zero (ws : List Int) (f : Nat → Nat → Int) (out n cnt : Nat) : all ws f out n cnt 0 = ws := rfl
theorem all_succ (ws : List Int) (f : Nat → Nat → Int) (out n cnt i : Nat) : all ws f out n cnt (i + 1) = row (f i) out n i (all ws f out n cnt i) cnt := rfl
theorem row_far (f : Nat → Int) (out n i : Nat) (V : List Int) (x : Nat) (hx : x < out) : ∀ k, (row f out n i V k).getD x 0 = V.getD x 0
  | 0 => rfl
  | k + 1 => by rw [row_succ, Sj.getD_set_ne _ _ _ _ (by omega), row_far f out n i V x hx k]
theorem row_far2 (f : Nat → Int) (out n i cnt : Nat) (V : List Int) (x : Nat) (hi : i < n) (hx : out + cnt * n ≤ x) : ∀ k, k ≤ cnt → (row f out n i V k).getD x 0 = V.getD x 0
  | 0, _ => rfl
  | k + 1, h => by
    have h1 : (k + 1) * n ≤ cnt * n := Nat.mul_le_mul_right n h
    rw [Nat.succ_mul] at h1
    rw [row_succ, Sj.getD_set_ne _ _ _ _ (by omega), row_far2 f out n i cnt V x hi hx k (by omega)]
theorem all_far (ws : List Int) (f : Nat → Nat → Int) (out n cnt x : Nat) (hx : x < out ∨ out + cnt * n ≤ x) : ∀ i, i ≤ n → (all ws f out n cnt i).getD x 0 = ws.getD x 0
  | 0, _ => rfl
  | i + 1, h => by
    rw [all_succ]
    rcases hx with hx | hx
    · rw [row_far _ _ _ _ _ _ hx, all_far ws f out n cnt x (.inl hx) i (by omega)]
    · rw [row_far2 _ _ _ _ cnt _ _ (by omega) hx cnt (Nat.le_refl _), all_far ws f out n cnt x (.inr hx) i (by omega)]
end Ss
end Go.Proofs.Ytdakbejppnijdaa
