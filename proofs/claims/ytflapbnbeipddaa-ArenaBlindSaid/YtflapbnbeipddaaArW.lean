/- ArenaBlind: tops and events, act by act: plain. No condition. -/
import Derived.Test.YtflapbnbeipddaaArF
namespace Go.Proofs.Ytflapbnbeipddaa
open Go.RowKit
set_option linter.unusedSimpArgs false
set_option linter.unusedVariables false
attribute [local go_sem] IntKind.wrap_u32' signed_u32 max_u32
attribute [local go_sem ↓] Go.wp_at_zero Go.wp_at_succ
attribute [local go_sem] Calm.C
attribute [local go_sem low] Calm.al_cell Calm.al_frozen
/-- Tops and events, act by act: of the words' values nothing is asked. -/
def runTop (N : Nat) (K At Nn : Nat → Int) : Nat → Nat
  | 0 => 0
  | k + 1 => actTop N (runTop N K At Nn k) (K k) (At k) (Nn k)
def runEvs (N : Nat) (K At Nn : Nat → Int) (mi : Nat → Nat) : Nat → List Ev
  | 0 => []
  | k + 1 => runEvs N K At Nn mi k ++ actEvs N (runTop N K At Nn k) (K k) (At k) (Nn k) (mi k)
theorem actTop_le (N top : Nat) (K i n : Int) (h : top ≤ N) : actTop N top K i n ≤ N := by
  unfold actTop
  split
  · split <;> omega
  · split
    · split <;> omega
    · exact h
theorem runTop_le (N : Nat) (K At Nn : Nat → Int) : ∀ k, runTop N K At Nn k ≤ N
  | 0 => Nat.zero_le _
  | k + 1 => actTop_le N _ _ _ _ (runTop_le N K At Nn k)
theorem actEvs_len (N top : Nat) (K i n : Int) (m : Nat) (h : top ≤ N) : (actEvs N top K i n m).length ≤ 2 * N + 2 := by
  unfold actEvs
  split
  · split <;> simp
  · split
    · split
      · rw [List.length_append, gvEvs_len]; simp; omega
      · simp
    · split
      · split <;> simp
      · split
        · split <;> simp
        · split
          · split <;> simp
          · split
            · split
              · rw [stEvs_len]; omega
              · simp
            · split
              · unfold blind; rw [List.length_map, shEvs_len]; omega
              · simp
theorem runEvs_len (N : Nat) (K At Nn : Nat → Int) (mi : Nat → Nat) : ∀ k, (runEvs N K At Nn mi k).length ≤ k * (2 * N + 2)
  | 0 => Nat.zero_le _
  | k + 1 => by
    have h1 := runEvs_len N K At Nn mi k
    have h2 := actEvs_len N (runTop N K At Nn k) (K k) (At k) (Nn k) (mi k) (runTop_le N K At Nn k)
    show (runEvs N K At Nn mi k ++ _).length ≤ _
    rw [List.length_append, Nat.add_mul, Nat.one_mul]
    omega
theorem k2 : (1 : Int) ≤ 2 ∧ (2 : Int) ≤ 5 := by decide
theorem k1 : (1 : Int) ≤ 1 ∧ (1 : Int) ≤ 5 := by decide
theorem k3 : (1 : Int) ≤ 3 ∧ (3 : Int) ≤ 5 := by decide
theorem k4 : (1 : Int) ≤ 4 ∧ (4 : Int) ≤ 5 := by decide
theorem k5 : (1 : Int) ≤ 5 ∧ (5 : Int) ≤ 5 := by decide
def Known (l : List Ev) : Prop := ∀ e ∈ l, 1 ≤ e.k ∧ e.k ≤ 5
theorem Known.append {a b : List Ev} (ha : Known a) (hb : Known b) : Known (a ++ b) := fun e he => by
  rcases List.mem_append.1 he with h | h
  · exact ha e h
  · exact hb e h
theorem stEvs_known (a : Nat) : ∀ k, Known (stEvs a k)
  | 0 => by rw [stEvs_zero]; intro e he; cases he
  | k + 1 => by
    rw [stEvs_succ]
    exact (stEvs_known a k).append (fun e he => by simp at he; subst he; exact k2)
theorem gvEvs_known (a : Nat) : ∀ k, Known (gvEvs a k)
  | 0 => by rw [gvEvs_zero]; intro e he; cases he
  | k + 1 => by
    rw [gvEvs_succ]
    exact (gvEvs_known a k).append (fun e he => by simp at he; subst he; exact k2)
theorem shBlind_known (ws : List Int) (a : Nat) : ∀ k, Known (blind (shEvs ws a k))
  | 0 => by rw [shEvs_zero]; intro e he; cases he
  | k + 1 => by
    rw [shEvs_succ, blind_append, blind_append]
    refine ((shBlind_known ws a k).append (fun e he => ?_)).append (fun e he => ?_)
    · simp [blind, blind1] at he; subst he; exact k1
    · simp [blind, blind1] at he; subst he; exact k3
theorem actEvs_known (N top : Nat) (K i n : Int) (m : Nat) : Known (actEvs N top K i n m) := by
  have h0 : Known [] := fun e he => by cases he
  unfold actEvs
  split
  · split
    · intro e he; simp at he; subst he; exact k4
    · exact h0
  · split
    · split
      · exact (gvEvs_known _ _).append (fun e he => by simp at he; subst he; exact k5)
      · exact h0
    · split
      · split
        · intro e he; simp at he; subst he; exact k1
        · exact h0
      · split
        · split
          · intro e he; simp at he; subst he; exact k2
          · exact h0
        · split
          · split
            · intro e he; simp at he; rcases he with rfl | rfl
              · exact k1
              · exact k3
            · exact h0
          · split
            · split
              · exact stEvs_known _ _
              · exact h0
            · split
              · exact shBlind_known _ _ _
              · exact h0
theorem runEvs_known (N : Nat) (K At Nn : Nat → Int) (mi : Nat → Nat) : ∀ k, Known (runEvs N K At Nn mi k)
  | 0 => fun e he => by cases he
  | k + 1 => (runEvs_known N K At Nn mi k).append (actEvs_known N _ _ _ _ _)
end Go.Proofs.Ytflapbnbeipddaa
