/- Notes as an argument. No condition. -/
import Derived.Test.YtcaaapfminenoaaTab
namespace Go.Proofs.Ytcaaapfminenoaa
open Go.ChangeShapes Go.WideShapes Go.ChangeAt Go.RowKit Go.Deep
def numOf : Option Value → Int
  | some (.int _ z) => z
  | _ => 0
theorem notes_of {W : World} {A : Option Addr} {n : Nat} (h : 0 < n → ∃ b off, A = some ⟨b, off, none⟩ ∧ b < W.heap.size ∧ ∀ (i c : Nat) (k : IntKind), i < n → ([.u8, .i64, .i64, .u32] : List IntKind)[c]? = some k → ∃ z, W.cell? ⟨b, off + i * 4 + c, none⟩ = some (Value.int k z) ∧ (Lit.int k z).wf = true) :
    ∃ K At N V : Nat → Int, (0 < n → ∃ b off, A = some ⟨b, off, none⟩ ∧ b < W.heap.size ∧ ∀ i, i < n → W.cell? ⟨b, off + i * 4, none⟩ = some (.int .u8 (K i)) ∧ W.cell? ⟨b, off + i * 4 + 1, none⟩ = some (.int .i64 (At i)) ∧ W.cell? ⟨b, off + i * 4 + 2, none⟩ = some (.int .i64 (N i)) ∧ W.cell? ⟨b, off + i * 4 + 3, none⟩ = some (.int .u32 (V i))) ∧
      (∀ i, 0 ≤ K i ∧ K i < 256) ∧ (∀ i, -9223372036854775808 ≤ N i ∧ N i ≤ 9223372036854775807) ∧ (∀ i, 0 ≤ V i ∧ V i < 4294967296) := by
  by_cases hn : 0 < n
  · obtain ⟨b, off, rfl, hb, hc⟩ := h hn
    have key : ∀ c, ∃ f : Nat → Int, ∀ i, i < n → ∀ k, ([.u8, .i64, .i64, .u32] : List IntKind)[c]? = some k → W.cell? ⟨b, off + i * 4 + c, none⟩ = some (Value.int k (f i)) ∧ (Lit.int k (f i)).wf = true := fun c =>
      ⟨fun i => numOf (W.cell? ⟨b, off + i * 4 + c, none⟩), fun i hi k hk => by
        obtain ⟨z, h1, h2⟩ := hc i c k hi hk
        show W.cell? ⟨b, off + i * 4 + c, none⟩ = some (Value.int k (numOf (W.cell? ⟨b, off + i * 4 + c, none⟩))) ∧ (Lit.int k (numOf (W.cell? ⟨b, off + i * 4 + c, none⟩))).wf = true
        rw [h1]
        exact ⟨rfl, h2⟩⟩
    obtain ⟨f0, h0⟩ := key 0
    obtain ⟨f1, h1⟩ := key 1
    obtain ⟨f2, h2⟩ := key 2
    obtain ⟨f3, h3⟩ := key 3
    refine ⟨fun i => if i < n then f0 i else 0, f1, fun i => if i < n then f2 i else 0, fun i => if i < n then f3 i else 0, fun _ => ⟨b, off, rfl, hb, fun i hi => ⟨?_, ?_, ?_, ?_⟩⟩, fun i => ?_, fun i => ?_, fun i => ?_⟩
    · dsimp only; rw [if_pos hi]; exact (h0 i hi .u8 rfl).1
    · exact (h1 i hi .i64 rfl).1
    · dsimp only; rw [if_pos hi]; exact (h2 i hi .i64 rfl).1
    · dsimp only; rw [if_pos hi]; exact (h3 i hi .u32 rfl).1
    · dsimp only
      split
      · rename_i hi; have := bounds_u8 (h0 i hi .u8 rfl).2; omega
      · omega
    · dsimp only
      split
      · rename_i hi; have := bounds_i64 (h2 i hi .i64 rfl).2; omega
      · omega
    · dsimp only
      split
      · rename_i hi; have := bounds_u32 (h3 i hi .u32 rfl).2; omega
      · omega
  · exact ⟨fun _ => 0, fun _ => 0, fun _ => 0, fun _ => 0, fun h => absurd h hn, fun _ => ⟨Int.le_refl 0, show (0 : Int) < 256 by decide⟩, fun _ => ⟨show (-9223372036854775808 : Int) ≤ 0 by decide, show (0 : Int) ≤ 9223372036854775807 by decide⟩, fun _ => ⟨Int.le_refl 0, show (0 : Int) < 4294967296 by decide⟩⟩
end Go.Proofs.Ytcaaapfminenoaa
