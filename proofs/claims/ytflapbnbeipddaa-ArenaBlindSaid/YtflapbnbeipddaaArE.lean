/- ArenaBlind: any act; two arenas side by side. No condition. -/
import Derived.Test.YtflapbnbeipddaaArD
namespace Go.Proofs.Ytflapbnbeipddaa
open Go.RowKit
/-- The top behind an act, and what it notes but for what is told: of the words' values nothing is asked. -/
def actTop (N top : Nat) (K i n : Int) : Nat :=
  if K % 7 = 0 then (if 0 ≤ n ∧ n ≤ (N : Int) - top then top + n.toNat else top) else if K % 7 = 1 then (if 0 ≤ i ∧ i ≤ top then i.toNat else top) else top
def actEvs (N top : Nat) (K i n : Int) (m : Nat) : List Ev :=
  if K % 7 = 0 then (if 0 ≤ n ∧ n ≤ (N : Int) - top then [⟨4, top, n⟩] else [])
  else if K % 7 = 1 then (if 0 ≤ i ∧ i ≤ top then gvEvs top (top - i.toNat) ++ [⟨5, i, ((top - i.toNat : Nat) : Int)⟩] else [])
  else if K % 7 = 2 then (if 0 ≤ i ∧ i < top then [⟨1, i, 0⟩] else [])
  else if K % 7 = 3 then (if 0 ≤ i ∧ i < top then [⟨2, i, 0⟩] else [])
  else if K % 7 = 4 then (if 0 ≤ i ∧ i < top then [⟨1, i, 0⟩, ⟨3, 0, 0⟩] else [])
  else if K % 7 = 5 then (if 0 ≤ i ∧ i + m ≤ top then stEvs i.toNat m else [])
  else (if 0 ≤ i ∧ 0 ≤ n ∧ i + n ≤ top then blind (shEvs [] i.toNat n.toNat) else [])
theorem do_any {w : World} {p g lp : Nat} {FL : Nat → Prop} {ws : List Int} {top : Nat} {evs : List Ev} (h : Ar w p g lp FL ws top evs) (he : evs.length + 3 * top + 3 < 1099511627775) (K i n v : Int) (A : Option Addr) (m c : Nat) (f : Nat → Int) (hK0 : 0 ≤ K ∧ K < 256)
    (hB : 0 < m → ∃ B off, A = some ⟨B, off, none⟩ ∧ B < w.heap.size ∧ ¬ AF p g FL B ∧ ∀ j, j < m → w.cell? ⟨B, off + j, none⟩ = some (.int .u32 (f j))) :
    Calls Try.prog 39 #[.pointer (some ⟨p, 0, none⟩), .agg #[.int .u8 K, .int .i64 i, .int .i64 n, .int .u32 v, .slice A m c]] w fun e w' => e = .returned (.tuple #[]) ∧ Left w w' p g lp FL ws evs (actTop ws.length top K i n) (actEvs ws.length top K i n m) := by
  rcases (by omega : K % 7 = 0 ∨ K % 7 = 1 ∨ K % 7 = 2 ∨ K % 7 = 3 ∨ K % 7 = 4 ∨ K % 7 = 5 ∨ K % 7 = 6) with hr | hr | hr | hr | hr | hr | hr
  all_goals
    unfold actTop actEvs
    rw [hr]
    simp only [show ((1 : Int) = 0) = False by decide, show ((2 : Int) = 0) = False by decide, show ((3 : Int) = 0) = False by decide, show ((4 : Int) = 0) = False by decide, show ((5 : Int) = 0) = False by decide, show ((6 : Int) = 0) = False by decide,
      show ((2 : Int) = 1) = False by decide, show ((3 : Int) = 1) = False by decide, show ((4 : Int) = 1) = False by decide, show ((5 : Int) = 1) = False by decide, show ((6 : Int) = 1) = False by decide,
      show ((3 : Int) = 2) = False by decide, show ((4 : Int) = 2) = False by decide, show ((5 : Int) = 2) = False by decide, show ((6 : Int) = 2) = False by decide, show ((4 : Int) = 3) = False by decide, show ((5 : Int) = 3) = False by decide, show ((6 : Int) = 3) = False by decide,
      show ((5 : Int) = 4) = False by decide, show ((6 : Int) = 4) = False by decide, show ((6 : Int) = 5) = False by decide, if_false, if_true]
  · by_cases hc : 0 ≤ n ∧ n ≤ (ws.length : Int) - top
    · rw [if_pos hc, if_pos hc]; exact do0_t h (by omega) K i n v A m c hr hK0 hc.1 (by omega)
    · rw [if_neg hc, if_neg hc]; exact do0_f h K i n v A m c hr hK0 hc
  · by_cases hc : 0 ≤ i ∧ i ≤ top
    · rw [if_pos hc, if_pos hc]; exact do1_t h he K i n v A m c hr hK0 hc.1 hc.2
    · rw [if_neg hc, if_neg hc]; exact do1_f h he K i n v A m c hr hK0 hc
  · by_cases hc : 0 ≤ i ∧ i < top
    · rw [if_pos hc]; exact do2_t h he K i n v A m c hr hK0 hc.1 hc.2
    · rw [if_neg hc]; exact do2_f h he K i n v A m c hr hK0 hc
  · by_cases hc : 0 ≤ i ∧ i < top
    · rw [if_pos hc]; exact do3_t h he K i n v A m c hr hK0 hc.1 hc.2
    · rw [if_neg hc]; exact do3_f h he K i n v A m c hr hK0 hc
  · by_cases hc : 0 ≤ i ∧ i < top
    · rw [if_pos hc]; exact do4_t h he K i n v A m c hr hK0 hc.1 hc.2
    · rw [if_neg hc]; exact do4_f h he K i n v A m c hr hK0 hc
  · by_cases hc : 0 ≤ i ∧ i + m ≤ top
    · rw [if_pos hc]; exact do5_t h he K i n v A m c hr hK0 f hc.1 hc.2 hB
    · rw [if_neg hc]; exact do5_f h he K i n v A m c hr hK0 hc
  · by_cases hc : 0 ≤ i ∧ 0 ≤ n ∧ i + n ≤ top
    · rw [if_pos hc]; exact do6_t h he K i n v A m c hr hK0 hc.1 hc.2.1 hc.2.2
    · rw [if_neg hc]; exact do6_f h he K i n v A m c hr hK0 hc
/-- An arena that another one's call does not touch. -/
theorem Ar.apart {w : World} {p g lp : Nat} {FL : Nat → Prop} {ws : List Int} {top : Nat} {evs : List Ev} (h : Ar w p g lp FL ws top evs) {w' : World} {G G' : Nat → Prop} (hs : Step G G' w w') (hd : ∀ i, AF p g FL i → ¬ G i) : Ar w' p g lp FL ws top evs where
  bp := hs.blk h.bp (hd p af_p)
  bg := hs.blk h.bg (hd g af_g)
  lg := h.lg.step hs (fun i hi => hd i (.inr (.inr hi)))
  np := h.np
  ng := h.ng
  ht := h.ht
  hz := h.hz
end Go.Proofs.Ytflapbnbeipddaa
