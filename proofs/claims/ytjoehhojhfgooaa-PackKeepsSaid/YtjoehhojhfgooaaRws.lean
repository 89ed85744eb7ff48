/- Rows of words, built row by row. No condition. -/
import Derived.Test.YtjoehhojhfgooaaPk5
import Derived.Test.YtjoehhojhfgooaaArS
namespace Go.Proofs.Ytjoehhojhfgooaa
open Go.RowKit
set_option linter.unusedSimpArgs false
set_option linter.unusedVariables false
attribute [local go_sem] IntKind.wrap_u32' signed_u32 max_u32
attribute [local go_sem ↓] Go.wp_at_zero Go.wp_at_succ
theorem Try.infoRow : (Try.prog.info? 22).map (fun i => (i.zero, i.size, i.bytes)) = some (some (.slice none 0 0), 1, 24) := by kernel_rfl
def hdrs (W : Nat) (As : Nat → Option Addr) (cs : Nat → Nat) (m : Nat) : List Value := (List.range m).map fun i => .slice (As i) W (cs i)
def upd {α : Type} (f : Nat → α) (m : Nat) (x : α) (i : Nat) : α := if i = m then x else f i
theorem upd_at {α : Type} (f : Nat → α) (m : Nat) (x : α) : upd f m x m = x := if_pos rfl
theorem upd_ne {α : Type} (f : Nat → α) (m : Nat) (x : α) {i : Nat} (h : i ≠ m) : upd f m x i = f i := if_neg h
theorem hdrs_zero (W : Nat) (As : Nat → Option Addr) (cs : Nat → Nat) : hdrs W As cs 0 = [] := rfl
theorem hdrs_len (W : Nat) (As : Nat → Option Addr) (cs : Nat → Nat) (m : Nat) : (hdrs W As cs m).length = m := by simp [hdrs]
theorem hdrs_get (W : Nat) (As : Nat → Option Addr) (cs : Nat → Nat) (m i : Nat) (h : i < m) : (hdrs W As cs m)[i]? = some (.slice (As i) W (cs i)) := by
  unfold hdrs
  rw [List.getElem?_map, List.getElem?_range h]
  rfl
theorem hdrs_push (W : Nat) (As : Nat → Option Addr) (cs : Nat → Nat) (m : Nat) (A : Option Addr) (c : Nat) : hdrs W As cs m ++ [.slice A W c] = hdrs W (upd As m A) (upd cs m c) (m + 1) := by
  unfold hdrs
  rw [List.range_succ, List.map_append, List.map_cons, List.map_nil, upd_at, upd_at]
  congr 1
  refine List.map_congr_left fun i hi => ?_
  have := List.mem_range.1 hi
  rw [upd_ne _ _ _ (by omega), upd_ne _ _ _ (by omega)]
structure Rws (w : World) (base lo : Nat) (v : Value) (m W : Nat) (f : Nat → Nat → Int) (As : Nat → Option Addr) (cs : Nat → Nat) : Prop where
  own : w.ownsRow base 22 1 v m (hdrs W As cs m)
  cap : ∀ i, i < m → W ≤ cs i
  row : ∀ i, i < m → 0 < W → ∃ b o, As i = some ⟨b, o, none⟩ ∧ b < w.heap.size ∧ lo ≤ b ∧ (∀ g, v.ownBlock = some g → b ≠ g) ∧ ∀ c, c < W → w.cell? ⟨b, o + c, none⟩ = some (.int .u32 (f i c))
theorem Rws.nil (w : World) (base lo W : Nat) (f : Nat → Nat → Int) (As : Nat → Option Addr) (cs : Nat → Nat) : Rws w base lo (.slice none 0 0) 0 W f As cs :=
  ⟨by rw [hdrs_zero]; exact World.ownsRow_nil _ _ _ _, fun i hi => absurd hi (Nat.not_lt_zero i), fun i hi => absurd hi (Nat.not_lt_zero i)⟩
theorem Rws.below {w w' : World} {base lo m W : Nat} {v : Value} {f : Nat → Nat → Int} {As : Nat → Option Addr} {cs : Nat → Nat} (h : Rws w base lo v m W f As cs) (hb : Below w.heap.size w w') : Rws w' base lo v m W f As cs where
  own := pw_own h.own (Lib.hid hb)
  cap := h.cap
  row i hi h0 := by
    obtain ⟨b, o, e, hl, hlo, hn, hc⟩ := h.row i hi h0
    exact ⟨b, o, e, Nat.lt_of_lt_of_le hl hb.size, hlo, hn, fun c hcW => (hb.cell (p := ⟨b, o + c, none⟩) hl).trans (hc c hcW)⟩
theorem Rws.congr {w : World} {base lo m W : Nat} {v : Value} {f f' : Nat → Nat → Int} {As : Nat → Option Addr} {cs : Nat → Nat} (h : Rws w base lo v m W f As cs) (hf : ∀ i, i < m → ∀ k, k < W → f i k = f' i k) : Rws w base lo v m W f' As cs where
  own := h.own
  cap := h.cap
  row i hi h0 := by
    obtain ⟨b, o, e, hl, hlo, hn, hc⟩ := h.row i hi h0
    exact ⟨b, o, e, hl, hlo, hn, fun c hcW => by rw [← hf i hi c hcW]; exact hc c hcW⟩
theorem Rws.push {w w' : World} {base lo m W gg cap : Nat} {v : Value} {f : Nat → Nat → Int} {As : Nat → Option Addr} {cs : Nat → Nat} {ob : Obj} (h : Rws w base lo v m W f As cs) {A : Option Addr} {c : Nat} {x : Nat → Int} (hc : W ≤ c)
    (hrow : 0 < W → ∃ b o, A = some ⟨b, o, none⟩ ∧ b < w.heap.size ∧ lo ≤ b ∧ (∀ g, v.ownBlock = some g → b ≠ g) ∧ ∀ k, k < W → w.cell? ⟨b, o + k, none⟩ = some (.int .u32 (x k)))
    (hown : w'.ownsRow base 22 1 (.slice (some ⟨gg, 0, none⟩) (m + 1) cap) (m + 1) (hdrs W As cs m ++ [.slice A W c])) (hg : (w.alloc ob).grownBy w' v.ownBlock) (hat : v.ownBlock = some gg ∨ gg = w.heap.size + 1) :
    Rws w' base lo (.slice (some ⟨gg, 0, none⟩) (m + 1) cap) (m + 1) W (upd f m x) (upd As m A) (upd cs m c) := by
  have hsz := hg.size
  rw [World.size_alloc] at hsz
  have key : ∀ b o (y : Nat → Int), b < w.heap.size → lo ≤ b → (∀ g, v.ownBlock = some g → b ≠ g) → (∀ k, k < W → w.cell? ⟨b, o + k, none⟩ = some (.int .u32 (y k))) →
      b < w'.heap.size ∧ lo ≤ b ∧ (∀ g, (Value.slice (some ⟨gg, 0, none⟩) (m + 1) cap).ownBlock = some g → b ≠ g) ∧ ∀ k, k < W → w'.cell? ⟨b, o + k, none⟩ = some (.int .u32 (y k)) := fun b o y hl hlo hn hcs => by
    refine ⟨by omega, hlo, fun g he => ?_, fun k hk => ?_⟩
    · obtain rfl : gg = g := by simpa [Value.ownBlock] using he
      rcases hat with h1 | h1
      · exact hn gg h1
      · omega
    · have h1 : w'.cell? ⟨b, o + k, none⟩ = (w.alloc ob).cell? ⟨b, o + k, none⟩ := World.cell?_of_block (a := ⟨b, o + k, none⟩) (hg.block _ (by rw [World.size_alloc]; show b < _; omega) (fun e => hn b e.symm rfl))
      rw [h1, ← hcs k hk]
      exact World.cell?_alloc_lt w _ ⟨b, o + k, none⟩ hl
  refine ⟨by rw [← hdrs_push]; exact hown, fun i hi => ?_, fun i hi h0 => ?_⟩
  · by_cases h1 : i = m
    · subst h1; rw [upd_at]; exact hc
    · rw [upd_ne _ _ _ h1]; exact h.cap i (by omega)
  · by_cases h1 : i = m
    · subst h1
      rw [upd_at, upd_at]
      obtain ⟨b, o, e, hl, hlo, hn, hcs⟩ := hrow h0
      exact ⟨b, o, e, key b o x hl hlo hn hcs⟩
    · rw [upd_ne _ _ _ h1, upd_ne _ _ _ h1]
      obtain ⟨b, o, e, hl, hlo, hn, hcs⟩ := h.row i (by omega) h0
      exact ⟨b, o, e, key b o (f i) hl hlo hn hcs⟩
theorem Rws.rowz {w : World} {base lo m W : Nat} {v : Value} {f : Nat → Nat → Int} {As : Nat → Option Addr} {cs : Nat → Nat} (h : Rws w base lo v m W f As cs) : ∃ A c B, v = .slice A m c ∧ m ≤ c ∧ (0 < m → base ≤ B) ∧ (∀ i, i < m → 0 < W → ∀ b o, As i = some ⟨b, o, none⟩ → lo ≤ b) ∧ Rowz w A m (fun _ => W) f B 0 As cs := by
  have hlo : ∀ i, i < m → 0 < W → ∀ b o, As i = some ⟨b, o, none⟩ → lo ≤ b := fun i hi h0 b o e => by
    obtain ⟨b', o', e', _, hl, _⟩ := h.row i hi h0
    rw [e'] at e
    injection e with e
    injection e with e
    omega
  obtain ⟨A, c, rfl⟩ := own_slice h.own
  rcases Nat.eq_zero_or_pos m with rfl | hm
  · exact ⟨A, c, 0, rfl, Nat.zero_le _, fun h => absurd h (Nat.lt_irrefl 0), hlo, ⟨fun h => absurd h (Nat.lt_irrefl 0), fun i hi => absurd hi (Nat.not_lt_zero i), fun i hi => absurd hi (Nat.not_lt_zero i), fun i hi => absurd hi (Nat.not_lt_zero i)⟩⟩
  · obtain ⟨g, cap, hv, hb, hgl⟩ := h.own.form hm
    have hcap : m ≤ cap := by
      rcases h.own.2 with ⟨h0, h1⟩ | ⟨g', cap', cur, hv', h1, h2, h3⟩
      · omega
      · rw [hv] at hv'
        injection hv' with _ _ e3
        subst e3
        exact h3.1
    injection hv with h1 h2 h3
    subst h1
    subst h3
    refine ⟨_, c, g, rfl, hcap, fun _ => hb, hlo, ⟨fun _ => ⟨rfl, hgl⟩, fun i hi => ?_, h.cap, fun i hi h0 => ?_⟩⟩
    · rw [Nat.zero_add]
      exact (h.own.cellAt i (by omega)).trans (hdrs_get W As cs m i hi)
    · obtain ⟨b, o, e, hl, _, _, hcs⟩ := h.row i hi h0
      exact ⟨b, o, e, hl, hcs⟩
end Go.Proofs.Ytjoehhojhfgooaa
