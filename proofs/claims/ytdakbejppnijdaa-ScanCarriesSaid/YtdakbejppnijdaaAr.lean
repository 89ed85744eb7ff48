/- An arena: what it is in memory, and its calls. No condition. -/
import Derived.Test.YtdakbejppnijdaaLogB
import Derived.Test.YtdakbejppnijdaaCt
import Derived.Test.YtdakbejppnijdaaCalm
namespace Go.Proofs.Ytdakbejppnijdaa
open Go.RowKit
set_option linter.unusedSimpArgs false
set_option linter.unusedVariables false
attribute [local go_sem] IntKind.wrap_u32' signed_u32 max_u32
attribute [local go_sem ↓] Go.wp_at_zero Go.wp_at_succ
attribute [local go_sem] Calm.C
attribute [local go_sem low] Calm.al_cell Calm.al_frozen
def wcells (ws : List Int) : Array Value := (ws.map fun x => .int .u32 x).toArray
theorem wcells_get (ws : List Int) (i : Nat) (h : i < ws.length) : (wcells ws)[i]? = some (.int .u32 (ws.getD i 0)) := by
  unfold wcells
  rw [List.getElem?_toArray, List.getElem?_map, List.getElem?_eq_getElem h, List.getD_eq_getElem?_getD, List.getElem?_eq_getElem h]
  rfl
theorem wcells_set (ws : List Int) (i : Nat) (x : Int) : (wcells ws).setIfInBounds i (.int .u32 x) = wcells (ws.set i x) := by
  unfold wcells
  rw [List.setIfInBounds_toArray, List.map_set]
def AF (p g : Nat) (FL : Nat → Prop) : Nat → Prop := fun i => i = p ∨ i = g ∨ FL i
structure Ar (w : World) (p g lp : Nat) (FL : Nat → Prop) (ws : List Int) (top : Nat) (evs : List Ev) : Prop where
  bp : Blk w p 100 #[.slice (some ⟨g, 0, none⟩) ws.length ws.length, .int .i64 top, .pointer (some ⟨lp, 0, none⟩)]
  bg : Blk w g 32 (wcells ws)
  lg : Lg w FL lp evs
  np : ¬ FL p
  ng : ¬ FL g
  ht : top ≤ ws.length
  hz : ws.length ≤ 4194304
namespace Ar
variable {w w' : World} {p g lp : Nat} {FL FL' : Nat → Prop} {ws : List Int} {top : Nat} {evs evs' : List Ev}
theorem pg (h : Ar w p g lp FL ws top evs) : p ≠ g := h.bp.ne_ h.bg (by decide)
theorem step (h : Ar w p g lp FL ws top evs) (hs : Step FL FL' w w') (hL : Lg w' FL' lp evs') : Ar w' p g lp FL' ws top evs' where
  bp := hs.blk h.bp h.np
  bg := hs.blk h.bg h.ng
  lg := hL
  np hf := h.np ((hs.foot p h.bp.lt).1 hf)
  ng hf := h.ng ((hs.foot g h.bg.lt).1 hf)
  ht := h.ht
  hz := h.hz
theorem below (h : Ar w p g lp FL ws top evs) (hb : Hid (Below w.heap.size w w')) : Ar w' p g lp FL ws top evs := h.step (Step.of_below h.lg.most hb.out) (h.lg.below hb)
theorem alloc (h : Ar w p g lp FL ws top evs) (o : Obj) : Ar (w.alloc o) p g lp FL ws top evs := h.below (Lib.hid ((Below.refl _ _).alloc (Nat.le_refl _) o))
theorem drewN (h : Ar w p g lp FL ws top evs) (n : Nat) : Ar (w.drewN n) p g lp FL ws top evs := h.below (Lib.hid (bl_drewN (Below.refl _ _) n))
theorem drew (h : Ar w p g lp FL ws top evs) : Ar w.drew p g lp FL ws top evs := h.below (Lib.hid (bl_drew (Below.refl _ _)))
theorem far (h : Ar w p g lp FL ws top evs) {b i : Nat} (hn : ¬ AF p g FL b) (u : Value) : Ar (w.setCell ⟨b, i, none⟩ u) p g lp FL ws top evs where
  bp := h.bp.far (p := ⟨b, i, none⟩) (fun e => hn (.inl e.symm)) u
  bg := h.bg.far (p := ⟨b, i, none⟩) (fun e => hn (.inr (.inl e.symm))) u
  lg := h.lg.set_ (fun hf => hn (.inr (.inr hf))) u
  np := h.np
  ng := h.ng
  ht := h.ht
  hz := h.hz
theorem setWord (h : Ar w p g lp FL ws top evs) (i : Nat) (x : Int) : Ar (w.setCell ⟨g, i, none⟩ (.int .u32 x)) p g lp FL (ws.set i x) top evs where
  bp := by rw [List.length_set]; exact h.bp.far (p := ⟨g, i, none⟩) h.pg _
  bg := by rw [← wcells_set]; exact h.bg.set_ i _
  lg := h.lg.set_ h.ng _
  np := h.np
  ng := h.ng
  ht := by rw [List.length_set]; exact h.ht
  hz := by rw [List.length_set]; exact h.hz
theorem setTop (h : Ar w p g lp FL ws top evs) (t : Nat) (ht : t ≤ ws.length) : Ar (w.setCell ⟨p, 1, none⟩ (.int .i64 t)) p g lp FL ws t evs where
  bp := h.bp.set_ 1 _
  bg := h.bg.far (p := ⟨p, 1, none⟩) h.pg.symm _
  lg := h.lg.set_ h.np _
  np := h.np
  ng := h.ng
  ht := ht
  hz := h.hz
theorem c0 (h : Ar w p g lp FL ws top evs) : w.cell? ⟨p, 0, none⟩ = some (.slice (some ⟨g, 0, none⟩) ws.length ws.length) := h.bp.cell 0
theorem c1 (h : Ar w p g lp FL ws top evs) : w.cell? ⟨p, 1, none⟩ = some (.int .i64 top) := h.bp.cell 1
theorem c2 (h : Ar w p g lp FL ws top evs) : w.cell? ⟨p, 2, none⟩ = some (.pointer (some ⟨lp, 0, none⟩)) := h.bp.cell 2
theorem cg (h : Ar w p g lp FL ws top evs) (i : Nat) (hi : i < ws.length) : w.cell? ⟨g, i, none⟩ = some (.int .u32 (ws.getD i 0)) := (h.bg.cell i).trans (wcells_get ws i hi)
theorem most (h : Ar w p g lp FL ws top evs) : ∀ i, AF p g FL i → i < w.heap.size := by
  rintro i (rfl | rfl | hf)
  · exact h.bp.lt
  · exact h.bg.lt
  · exact h.lg.most i hf
end Ar
theorem Step.af {w w' : World} {p g : Nat} {FL FL' : Nat → Prop} (hs : Step FL FL' w w') (hp : p < w.heap.size) (hg : g < w.heap.size) : Step (AF p g FL) (AF p g FL') w w' where
  os := hs.os
  tape := hs.tape
  output := hs.output
  size := hs.size
  keep i hi hn := hs.keep i hi (fun hf => hn (.inr (.inr hf)))
  foot i hi := by
    unfold AF
    rw [hs.foot i hi]
  most i hi := by
    rcases hi with rfl | rfl | hf
    · exact Nat.lt_of_lt_of_le hp hs.size
    · exact Nat.lt_of_lt_of_le hg hs.size
    · exact hs.most i hf
theorem Step.setIn {w w' : World} {F F' : Nat → Prop} {b i : Nat} (hs : Step F F' w w') (hF : F' b) (u : Value) : Step F F' w (w'.setCell ⟨b, i, none⟩ u) where
  os := hs.os
  tape := hs.tape
  output := hs.output
  size := by rw [World.size_setCell]; exact hs.size
  keep k hk hn := (Below.heap_setCell w' ⟨b, i, none⟩ u k (by rintro rfl; exact hn ((hs.foot _ hk).1 hF))).trans (hs.keep k hk hn)
  foot := hs.foot
  most k hk := by rw [World.size_setCell]; exact hs.most k hk
theorem af_p {p g : Nat} {FL : Nat → Prop} : AF p g FL p := .inl rfl
theorem af_g {p g : Nat} {FL : Nat → Prop} : AF p g FL g := .inr (.inl rfl)
/-! ### the calls -/
set_option maxRecDepth 10000 in
set_option maxHeartbeats 800000 in
theorem Fits_t {w : World} {p g lp : Nat} {FL : Nat → Prop} {ws : List Int} {top : Nat} {evs : List Ev} (h : Ar w p g lp FL ws top evs) (at_ n : Int) (h0 : 0 ≤ at_) (h1 : 0 ≤ n) (h2 : at_ + n ≤ top) :
    Calls Try.prog 61 #[.pointer (some ⟨p, 0, none⟩), .int .i64 at_, .int .i64 n] w fun e w' => e = .returned (.bool true) ∧ w' = w := by
  have q1 := h.c1
  have q2 := h.ht
  have q3 := h.hz
  have e1 : (at_ : Int) ≤ top := by omega
  have e2 : n ≤ (top : Int) - at_ := by omega
  clear h h2
  go_enter Try.func61, Try.ntmps61
  go_wp2_with fail
  go_ret
  exact ⟨rfl, rfl⟩
set_option maxRecDepth 10000 in
set_option maxHeartbeats 1600000 in
theorem Fits_f {w : World} {p g lp : Nat} {FL : Nat → Prop} {ws : List Int} {top : Nat} {evs : List Ev} (h : Ar w p g lp FL ws top evs) (at_ n : Int) (h2 : ¬ (0 ≤ at_ ∧ 0 ≤ n ∧ at_ + n ≤ top)) :
    Calls Try.prog 61 #[.pointer (some ⟨p, 0, none⟩), .int .i64 at_, .int .i64 n] w fun e w' => e = .returned (.bool false) ∧ w' = w := by
  have q1 := h.c1
  have q2 := h.ht
  have q3 := h.hz
  clear h
  rcases (by omega : at_ < 0 ∨ (0 ≤ at_ ∧ n < 0) ∨ (0 ≤ at_ ∧ 0 ≤ n ∧ (top : Int) < at_) ∨ (0 ≤ at_ ∧ 0 ≤ n ∧ at_ ≤ top ∧ (top : Int) - at_ < n)) with h | ⟨h, h'⟩ | ⟨h, h', h''⟩ | ⟨h, h', h'', h3⟩
  all_goals
    clear h2
    go_enter Try.func61, Try.ntmps61
    go_wp2_with fail
    go_ret
    first | exact ⟨rfl, rfl⟩ | (refine ⟨?_, rfl⟩; show Ending.returned (.bool (decide (n ≤ (top : Int) - at_))) = _; rw [decide_eq_false (by omega)])
end Go.Proofs.Ytdakbejppnijdaa
