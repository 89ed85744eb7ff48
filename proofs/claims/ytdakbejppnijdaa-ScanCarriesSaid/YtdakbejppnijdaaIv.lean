/- An arena beside the boxes of a function that ranges over a function. No condition. -/
import Derived.Test.YtdakbejppnijdaaRd
import Derived.Test.YtdakbejppnijdaaBwI
import Derived.RangeFuncFrom
import Derived.Test.YtdakbejppnijdaaArN
namespace Go.Proofs.Ytdakbejppnijdaa
open Go.RowKit
set_option linter.unusedSimpArgs false
set_option linter.unusedVariables false
def CI (w : World) (F : Nat → Prop) : Prop := ∀ i, F i → ∃ o, w.heap[i]? = some o ∧ o.isCells = true
theorem ko_below {w w' : World} (h : Below w.heap.size w w') : KeepsOthers w w' := ⟨h.size, fun k o hk _ => (h.block k (Array.getElem?_eq_some_iff.1 hk).1).trans hk⟩
theorem ko_step {F F' : Nat → Prop} {w w' : World} (h : Step F F' w w') (hc : CI w F) : KeepsOthers w w' := ⟨h.size, fun k o hk ho => (h.keep k (Array.getElem?_eq_some_iff.1 hk).1 (fun hf => by
  obtain ⟨o', h1, h2⟩ := hc k hf
  rw [hk] at h1
  obtain rfl := Option.some.inj h1
  rw [ho] at h2
  cases h2)).trans hk⟩
theorem Ar.kept {w w' : World} {p g lp : Nat} {FL : Nat → Prop} {ws : List Int} {top : Nat} {evs : List Ev} (h : Ar w p g lp FL ws top evs) (hs : w.heap.size ≤ w'.heap.size) (hk : ∀ i, AF p g FL i → w'.heap[i]? = w.heap[i]?) : Ar w' p g lp FL ws top evs where
  bp := (hk p af_p).trans h.bp
  bg := (hk g af_g).trans h.bg
  lg := h.lg.kept hs (fun i hi => hk i (.inr (.inr hi)))
  np := h.np
  ng := h.ng
  ht := h.ht
  hz := h.hz
theorem Ar.cut {w : World} {p g lp : Nat} {FL : Nat → Prop} {ws : List Int} {top : Nat} {evs : List Ev} (h : Ar w p g lp FL ws top evs) : ∃ F0, Ar w p g lp F0 ws top evs ∧ CI w (AF p g F0) ∧ ∀ i, F0 i → FL i := by
  obtain ⟨ev, hp, ho, hF, hF2, hF3⟩ := h.lg
  have hsub : ∀ i, (i = lp ∨ ev.ownBlock = some i) → FL i := by
    rintro i (rfl | hi)
    · exact hF
    · exact hF2 i hi
  refine ⟨fun i => i = lp ∨ ev.ownBlock = some i, ⟨h.bp, h.bg, ⟨ev, hp, ho, .inl rfl, fun k hk => .inr hk, fun i hi => hF3 i (hsub i hi)⟩, fun hf => h.np (hsub _ hf), fun hf => h.ng (hsub _ hf), h.ht, h.hz⟩, ?_, hsub⟩
  rintro i (rfl | rfl | rfl | hi)
  · exact ⟨_, h.bp, rfl⟩
  · exact ⟨_, h.bg, rfl⟩
  · exact ⟨_, hp, rfl⟩
  · rcases ho.2 with ⟨h0, _⟩ | ⟨g', cap, cur, rfl, h1, h2, h3⟩
    · rw [h0] at hi
      cases hi
    · simp only [Value.ownBlock, Option.some.injEq] at hi
      subst hi
      exact ⟨_, h2, rfl⟩
theorem Ar.wide {w : World} {p g lp : Nat} {F A : Nat → Prop} {ws : List Int} {top : Nat} {evs : List Ev} (h : Ar w p g lp F ws top evs) (hA : ∀ i, A i → i < w.heap.size) (np : ¬ A p) (ng : ¬ A g) : Ar w p g lp (fun i => F i ∨ A i) ws top evs where
  bp := h.bp
  bg := h.bg
  lg := by
    obtain ⟨ev, hp, ho, hF, hF2, hF3⟩ := h.lg
    exact ⟨ev, hp, ho, .inl hF, fun k hk => .inl (hF2 k hk), fun i hi => hi.elim (hF3 i) (hA i)⟩
  np := fun hf => hf.elim h.np np
  ng := fun hf => hf.elim h.ng ng
  ht := h.ht
  hz := h.hz
/-- The arena as it stands somewhere in a loop over a function, w the world in which the function began; NB the boxes that are no part of it. -/
def Iv (w : World) (p g lp : Nat) (FL : Nat → Prop) (top : Nat) (NB : Nat → Prop) (ws : List Int) (E : List Ev) (W : World) : Prop :=
  ∃ F, Ar W p g lp F ws top E ∧ CI W (AF p g F) ∧ Step (AF p g FL) (AF p g (fun i => F i ∨ FL i)) w W ∧ ∀ b, NB b → b < W.heap.size ∧ ¬ AF p g F b
namespace Iv
variable {w W W' : World} {p g lp top : Nat} {FL NB : Nat → Prop} {ws : List Int} {E : List Ev}
theorem start (h : Ar w p g lp FL ws top E) (hb : Below w.heap.size w W) (hn : ∀ b, NB b → b < W.heap.size ∧ ¬ AF p g FL b) : Iv w p g lp FL top NB ws E W := by
  obtain ⟨F, hF, hC, hs⟩ := h.cut
  refine ⟨F, hF.below (Lib.hid hb), fun i hi => ?_, ⟨hb.os, hb.tape, hb.output, hb.size, fun i hi _ => hb.block i hi, fun i _ => ?_, fun i hi => ?_⟩, fun b hb' => ⟨(hn b hb').1, fun hf => (hn b hb').2 ?_⟩⟩
  · obtain ⟨o, h1, h2⟩ := hC i hi
    exact ⟨o, (hb.block i (hF.most i hi)).trans h1, h2⟩
  · constructor
    · rintro (h | h | h | h)
      · exact .inl h
      · exact .inr (.inl h)
      · exact .inr (.inr (hs i h))
      · exact .inr (.inr h)
    · rintro (h | h | h)
      · exact .inl h
      · exact .inr (.inl h)
      · exact .inr (.inr (.inr h))
  · refine Nat.lt_of_lt_of_le (h.most i ?_) hb.size
    rcases hi with h | h | h | h
    · exact .inl h
    · exact .inr (.inl h)
    · exact .inr (.inr (hs i h))
    · exact .inr (.inr h)
  · rcases hf with h | h | h
    · exact .inl h
    · exact .inr (.inl h)
    · exact .inr (.inr (hs b h))
theorem size (h : Iv w p g lp FL top NB ws E W) : w.heap.size ≤ W.heap.size := by obtain ⟨_, _, _, h, _⟩ := h; exact h.size
theorem mono {NB' : Nat → Prop} (h : Iv w p g lp FL top NB ws E W) (hm : ∀ b, NB' b → NB b) : Iv w p g lp FL top NB' ws E W := by
  obtain ⟨F, h1, h2, h3, h4⟩ := h
  exact ⟨F, h1, h2, h3, fun b hb => h4 b (hm b hb)⟩
theorem add (h : Iv w p g lp FL top NB ws E W) (k : Nat) (hk : W.heap.size ≤ k) (hk' : k < W'.heap.size) (hB : Below W.heap.size W W') : Iv w p g lp FL top (fun b => b = k ∨ NB b) ws E W' := by
  obtain ⟨F, h1, h2, h3, h4⟩ := h
  refine ⟨F, h1.below (Lib.hid hB), fun i hi => ?_, h3.trans (Step.of_below h3.most hB), fun b hb => ?_⟩
  · obtain ⟨o, o1, o2⟩ := h2 i hi
    exact ⟨o, (hB.block i (h1.most i hi)).trans o1, o2⟩
  · rcases hb with rfl | hb
    · exact ⟨hk', fun hf => absurd (h1.most _ hf) (by omega)⟩
    · exact ⟨Nat.lt_of_lt_of_le (h4 b hb).1 hB.size, (h4 b hb).2⟩
theorem kept (h : Iv w p g lp FL top NB ws E W) (h1 : W'.os = W.os) (h2 : W'.tape = W.tape) (h3 : W'.output = W.output) (h4 : W.heap.size ≤ W'.heap.size) (h5 : ∀ i, i < w.heap.size ∨ (∃ o, W.heap[i]? = some o ∧ o.isCells = true ∧ ¬ NB i) → i < W.heap.size → W'.heap[i]? = W.heap[i]?) : Iv w p g lp FL top NB ws E W' := by
  obtain ⟨F, a1, a2, a3, a4⟩ := h
  have hk : ∀ i, AF p g F i → W'.heap[i]? = W.heap[i]? := fun i hi => by
    obtain ⟨o, o1, o2⟩ := a2 i hi
    exact h5 i (.inr ⟨o, o1, o2, fun hb => (a4 i hb).2 hi⟩) (a1.most i hi)
  refine ⟨F, a1.kept h4 hk, fun i hi => ?_, ⟨h1.trans a3.os, h2.trans a3.tape, h3.trans a3.output, Nat.le_trans a3.size h4, fun i hi hn => (h5 i (.inl hi) (Nat.lt_of_lt_of_le hi a3.size)).trans (a3.keep i hi hn), a3.foot, fun i hi => Nat.lt_of_lt_of_le (a3.most i hi) h4⟩, fun b hb => ⟨Nat.lt_of_lt_of_le (a4 b hb).1 h4, (a4 b hb).2⟩⟩
  obtain ⟨o, o1, o2⟩ := a2 i hi
  exact ⟨o, (hk i hi).trans o1, o2⟩
theorem below (h : Iv w p g lp FL top NB ws E W) (hb : Below W.heap.size W W') : Iv w p g lp FL top NB ws E W' := h.kept hb.os hb.tape hb.output hb.size (fun i _ hi => hb.block i hi)
theorem far (h : Iv w p g lp FL top NB ws E W) {b i : Nat} (hb : NB b) (hw : w.heap.size ≤ b) (u : Value) : Iv w p g lp FL top NB ws E (W.setCell ⟨b, i, none⟩ u) :=
  h.kept rfl rfl rfl (by simp) (fun k hk _ => Below.heap_setCell W ⟨b, i, none⟩ u k (by
    intro e
    subst e
    rcases hk with hk | ⟨_, _, _, hn⟩
    · exact absurd hk (Nat.not_lt.2 hw)
    · exact hn hb))
theorem grown (h : Iv w p g lp FL top NB ws E W) {row : Option Nat} (hg : W.grownBy W' row) (hr : ∀ r, row = some r → w.heap.size ≤ r ∧ ∃ o : Obj, W.heap[r]? = some o ∧ o.isCells = false) : Iv w p g lp FL top NB ws E W' :=
  h.kept hg.os hg.tape hg.output hg.size (fun i hi hlt => hg.block i hlt (fun e => by
    obtain ⟨h1, o, h2, h3⟩ := hr i e.symm
    rcases hi with hi | ⟨o', h4, h5, _⟩
    · omega
    · rw [h2] at h4
      obtain rfl := Option.some.inj h4
      rw [h3] at h5
      cases h5))
/-- What a call of the arena's leaves of all else. -/
def Kp (NB : Nat → Prop) (W W' : World) : Prop := KeepsOthers W W' ∧ ∀ b, NB b → b < W.heap.size → W'.heap[b]? = W.heap[b]?
theorem call (h : Iv w p g lp FL top NB ws E W) {f : FuncId} {args : Array Value} {R : Ending → Prop} {ws' : List Int} {E' : List Ev}
    (hc : ∀ F, Ar W p g lp F ws top E → Calls Try.prog f args W fun e w' => R e ∧ ∃ F', Ar w' p g lp F' ws' top E' ∧ Step (AF p g F) (AF p g F') W w') :
    Calls Try.prog f args W fun e w' => R e ∧ Iv w p g lp FL top NB ws' E' w' ∧ Kp NB W w' := by
  obtain ⟨F, a1, a2, a3, a4⟩ := h
  refine (hc F a1).mono ?_
  rintro e w' ⟨hR, F', b1, b2⟩
  obtain ⟨F0, c1, c2, c3⟩ := b1.cut
  refine ⟨hR, ⟨F0, c1, c2, ⟨b2.os.trans a3.os, b2.tape.trans a3.tape, b2.output.trans a3.output, Nat.le_trans a3.size b2.size, fun i hi hn => ?_, fun i hi => ?_, fun i hi => ?_⟩, fun b hb => ⟨Nat.lt_of_lt_of_le (a4 b hb).1 b2.size, fun hf => ?_⟩⟩, ko_step b2 a2, fun b hb hlt => b2.keep b hlt (a4 b hb).2⟩
  · refine (b2.keep i (Nat.lt_of_lt_of_le hi a3.size) (fun hf => hn ((a3.foot i hi).1 ?_))).trans (a3.keep i hi hn)
    rcases hf with h | h | h
    · exact .inl h
    · exact .inr (.inl h)
    · exact .inr (.inr (.inl h))
  · constructor
    · rintro (h | h | h | h)
      · exact .inl h
      · exact .inr (.inl h)
      · have := (b2.foot i (Nat.lt_of_lt_of_le hi a3.size)).1 (.inr (.inr (c3 i h)))
        refine (a3.foot i hi).1 ?_
        rcases this with h | h | h
        · exact .inl h
        · exact .inr (.inl h)
        · exact .inr (.inr (.inl h))
      · exact .inr (.inr h)
    · rintro (h | h | h)
      · exact .inl h
      · exact .inr (.inl h)
      · exact .inr (.inr (.inr h))
  · rcases hi with h | h | h | h
    · exact h ▸ c1.bp.lt
    · exact h ▸ c1.bg.lt
    · exact c1.lg.most i h
    · exact Nat.lt_of_lt_of_le (a3.most i (.inr (.inr (.inr h)))) b2.size
  · have hF' : AF p g F' b := by
      rcases hf with h | h | h
      · exact .inl h
      · exact .inr (.inl h)
      · exact .inr (.inr (c3 b h))
    exact (a4 b hb).2 ((b2.foot b (a4 b hb).1).1 hF')
/-- At the end. -/
theorem out (h : Iv w p g lp FL top NB ws E W) (np : ¬ FL p) (ng : ¬ FL g) : ∃ F', Ar W p g lp F' ws top E ∧ Step (AF p g FL) (AF p g F') w W := by
  obtain ⟨F, a1, a2, a3, a4⟩ := h
  exact ⟨_, a1.wide (fun i hi => a3.most i (.inr (.inr (.inr hi)))) np ng, a3⟩
end Iv
end Go.Proofs.Ytdakbejppnijdaa
