/- A drawn region inside a round of a range over a function: reads first, then calls, and a store last. No condition. -/
import Derived.OrdersIn
import Derived.RangeFuncCalls
import Derived.Test.YtdakbejppnijdaaHeld
namespace Go.Proofs.Ytdakbejppnijdaa
open Go.RowKit
set_option linter.unusedSimpArgs false
set_option linter.unusedVariables false
namespace Rd
section
variable {P : Program} {ops : Array Oper} {md : Region.Mode} {Q : Exit → Act → World → Prop}
theorem upon_in {l n : Nat} {o : Oper} {a : Act} {K K' : Act → World → Prop} (hK : ∀ a w, K a w → K' a w) {r : Result Next} (h : o.upon P a K Q r) : o.uponIn (Fence.wide.inRound l) n P a K' Q r := by
  cases r with
  | ok x w' =>
    cases x <;> simp only [Oper.upon, Oper.uponIn] at h ⊢ <;>
      first
        | exact h.elim
        | exact hK _ _ h
        | exact ⟨(fun h => by cases h), CallsIn.inRound l (callsIn_wide.2 (Calls.mono h (fun e w'' he => by cases e <;> first | exact hK _ _ he | exact he)))⟩
        | exact ⟨(fun h => by cases h), fun c cs _ => by obtain ⟨v, w'', hv, hs⟩ := h c cs; exact ⟨v, w'', hK _ _ hv, stepsIn_wide.2 hs⟩⟩
  | halt x w' => cases x <;> simp only [Oper.upon, Oper.uponIn] at h ⊢ <;> exact h
theorem op_in {l n i : Nat} {a : Act} {w : World} {K K' : Act → World → Prop} (hno : ¬ LetsOut Q) (hnd : ∀ (i : Nat) (o : Oper), ops[i]? = some o → ∀ c : Call, o.op ≠ .defer c) (hK : ∀ a w, K a w → K' a w) (h : wpOp P ops Q i K a w) : wpOpIn (Fence.wide.inRound l) n P ops Q i K' a w := by
  unfold wpOp at h
  unfold wpOpIn
  cases ho : ops[i]? with
  | none => simp only [ho] at h ⊢; exact hK _ _ h
  | some o =>
    simp only [ho] at h ⊢
    split
    · rename_i hw
      rw [if_pos hw] at h
      refine ⟨fun _ _ => trivial, ?_⟩
      rw [Oper.semAt_eq _ _ _ (hnd i o ho)]
      exact upon_in hK (h.resolve_right fun q => hno q.2)
    · rename_i hw
      rw [if_neg hw] at h
      exact ⟨fun _ _ => trivial, hK _ _ h⟩
theorem any_in {l n : Nat} (hno : ¬ LetsOut Q) (hnd : ∀ (i : Nat) (o : Oper), ops[i]? = some o → ∀ c : Call, o.op ≠ .defer c) : ∀ (fuel : Nat) (listed : Array Bool) (a : Act) (w : World), wpAny P md ops Q fuel listed a w → wpAnyIn (Fence.wide.inRound l) n P md ops Q fuel listed a w
  | 0, _, _, _, h => h
  | fuel + 1, listed, a, w, h => ⟨h.1, fun i hi => op_in hno hnd (fun a w h => any_in hno hnd fuel _ a w h) (h.2 i hi)⟩
def noDefer (ops : Array Oper) : Bool := ops.all fun o => match o.op with | .defer _ => false | _ => true
theorem noDefer_spec (h : noDefer ops = true) : ∀ (i : Nat) (o : Oper), ops[i]? = some o → ∀ c : Call, o.op ≠ .defer c := fun i o ho c hc => by
  unfold noDefer at h
  rw [Array.all_eq_true] at h
  obtain ⟨hlt, he⟩ := Array.getElem?_eq_some_iff.1 ho
  have := h i hlt
  rw [he] at this
  simp [hc] at this
theorem region_in {id l n : Nat} {a : Act} {w : World} (hno : ¬ LetsOut Q) (hm : P.follows .mixedOrders = true) (hnd : noDefer ops = true) (h : wpAny P .any ops Q ops.size (Array.replicate ops.size false) a w.drew) : (Code.region id ops true).wpIn (Fence.wide.inRound l) n P Q a w :=
  wpIn_region_any hm (any_in hno (noDefer_spec hnd) _ _ _ _ h)
variable {S : World → Prop} {s : Nat}
def wk (P : Program) (md : Region.Mode) (ops : Array Oper) (Q : Exit → Act → World → Prop) (S : World → Prop) (s : Nat) : List Nat → Array Bool → Act → World → Prop
  | [], listed, a, w => Region.ready md ops listed = [s] ∧ Region.ready md ops (listed.setIfInBounds s true) = [] ∧ wpOp P ops Q s (fun a' w' => Q .normal a' w') a w
  | k :: rest, listed, a, w =>
    (∃ o v, ops[k]? = some o ∧ ((YieldsIf P ops S o v a ∧ Region.waitsFor md ops s k = true) ∨ Yields P ops o v a) ∧ Region.free md ops listed k = true ∧ (Region.ready md ops listed).contains k = true ∧ wk P md ops Q S s rest (listed.setIfInBounds k true) (a.put o.dst v) w)
    ∨ (Region.ready md ops listed = [k] ∧ wpOp P ops Q k (fun a' w' => S w' ∧ wk P md ops Q S s rest (listed.setIfInBounds k true) a' w') a w)
theorem wk_HL (hsel : Region.noSelect ops = true) (hsn : ∃ os, ops[s]? = some os) (hQ : ∀ (i : Nat) (oi : Oper) v a, ops[i]? = some oi → ∀ c w, Q (.panic c) (a.put oi.dst v) w → Q (.panic c) a w) :
    ∀ (is : List Nat) (listed : Array Bool) (a : Act) (w : World), s ∉ is → S w → wk P md ops Q S s is listed a w → HL.HL P md ops Q S s (is.length + 1) listed a w
  | [], listed, a, w, _, _, h => by
    obtain ⟨h1, h2, h3⟩ := h
    refine HL.stop h1 ⟨fun e => by (rw [h1] at e; cases e), fun i hi => ?_⟩
    obtain rfl : i = s := by rw [h1] at hi; simpa using hi
    exact wpOp_mono (fun a' w' q => ⟨h2, q⟩) h3
  | k :: rest, listed, a, w, hs, hS, h => by
    have hks : k ≠ s := fun e => hs (by simp [e])
    have hs' : s ∉ rest := fun e => hs (by simp [e])
    rcases h with ⟨o, v, ho, hy, hf, hr, hn⟩ | ⟨hr, hop⟩
    · have hr' : k ∈ Region.ready md ops listed := by simpa using hr
      have H := wk_HL hsel hsn hQ rest _ _ _ hs' hS hn
      rcases hy with ⟨hy, hw⟩ | hy
      · obtain ⟨os, hos⟩ := hsn
        obtain ⟨os', hos', hw'⟩ := Region.waitsFor_spec hw
        exact HL.first_load ho hos' hw' (Region.noSelect_spec hsel) (fun c a w => hQ k o v a ho c w) hks _ _ _ _ (Region.free_spec ho hf) hr' hy hS H
      · exact HL.first_pure ho (Region.noSelect_spec hsel) (fun c a w => hQ k o v a ho c w) hks _ _ _ _ (Region.free_spec ho hf) hr' hy hS H
    · refine ⟨fun e => by (rw [hr] at e; cases e), fun i hi => ?_⟩
      obtain rfl : i = k := by rw [hr] at hi; simpa using hi
      simp only [if_neg hks]
      exact wpOp_mono (fun a' w' q => ⟨q.1, wk_HL hsel hsn hQ rest _ _ _ hs' q.1 q.2⟩) hop
theorem wk_pure {k : Nat} {rest : List Nat} {listed : Array Bool} {a : Act} {w : World} {o : Oper} {v : Value} (ho : ops[k]? = some o) (hf : Region.free md ops listed k = true) (hr : (Region.ready md ops listed).contains k = true) (hy : Yields P ops o v a)
    (h : wk P md ops Q S s rest (listed.setIfInBounds k true) (a.put o.dst v) w) : wk P md ops Q S s (k :: rest) listed a w := .inl ⟨o, v, ho, .inr hy, hf, hr, h⟩
theorem wk_load {k : Nat} {rest : List Nat} {listed : Array Bool} {a : Act} {w : World} {o : Oper} {v : Value} (ho : ops[k]? = some o) (hf : Region.free md ops listed k = true) (hr : (Region.ready md ops listed).contains k = true) (hw : Region.waitsFor md ops s k = true) (hy : YieldsIf P ops S o v a)
    (h : wk P md ops Q S s rest (listed.setIfInBounds k true) (a.put o.dst v) w) : wk P md ops Q S s (k :: rest) listed a w := .inl ⟨o, v, ho, .inl ⟨hy, hw⟩, hf, hr, h⟩
theorem wk_call {k : Nat} {rest : List Nat} {listed : Array Bool} {a : Act} {w : World} {o : Oper} (ho : ops[k]? = some o) (hr : Region.ready md ops listed = [k]) (hw : Region.wanted o (yielded ops a.tmps) = true)
    (h : o.wp P a w (fun a' w' => S w' ∧ wk P md ops Q S s rest (listed.setIfInBounds k true) a' w') Q) : wk P md ops Q S s (k :: rest) listed a w := .inr ⟨hr, by
  unfold wpOp
  simp only [ho, hw, if_true]
  exact .inl h⟩
theorem wk_last {listed : Array Bool} {a : Act} {w : World} {o : Oper} (ho : ops[s]? = some o) (hr : Region.ready md ops listed = [s]) (hr2 : Region.ready md ops (listed.setIfInBounds s true) = []) (hw : Region.wanted o (yielded ops a.tmps) = true)
    (h : o.wp P a w (fun a' w' => Q .normal a' w') Q) : wk P md ops Q S s [] listed a w := ⟨hr, hr2, by
  unfold wpOp
  simp only [ho, hw, if_true]
  exact .inl h⟩
def okB (ops : Array Oper) (is : List Nat) (s : Nat) : Bool := Region.noSelect ops && noDefer ops && !is.contains s && decide (is.length + 1 = ops.size) && decide (s < ops.size)
/-- A drawn region in a round: the operations is, in that order, then the operation s. -/
theorem go {id l n : Nat} {a : Act} {w : World} (is : List Nat) (s : Nat) (S : World → Prop) (hm : P.follows .mixedOrders = true) (hB : okB ops is s = true) (hS : S w.drew)
    (hQ : ∀ c a w t v, Q (.panic c) (a.put (some t) v) w → Q (.panic c) a w) (hno : ¬ LetsOut Q)
    (h : wk P .any ops Q S s is (Array.replicate ops.size false) a w.drew) : (Code.region id ops true).wpIn (Fence.wide.inRound l) n P Q a w := by
  simp only [okB, Bool.and_eq_true, decide_eq_true_eq, Bool.not_eq_true'] at hB
  obtain ⟨⟨⟨⟨h1, h2⟩, h3⟩, h4⟩, h5⟩ := hB
  refine region_in hno hm h2 ?_
  have := wk_HL (P := P) (md := .any) (S := S) h1 ⟨ops[s], by simp [h5]⟩ (fun i oi v a hi c w h => by
    cases hd : oi.dst with
    | none => rw [hd] at h; exact h
    | some t => rw [hd] at h; exact hQ _ _ _ _ _ h) is _ _ _ (by simpa using h3) hS h
  have := HL.any _ _ _ _ this
  rwa [h4] at this
/-- The same, outside a round. -/
theorem goW {id : Nat} {a : Act} {w : World} (is : List Nat) (s : Nat) (S : World → Prop) (hm : P.follows .mixedOrders = true) (hB : okB ops is s = true) (hS : S w.drew)
    (hQ : ∀ c a w t v, Q (.panic c) (a.put (some t) v) w → Q (.panic c) a w)
    (h : wk P .any ops Q S s is (Array.replicate ops.size false) a w.drew) : (Code.region id ops true).wp P Q a w := by
  simp only [okB, Bool.and_eq_true, decide_eq_true_eq, Bool.not_eq_true'] at hB
  obtain ⟨⟨⟨⟨h1, h2⟩, h3⟩, h4⟩, h5⟩ := hB
  refine wp_region_any hm ?_
  have := wk_HL (P := P) (md := .any) (S := S) h1 ⟨ops[s], by simp [h5]⟩ (fun i oi v a hi c w h => by
    cases hd : oi.dst with
    | none => rw [hd] at h; exact h
    | some t => rw [hd] at h; exact hQ _ _ _ _ _ h) is _ _ _ (by simpa using h3) hS h
  have := HL.any _ _ _ _ this
  rwa [h4] at this
end
end Rd
end Go.Proofs.Ytdakbejppnijdaa
