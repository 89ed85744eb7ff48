/- A drawn region: reads in any order, then stores one behind the other; what hangs on no world may come at any time. No condition. -/
import Derived.OrdersHeld
import Derived.StillTail
import Derived.Deep.RegionHeld
import Derived.Test.YtdakbejppnijdaaCalm
namespace Go.Proofs.Ytdakbejppnijdaa
open Go.RowKit
set_option linter.unusedSimpArgs false
set_option linter.unusedVariables false
namespace HL
section
variable {P : Program} {ops : Array Oper} {md : Region.Mode} {Q : Exit → Act → World → Prop} {S : World → Prop} {s : Nat}
def HL (P : Program) (md : Region.Mode) (ops : Array Oper) (Q : Exit → Act → World → Prop) (S : World → Prop) (s : Nat) : Nat → Array Bool → Act → World → Prop
  | 0, listed, a, w => Region.ready md ops listed = [] ∧ Q .normal a w
  | fuel + 1, listed, a, w => (Region.ready md ops listed = [] → Q .normal a w) ∧
      ∀ i ∈ Region.ready md ops listed, wpOp P ops Q i (fun a' w' => if i = s then wpAny P md ops Q fuel (listed.setIfInBounds i true) a' w' else S w' ∧ HL P md ops Q S s fuel (listed.setIfInBounds i true) a' w') a w
theorem any : ∀ (fuel : Nat) (listed : Array Bool) (a : Act) (w : World), HL P md ops Q S s fuel listed a w → wpAny P md ops Q fuel listed a w
  | 0, _, _, _, h => h
  | fuel + 1, listed, a, w, h => ⟨h.1, fun i hi => wpOp_mono (fun a' w' h' => by
      by_cases his : i = s
      · rw [if_pos his] at h'; exact h'
      · rw [if_neg his] at h'; exact any fuel _ a' w' h'.2) (h.2 i hi)⟩
theorem not_waits {i : Nat} {oj : Oper} {listed : Array Bool} (hr : i ∈ Region.ready md ops listed) (hall : ∀ e ∈ oj.after, Region.binds md e = true → listed.getD e.on false = true) : ∀ e ∈ oj.after, Region.binds md e = true → e.on ≠ i := fun e he hb heq => by
  have h1 := hall e he hb
  have h0 := (mem_ready.1 hr).1
  rw [heq] at h1
  rcases Nat.lt_or_ge i listed.size with h' | h'
  · simp [h'] at h0 h1; rw [h0] at h1; cases h1
  · simp [Array.getElem?_eq_none h'] at h1
theorem first_load {i : Nat} {oi os : Oper} {v : Value} (hi : ops[i]? = some oi) (hos : ops[s]? = some os) (hw : ∃ e ∈ os.after, Region.binds md e = true ∧ e.on = i) (hsel : ∀ (j : Nat) (o : Oper) cs b, ops[j]? = some o → o.op ≠ .select cs b)
    (hQ : ∀ c a w, Q (.panic c) (a.put oi.dst v) w → Q (.panic c) a w) (his : i ≠ s) :
    ∀ (fuel : Nat) (listed : Array Bool) (a : Act) (w : World),
      (∀ j oj, ops[j]? = some oj → j ≠ i → listed.getD j true = false → (∀ e ∈ oj.after, Region.binds md e = true → e.on ≠ i) → oi.apart ops oj = true) →
      i ∈ Region.ready md ops listed → YieldsIf P ops S oi v a → S w →
      HL P md ops Q S s fuel (listed.setIfInBounds i true) (a.put oi.dst v) w → HL P md ops Q S s (fuel + 1) listed a w := by
  intro fuel
  induction fuel with
  | zero =>
    intro listed a w _ hr hy hS H
    refine ⟨fun h => (by rw [h] at hr; cases hr), fun j hj => ?_⟩
    by_cases hji : j = i
    · subst hji
      rw [show (fun a' w' => if j = s then wpAny P md ops Q 0 (listed.setIfInBounds j true) a' w' else S w' ∧ HL P md ops Q S s 0 (listed.setIfInBounds j true) a' w') = (fun a' w' => S w' ∧ HL P md ops Q S s 0 (listed.setIfInBounds j true) a' w') from by simp only [if_neg his]]
      exact hy.wpOp hi hS ⟨hS, H⟩
    · have := ready_mono hj hji
      rw [H.1] at this
      cases this
  | succ fuel ih =>
    intro listed a w hfree hr hy hS H
    refine ⟨fun h => (by rw [h] at hr; cases hr), fun j hj => ?_⟩
    by_cases hji : j = i
    · subst hji
      simp only [if_neg his]
      exact hy.wpOp hi hS ⟨hS, H⟩
    · have h1 := H.2 j (ready_mono hj hji)
      obtain ⟨hjun, oj, hoj, hall⟩ := mem_ready.1 hj
      have hnot := not_waits hr hall
      have hjs : j ≠ s := fun e => by
        subst e
        rw [hos] at hoj
        obtain rfl := Option.some.inj hoj
        obtain ⟨e, he, hb, hon⟩ := hw
        exact hnot e he hb hon
      simp only [if_neg hjs] at h1 ⊢
      have h2 := wpOp_putIf hoj (hfree j oj hoj hji hjun hnot) (fun cs b => hsel i oi cs b hi) (fun cs b => hsel j oj cs b hoj) hQ hy h1
      have hfree' : ∀ k ok, ops[k]? = some ok → k ≠ i → (listed.setIfInBounds j true).getD k true = false →
          (∀ e ∈ ok.after, Region.binds md e = true → e.on ≠ i) → oi.apart ops ok = true := fun k ok hk hki hun hno => by
        refine hfree k ok hk hki ?_ hno
        by_cases hjk : j = k
        · subst hjk; exact hjun
        · rw [getD_set_ne true hjk] at hun; exact hun
      refine wpOp_mono (fun a' w' h3 => ⟨h3.2.1, ih (listed.setIfInBounds j true) a' w' hfree' (ready_mono hr (Ne.symm hji)) h3.1 h3.2.1 ?_⟩) h2
      rw [Array.setIfInBounds_comm _ _ hji]
      exact h3.2.2
theorem first_pure {i : Nat} {oi : Oper} {v : Value} (hi : ops[i]? = some oi) (hsel : ∀ (j : Nat) (o : Oper) cs b, ops[j]? = some o → o.op ≠ .select cs b)
    (hQ : ∀ c a w, Q (.panic c) (a.put oi.dst v) w → Q (.panic c) a w) (his : i ≠ s) :
    ∀ (fuel : Nat) (listed : Array Bool) (a : Act) (w : World),
      (∀ j oj, ops[j]? = some oj → j ≠ i → listed.getD j true = false → (∀ e ∈ oj.after, Region.binds md e = true → e.on ≠ i) → oi.apart ops oj = true) →
      i ∈ Region.ready md ops listed → Yields P ops oi v a → S w →
      HL P md ops Q S s fuel (listed.setIfInBounds i true) (a.put oi.dst v) w → HL P md ops Q S s (fuel + 1) listed a w := by
  intro fuel
  induction fuel with
  | zero =>
    intro listed a w _ hr hy hS H
    refine ⟨fun h => (by rw [h] at hr; cases hr), fun j hj => ?_⟩
    by_cases hji : j = i
    · subst hji
      simp only [if_neg his]
      exact hy.wpOp hi ⟨hS, H⟩
    · have := ready_mono hj hji
      rw [H.1] at this
      cases this
  | succ fuel ih =>
    intro listed a w hfree hr hy hS H
    refine ⟨fun h => (by rw [h] at hr; cases hr), fun j hj => ?_⟩
    by_cases hji : j = i
    · subst hji
      simp only [if_neg his]
      exact hy.wpOp hi ⟨hS, H⟩
    · have h1 := H.2 j (ready_mono hj hji)
      obtain ⟨hjun, oj, hoj, hall⟩ := mem_ready.1 hj
      have hnot := not_waits hr hall
      have hfree' : ∀ k ok, ops[k]? = some ok → k ≠ i → (listed.setIfInBounds j true).getD k true = false →
          (∀ e ∈ ok.after, Region.binds md e = true → e.on ≠ i) → oi.apart ops ok = true := fun k ok hk hki hun hno => by
        refine hfree k ok hk hki ?_ hno
        by_cases hjk : j = k
        · subst hjk; exact hjun
        · rw [getD_set_ne true hjk] at hun; exact hun
      have h2 := wpOp_put hoj (hfree j oj hoj hji hjun hnot) (fun cs b => hsel i oi cs b hi) (fun cs b => hsel j oj cs b hoj) hQ hy h1
      refine wpOp_mono (fun a' w' h3 => ?_) h2
      by_cases hjs : j = s
      · simp only [if_pos hjs] at h3 ⊢
        refine wpAny_first hi hsel hQ fuel (listed.setIfInBounds j true) a' w' hfree' (ready_mono hr (Ne.symm hji)) h3.1 ?_
        rw [Array.setIfInBounds_comm _ _ hji]
        exact h3.2
      · simp only [if_neg hjs] at h3 ⊢
        refine ⟨h3.2.1, ih (listed.setIfInBounds j true) a' w' hfree' (ready_mono hr (Ne.symm hji)) h3.1 h3.2.1 ?_⟩
        rw [Array.setIfInBounds_comm _ _ hji]
        exact h3.2.2
theorem stop {fuel : Nat} {listed : Array Bool} {a : Act} {w : World} (hr : Region.ready md ops listed = [s]) (h : wpAny P md ops Q (fuel + 1) listed a w) : HL P md ops Q S s (fuel + 1) listed a w :=
  ⟨h.1, fun i hi => by
    have his : i = s := by rw [hr] at hi; simpa using hi
    simp only [if_pos his]
    exact h.2 i hi⟩
/-- What the walk asks of the first k operations, in the text's order. -/
def wk (P : Program) (md : Region.Mode) (ops : Array Oper) (S : World → Prop) (s : Nat) (T : Act → Prop) : Nat → List Oper → Act → Prop
  | _, [], a => T a
  | k, o :: rest, a => ∃ v, ((YieldsIf P ops S o v a ∧ Region.waitsFor md ops s k = true) ∨ Yields P ops o v a) ∧ wk P md ops S s T (k + 1) rest (a.put o.dst v)
theorem wk_nil {T : Act → Prop} {k : Nat} {a : Act} (h : T a) : wk P md ops S s T k [] a := h
theorem wk_load {T : Act → Prop} {k : Nat} {o : Oper} {rest : List Oper} {a : Act} {v : Value} (hw : Region.waitsFor md ops s k = true) (hy : YieldsIf P ops S o v a) (h : wk P md ops S s T (k + 1) rest (a.put o.dst v)) : wk P md ops S s T k (o :: rest) a := ⟨v, .inl ⟨hy, hw⟩, h⟩
theorem wk_pure {T : Act → Prop} {k : Nat} {o : Oper} {rest : List Oper} {a : Act} {v : Value} (hy : Yields P ops o v a) (h : wk P md ops S s T (k + 1) rest (a.put o.dst v)) : wk P md ops S s T k (o :: rest) a := ⟨v, .inr hy, h⟩
def headB (md : Region.Mode) (ops : Array Oper) (s : Nat) : Nat → Nat → Array Bool → Bool
  | 0, k, listed => decide (k = s) && decide (Region.ready md ops listed = [s])
  | n + 1, k, listed => Region.free md ops listed k && (Region.ready md ops listed).contains k && headB md ops s n (k + 1) (listed.setIfInBounds k true)
def fin (n k : Nat) (listed : Array Bool) : Array Bool := match n with
  | 0 => listed
  | n + 1 => fin n (k + 1) (listed.setIfInBounds k true)
theorem head {w : World} (hS : S w) (hsel : Region.noSelect ops = true) {g : Nat} (hsn : ∃ os, ops[s]? = some os) : ∀ (n k : Nat) (l : List Oper) (listed : Array Bool) (a : Act), l.length = n → k + n = s → (∀ j, j < n → l[j]? = ops[k + j]?) → headB md ops s n k listed = true →
    (∀ (i : Nat) (oi : Oper) v a, ops[i]? = some oi → ∀ c w, Q (.panic c) (a.put oi.dst v) w → Q (.panic c) a w) →
    wk P md ops S s (fun a' => wpAny P md ops Q (g + 1) (fin n k listed) a' w) k l a → HL P md ops Q S s (n + (g + 1)) listed a w
  | 0, k, [], listed, a, _, _, _, hB, _, h => by
    rw [Nat.zero_add]
    simp only [headB, Bool.and_eq_true, decide_eq_true_eq] at hB
    exact stop hB.2 h
  | n + 1, k, [], listed, a, hl, _, _, _, _, _ => by simp at hl
  | 0, k, o :: l, listed, a, hl, _, _, _, _, _ => by simp at hl
  | n + 1, k, o :: l, listed, a, hl, hks, hlk, hB, hQ, h => by
    simp only [headB, Bool.and_eq_true] at hB
    obtain ⟨⟨hf, hr⟩, hB⟩ := hB
    obtain ⟨v, hy, hn⟩ := h
    have ho : ops[k]? = some o := by simpa using (hlk 0 (by omega)).symm
    have hr' : k ∈ Region.ready md ops listed := by simpa using hr
    have hks' : k ≠ s := by omega
    have H := head hS hsel hsn n (k + 1) l (listed.setIfInBounds k true) (a.put o.dst v) (by simpa using hl) (by omega) (fun j hj => by
      have := hlk (j + 1) (by omega)
      rw [show k + (j + 1) = k + 1 + j by omega] at this
      simpa using this) hB hQ hn
    rw [show n + 1 + (g + 1) = (n + (g + 1)) + 1 by omega]
    rcases hy with ⟨hy, hw⟩ | hy
    · obtain ⟨os, hos⟩ := hsn
      obtain ⟨os', hos', hw'⟩ := Region.waitsFor_spec hw
      exact first_load ho hos' hw' (Region.noSelect_spec hsel) (fun c a w => hQ k o v a ho c w) hks' _ _ _ _ (Region.free_spec ho hf) hr' hy hS H
    · exact first_pure ho (Region.noSelect_spec hsel) (fun c a w => hQ k o v a ho c w) hks' _ _ _ _ (Region.free_spec ho hf) hr' hy hS H
def okB (md : Region.Mode) (l : List Oper) (n : Nat) : Bool :=
  let L0 := Array.replicate l.toArray.size false
  Region.noSelect l.toArray && decide (n < l.length) && headB md l.toArray n n 0 L0 && Region.seqB md l.toArray (l.length - n) n (fin n 0 L0)
/-- The region, when the first n operations go in the text's order, and the others stand one behind the other. -/
theorem go {id : Nat} {a : Act} {w : World} {l : List Oper} (n : Nat) (S : World → Prop) (hm : P.follows .mixedOrders = true) (hB : okB .any l n = true) (hS : S w.drew)
    (hQ : ∀ c a w t v, Q (.panic c) (a.put (some t) v) w → Q (.panic c) a w)
    (h : wk P .any l.toArray S n (fun a' => wpList P l.toArray Q (l.drop n) a' w.drew) 0 (l.take n) a) : (Code.region id l.toArray true).wp P Q a w := by
  simp only [okB, Bool.and_eq_true, decide_eq_true_eq] at hB
  obtain ⟨⟨⟨h1, h2⟩, h3⟩, h4⟩ := hB
  refine wp_region_any hm ?_
  show wpAny P .any l.toArray Q l.toArray.size _ a w.drew
  have hlen : (l.take n).length = n := by simp; omega
  have hd : (l.drop n).length = l.length - n := by simp
  obtain ⟨g, hg⟩ : ∃ g, l.length - n = g + 1 := ⟨l.length - n - 1, by omega⟩
  have mono : ∀ (T T' : Act → Prop), (∀ a, T a → T' a) → ∀ (l' : List Oper) (k : Nat) (a : Act), wk P .any l.toArray S n T k l' a → wk P .any l.toArray S n T' k l' a := by
    intro T T' hT l'
    induction l' with
    | nil => intro k a h; exact hT a h
    | cons o l' ih => intro k a ⟨v, hy, h⟩; exact ⟨v, hy, ih _ _ h⟩
  have H := head (P := P) (md := .any) (ops := l.toArray) (S := S) (s := n) (Q := Q) (w := w.drew) (g := g) hS h1 ⟨l[n]'h2, by simp [h2]⟩ n 0 (l.take n) (Array.replicate l.toArray.size false) a hlen (by omega) (fun j hj => by simp [hj]) h3 (fun i oi v a hi c w h => by
      cases hd : oi.dst with
      | none => rw [hd] at h; exact h
      | some t => rw [hd] at h; exact hQ _ _ _ _ _ h)
    (mono _ _ (fun a' ha' => by
      have := wpAny_of_seq (P := P) (md := .any) (ops := l.toArray) (Q' := Q) (l.drop n) n (fin n 0 (Array.replicate l.toArray.size false)) a' w.drew (fun j => by simp [List.getElem?_drop]) (by rw [hd]; exact h4) ha'
      rwa [hd, hg] at this) _ _ _ h)
  have := any _ _ _ _ H
  rwa [show n + (g + 1) = l.toArray.size by simp; omega] at this
end
end HL
end Go.Proofs.Ytdakbejppnijdaa
