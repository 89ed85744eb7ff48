/- A region that draws its order: operations that read, calls that only make memory, new boxes, and stores at its end: one walk serves every order. No condition. -/
import Derived.Test.YtdakbejppnijdaaKit
import Derived.StillTail
import Derived.BigQuiet
import Derived.Deep.Quiet
import Derived.Below
import Derived.Laws.Rows
namespace Go.Proofs.Ytdakbejppnijdaa
open Go.RowKit
set_option linter.unusedSimpArgs false
set_option linter.unusedVariables false
theorem below_thru {w0 W W' : World} (h : Below w0.heap.size w0 W) (k : Below W.heap.size W W') : Below w0.heap.size w0 W' :=
  h.trans (k.mono h.size)
namespace Calm
theorem endFrame_ended (P : Program) (w : World) : ∃ o w', step P (lone { fn := 0, tmps := #[], todo := [.code (.exit 0)], defers := [], mode := .run, kind := .normal } [] w) = .ended o w' := by
  have h : (stepG P true { frame := { fn := 0, tmps := #[], todo := [.code (.exit 0)], defers := [], mode := .run, kind := .normal }, callers := [], status := .running, dying := none } w).bare = .ended (.stuck "exit, goto: no such block or label" (({ fn := 0, tmps := #[], todo := [.code (.exit 0)], defers := [], mode := .run, kind := .normal } : Frame).pos P)) w := by
    simp [stepG, stepG.exec, exitTo]
  exact ⟨_, _, step_lone_ended h⟩
theorem runN_next {P : Program} {n : Nat} {m m' : Machine} (h : runN P n m = .next m') : n = 0 ∧ m = m' ∨ ∃ m1 k, n = k + 1 ∧ step P m = .next m1 ∧ runN P k m1 = .next m' := by
  cases n with
  | zero => simp [runN] at h; exact .inl ⟨rfl, h⟩
  | succ k =>
    simp only [runN] at h
    cases hs : step P m with
    | next m1 => rw [hs] at h; exact .inr ⟨m1, k, rfl, rfl, h⟩
    | ended o w => rw [hs] at h; simp at h
def endFrame : Frame := { fn := 0, tmps := #[], todo := [.code (.exit 0)], defers := [], mode := .run, kind := .normal }
theorem steps_one {P : Program} {m : Machine} {fr fr' : Frame} {w w' : World} {v v' : Value} (n n' : Nat) (hl : fr.leaving P w (.returned v)) (hl' : fr'.leaving P w' (.returned v'))
    (h : runN P n m = .next (lone fr [endFrame] w)) (h' : runN P (n + n') m = .next (lone fr' [endFrame] w')) : v = v' := by
  rw [runN_add, h] at h'
  simp only at h'
  rcases runN_next h' with ⟨_, h1⟩ | ⟨m1, k, _, h1, h2⟩
  · simp [lone] at h1
    obtain ⟨rfl, rfl⟩ := h1
    obtain ⟨_, _, _, fn, hf, hr⟩ := hl
    obtain ⟨_, _, _, fn', hf', hr'⟩ := hl'
    rw [hf] at hf'
    obtain rfl := Option.some.inj hf'
    rw [hr] at hr'
    simpa using hr'
  · rw [step_leave_returned hl] at h1
    have h1 : lone (endFrame.finish v) [] w = m1 := by simpa using h1
    subst h1
    rcases runN_next h2 with ⟨_, h3⟩ | ⟨m2, k2, _, h3, h4⟩
    · simp [lone] at h3
    · obtain ⟨o, w'', hs⟩ := endFrame_ended P w
      have : endFrame.finish v = endFrame := rfl
      rw [this] at h3
      unfold endFrame at h3
      rw [hs] at h3
      cases h3
theorem calls_one {P : Program} {f : FuncId} {args : Array Value} {w : World} {v v' : Value} {R R' : World → Prop}
    (h : Calls P f args w fun e w' => e = .returned v ∧ R w') (h' : Calls P f args w fun e w' => e = .returned v' ∧ R' w') : v = v' := by
  obtain ⟨e, w1, fr, ⟨rfl, _⟩, ⟨n, hn⟩, _, hl⟩ := h [endFrame]
  obtain ⟨e, w1', fr', ⟨rfl, _⟩, ⟨n', hn'⟩, _, hl'⟩ := h' [endFrame]
  rcases Nat.le_total n n' with hle | hle
  · obtain ⟨d, rfl⟩ := Nat.le.dest hle
    exact steps_one n d hl hl' hn hn'
  · obtain ⟨d, rfl⟩ := Nat.le.dest hle
    exact (steps_one n' d hl' hl hn' hn).symm
section
variable {P : Program} {ops : Array Oper} {md : Region.Mode} {S : World → Prop} {al : TypeId → Obj} {B : Nat}
def upon (P : Program) (W : World) (v : Value) : Result Next → Prop
  | .ok (.value u) w' => w' = W ∧ u = v
  | .ok .skip w' => w' = W ∧ v = undef
  | .ok (.enter f args) w' => w' = W ∧ Calls P f args W (fun e w'' => e = .returned v ∧ Below W.heap.size W w'')
  | _ => False
def at_ (P : Program) (o : Oper) (a : Act) (W : World) (v : Value) : Prop := upon P W v ((execOp a.eval o).run P W)
def calm (P : Program) (S : World → Prop) (o : Oper) (a : Act) (K : Act → Prop) : Prop := ∃ v, (∀ n : Ext S, at_ P o a n.w v) ∧ K (a.put o.dst v)
def walk (P : Program) (ops : Array Oper) (S : World → Prop) (Q : Act → Prop) : List Oper → Act → Prop
  | [], a => Q a
  | o :: rest, a => if Region.wanted o (yielded ops a.tmps) then calm P S o a (walk P ops S Q rest) else walk P ops S Q rest (a.put o.dst undef)
theorem walk_nil {Q : Act → Prop} {a : Act} (h : Q a) : walk P ops S Q [] a := h
theorem walk_step {Q : Act → Prop} {a : Act} {o : Oper} {rest : List Oper}
    (h : ∀ K : Act → Prop, (∀ a, walk P ops S Q rest a → K a) → if Region.wanted o (yielded ops a.tmps) then calm P S o a K else K (a.put o.dst undef)) : walk P ops S Q (o :: rest) a :=
  h _ (fun _ h => h)
def upd (g : Nat → Option Nat) (i p : Nat) : Nat → Option Nat := fun k => if k = i then some p else g k
theorem upd_comm (g : Nat → Option Nat) {i j : Nat} (p q : Nat) (h : i ≠ j) : upd (upd g i p) j q = upd (upd g j q) i p := by
  funext k
  unfold upd
  by_cases h1 : k = i
  · subst h1; simp [h]
  · by_cases h2 : k = j
    · subst h2; simp [h1]
    · simp [h1, h2]
def isAlloc (o : Oper) : Option TypeId := match o.op, o.guard with
  | .alloc e, none => some e
  | _, _ => none
def cOp (P : Program) (ops : Array Oper) (S : World → Prop) (B i : Nat) (K : (Nat → Option Nat) → Act → Prop) (g : Nat → Option Nat) (a : Act) : Prop :=
  match ops[i]? with
  | none => K g a
  | some o => match isAlloc o with
    | some _ => ∀ p, B ≤ p → (∀ j, g j ≠ some p) → K (upd g i p) (a.put o.dst (.pointer (some ⟨p, 0, none⟩)))
    | none => if Region.wanted o (yielded ops a.tmps) then calm P S o a (K g) else K g (a.put o.dst undef)
/-- What is known of a world when the boxes of g are there. -/
structure D (ops : Array Oper) (S : World → Prop) (al : TypeId → Obj) (B : Nat) (g : Nat → Option Nat) (W : World) : Prop where
  s : S W
  box : ∀ j p, g j = some p → ∃ o e, ops[j]? = some o ∧ isAlloc o = some e ∧ W.heap[p]? = some (al e)
  inj : ∀ j k p, g j = some p → g k = some p → j = k
  low : ∀ j p, g j = some p → B ≤ p
theorem D.lt {g : Nat → Option Nat} {W : World} (h : D ops S al B g W) {j p : Nat} (hj : g j = some p) : p < W.heap.size := by
  obtain ⟨o, e, _, _, hh⟩ := h.box j p hj
  exact (Array.getElem?_eq_some_iff.1 hh).1
theorem D.below {g : Nat → Option Nat} {W W' : World} (hcl : ∀ W W', S W → Below W.heap.size W W' → S W') (h : D ops S al B g W) (hb : Below W.heap.size W W') : D ops S al B g W' :=
  ⟨hcl W W' h.s hb, fun j p hj => by
    obtain ⟨o, e, h1, h2, h3⟩ := h.box j p hj
    exact ⟨o, e, h1, h2, (hb.block p (h.lt hj)).trans h3⟩, h.inj, h.low⟩
theorem D.alloc {g : Nat → Option Nat} {W : World} (hcl : ∀ W W', S W → Below W.heap.size W W' → S W') (hBs : ∀ W, S W → B ≤ W.heap.size) (h : D ops S al B g W) {i : Nat} {o : Oper} {e : TypeId} (hi : ops[i]? = some o) (he : isAlloc o = some e) :
    D ops S al B (upd g i W.heap.size) (W.alloc (al e)) := by
  have hb : Below W.heap.size W (W.alloc (al e)) := (Below.refl _ _).alloc (Nat.le_refl _) _
  have h' := h.below hcl hb
  refine ⟨h'.s, fun j p hj => ?_, fun j k p hj hk => ?_, fun j p hj => ?_⟩
  · unfold upd at hj
    by_cases hji : j = i
    · rw [if_pos hji] at hj
      obtain rfl := Option.some.inj hj
      subst hji
      exact ⟨o, e, hi, he, heap_alloc_new W _⟩
    · rw [if_neg hji] at hj
      exact h'.box j p hj
  · unfold upd at hj hk
    by_cases hji : j = i
    · by_cases hki : k = i
      · rw [hji, hki]
      · rw [if_pos hji] at hj
        rw [if_neg hki] at hk
        obtain rfl := Option.some.inj hj
        exact absurd (h.lt hk) (Nat.lt_irrefl _)
    · rw [if_neg hji] at hj
      by_cases hki : k = i
      · rw [if_pos hki] at hk
        obtain rfl := Option.some.inj hk
        exact absurd (h.lt hj) (Nat.lt_irrefl _)
      · rw [if_neg hki] at hk
        exact h.inj j k p hj hk
  · unfold upd at hj
    by_cases hji : j = i
    · rw [if_pos hji] at hj
      obtain rfl := Option.some.inj hj
      exact hBs W h.s
    · rw [if_neg hji] at hj
      exact h.low j p hj
theorem calm_mono {o : Oper} {a : Act} {K K' : Act → Prop} (h : ∀ a, K a → K' a) (hh : calm P S o a K) : calm P S o a K' :=
  let ⟨v, h1, h2⟩ := hh
  ⟨v, h1, h _ h2⟩
theorem cOp_mono {i : Nat} {g : Nat → Option Nat} {a : Act} {K K' : (Nat → Option Nat) → Act → Prop} (h : ∀ g a, K g a → K' g a) (hh : cOp P ops S B i K g a) : cOp P ops S B i K' g a := by
  unfold cOp at *
  split
  · exact h _ _ (by simpa [*] using hh)
  · rename_i o ho
    simp only [ho] at hh
    split
    · rename_i e he
      simp only [he] at hh
      exact fun p h1 h2 => h _ _ (hh p h1 h2)
    · rename_i he
      simp only [he] at hh
      split
      · rename_i hw; simp only [hw, if_true] at hh; exact calm_mono (h g) hh
      · rename_i hw; simp only [hw] at hh; exact h _ _ hh
theorem wp_of_cOp {Q' : Exit → Act → World → Prop} {i : Nat} {g : Nat → Option Nat} {a : Act} {W : World} {K : (Nat → Option Nat) → Act → Prop} {K' : Act → World → Prop}
    (hcl : ∀ W W', S W → Below W.heap.size W W' → S W') (hBs : ∀ W, S W → B ≤ W.heap.size)
    (hal : ∀ (i : Nat) (o : Oper) (e : TypeId), ops[i]? = some o → isAlloc o = some e → ∀ (a : Act) (W : World), (execOp a.eval o).run P W = .ok (.value (.pointer (some ⟨W.heap.size, 0, none⟩))) (W.alloc (al e)))
    (h : ∀ g' a' W', D ops S al B g' W' → K g' a' → K' a' W') (hD : D ops S al B g W) (hh : cOp P ops S B i K g a) : wpOp P ops Q' i K' a W := by
  unfold cOp at hh
  unfold wpOp
  split
  · rename_i ho; simp only [ho] at hh; exact h _ _ _ hD hh
  · rename_i o ho
    simp only [ho] at hh
    cases he : isAlloc o with
    | some e =>
      simp only [he] at hh
      have hg : o.guard = none := by
        unfold isAlloc at he
        split at he
        · assumption
        · cases he
      rw [if_pos (by simp [Region.wanted, hg])]
      refine .inl ?_
      unfold Oper.wp
      rw [hal i o e ho he a W]
      exact h _ _ _ (hD.alloc hcl hBs ho he) (hh W.heap.size (hBs W hD.s) (fun j hj => Nat.lt_irrefl _ (hD.lt hj)))
    | none =>
      simp only [he] at hh
      split
      · rename_i hw
        simp only [hw, if_true] at hh
        refine .inl ?_
        obtain ⟨v, h1, h2⟩ := hh
        have h3 := h1 ⟨W, hD.s⟩
        unfold at_ at h3
        unfold Oper.wp
        change upon P W v ((execOp a.eval o).run P W) at h3
        generalize (execOp a.eval o).run P W = r at h3 ⊢
        cases r with
        | ok n w' =>
          cases n <;> simp only [upon] at h3 <;> simp only [Oper.upon]
          case value u =>
            obtain ⟨e1, e2⟩ := h3
            rw [e1, e2]
            exact h _ _ _ hD h2
          case skip =>
            obtain ⟨e1, e2⟩ := h3
            rw [e1, ← e2]
            exact h _ _ _ hD h2
          case enter f args =>
            obtain ⟨e1, hc⟩ := h3
            rw [e1]
            exact hc.mono fun e w'' ⟨he, hw''⟩ => by subst he; exact h _ _ _ (hD.below hcl hw'') h2
        | halt x w' => simp only [upon] at h3
      · rename_i hw
        simp only [hw] at hh
        exact h _ _ _ hD hh
def anyC (P : Program) (md : Region.Mode) (ops : Array Oper) (S : World → Prop) (B n : Nat) (L : Array Bool → (Nat → Option Nat) → Act → Prop) : Nat → Array Bool → (Nat → Option Nat) → Act → Prop
  | 0, listed, g, a => L listed g a
  | f + 1, listed, g, a => Region.ready md ops listed ≠ [] ∧ ∀ i ∈ Region.ready md ops listed, i < n ∧ cOp P ops S B i (fun g' a' => anyC P md ops S B n L f (listed.setIfInBounds i true) g' a') g a
theorem any_of_head {n t : Nat} {L : Array Bool → (Nat → Option Nat) → Act → Prop} {Q' : Exit → Act → World → Prop}
    (hcl : ∀ W W', S W → Below W.heap.size W W' → S W') (hBs : ∀ W, S W → B ≤ W.heap.size)
    (hal : ∀ (i : Nat) (o : Oper) (e : TypeId), ops[i]? = some o → isAlloc o = some e → ∀ (a : Act) (W : World), (execOp a.eval o).run P W = .ok (.value (.pointer (some ⟨W.heap.size, 0, none⟩))) (W.alloc (al e)))
    (hL : ∀ listed g a W, D ops S al B g W → L listed g a → wpAny P md ops Q' t listed a W) :
    ∀ (f : Nat) (listed : Array Bool) (g : Nat → Option Nat) (a : Act) (W : World), D ops S al B g W → anyC P md ops S B n L f listed g a → wpAny P md ops Q' (f + t) listed a W
  | 0, listed, g, a, W, hD, h => by rw [Nat.zero_add]; exact hL _ _ _ _ hD h
  | f + 1, listed, g, a, W, hD, h => by
    rw [show f + 1 + t = (f + t) + 1 by omega]
    exact ⟨fun h0 => absurd h0 h.1, fun i hi => wp_of_cOp hcl hBs hal (fun g' a' W' hD' h' => any_of_head hcl hBs hal hL f _ g' a' W' hD' h') hD (h.2 i hi).2⟩
def Y (P : Program) (ops : Array Oper) (S : World → Prop) (o : Oper) (v : Value) (a : Act) : Prop :=
  (Region.wanted o (yielded ops a.tmps) = true ∧ ∀ n : Ext S, at_ P o a n.w v) ∨ (Region.wanted o (yielded ops a.tmps) = false ∧ v = undef)
theorem Y.of_same {o : Oper} {v : Value} {a a' : Act} (hy : Y P ops S o v a) (he : execOp a'.eval o = execOp a.eval o) (hw : Region.wanted o (yielded ops a'.tmps) = Region.wanted o (yielded ops a.tmps)) : Y P ops S o v a' := by
  unfold Y at_ at *
  rw [he, hw]
  exact hy
theorem Y.cOp {i : Nat} {o : Oper} {v : Value} {g : Nat → Option Nat} {a : Act} (hi : ops[i]? = some o) (hna : isAlloc o = none) (hy : Y P ops S o v a) {K : (Nat → Option Nat) → Act → Prop} (h : K g (a.put o.dst v)) : cOp P ops S B i K g a := by
  unfold Calm.cOp
  simp only [hi, hna]
  rcases hy with ⟨hw, hv⟩ | ⟨hw, rfl⟩
  · simp only [hw, if_true]; exact ⟨v, hv, h⟩
  · simp only [hw, Bool.false_eq_true, if_false]; exact h
theorem cOp_put {j : Nat} {oi oj : Oper} {v : Value} {g : Nat → Option Nat} (hj : ops[j]? = some oj) (hap : oi.apart ops oj = true) (hsi : ∀ cs b, oi.op ≠ .select cs b) (hsj : ∀ cs b, oj.op ≠ .select cs b)
    {K : (Nat → Option Nat) → Act → Prop} {a : Act} (hy : Y P ops S oi v a) (h : cOp P ops S B j K g (a.put oi.dst v)) : cOp P ops S B j (fun g' a' => Y P ops S oi v a' ∧ K g' (a'.put oi.dst v)) g a := by
  obtain ⟨h1, h2, h3⟩ := Oper.apart_spec hap
  have keep : ∀ u, Y P ops S oi v (a.put oj.dst u) := fun u => hy.of_same (execOp_put oi hsi a oj.dst u h3) (wanted_put oi a oj.dst u h3)
  unfold cOp at *
  simp only [hj] at *
  cases he : isAlloc oj with
  | some e =>
    simp only [he] at h ⊢
    intro p hp hf
    exact ⟨keep _, by rw [← Act.put_comm a v _ h2]; exact h p hp hf⟩
  | none =>
    simp only [he] at h ⊢
    rw [wanted_put oj a oi.dst v h1] at h
    split
    · rename_i hw
      simp only [hw, if_true] at h
      obtain ⟨u, hu, hn⟩ := h
      refine ⟨u, fun n => ?_, keep u, by rw [← Act.put_comm a v u h2]; exact hn⟩
      have := hu n
      unfold at_ at *
      rwa [execOp_put oj hsj a oi.dst v h1] at this
    · rename_i hw
      simp only [hw] at h
      exact ⟨keep _, by rw [← Act.put_comm a v undef h2]; exact h⟩
theorem first_calm {n i : Nat} {oi : Oper} {v : Value} {L : Array Bool → (Nat → Option Nat) → Act → Prop} (hi : ops[i]? = some oi) (hna : isAlloc oi = none) (hsel : ∀ (j : Nat) (o : Oper) cs b, ops[j]? = some o → o.op ≠ .select cs b)
    (hs : Region.sinkB md ops n = true) (hc : Region.chainB md ops n = true) (hn : n < ops.size) (hin : i < n)
    (hdone : ∀ listed g a, L listed g a → ∀ j ∈ Region.ready md ops listed, n ≤ j) :
    ∀ (f : Nat) (listed : Array Bool) (g : Nat → Option Nat) (a : Act), HeadInv md ops n listed →
      (∀ j oj, ops[j]? = some oj → j ≠ i → listed.getD j true = false → (∀ e ∈ oj.after, Region.binds md e = true → e.on ≠ i) → oi.apart ops oj = true) →
      i ∈ Region.ready md ops listed → Y P ops S oi v a →
      anyC P md ops S B n L f (listed.setIfInBounds i true) g (a.put oi.dst v) → anyC P md ops S B n L (f + 1) listed g a := by
  intro f
  induction f with
  | zero =>
    intro listed g a inv _ hr hy H
    have hun := (mem_ready.1 hr).1
    refine ⟨fun h => (by rw [h] at hr; cases hr), fun j hj => ?_⟩
    have hjn : j < n := by
      rcases Nat.lt_or_ge j n with h | h
      · exact h
      · exact absurd hj (tail_waits hs hc hn inv _ i rfl hin hun j h)
    refine ⟨hjn, ?_⟩
    by_cases hji : j = i
    · subst hji; exact hy.cOp hi hna H
    · have := hdone _ _ _ H j (ready_mono hj hji)
      omega
  | succ f ih =>
    intro listed g a inv hfree hr hy H
    have hun := (mem_ready.1 hr).1
    refine ⟨fun h => (by rw [h] at hr; cases hr), fun j hj => ?_⟩
    have hjn : j < n := by
      rcases Nat.lt_or_ge j n with h | h
      · exact h
      · exact absurd hj (tail_waits hs hc hn inv _ i rfl hin hun j h)
    refine ⟨hjn, ?_⟩
    by_cases hji : j = i
    · subst hji; exact hy.cOp hi hna H
    · have h1 := (H.2 j (ready_mono hj hji)).2
      obtain ⟨hjun, oj, hoj, hall⟩ := mem_ready.1 hj
      have hnot : ∀ e ∈ oj.after, Region.binds md e = true → e.on ≠ i := fun e he hb heq => by
        have h1 := hall e he hb
        rw [heq, getD_both hun] at h1
        cases h1
      have h2 := cOp_put hoj (hfree j oj hoj hji hjun hnot) (fun cs b => hsel i oi cs b hi) (fun cs b => hsel j oj cs b hoj) hy h1
      have hfree' : ∀ k ok, ops[k]? = some ok → k ≠ i → (listed.setIfInBounds j true).getD k true = false →
          (∀ e ∈ ok.after, Region.binds md e = true → e.on ≠ i) → oi.apart ops ok = true := fun k ok hk hki hun hno => by
        refine hfree k ok hk hki ?_ hno
        by_cases hjk : j = k
        · subst hjk; exact hjun
        · rw [getD_set_ne true hjk] at hun; exact hun
      refine cOp_mono (fun g' a' h3 => ih (listed.setIfInBounds j true) g' a' (inv.set hj hjn) hfree' (ready_mono hr (Ne.symm hji)) h3.1 ?_) h2
      rw [Array.setIfInBounds_comm _ _ hji]
      exact h3.2
/-! ### the boxes, last -/
theorem set_get (listed : Array Bool) (k : Nat) : (listed.setIfInBounds k true).getD k true = true := by
  rcases Nat.lt_or_ge k listed.size with h | h
  · simp [h]
  · simp [Array.getElem?_eq_none h, h]
theorem anyC_mono {n : Nat} {L L' : Array Bool → (Nat → Option Nat) → Act → Prop} (h : ∀ l g a, L l g a → L' l g a) : ∀ (f : Nat) (listed : Array Bool) (g : Nat → Option Nat) (a : Act), anyC P md ops S B n L f listed g a → anyC P md ops S B n L' f listed g a
  | 0, _, _, _, hh => h _ _ _ hh
  | f + 1, _, _, _, hh => ⟨hh.1, fun i hi => ⟨(hh.2 i hi).1, cOp_mono (fun _ _ h' => anyC_mono h f _ _ _ h') (hh.2 i hi).2⟩⟩
theorem first_alloc {n i : Nat} {oi : Oper} {e : TypeId} {L : Array Bool → (Nat → Option Nat) → Act → Prop} (hi : ops[i]? = some oi) (he : isAlloc oi = some e)
    (hs : Region.sinkB md ops n = true) (hc : Region.chainB md ops n = true) (hn : n < ops.size) (hin : i < n)
    (hdone : ∀ listed g a, L listed g a → ∀ j ∈ Region.ready md ops listed, n ≤ j) :
    ∀ (f m : Nat) (listed : Array Bool) (g : Nat → Option Nat) (a : Act), HeadInv md ops n listed → B ≤ m → (∀ j p, g j = some p → p < m) →
      (∀ j, j < n → listed.getD j true = false → ∃ oj ej, ops[j]? = some oj ∧ isAlloc oj = some ej ∧ (j ≠ i → oi.dst ≠ oj.dst)) →
      (∀ j, listed.getD j true = false → g j = none) →
      i ∈ Region.ready md ops listed →
      (∀ p, B ≤ p → (∀ j, g j ≠ some p) → anyC P md ops S B n L f (listed.setIfInBounds i true) (upd g i p) (a.put oi.dst (.pointer (some ⟨p, 0, none⟩)))) → anyC P md ops S B n L (f + 1) listed g a := by
  intro f
  induction f with
  | zero =>
    intro m listed g a inv hBm hm hall hg hr H
    have hun := (mem_ready.1 hr).1
    refine ⟨fun h => (by rw [h] at hr; cases hr), fun j hj => ?_⟩
    have hjn : j < n := by
      rcases Nat.lt_or_ge j n with h | h
      · exact h
      · exact absurd hj (tail_waits hs hc hn inv _ i rfl hin hun j h)
    refine ⟨hjn, ?_⟩
    by_cases hji : j = i
    · subst hji
      unfold cOp
      simp only [hi, he]
      exact H
    · have := hdone _ _ _ (H m hBm (fun j hj => Nat.lt_irrefl _ (hm j m hj))) j (ready_mono hj hji)
      omega
  | succ f ih =>
    intro m listed g a inv hBm hm hall hg hr H
    have hun := (mem_ready.1 hr).1
    refine ⟨fun h => (by rw [h] at hr; cases hr), fun j hj => ?_⟩
    have hjn : j < n := by
      rcases Nat.lt_or_ge j n with h | h
      · exact h
      · exact absurd hj (tail_waits hs hc hn inv _ i rfl hin hun j h)
    refine ⟨hjn, ?_⟩
    by_cases hji : j = i
    · subst hji
      unfold cOp
      simp only [hi, he]
      exact H
    · have hjun := (mem_ready.1 hj).1
      obtain ⟨oj, ej, hoj, hej, hd⟩ := hall j hjn hjun
      have hd := hd hji
      unfold cOp
      simp only [hoj, hej]
      intro q hq hfq
      have hgj := hg j hjun
      have sub : ∀ k, (listed.setIfInBounds j true).getD k true = false → k ≠ j ∧ listed.getD k true = false := fun k hk => by
        by_cases hjk : j = k
        · subst hjk
          rw [set_get] at hk
          cases hk
        · rw [getD_set_ne true hjk] at hk; exact ⟨Ne.symm hjk, hk⟩
      refine ih (max m (q + 1)) (listed.setIfInBounds j true) (upd g j q) _ (inv.set hj hjn) (by omega) (fun k p hk => ?_) (fun k hk hkun => hall k hk (sub k hkun).2)
        (fun k hk => by unfold upd; rw [if_neg (sub k hk).1]; exact hg k (sub k hk).2) (ready_mono hr (Ne.symm hji)) (fun p hp hfp => ?_)
      · unfold upd at hk
        split at hk
        · obtain rfl := Option.some.inj hk; omega
        · have := hm k p hk; omega
      · have hpq : p ≠ q := fun h => hfp j (by unfold upd; rw [if_pos rfl, h])
        have hfp' : ∀ k, g k ≠ some p := fun k hk => by
          have h1 := hfp k
          unfold upd at h1
          by_cases hkj : k = j
          · subst hkj; rw [hgj] at hk; cases hk
          · rw [if_neg hkj] at h1; exact h1 hk
        have h1 := ((H p hp hfp').2 j (ready_mono hj hji)).2
        unfold cOp at h1
        simp only [hoj, hej] at h1
        have h2 := h1 q hq (fun k hk => by
          unfold upd at hk
          split at hk
          · exact hpq (Option.some.inj hk)
          · exact hfq k hk)
        rw [Array.setIfInBounds_comm _ _ hji, upd_comm g _ _ hji, ← Act.put_comm a _ _ (fun d h3 h4 => hd (h3.trans h4.symm))]
        exact h2
/-! ### the walk -/
def isNew (o : Oper) : Bool := (isAlloc o).isSome
def walkC (P : Program) (ops : Array Oper) (S : World → Prop) (Q : Act → Prop) : List Oper → Act → Prop
  | [], a => Q a
  | o :: rest, a => match isAlloc o with
    | some _ => walkC P ops S Q rest a
    | none => if Region.wanted o (yielded ops a.tmps) then calm P S o a (walkC P ops S Q rest) else walkC P ops S Q rest (a.put o.dst undef)
def news (S : World → Prop) (al : TypeId → Obj) (B : Nat) (T : Act → World → Prop) : List Oper → List (Nat × Obj) → Act → Prop
  | [], ps, a => ∀ W, S W → (∀ x ∈ ps, W.heap[x.1]? = some x.2) → T a W
  | o :: rest, ps, a => match isAlloc o with
    | some e => ∀ p, B ≤ p → (∀ x ∈ ps, x.1 ≠ p) → news S al B T rest ((p, al e) :: ps) (a.put o.dst (.pointer (some ⟨p, 0, none⟩)))
    | none => news S al B T rest ps a
def nNew : List Oper → Nat
  | [] => 0
  | o :: l => match isAlloc o with
    | some _ => nNew l + 1
    | none => nNew l
def nCalm : List Oper → Nat
  | [] => 0
  | o :: l => match isAlloc o with
    | some _ => nCalm l
    | none => nCalm l + 1
def newB (md : Region.Mode) (ops : Array Oper) (n g : Nat) : List Oper → Nat → Array Bool → Bool
  | [], _, listed => Region.seqB md ops g n listed
  | o :: l, k, listed => match isAlloc o with
    | some _ => (Region.ready md ops listed).contains k && (List.range n).all (fun j => listed.getD j true || (match ops[j]? with | some oj => isNew oj && (decide (j = k) || decide (o.dst ≠ oj.dst)) | none => false)) && newB md ops n g l (k + 1) (listed.setIfInBounds k true)
    | none => newB md ops n g l (k + 1) listed
def calmB (md : Region.Mode) (ops : Array Oper) (fin : Array Bool → Bool) : List Oper → Nat → Array Bool → Bool
  | [], _, listed => fin listed
  | o :: l, k, listed => match isAlloc o with
    | some _ => calmB md ops fin l (k + 1) listed
    | none => (Region.ready md ops listed).contains k && Region.free md ops listed k && calmB md ops fin l (k + 1) (listed.setIfInBounds k true)
theorem calm_lex {n : Nat} {fin : Array Bool → Bool} {L : Array Bool → (Nat → Option Nat) → Act → Prop} {Q : Act → Prop} {g : Nat → Option Nat} {N : Nat} (hsel : Region.noSelect ops = true) (hs : Region.sinkB md ops n = true) (hc : Region.chainB md ops n = true) (hn : n < ops.size)
    (hdone : ∀ listed g a, L listed g a → ∀ j ∈ Region.ready md ops listed, n ≤ j)
    (hQ : ∀ listed a, HeadInv md ops n listed → fin listed = true → Q a → anyC P md ops S B n L N listed g a) :
    ∀ (l : List Oper) (k : Nat) (listed : Array Bool) (a : Act), (∀ j, j < l.length → l[j]? = ops[k + j]?) → k + l.length = n → HeadInv md ops n listed →
    calmB md ops fin l k listed = true → walkC P ops S Q l a → anyC P md ops S B n L (nCalm l + N) listed g a
  | [], k, listed, a, _, hk, inv, hB, h => by
    simp only [nCalm, Nat.zero_add]
    exact hQ listed a inv hB h
  | o :: l, k, listed, a, hl, hk, inv, hB, h => by
    have h0 : ops[k]? = some o := by simpa using (hl 0 (by simp)).symm
    have hkn : k < n := by simp only [List.length_cons] at hk; omega
    have hl' : ∀ j, j < l.length → l[j]? = ops[k + 1 + j]? := fun j hj => by have := hl (j + 1) (by simp; omega); simpa [Nat.add_assoc, Nat.add_comm 1 j] using this
    have hk' : k + 1 + l.length = n := by simp only [List.length_cons] at hk; omega
    unfold calmB at hB
    unfold walkC at h
    unfold nCalm
    cases he : isAlloc o with
    | some e =>
      simp only [he] at hB h ⊢
      exact calm_lex hsel hs hc hn hdone hQ l (k + 1) listed a hl' hk' inv hB h
    | none =>
      simp only [he, Bool.and_eq_true] at hB h ⊢
      obtain ⟨⟨hr, hf⟩, hB'⟩ := hB
      have hr' : k ∈ Region.ready md ops listed := by simpa using hr
      rw [show nCalm l + 1 + N = (nCalm l + N) + 1 by omega]
      split at h
      · rename_i hw
        obtain ⟨v, hv, hK⟩ := h
        exact first_calm h0 he (Region.noSelect_spec hsel) hs hc hn hkn hdone _ listed g a inv (Region.free_spec h0 hf) hr' (.inl ⟨hw, hv⟩)
          (calm_lex hsel hs hc hn hdone hQ l (k + 1) _ _ hl' hk' (inv.set hr' hkn) hB' hK)
      · rename_i hw
        exact first_calm h0 he (Region.noSelect_spec hsel) hs hc hn hkn hdone _ listed g a inv (Region.free_spec h0 hf) hr' (.inr ⟨by simpa using hw, rfl⟩)
          (calm_lex hsel hs hc hn hdone hQ l (k + 1) _ _ hl' hk' (inv.set hr' hkn) hB' h)
theorem new_lex {n t : Nat} {T : Act → World → Prop} (hs : Region.sinkB md ops n = true) (hc : Region.chainB md ops n = true) (hn : n < ops.size) :
    ∀ (l : List Oper) (k m : Nat) (listed : Array Bool) (g : Nat → Option Nat) (ps : List (Nat × Obj)) (a : Act), (∀ j, j < l.length → l[j]? = ops[k + j]?) → k + l.length = n → HeadInv md ops n listed →
    B ≤ m → (∀ j p, g j = some p → p < m) → (∀ j, listed.getD j true = false → g j = none) → (∀ x ∈ ps, ∃ j o e, g j = some x.1 ∧ ops[j]? = some o ∧ isAlloc o = some e ∧ x.2 = al e) → 
    newB md ops n t l k listed = true → news S al B T l ps a →
    anyC P md ops S B n (fun listed' g' a' => Region.seqB md ops t n listed' = true ∧ ∀ W, D ops S al B g' W → T a' W) (nNew l) listed g a
  | [], k, m, listed, g, ps, a, _, hk, inv, _, _, _, hps, hB, h => by
    refine ⟨hB, fun W hD => h W hD.s fun x hx => ?_⟩
    obtain ⟨j, o, e, h1, h2, h3, h4⟩ := hps x hx
    obtain ⟨o', e', h5, h6, h7⟩ := hD.box j _ h1
    rw [h2] at h5
    obtain rfl := Option.some.inj h5
    rw [h3] at h6
    obtain rfl := Option.some.inj h6
    rw [h4]; exact h7
  | o :: l, k, m, listed, g, ps, a, hl, hk, inv, hBm, hm, hg, hps, hB, h => by
    have h0 : ops[k]? = some o := by simpa using (hl 0 (by simp)).symm
    have hkn : k < n := by simp only [List.length_cons] at hk; omega
    have hl' : ∀ j, j < l.length → l[j]? = ops[k + 1 + j]? := fun j hj => by have := hl (j + 1) (by simp; omega); simpa [Nat.add_assoc, Nat.add_comm 1 j] using this
    have hk' : k + 1 + l.length = n := by simp only [List.length_cons] at hk; omega
    unfold newB at hB
    unfold news at h
    unfold nNew
    cases he : isAlloc o with
    | none =>
      simp only [he] at hB h ⊢
      exact new_lex hs hc hn l (k + 1) m listed g ps a hl' hk' inv hBm hm hg hps hB h
    | some e =>
      simp only [he, Bool.and_eq_true] at hB h ⊢
      obtain ⟨⟨hr, hf⟩, hB'⟩ := hB
      have hr' : k ∈ Region.ready md ops listed := by simpa using hr
      have hkun := (mem_ready.1 hr').1
      have sub : ∀ j, (listed.setIfInBounds k true).getD j true = false → j ≠ k ∧ listed.getD j true = false := fun j hj => by
        by_cases hjk : k = j
        · subst hjk
          rw [set_get] at hj
          cases hj
        · rw [getD_set_ne true hjk] at hj; exact ⟨Ne.symm hjk, hj⟩
      refine first_alloc h0 he hs hc hn hkn (fun listed' g' a' hL => seqB_ready hL.1) (nNew l) m listed g a inv hBm hm (fun j hj hun => ?_) hg hr' (fun p hp hfp => ?_)
      · have h1 := List.all_eq_true.1 hf j (List.mem_range.2 hj)
        rw [hun, Bool.false_or] at h1
        cases hoj : ops[j]? with
        | none => rw [hoj] at h1; cases h1
        | some oj =>
          rw [hoj] at h1
          simp only [Bool.and_eq_true, Bool.or_eq_true, decide_eq_true_eq] at h1
          obtain ⟨ej, hej⟩ := Option.isSome_iff_exists.1 h1.1
          exact ⟨oj, ej, rfl, hej, fun hne => h1.2.resolve_left hne⟩
      · refine new_lex hs hc hn l (k + 1) (max m (p + 1)) _ (upd g k p) ((p, al e) :: ps) _ hl' hk' (inv.set hr' hkn) (by omega) (fun j q hj => ?_) (fun j hj => ?_) (fun x hx => ?_) hB' (h p hp (fun x hx hxp => ?_))
        · unfold upd at hj
          split at hj
          · obtain rfl := Option.some.inj hj; omega
          · have := hm j q hj; omega
        · unfold upd; rw [if_neg (sub j hj).1]; exact hg j (sub j hj).2
        · rcases List.mem_cons.1 hx with rfl | hx
          · exact ⟨k, o, e, by simp [upd], h0, he, rfl⟩
          · obtain ⟨j, o', e', h1, h2, h3, h4⟩ := hps x hx
            refine ⟨j, o', e', ?_, h2, h3, h4⟩
            unfold upd
            by_cases hjk : j = k
            · subst hjk; rw [hg j hkun] at h1; cases h1
            · rw [if_neg hjk]; exact h1
        · obtain ⟨j, _, _, h1, _, _, _⟩ := hps x hx
          exact hfp j (by rw [h1, hxp])
def tailB (md : Region.Mode) (l : List Oper) (n : Nat) : Bool :=
  Region.noSelect l.toArray && decide (n < l.toArray.size) && Region.sinkB md l.toArray n && Region.chainB md l.toArray n && decide (nCalm (l.take n) + nNew (l.take n) = n) &&
    calmB md l.toArray (newB md l.toArray n (l.toArray.size - n) (l.take n) 0) (l.take n) 0 (Array.replicate l.toArray.size false)
theorem any_tail {Q : Exit → Act → World → Prop} {a : Act} {w : World} {l : List Oper} (n : Nat) (hB : tailB .any l n = true)
    (hcl : ∀ W W', S W → Below W.heap.size W W' → S W') (hBs : ∀ W, S W → B ≤ W.heap.size)
    (hal : ∀ (i : Nat) (o : Oper) (e : TypeId), l.toArray[i]? = some o → isAlloc o = some e → ∀ (a : Act) (W : World), (execOp a.eval o).run P W = .ok (.value (.pointer (some ⟨W.heap.size, 0, none⟩))) (W.alloc (al e)))
    (hS : S w.drew)
    (h : walkC P l.toArray S (news S al B (wpList P l.toArray Q (l.drop n)) (l.take n) []) (l.take n) a) : wpAny P .any l.toArray Q l.toArray.size (Array.replicate l.toArray.size false) a w.drew := by
  simp only [tailB, Bool.and_eq_true, decide_eq_true_eq] at hB
  obtain ⟨⟨⟨⟨⟨hsel, hn⟩, hs⟩, hc⟩, hcnt⟩, hlex⟩ := hB
  have hn' : n < l.length := by simpa using hn
  have htl : (l.take n).length = n := by simp; omega
  have hdl : (l.drop n).length = l.toArray.size - n := by simp
  have inv0 : HeadInv .any l.toArray n (Array.replicate l.toArray.size false) :=
    ⟨by simp, fun j oj _ hl => (by rw [getD_replicate_false] at hl; cases hl), fun t _ ht => getD_in (by simpa using ht) (getD_replicate_false _ _)⟩
  have hlen : ∀ j, j < (l.take n).length → (l.take n)[j]? = l.toArray[0 + j]? := fun j hj => by
    have hj' : j < n := by rw [htl] at hj; exact hj
    simp [hj']
  have H := calm_lex (md := .any) (g := fun _ => none) (N := nNew (l.take n)) (L := fun listed' g' a' => Region.seqB .any l.toArray (l.toArray.size - n) n listed' = true ∧ ∀ W, D l.toArray S al B g' W → wpList P l.toArray Q (l.drop n) a' W)
    hsel hs hc hn (fun listed' g' a' hL => seqB_ready hL.1)
    (fun listed a' inv hfin hQ => new_lex hs hc hn (l.take n) 0 B listed _ [] a' hlen (by simpa using htl) inv (Nat.le_refl _) (fun _ _ h => by cases h) (fun _ _ => rfl) (fun x hx => by cases hx) hfin hQ)
    (l.take n) 0 _ a hlen (by simpa using htl) inv0 hlex h
  have := any_of_head (Q' := Q) (t := l.toArray.size - n) hcl hBs hal (fun listed g a' W hD hL => by
    have := wpAny_of_seq (md := .any) (Q' := Q) (l.drop n) n listed a' W (fun j => by simp [List.getElem?_drop]) (by rw [hdl]; exact hL.1) (hL.2 W hD)
    rwa [hdl] at this) _ _ _ _ w.drew ⟨hS, fun _ _ h => (by cases h), fun _ _ _ h => (by cases h), fun _ _ h => (by cases h)⟩ H
  rw [hcnt, show n + (l.toArray.size - n) = l.toArray.size by omega] at this
  exact this
theorem region_tail {id : Nat} {Q : Exit → Act → World → Prop} {a : Act} {w : World} {l : List Oper} (n : Nat) (hm : P.follows .mixedOrders = true) (hB : tailB .any l n = true)
    (hcl : ∀ W W', S W → Below W.heap.size W W' → S W') (hBs : ∀ W, S W → B ≤ W.heap.size)
    (hal : ∀ (i : Nat) (o : Oper) (e : TypeId), l.toArray[i]? = some o → isAlloc o = some e → ∀ (a : Act) (W : World), (execOp a.eval o).run P W = .ok (.value (.pointer (some ⟨W.heap.size, 0, none⟩))) (W.alloc (al e)))
    (hS : S w.drew)
    (h : walkC P l.toArray S (news S al B (wpList P l.toArray Q (l.drop n)) (l.take n) []) (l.take n) a) : (Code.region id l.toArray true).wp P Q a w :=
  wp_region_any hm (any_tail n hB hcl hBs hal hS h)
theorem walk_op {Q : Act → Prop} {a : Act} {o : Oper} {rest : List Oper} (he : isAlloc o = none)
    (h : ∀ K : Act → Prop, (∀ a, walkC P ops S Q rest a → K a) → if Region.wanted o (yielded ops a.tmps) then calm P S o a K else K (a.put o.dst undef)) : walkC P ops S Q (o :: rest) a := by
  unfold walkC
  simp only [he]
  exact h _ (fun _ h => h)
theorem walk_new {Q : Act → Prop} {a : Act} {o : Oper} {e : TypeId} {rest : List Oper} (he : isAlloc o = some e) (h : walkC P ops S Q rest a) : walkC P ops S Q (o :: rest) a := by
  unfold walkC
  simp only [he]
  exact h
/-! ### what the walk asks: one quiet walk at every world that may be met -/
def C (w0 : World) (w' : World) : Prop := ∃ n : Ext (Below w0.heap.size w0), w' = n.w
def heads : Nat → List Oper → List Oper
  | 0, _ => []
  | _ + 1, [] => []
  | n + 1, o :: l => match isAlloc o with
    | some _ => heads n l
    | none => o :: heads n l
theorem quiet_same {C1 C2 : World → Prop} {w : World} {v1 v2 : Value} {r : Result Next} (h1 : Oper.quietUpon P C1 w v1 r) (h2 : Oper.quietUpon P C2 w v2 r) : v1 = v2 := by
  cases r with
  | halt x w' => exact h1.elim
  | ok n w' =>
    cases n
    case value u => exact h1.2.symm.trans h2.2
    case skip => exact h1.2.trans h2.2.symm
    case enter f args => exact calls_one h1.2 h2.2
    all_goals exact h1.elim
theorem upon_of_quiet {w : World} {v : Value} {r : Result Next} (h : Oper.quietUpon P (C w) w v r) : upon P w v r := by
  cases r with
  | halt x w' => exact h.elim
  | ok n w' =>
    cases n
    case value u => exact h
    case skip => exact h
    case enter f args =>
      obtain ⟨e1, hc⟩ := h
      refine ⟨e1, hc.mono fun e w'' ⟨he, m, hm⟩ => ⟨he, ?_⟩⟩
      rw [hm]; exact m.h
    all_goals exact h.elim
theorem walk_of_quiet {wb : World} {Q : Act → Prop} : ∀ (n : Nat) (l : List Oper) (a : Act), (∀ w0, Below wb.heap.size wb w0 → wpQuiet P ops (C w0) Q (heads n l) a) → walkC P ops (Below wb.heap.size wb) Q (l.take n) a
  | 0, l, a, h => by simpa [walkC, heads, wpQuiet] using h wb (Below.refl _ _)
  | n + 1, [], a, h => by simpa [walkC, heads, wpQuiet] using h wb (Below.refl _ _)
  | n + 1, o :: l, a, h => by
    rw [List.take_succ_cons]
    unfold walkC
    unfold heads at h
    cases he : isAlloc o with
    | some e =>
      simp only [he] at h ⊢
      exact walk_of_quiet n l a h
    | none =>
      simp only [he] at h ⊢
      split
      · rename_i hw
        simp only [wpQuiet, hw, if_true] at h
        obtain ⟨v, hv, _⟩ := h wb (Below.refl _ _)
        have hall : ∀ w0, Below wb.heap.size wb w0 → (∀ w, C w0 w → o.quietAt P a (C w0) w v) ∧ wpQuiet P ops (C w0) Q (heads n l) (a.put o.dst v) := fun w0 hw0 => by
          obtain ⟨v0, h0, h1⟩ := h w0 hw0
          have : v0 = v := quiet_same (h0 w0 ⟨⟨w0, Below.refl _ _⟩, rfl⟩) (hv w0 ⟨⟨w0, hw0⟩, rfl⟩)
          subst this
          exact ⟨h0, h1⟩
        exact ⟨v, fun m => upon_of_quiet ((hall m.w m.h).1 m.w ⟨⟨m.w, Below.refl _ _⟩, rfl⟩), walk_of_quiet n l _ fun w0 hw0 => (hall w0 hw0).2⟩
      · rename_i hw
        simp only [wpQuiet, hw, if_false] at h
        exact walk_of_quiet n l _ h
theorem region {id : Nat} {Q : Exit → Act → World → Prop} {a : Act} {w : World} {l : List Oper} (n : Nat) (al : TypeId → Obj) (hm : P.follows .mixedOrders = true) (hB : tailB .any l n = true)
    (hal : ∀ (i : Nat) (o : Oper) (e : TypeId), l.toArray[i]? = some o → isAlloc o = some e → ∀ (a : Act) (W : World), (execOp a.eval o).run P W = .ok (.value (.pointer (some ⟨W.heap.size, 0, none⟩))) (W.alloc (al e)))
    (h : ∀ w0, Below w.heap.size w w0 → wpQuiet P l.toArray (C w0) (news (Below w.heap.size w) al w.heap.size (wpList P l.toArray Q (l.drop n)) (l.take n) []) (heads n l) a) : (Code.region id l.toArray true).wp P Q a w :=
  region_tail n hm hB (fun W W' h1 h2 => below_thru h1 h2) (fun W hW => hW.size) hal ((Below.refl _ _).drew) (walk_of_quiet n l a h)
/-! ### the boxes of a program's types -/
def zero (P : Program) (e : TypeId) : Option Value := (P.info? e).bind (·.zero)
def box (P : Program) (e : TypeId) : Obj := .cells ((zero P e).getD undef).cells e
theorem run_new {P : Program} {o : Oper} {e : TypeId} (he : isAlloc o = some e) (hz : (zero P e).isSome = true) (a : Act) (W : World) :
    (execOp a.eval o).run P W = .ok (.value (.pointer (some ⟨W.heap.size, 0, none⟩))) (W.alloc (box P e)) := by
  have hop : o.op = .alloc e := by
    unfold isAlloc at he
    split at he
    · rename_i h1 h2; rw [h1]; simpa using he
    · cases he
  obtain ⟨v, hv⟩ := Option.isSome_iff_exists.1 hz
  unfold zero at hv
  obtain ⟨ti, h1, h2⟩ := Option.bind_eq_some_iff.1 hv
  unfold execOp
  rw [hop]
  simp [Instr.alloc, zeroValue, typeInfo, box, zero, h1, h2, newVar, newRow, newObj, Sem.run, Bind.bind, Sem.bind, Pure.pure, program, World.alloc_eq]
def boxB (P : Program) (l : List Oper) : Bool := l.all fun o => match isAlloc o with | some e => (zero P e).isSome | none => true
def newsN (S : World → Prop) (al : TypeId → Obj) (B : Nat) (T : Act → World → Prop) : Nat → List Oper → List (Nat × Obj) → Act → Prop
  | 0, _, ps, a => ∀ W, S W → (∀ x ∈ ps, W.heap[x.1]? = some x.2) → T a W
  | _ + 1, [], ps, a => ∀ W, S W → (∀ x ∈ ps, W.heap[x.1]? = some x.2) → T a W
  | n + 1, o :: rest, ps, a => match isAlloc o with
    | some e => ∀ p, B ≤ p → (∀ x ∈ ps, x.1 ≠ p) → newsN S al B T n rest ((p, al e) :: ps) (a.put o.dst (.pointer (some ⟨p, 0, none⟩)))
    | none => newsN S al B T n rest ps a
theorem news_of {al : TypeId → Obj} {T : Act → World → Prop} : ∀ (n : Nat) (l : List Oper) (ps : List (Nat × Obj)) (a : Act), newsN S al B T n l ps a → news S al B T (l.take n) ps a
  | 0, l, ps, a, h => by simpa [newsN, news] using h
  | n + 1, [], ps, a, h => by simpa [newsN, news] using h
  | n + 1, o :: l, ps, a, h => by
    rw [List.take_succ_cons]
    unfold newsN at h
    unfold news
    cases he : isAlloc o with
    | some e => simp only [he] at h ⊢; exact fun p h1 h2 => news_of n l _ _ (h p h1 h2)
    | none => simp only [he] at h ⊢; exact news_of n l _ _ h
theorem wpQuiet_mono {CC : World → Prop} {Q Q' : Act → Prop} (hQ : ∀ a, Q a → Q' a) : ∀ (l : List Oper) (a : Act), wpQuiet P ops CC Q l a → wpQuiet P ops CC Q' l a
  | [], a, h => hQ a h
  | o :: l, a, h => by
    unfold wpQuiet at h ⊢
    split
    · rename_i hw; simp only [hw, if_true] at h; exact Oper.quiet_mono (wpQuiet_mono hQ l) h
    · rename_i hw; simp only [hw] at h; exact wpQuiet_mono hQ l _ h
theorem go {id : Nat} {Q : Exit → Act → World → Prop} {a : Act} {w : World} {l : List Oper} (n : Nat) (hm : P.follows .mixedOrders = true) (hB : tailB .any l n = true) (hz : boxB P l = true)
    (h : ∀ w0, Below w.heap.size w w0 → wpQuiet P l.toArray (C w0) (newsN (Below w.heap.size w) (box P) w.heap.size (wpList P l.toArray Q (l.drop n)) n l []) (heads n l) a) : (Code.region id l.toArray true).wp P Q a w :=
  region n (box P) hm hB (fun i o e hi he a W => run_new he (by
    have h1 := List.all_eq_true.1 hz o (List.mem_iff_getElem?.2 ⟨i, by simpa using hi⟩)
    simpa [he] using h1) a W) fun w0 hw0 => wpQuiet_mono (fun a' h' => news_of n l [] a' h') _ _ (h w0 hw0)
theorem go_any {Q : Exit → Act → World → Prop} {a : Act} {w : World} {l : List Oper} (n : Nat) (hB : tailB .any l n = true) (hz : boxB P l = true)
    (h : ∀ w0, Below w.heap.size w w0 → wpQuiet P l.toArray (C w0) (newsN (Below w.heap.size w) (box P) w.heap.size (wpList P l.toArray Q (l.drop n)) n l []) (heads n l) a) : wpAny P .any l.toArray Q l.toArray.size (Array.replicate l.toArray.size false) a w.drew :=
  any_tail n hB (fun W W' h1 h2 => below_thru h1 h2) (fun W hW => hW.size) (fun i o e hi he a W => run_new he (by
    have h1 := List.all_eq_true.1 hz o (List.mem_iff_getElem?.2 ⟨i, by simpa using hi⟩)
    simpa [he] using h1) a W) ((Below.refl _ _).drew) (walk_of_quiet n l a fun w0 hw0 => wpQuiet_mono (fun a' h' => news_of n l [] a' h') _ _ (h w0 hw0))
theorem n_zero {al : TypeId → Obj} {T : Act → World → Prop} {l : List Oper} {ps : List (Nat × Obj)} {a : Act} (h : ∀ W, S W → (∀ x ∈ ps, W.heap[x.1]? = some x.2) → T a W) : newsN S al B T 0 l ps a := h
theorem n_skip {al : TypeId → Obj} {T : Act → World → Prop} {n : Nat} {o : Oper} {l : List Oper} {ps : List (Nat × Obj)} {a : Act} (he : isAlloc o = none) (h : newsN S al B T n l ps a) : newsN S al B T (n + 1) (o :: l) ps a := by
  unfold newsN
  simp only [he]
  exact h
theorem n_new {al : TypeId → Obj} {T : Act → World → Prop} {n : Nat} {o : Oper} {e : TypeId} {l : List Oper} {ps : List (Nat × Obj)} {a : Act} (he : isAlloc o = some e)
    (h : ∀ p, B ≤ p → (∀ x ∈ ps, x.1 ≠ p) → newsN S al B T n l ((p, al e) :: ps) (a.put o.dst (.pointer (some ⟨p, 0, none⟩)))) : newsN S al B T (n + 1) (o :: l) ps a := by
  unfold newsN
  simp only [he]
  exact h
theorem boxed {W : World} {ps : List (Nat × Obj)} (hs : ∀ x ∈ ps, W.heap[x.1]? = some x.2) {p : Nat} {o : Obj} (hm : (p, o) ∈ ps) {cs : Array Value} {t : TypeId} (ho : o = .cells cs t (0, 0)) :
    (∀ j, cellX W p j = cs[j]?) ∧ (∀ j, frozenX W p j = false) ∧ p < W.heap.size := by
  have h : Blk W p t cs := (hs _ hm).trans (by rw [ho])
  exact ⟨h.cell, h.frozen, h.lt⟩
theorem other {ps : List (Nat × Obj)} {q : Nat} (h : ∀ x ∈ ps, x.1 ≠ q) {p : Nat} {o : Obj} (hm : (p, o) ∈ ps) : p ≠ q := h _ hm
theorem rule {W w0 : World} (h : Below W.heap.size W w0) (n : Ext (Below w0.heap.size w0)) (b o : Nat) : n.w.cell? ⟨b, o, none⟩ = if b < W.heap.size then W.cell? ⟨b, o, none⟩ else cellX n.w b o :=
  (bcell (below_thru h n.h)).1 b o
theorem al_rule (w : World) (o : Obj) : (∀ b j, (w.alloc o).cell? ⟨b, j, none⟩ = if b < w.heap.size then w.cell? ⟨b, j, none⟩ else cellX (w.alloc o) b j) ∧ (∀ b j, (w.alloc o).frozen? ⟨b, j, none⟩ = if b < w.heap.size then w.frozen? ⟨b, j, none⟩ else frozenX (w.alloc o) b j) :=
  bcell ((Below.refl _ _).alloc (Nat.le_refl _) o)
theorem al_cell (w : World) (o : Obj) (b j : Nat) : (w.alloc o).cell? ⟨b, j, none⟩ = if b < w.heap.size then w.cell? ⟨b, j, none⟩ else cellX (w.alloc o) b j := (al_rule w o).1 b j
theorem al_frozen (w : World) (o : Obj) (b j : Nat) : (w.alloc o).frozen? ⟨b, j, none⟩ = if b < w.heap.size then w.frozen? ⟨b, j, none⟩ else frozenX (w.alloc o) b j := (al_rule w o).2 b j
end
end Calm
end Go.Proofs.Ytdakbejppnijdaa
