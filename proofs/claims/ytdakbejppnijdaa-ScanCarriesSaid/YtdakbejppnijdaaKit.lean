/- Words of this seat: a block known whole, what a call keeps, a log in memory. No condition. -/
import Derived.Test.YtdakbejppnijdaaRows
import Derived.WalkKit
import Derived.Lib.Hide
import Derived.WalkSpells
import Derived.WalkLawsBesides
import Derived.Maps.AppendAt
import Derived.Deep.AppendLies
import Derived.Deep.RegionHeld3
import Derived.Deep.DrawnRows
import Derived.Deep.QuietTactic
import Derived.BigQuiet
import Derived.Laws.Rows
import Derived.Laws.OwnMore
import Derived.Deep.MidRow
namespace Go.Proofs.Ytdakbejppnijdaa
open Go.RowKit
set_option linter.unusedSimpArgs false
set_option linter.unusedVariables false

theorem signed_u32 : IntKind.u32.signed = false := rfl
theorem max_u32 : IntKind.u32.max = 4294967295 := by decide

/-! ### blocks -/
def Blk (w : World) (g : Nat) (t : TypeId) (cs : Array Value) : Prop := w.heap[g]? = some (.cells cs t (0, 0))
section
variable {w w' : World} {g : Nat} {t : TypeId} {cs : Array Value}
theorem Blk.lt (h : Blk w g t cs) : g < w.heap.size := by
  rcases Nat.lt_or_ge g w.heap.size with hlt | hge
  · exact hlt
  · unfold Blk at h; rw [Array.getElem?_eq_none hge] at h; cases h
theorem Blk.cell (h : Blk w g t cs) (i : Nat) : w.cell? ⟨g, i, none⟩ = cs[i]? := cell_of_row w g i cs t (0, 0) h
theorem Blk.frozen (h : Blk w g t cs) (i : Nat) : w.frozen? ⟨g, i, none⟩ = false := by
  unfold Blk at h
  simp [World.frozen?, h]
theorem Blk.new (w : World) (t : TypeId) (cs : Array Value) : Blk (w.alloc (.cells cs t)) w.heap.size t cs := heap_alloc_new w _
theorem Blk.newAt {w : World} {g : Nat} {t : TypeId} {cs : Array Value} (h : w.heap.size = g) : Blk (w.alloc (.cells cs t)) g t cs := h ▸ Blk.new w t cs
theorem Blk.drew (h : Blk w g t cs) : Blk w.drew g t cs := h
theorem Blk.drewN (h : Blk w g t cs) (n : Nat) : Blk (w.drewN n) g t cs := h
theorem Blk.alloc (h : Blk w g t cs) (o : Obj) : Blk (w.alloc o) g t cs := (Below.heap_alloc w o g h.lt).trans h
theorem Blk.set_ (h : Blk w g t cs) (i : Nat) (u : Value) : Blk (w.setCell ⟨g, i, none⟩ u) g t (cs.setIfInBounds i u) := by
  unfold Blk at h ⊢
  simp [World.setCell, Array.getElem?_modify, h]
theorem Blk.far (h : Blk w g t cs) {p : Addr} (hp : g ≠ p.block) (u : Value) : Blk (w.setCell p u) g t cs := (Below.heap_setCell w p u g hp).trans h
theorem Blk.below {B : Nat} (h : Blk w g t cs) (hb : Below B w w') (hg : g < B) : Blk w' g t cs := (hb.block g hg).trans h
theorem Blk.belowH {B : Nat} (h : Blk w g t cs) (hb : RowKit.Hid (Below B w w')) (hg : g < B) : Blk w' g t cs := (hb.out.block g hg).trans h
theorem Blk.grown {row : Option Nat} (h : Blk w g t cs) (hb : w.grownBy w' row) (hg : some g ≠ row) : Blk w' g t cs := (hb.block g h.lt hg).trans h
theorem Blk.ne_ {g' : Nat} {t' : TypeId} {cs' : Array Value} (h : Blk w g t cs) (h' : Blk w g' t' cs') (hne : t ≠ t') : g ≠ g' := by
  rintro rfl
  unfold Blk at h h'
  rw [h] at h'
  injection h' with h'
  injection h' with _ ht
  exact hne ht
theorem own_blk_ne {base : Nat} {e : TypeId} {size n : Nat} {v : Value} {xs : List Value} (h : w.ownsRow base e size v n xs) (hg : Blk w g t cs) (hne : e ≠ t) : v.ownBlock ≠ some g := by
  rcases h.2 with ⟨rfl, _⟩ | ⟨g', cap, cur, rfl, _, hh, _⟩
  · simp [Value.ownBlock]
  · intro he
    have : g' = g := by simpa [Value.ownBlock] using he
    subst this
    exact Blk.ne_ (t := e) hh hg hne rfl
theorem own_slice {base n : Nat} {e : TypeId} {size : Nat} {v : Value} {xs : List Value} (h : w.ownsRow base e size v n xs) : ∃ A c, v = .slice A n c := by
  rcases h.2 with ⟨rfl, rfl⟩ | ⟨g, cap, cur, rfl, _⟩
  · exact ⟨none, 0, rfl⟩
  · exact ⟨_, cap, rfl⟩
theorem own_lt {base n : Nat} {e : TypeId} {size : Nat} {v : Value} {xs : List Value} (h : w.ownsRow base e size v n xs) (k : Nat) (hk : v.ownBlock = some k) : k < w.heap.size := by
  rcases h.2 with ⟨rfl, _⟩ | ⟨g, cap, cur, rfl, hb, hh, _⟩
  · simp [Value.ownBlock] at hk
  · have : g = k := by simpa [Value.ownBlock] using hk
    subst this
    exact (Array.getElem?_eq_some_iff.1 hh).1
end

theorem grown_set (w : World) (b i : Nat) (u : Value) : w.grownBy (w.setCell ⟨b, i, none⟩ u) (some b) := ⟨rfl, rfl, rfl, by simp, fun k _ hk => Below.heap_setCell w ⟨b, i, none⟩ u k (fun e => hk (by rw [e]))⟩

theorem own_base {w : World} {base : Nat} {e : TypeId} {size n : Nat} {v : Value} {xs : List Value} (h : w.ownsRow base e size v n xs) (k : Nat) (hk : v.ownBlock = some k) : base ≤ k := by
  rcases h.2 with ⟨rfl, _⟩ | ⟨g, cap, cur, rfl, hb, _⟩
  · simp [Value.ownBlock] at hk
  · have : g = k := by simpa [Value.ownBlock] using hk
    omega
theorem own_frozen {w : World} {base : Nat} {e : TypeId} {size n cap g : Nat} {xs : List Value} (h : w.ownsRow base e size (.slice (some ⟨g, 0, none⟩) n cap) n xs) (j : Nat) : w.frozen? ⟨g, j, none⟩ = false := by
  rcases h.2 with ⟨h', _⟩ | ⟨g', cap', cur, h', _, hh, _⟩
  · cases h'
  · have : g = g' := by injection h' with h'; injection h' with h'; injection h' with h'
    subst this
    simp [World.frozen?, hh]
theorem bl_grown {B : Nat} {w W w1 : World} {row : Option Nat} (hg : RowKit.Hid (W.grownBy w1 row)) (hr : ∀ k, row = some k → B ≤ k) (hB : B ≤ W.heap.size) (hb : RowKit.Below B w W) : RowKit.Below B w w1 := hb.grown hg hB hr
theorem pw_own {w w1 : World} {base : Nat} {e : TypeId} {size n : Nat} {v : Value} {xs : List Value} (h : w.ownsRow base e size v n xs) (hb : RowKit.Hid (RowKit.Below w.heap.size w w1)) : w1.ownsRow base e size v n xs :=
  h.kept ⟨hb.os, hb.tape, hb.output, hb.size, fun i hi _ => hb.block i hi⟩ (by cases v.ownBlock <;> simp : v.ownBlock = none ∨ v.ownBlock ≠ none)

/-! ### what a call that makes memory, and writes into none that was there, leaves -/
/-- A cell of which nothing is said. -/
def cellX (w : World) (b o : Nat) : Option Value := w.cell? ⟨b, o, none⟩
def frozenX (w : World) (b o : Nat) : Bool := w.frozen? ⟨b, o, none⟩
theorem bcell {W w1 : World} (hb : Below W.heap.size W w1) : (∀ b o, w1.cell? ⟨b, o, none⟩ = if b < W.heap.size then W.cell? ⟨b, o, none⟩ else cellX w1 b o) ∧ (∀ b o, w1.frozen? ⟨b, o, none⟩ = if b < W.heap.size then W.frozen? ⟨b, o, none⟩ else frozenX w1 b o) := by
  refine ⟨fun b o => ?_, fun b o => ?_⟩
  · split
    · exact hb.cell (p := ⟨b, o, none⟩) (by assumption)
    · rfl
  · split
    · exact hb.frozen (p := ⟨b, o, none⟩) (by assumption)
    · rfl
/-- A cell that lay there before a call. -/
theorem rd {W w1 : World} {b o N : Nat} {x : Option Value} (hb : Below W.heap.size W w1) (s : W.cell? ⟨b, o, none⟩ = x) (hN : N ≤ W.heap.size) (hlt : b < N) : w1.cell? ⟨b, o, none⟩ = x := (hb.cell (p := ⟨b, o, none⟩) (Nat.lt_of_lt_of_le hlt hN)).trans s
/-- A rule that simp may not take for a definition: the instance of an 'if' goes along. -/
theorem drew_size (w : World) : w.drew.heap.size = w.heap.size := by
  cases w
  rfl
theorem bl_then {B : Nat} {w W w1 : World} (k : Hid (Below W.heap.size W w1)) (h : Below B w W) (hB : B ≤ W.heap.size) : Below B w w1 :=
  h.trans ⟨k.os, k.tape, k.output, k.size, fun i hi => k.block i (Nat.lt_of_lt_of_le hi hB)⟩
theorem bl_alloc {B : Nat} {w W : World} (hB : B ≤ W.heap.size) (h : Below B w W) (o : Obj) : Below B w (W.alloc o) := h.alloc hB o
theorem bl_set {B b i : Nat} {w W : World} (hB : B ≤ b) (h : Below B w W) (u : Value) : Below B w (W.setCell ⟨b, i, none⟩ u) := h.setCell (p := ⟨b, i, none⟩) hB u
theorem bl_drew {B : Nat} {w W : World} (h : Below B w W) : Below B w W.drew := ⟨h.os, h.tape, h.output, h.size, h.block⟩
theorem bl_drewN {B : Nat} {w W : World} (h : Below B w W) (n : Nat) : Below B w (W.drewN n) := ⟨h.os, h.tape, h.output, h.size, h.block⟩

/-! ### a region that draws its order, whose operations read and call what only makes memory: one walk of the text's order -/
structure Ext (S : World → Prop) where
  w : World
  h : S w
theorem wp_region_calm {P : Program} {S : World → Prop} {id : Nat} {Q : Exit → Act → World → Prop} {a : Act} {w : World} {l : List Oper} (hm : P.follows .mixedOrders = true) (hB : Region.lexB .any l.toArray = true) (hS : S w.drew)
    (h : wpQuiet P l.toArray (fun w' => ∃ n : Ext S, w' = n.w) (fun a' => ∀ w', (∃ n : Ext S, w' = n.w) → Q .normal a' w') l a) : (Code.region id l.toArray true).wp P Q a w :=
  wp_region_quiet (C := fun w' => ∃ n : Ext S, w' = n.w) hm hB ⟨⟨w.drew, hS⟩, rfl⟩ (by simpa using h)
theorem Ext.calm {P : Program} {S : World → Prop} {f : FuncId} {args : Array Value} {v : Value} {n : Ext S} (hcl : ∀ W w', S W → Below W.heap.size W w' → S w')
    (h : Calls P f args n.w fun e w' => e = .returned v ∧ Below n.w.heap.size n.w w') : Calls P f args n.w fun e w'' => e = .returned v ∧ ∃ m : Ext S, w'' = m.w :=
  h.mono fun e w' ⟨he, hb⟩ => ⟨he, ⟨w', hcl _ _ n.h hb⟩, rfl⟩
theorem Ext.calm_same {P : Program} {S : World → Prop} {f : FuncId} {args : Array Value} {v : Value} {n : Ext S}
    (h : Calls P f args n.w fun e w' => e = .returned v ∧ n.w = w') : Calls P f args n.w fun e w'' => e = .returned v ∧ ∃ m : Ext S, w'' = m.w :=
  h.mono fun e w' ⟨he, hb⟩ => ⟨he, n, hb.symm⟩
theorem below_calm {w0 : World} : ∀ W w', Below w0.heap.size w0 W → Below W.heap.size W w' → Below w0.heap.size w0 w' := fun W w' h k => bl_then (Lib.hid k) h h.size
theorem below_start (w : World) : Below w.heap.size w w.drew := bl_drew (Below.refl _ _)
theorem Ext.rd {W : World} {b o : Nat} {x : Value} (s : W.cell? ⟨b, o, none⟩ = some x) : ∀ n : Ext (Below W.heap.size W), n.w.cell? ⟨b, o, none⟩ = some x := fun n => (n.h.cell (p := ⟨b, o, none⟩) (World.block_lt_of_cell? W ⟨b, o, none⟩ s)).trans s

/-! ### what a call that writes into a footprint leaves: F' is F and new blocks -/
def FX (F : Nat → Prop) (b : Nat) : Prop := F b
structure Step (F F' : Nat → Prop) (w w' : World) : Prop where
  os : w'.os = w.os
  tape : w'.tape = w.tape
  output : w'.output = w.output
  size : w.heap.size ≤ w'.heap.size
  keep : ∀ i, i < w.heap.size → ¬ F i → w'.heap[i]? = w.heap[i]?
  foot : ∀ i, i < w.heap.size → (F' i ↔ F i)
  most : ∀ i, F' i → i < w'.heap.size
namespace Step
variable {F F' F'' : Nat → Prop} {w w' w'' : World}
theorem refl {F : Nat → Prop} {w : World} (h : ∀ i, F i → i < w.heap.size) : Step F F w w := ⟨rfl, rfl, rfl, Nat.le_refl _, fun _ _ _ => rfl, fun _ _ => Iff.rfl, h⟩
theorem trans (h : Step F F' w w') (k : Step F' F'' w' w'') : Step F F'' w w'' :=
  ⟨k.os.trans h.os, k.tape.trans h.tape, k.output.trans h.output, Nat.le_trans h.size k.size,
    fun i hi hn => (k.keep i (Nat.lt_of_lt_of_le hi h.size) (fun hf => hn ((h.foot i hi).1 hf))).trans (h.keep i hi hn),
    fun i hi => (k.foot i (Nat.lt_of_lt_of_le hi h.size)).trans (h.foot i hi), k.most⟩
theorem of_below {F : Nat → Prop} (hF : ∀ i, F i → i < w.heap.size) (h : Below w.heap.size w w') : Step F F w w' :=
  ⟨h.os, h.tape, h.output, h.size, fun i hi _ => h.block i hi, fun _ _ => Iff.rfl, fun i hi => Nat.lt_of_lt_of_le (hF i hi) h.size⟩
theorem below {B : Nat} {w0 : World} (h : Step F F' w w') (hb : Below B w0 w) (hB : B ≤ w.heap.size) (hF : ∀ i, F i → B ≤ i) : Below B w0 w' :=
  hb.trans ⟨h.os, h.tape, h.output, h.size, fun i hi => h.keep i (Nat.lt_of_lt_of_le hi hB) (fun hf => absurd hi (Nat.not_lt.2 (hF i hf)))⟩
theorem low {B : Nat} (h : Step F F' w w') (hB : B ≤ w.heap.size) (hF : ∀ i, F i → B ≤ i) : ∀ i, F' i → B ≤ i := fun i hi => by
  rcases Nat.lt_or_ge i w.heap.size with hl | hl
  · exact hF i ((h.foot i hl).1 hi)
  · exact Nat.le_trans hB hl
open Classical in
theorem rules (h : Step F F' w w') : (∀ b o, w'.cell? ⟨b, o, none⟩ = if b < w.heap.size then (if F b then cellX w' b o else w.cell? ⟨b, o, none⟩) else cellX w' b o) ∧
    (∀ b o, w'.frozen? ⟨b, o, none⟩ = if b < w.heap.size then (if F b then frozenX w' b o else w.frozen? ⟨b, o, none⟩) else frozenX w' b o) ∧
    (∀ b, F' b = if b < w.heap.size then F b else if w'.heap.size ≤ b then False else FX F' b) := by
  refine ⟨fun b o => ?_, fun b o => ?_, fun b => ?_⟩
  · split
    · split
      · rfl
      · exact World.cell?_of_block (a := ⟨b, o, none⟩) (h.keep b (by assumption) (by assumption))
    · rfl
  · split
    · split
      · rfl
      · exact World.frozen?_of_block (a := ⟨b, o, none⟩) (h.keep b (by assumption) (by assumption))
    · rfl
  · split
    · exact propext (h.foot b (by assumption))
    · split
      · exact eq_false fun hf => absurd (h.most b hf) (by omega)
      · rfl
theorem set_ {b i : Nat} (hB : w.heap.size ≤ b) (h : Step F F' w w') (u : Value) : Step F F' w (w'.setCell ⟨b, i, none⟩ u) :=
  ⟨h.os, h.tape, h.output, by rw [World.size_setCell]; exact h.size, fun k hk hn => (Below.heap_setCell w' ⟨b, i, none⟩ u k (by rintro rfl; exact absurd hk (Nat.not_lt.2 hB))).trans (h.keep k hk hn), h.foot, fun k hk => by rw [World.size_setCell]; exact h.most k hk⟩
theorem alloc (h : Step F F' w w') (o : Obj) : Step F F' w (w'.alloc o) :=
  ⟨h.os, h.tape, h.output, by rw [World.size_alloc]; exact Nat.le_succ_of_le h.size, fun k hk hn => (Below.heap_alloc w' o k (Nat.lt_of_lt_of_le hk h.size)).trans (h.keep k hk hn), h.foot, fun k hk => by rw [World.size_alloc]; exact Nat.lt_succ_of_lt (h.most k hk)⟩
theorem drew (h : Step F F' w w') : Step F F' w w'.drew := ⟨h.os, h.tape, h.output, h.size, h.keep, h.foot, h.most⟩
theorem drewN (h : Step F F' w w') (n : Nat) : Step F F' w (w'.drewN n) := ⟨h.os, h.tape, h.output, h.size, h.keep, h.foot, h.most⟩
theorem then_ (k : Hid (Step F' F'' w' w'')) (h : Step F F' w w') : Step F F'' w w'' := h.trans k
theorem thenB (k : Hid (Below w'.heap.size w' w'')) (h : Step F F' w w') : Step F F' w w'' := h.trans (of_below h.most k)
/-- Below what was there when the log was made. -/
theorem bl {B B' : Nat} {w0 : World} (k : Hid (Step F F' w w')) (hF : Hid (∀ i, F i → B' ≤ i)) (hBB : B ≤ B') (hB : B ≤ w.heap.size) (hb : Below B w0 w) : Below B w0 w' := Step.below k hb hB fun i hi => Nat.le_trans hBB (hF i hi)
theorem blk {g : Nat} {t : TypeId} {cs : Array Value} (h : Step F F' w w') (hg : Blk w g t cs) (hn : ¬ F g) : Blk w' g t cs := (h.keep g hg.lt hn).trans hg
end Step

theorem foot_old {F : Nat → Prop} {w : World} (h : ∀ i, F i → i < w.heap.size) : ∀ b, F b = if b < w.heap.size then FX F b else False := fun b => by
  split
  · rfl
  · exact eq_false fun hf => absurd (h b hf) (by omega)
theorem foot_new {F : Nat → Prop} {w : World} {B : Nat} (h : ∀ i, F i → i < w.heap.size) (hl : ∀ i, F i → B ≤ i) : ∀ b, F b = if b < B then False else if w.heap.size ≤ b then False else FX F b := fun b => by
  split
  · exact eq_false fun hf => absurd (hl b hf) (by omega)
  · split
    · exact eq_false fun hf => absurd (h b hf) (by omega)
    · rfl

/-! ### a log -/
structure Ev where
  k : Int
  i : Int
  v : Int
def evCells (l : List Ev) : List Value := l.flatMap fun e => [.int .i64 e.k, .int .i64 e.i, .int .u32 e.v]
theorem evCells_length (l : List Ev) : (evCells l).length = l.length * 3 := by
  induction l with
  | nil => rfl
  | cons e l ih => simp only [evCells, List.flatMap_cons, List.length_append, List.length_cons, List.length_nil] at ih ⊢; omega
theorem evCells_snoc (l : List Ev) (e : Ev) : evCells (l ++ [e]) = evCells l ++ [.int .i64 e.k, .int .i64 e.i, .int .u32 e.v] := by simp [evCells]
/-- At block p lies a log with these events; F: all blocks that it may write. -/
def Lg (w : World) (F : Nat → Prop) (p : Nat) (evs : List Ev) : Prop :=
  ∃ ev : Value, Blk w p 102 #[ev] ∧ w.ownsRow 0 78 3 ev evs.length (evCells evs) ∧ F p ∧ (∀ k, ev.ownBlock = some k → F k) ∧ ∀ i, F i → i < w.heap.size
namespace Lg
variable {F G G' : Nat → Prop} {w w' : World} {p : Nat} {evs : List Ev}
theorem most (h : Lg w F p evs) : ∀ i, F i → i < w.heap.size := by obtain ⟨_, _, _, _, _, h⟩ := h; exact h
theorem has (h : Lg w F p evs) : F p := by obtain ⟨_, _, _, h, _⟩ := h; exact h
theorem kept (h : Lg w F p evs) (hs : w.heap.size ≤ w'.heap.size) (hk : ∀ i, F i → w'.heap[i]? = w.heap[i]?) : Lg w' F p evs := by
  obtain ⟨ev, hp, ho, hF, hF2, hF3⟩ := h
  refine ⟨ev, (hk p hF).trans hp, ?_, hF, hF2, fun i hi => Nat.lt_of_lt_of_le (hF3 i hi) hs⟩
  refine ⟨ho.1, ?_⟩
  rcases ho.2 with h0 | ⟨g, cap, cur, rfl, h1, h2, h3⟩
  · exact .inl h0
  · exact .inr ⟨g, cap, cur, rfl, h1, (hk g (hF2 g rfl)).trans h2, h3⟩
theorem alloc (h : Lg w F p evs) (o : Obj) : Lg (w.alloc o) F p evs := h.kept (by simp) fun i hi => Below.heap_alloc w o i (h.most i hi)
theorem set_ (h : Lg w F p evs) {b i : Nat} (hn : ¬ F b) (u : Value) : Lg (w.setCell ⟨b, i, none⟩ u) F p evs :=
  h.kept (by simp) fun k hk => Below.heap_setCell w ⟨b, i, none⟩ u k (by rintro rfl; exact hn hk)
theorem drew (h : Lg w F p evs) : Lg w.drew F p evs := h
theorem drewN (h : Lg w F p evs) (n : Nat) : Lg (w.drewN n) F p evs := h
theorem below (h : Lg w F p evs) (hb : Hid (Below w.heap.size w w')) : Lg w' F p evs := h.kept hb.size fun i hi => hb.block i (h.most i hi)
theorem step (h : Lg w F p evs) (hs : Step G G' w w') (hd : ∀ i, F i → ¬ G i) : Lg w' F p evs := h.kept hs.size fun i hi => hs.keep i (h.most i hi) (hd i hi)
end Lg

/-! ### a slice of numbers that is read, nil let in -/
def Ints (w : World) (k : IntKind) (A : Option Addr) (n : Nat) (xs : List Int) : Prop :=
  xs.length = n ∧ (0 < n → ∃ b off, A = some ⟨b, off, none⟩ ∧ b < w.heap.size ∧ ∀ j, j < n → w.cell? ⟨b, off + j, none⟩ = some (.int k (xs.getD j 0)))
namespace Ints
variable {w w' : World} {k : IntKind} {A : Option Addr} {n : Nat} {xs : List Int}
theorem kept (h : Ints w k A n xs) (hs : w.heap.size ≤ w'.heap.size) (hk : ∀ b o, b < w.heap.size → w'.cell? ⟨b, o, none⟩ = w.cell? ⟨b, o, none⟩) : Ints w' k A n xs :=
  ⟨h.1, fun hn => by
    obtain ⟨b, off, e, hb, hc⟩ := h.2 hn
    exact ⟨b, off, e, Nat.lt_of_lt_of_le hb hs, fun j hj => (hk b _ hb).trans (hc j hj)⟩⟩
theorem below (h : Ints w k A n xs) (hb : Hid (Below w.heap.size w w')) : Ints w' k A n xs := h.kept hb.size fun b o hlt => hb.cell (p := ⟨b, o, none⟩) hlt
theorem alloc (h : Ints w k A n xs) (o : Obj) : Ints (w.alloc o) k A n xs := h.kept (by simp) fun b o' hlt => World.cell?_alloc_lt w o ⟨b, o', none⟩ hlt
theorem drew (h : Ints w k A n xs) : Ints w.drew k A n xs := h
theorem of_own {base : Nat} {e : TypeId} {c : Nat} (h : w.ownsRow base e 1 (.slice A n c) n (xs.map fun x => .int k x)) : Ints w k A n xs := by
  have hl : xs.length = n := by have := h.1; simpa using this
  refine ⟨hl, fun hn => ?_⟩
  obtain ⟨g, cap, hv, _, hlt⟩ := h.form hn
  have hA : A = some ⟨g, 0, none⟩ := by injection hv
  subst hA
  refine ⟨g, 0, rfl, hlt, fun j hj => ?_⟩
  have h1 := h.cells (g := g) rfl j (.int k (xs.getD j 0)) (by rw [List.getElem?_map, List.getElem?_eq_getElem (by omega), List.getD_eq_getElem?_getD, List.getElem?_eq_getElem (by omega)]; rfl)
  rwa [Addr.add_mid] at h1
end Ints

/-! ### results that are words -/
theorem ret_sec {fn : Func} {R : Ending → World → Prop} {a : Act} {w : World} {t : Tmp} {ad : Addr} {x : Int} (hr : fn.results = #[.cell t 32])
    (ht : a.tmps.getD t undef = .pointer (some ad)) (hc : w.cell? ad = some (.int .u32 x)) (hd : a.defers = []) (hR : R (.returned (.agg #[.int .u32 x])) w) : bodyPost Try.prog fn R .ret a w := by
  refine bodyPost_ret (v := .agg #[.int .u32 x]) ?_ hd hR
  have ht' : a.tmps[t]?.getD undef = .pointer (some ad) := by simpa using ht
  simp [results, hr, ht', go_sem, hc]
theorem ret_sec2 {fn : Func} {R : Ending → World → Prop} {a : Act} {w : World} {t u : Tmp} {ad bd : Addr} {x y : Int} (hr : fn.results = #[.cell t 32, .cell u 32])
    (ht : a.tmps.getD t undef = .pointer (some ad)) (hu : a.tmps.getD u undef = .pointer (some bd)) (hc : w.cell? ad = some (.int .u32 x)) (hc' : w.cell? bd = some (.int .u32 y)) (hd : a.defers = [])
    (hR : R (.returned (.tuple #[.agg #[.int .u32 x], .agg #[.int .u32 y]])) w) : bodyPost Try.prog fn R .ret a w := by
  refine bodyPost_ret (v := .tuple #[.agg #[.int .u32 x], .agg #[.int .u32 y]]) ?_ hd hR
  have ht' : a.tmps[t]?.getD undef = .pointer (some ad) := by simpa using ht
  have hu' : a.tmps[u]?.getD undef = .pointer (some bd) := by simpa using hu
  simp [results, hr, ht', hu', go_sem, hc, hc']
end Go.Proofs.Ytdakbejppnijdaa
