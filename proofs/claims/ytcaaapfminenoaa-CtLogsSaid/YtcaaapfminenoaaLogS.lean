/- A log, the events that are wanted of it, and the words told: what stays of them from call to call. No condition. -/
import Derived.Test.YtcaaapfminenoaaLogC
namespace Go.Proofs.Ytcaaapfminenoaa
open Go.RowKit
theorem own_step {w w' : World} {F F' : Nat → Prop} {base size n : Nat} {e : TypeId} {v : Value} {xs : List Value} (h : w.ownsRow base e size v n xs) (hs : Step F F' w w') (hd : ∀ b, v.ownBlock = some b → ¬ F b) : w'.ownsRow base e size v n xs := by
  refine ⟨h.1, ?_⟩
  rcases h.2 with h0 | ⟨g, cap, cur, rfl, h1, h2, h3⟩
  · exact .inl h0
  · exact .inr ⟨g, cap, cur, rfl, h1, (hs.keep g (Array.getElem?_eq_some_iff.1 h2).1 (hd g rfl)).trans h2, h3⟩
theorem own_ev {w : World} {base n cap : Nat} {A : Option Addr} {E : List Ev} (h : w.ownsRow base 54 3 (.slice A n cap) n (evCells E)) (hE : E.length = n) {q : Nat} (hq : q < n) : ∃ g, A = some ⟨g, 0, none⟩ ∧ g < w.heap.size ∧
    w.cell? ⟨g, q * 3, none⟩ = some (.int .i64 (E.getD q evDef).k) ∧ w.cell? ⟨g, q * 3 + 1, none⟩ = some (.int .i64 (E.getD q evDef).i) ∧ w.cell? ⟨g, q * 3 + 2, none⟩ = some (.int .u32 (E.getD q evDef).v) := by
  obtain ⟨g, cap', hv, _, hgl⟩ := h.form (by omega)
  injection hv with h1 h2 h3
  subst h1
  have hc := evCells_get E q (by omega)
  exact ⟨g, rfl, hgl, (h.cellAt (q * 3) (by omega)).trans hc.1, (h.cellAt (q * 3 + 1) (by omega)).trans hc.2.1, (h.cellAt (q * 3 + 2) (by omega)).trans hc.2.2⟩
theorem blind_at (E : List Ev) (q : Nat) (h : q < E.length) : (blind E).getD q evDef = blind1 (E.getD q evDef) := by
  unfold blind
  rw [List.getD_eq_getElem?_getD, List.getElem?_map, List.getElem?_eq_getElem h, List.getD_eq_getElem?_getD, List.getElem?_eq_getElem h]
  rfl
theorem own_word {w : World} {base n cap : Nat} {A : Option Addr} {l : List Int} (h : w.ownsRow base 22 1 (.slice A n cap) n (u32s l)) {q : Nat} (hq : q < n) : ∃ g, A = some ⟨g, 0, none⟩ ∧ g < w.heap.size ∧ w.cell? ⟨g, q, none⟩ = some (.int .u32 (l.getD q 0)) := by
  have hl : l.length = n := by have := h.1; simpa [u32s] using this
  obtain ⟨g, cap', hv, _, hgl⟩ := h.form (by omega)
  injection hv with h1 h2 h3
  subst h1
  refine ⟨g, rfl, hgl, (h.cellAt q (by omega)).trans ?_⟩
  unfold u32s
  rw [List.getElem?_map, List.getElem?_eq_getElem (by omega), List.getD_eq_getElem?_getD, List.getElem?_eq_getElem (by omega)]
  rfl
structure St (w0 w : World) (F : Nat → Prop) (p : Nat) (l : List Ev) (n4 : Nat) (e4 : List Ev) (v4 : Value) (n5 : Nat) (t5 : List Int) (v5 : Value) : Prop where
  lg : Lg w F p l
  low : ∀ i, F i → w0.heap.size ≤ i
  o4 : w.ownsRow w0.heap.size 54 3 v4 n4 (evCells e4)
  o5 : w.ownsRow w0.heap.size 22 1 v5 n5 (u32s t5)
  d4 : ∀ b, v4.ownBlock = some b → ¬ F b
  d5 : ∀ b, v5.ownBlock = some b → ¬ F b
  bl : Below w0.heap.size w0 w
namespace St
variable {w0 w w' : World} {F F' : Nat → Prop} {p : Nat} {l l' : List Ev} {n4 : Nat} {e4 : List Ev} {v4 : Value} {n5 : Nat} {t5 : List Int} {v5 : Value}
theorem step (h : St w0 w F p l n4 e4 v4 n5 t5 v5) (hs : Step F F' w w') (hL : Lg w' F' p l') : St w0 w' F' p l' n4 e4 v4 n5 t5 v5 where
  lg := hL
  low := hs.low h.bl.size h.low
  o4 := own_step h.o4 hs h.d4
  o5 := own_step h.o5 hs h.d5
  d4 b hb hf := h.d4 b hb ((hs.foot b (own_lt h.o4 b hb)).1 hf)
  d5 b hb hf := h.d5 b hb ((hs.foot b (own_lt h.o5 b hb)).1 hf)
  bl := hs.below h.bl h.bl.size h.low
theorem below (h : St w0 w F p l n4 e4 v4 n5 t5 v5) (hb : Below w.heap.size w w') : St w0 w' F p l n4 e4 v4 n5 t5 v5 :=
  h.step (Step.of_below h.lg.most hb) (h.lg.below (Lib.hid hb))
theorem alloc (h : St w0 w F p l n4 e4 v4 n5 t5 v5) (o : Obj) : St w0 (w.alloc o) F p l n4 e4 v4 n5 t5 v5 := h.below ((Below.refl _ _).alloc (Nat.le_refl _) o)
theorem drew (h : St w0 w F p l n4 e4 v4 n5 t5 v5) : St w0 w.drew F p l n4 e4 v4 n5 t5 v5 := h.below (bl_drew (Below.refl _ _))
theorem drewN (h : St w0 w F p l n4 e4 v4 n5 t5 v5) (n : Nat) : St w0 (w.drewN n) F p l n4 e4 v4 n5 t5 v5 := h.below (bl_drewN (Below.refl _ _) n)
theorem belowH (h : St w0 w F p l n4 e4 v4 n5 t5 v5) (hb : Hid (Below w.heap.size w w')) : St w0 w' F p l n4 e4 v4 n5 t5 v5 := h.below hb.out
theorem app4 {g cap H : Nat} {e : Ev} (h : St w0 w F p l n4 e4 v4 n5 t5 v5) (ho : w'.ownsRow w0.heap.size 54 3 (.slice (some ⟨g, 0, none⟩) (n4 + 1) cap) (n4 + 1) (evCells e4 ++ [.int .i64 e.k, .int .i64 e.i, .int .u32 e.v]))
    (hG : w.grownBy w' v4.ownBlock) (hat : v4.ownBlock = some g ∨ g = H) (hH : w.heap.size = H) : St w0 w' F p l (n4 + 1) (e4 ++ [e]) (.slice (some ⟨g, 0, none⟩) (n4 + 1) cap) n5 t5 v5 where
  lg := h.lg.kept hG.size fun i hi => hG.block i (h.lg.most i hi) (fun he => h.d4 i he.symm hi)
  low := h.low
  o4 := by rw [evCells_snoc]; exact ho
  o5 := h.o5.kept hG (own_apart1 h.o5 h.o4 (by decide))
  d4 b hb hf := by
    simp only [Value.ownBlock, Option.some.injEq] at hb
    subst hb
    rcases hat with ha | ha
    · exact h.d4 _ ha hf
    · have := h.lg.most _ hf
      omega
  d5 := h.d5
  bl := bl_grown (Lib.hid hG) (own_base h.o4) h.bl.size h.bl
theorem app5 {g cap H : Nat} {x : Int} (h : St w0 w F p l n4 e4 v4 n5 t5 v5) (ho : w'.ownsRow w0.heap.size 22 1 (.slice (some ⟨g, 0, none⟩) (n5 + 1) cap) (n5 + 1) (u32s t5 ++ [.int .u32 x]))
    (hG : w.grownBy w' v5.ownBlock) (hat : v5.ownBlock = some g ∨ g = H) (hH : w.heap.size = H) : St w0 w' F p l n4 e4 v4 (n5 + 1) (t5 ++ [x]) (.slice (some ⟨g, 0, none⟩) (n5 + 1) cap) where
  lg := h.lg.kept hG.size fun i hi => hG.block i (h.lg.most i hi) (fun he => h.d5 i he.symm hi)
  low := h.low
  o4 := h.o4.kept hG (own_apart1 h.o4 h.o5 (by decide))
  o5 := by rw [u32s_snoc]; exact ho
  d4 := h.d4
  d5 b hb hf := by
    simp only [Value.ownBlock, Option.some.injEq] at hb
    subst hb
    rcases hat with ha | ha
    · exact h.d5 _ ha hf
    · have := h.lg.most _ hf
      omega
  bl := bl_grown (Lib.hid hG) (own_base h.o5) h.bl.size h.bl
end St
theorem Release_st {w0 w : World} {F : Nat → Prop} {p : Nat} {l : List Ev} {n4 : Nat} {e4 : List Ev} {v4 : Value} {n5 : Nat} {t5 : List Int} {v5 : Value} (h : St w0 w F p l n4 e4 v4 n5 t5 v5) (hn : l.length < 1099511627776) (a : Int) :
    Calls Try.prog 43 #[.pointer (some ⟨p, 0, none⟩), .agg #[.int .u32 a]] w fun e w' => e = .returned (.int .u32 a) ∧ ∃ F', St w0 w' F' p (l ++ [⟨3, 0, a⟩]) n4 e4 v4 n5 t5 v5 ∧ (∀ b o, b < w.heap.size → ¬ F b → w'.cell? ⟨b, o, none⟩ = w.cell? ⟨b, o, none⟩) ∧ w.heap.size ≤ w'.heap.size :=
  (Release_any w F p l a h.lg hn).mono fun _ _ ⟨he, F', hL, hs⟩ => ⟨he, F', h.step hs hL, fun b o hb hf => World.cell?_of_block (a := ⟨b, o, none⟩) (hs.keep b hb hf), hs.size⟩
/-! ### what is noted -/
def noteEv (K At N V : Nat → Int) (i : Nat) : Ev :=
  if K i % 5 = 0 then ⟨1, At i, 0⟩ else if K i % 5 = 1 then ⟨2, At i, 0⟩ else if K i % 5 = 2 then ⟨4, At i, Ct.count (N i)⟩ else if K i % 5 = 3 then ⟨5, At i, Ct.count (N i)⟩ else ⟨3, 0, V i⟩
def noteEvs (K At N V : Nat → Int) (k : Nat) : List Ev := (List.range k).map (noteEv K At N V)
theorem noteEvs_zero (K At N V : Nat → Int) : noteEvs K At N V 0 = [] := rfl
theorem noteEvs_succ (K At N V : Nat → Int) (k : Nat) : noteEvs K At N V (k + 1) = noteEvs K At N V k ++ [noteEv K At N V k] := by unfold noteEvs; rw [List.range_succ, List.map_append]; rfl
theorem noteEvs_len (K At N V : Nat → Int) (k : Nat) : (noteEvs K At N V k).length = k := by simp [noteEvs]
end Go.Proofs.Ytcaaapfminenoaa
