/- Slices of rows of words, as arguments. No condition. -/
import Derived.Test.YtflapbnbeipddaaRow
import Derived.Test.YtflapbnbeipddaaSkDef
import Derived.Deep.Slices
import Derived.Deep.Matrix
import Derived.Deep.Strs
import Derived.Lib.SmallJoins
namespace Go.Proofs.Ytflapbnbeipddaa
open Go.ChangeShapes Go.WideShapes Go.ChangeAt Go.RowKit Go.Deep Go.Joins
/-- Whoever reads this type reads these kinds of numbers, cell by cell. -/
def FlatT (H : Type) (P : Program) (e : TypeId) (ks : List IntKind) : Prop :=
  ∀ {enc : TypeId × Value → H} {w : World} {base : Nat} {spare : Nat → Bool} {held : Bool} {n : Nat} {cs : List Value} {x : DataW H × List MemPlace}, DataW.trod enc P w base spare held n e cs = some x →
    ∀ (c : Nat) (k : IntKind), ks[c]? = some k → ∃ z, cs[c]? = some (Value.int k z) ∧ (Lit.int k z).wf = true
section
variable {H : Type} {P : Program}
theorem flat_int {e : TypeId} {k : IntKind} (h : P.underlying e = some (.int k)) : FlatT H P e [k] := fun ht c k' hk => by
  obtain ⟨n, rfl, _, hw⟩ := DataW.trod_int h ht
  cases c with
  | zero => simp at hk; subst hk; exact ⟨n, rfl, hw⟩
  | succ c => simp at hk
theorem flat_part {ks : List IntKind} {cs : List Value} {off sz : Nat} (hsz : ks.length = sz) (h : ∀ (c : Nat) (k : IntKind), ks[c]? = some k → ∃ z, ((cs.drop off).take sz)[c]? = some (Value.int k z) ∧ (Lit.int k z).wf = true) :
    ∀ (c : Nat) (k : IntKind), ks[c]? = some k → ∃ z, cs[off + c]? = some (Value.int k z) ∧ (Lit.int k z).wf = true := fun c k hk => by
  obtain ⟨z, h1, h2⟩ := h c k hk
  have hc : c < sz := by rw [← hsz]; exact (List.getElem?_eq_some_iff.1 hk).1
  refine ⟨z, ?_, h2⟩
  rw [List.getElem?_take, if_pos hc, List.getElem?_drop] at h1
  exact h1
theorem flat_join {ks ls : List IntKind} {cs : List Value} {off : Nat} (hoff : ks.length = off) (h1 : ∀ (c : Nat) (k : IntKind), ks[c]? = some k → ∃ z, cs[c]? = some (Value.int k z) ∧ (Lit.int k z).wf = true)
    (h2 : ∀ (c : Nat) (k : IntKind), ls[c]? = some k → ∃ z, cs[off + c]? = some (Value.int k z) ∧ (Lit.int k z).wf = true) : ∀ (c : Nat) (k : IntKind), (ks ++ ls)[c]? = some k → ∃ z, cs[c]? = some (Value.int k z) ∧ (Lit.int k z).wf = true := fun c k hk => by
  by_cases hc : c < ks.length
  · rw [List.getElem?_append_left hc] at hk
    exact h1 c k hk
  · rw [List.getElem?_append_right (by omega)] at hk
    obtain ⟨z, h3, h4⟩ := h2 _ k hk
    rw [show off + (c - ks.length) = c by omega] at h3
    exact ⟨z, h3, h4⟩
theorem flat_struct1 {t : TypeId} {f0 : Field} {k0 : List IntKind} (ht : P.underlying t = some (.struct #[f0])) (o0 : f0.offset = 0) (c0 : P.cellsOf f0.type = k0.length) (h0 : FlatT H P f0.type k0) : FlatT H P t k0 := fun h => by
  obtain ⟨y0, n, _, _, g0⟩ := trod_struct1 ht h
  have e0 := flat_part c0.symm (h0 g0)
  rw [o0] at e0
  simpa using e0
theorem flat_struct2 {t : TypeId} {f0 f1 : Field} {k0 k1 : List IntKind} (ht : P.underlying t = some (.struct #[f0, f1])) (o0 : f0.offset = 0) (o1 : f1.offset = k0.length) (c0 : P.cellsOf f0.type = k0.length) (c1 : P.cellsOf f1.type = k1.length)
    (h0 : FlatT H P f0.type k0) (h1 : FlatT H P f1.type k1) : FlatT H P t (k0 ++ k1) := fun h => by
  obtain ⟨y0, y1, n, _, _, g0, g1⟩ := trod_struct2 ht h
  have e0 := flat_part c0.symm (h0 g0)
  have e1 := flat_part c1.symm (h1 g1)
  rw [o0] at e0
  rw [o1] at e1
  exact flat_join rfl (by simpa using e0) e1
theorem flat_struct3 {t : TypeId} {f0 f1 f2 : Field} {k0 k1 k2 : List IntKind} (ht : P.underlying t = some (.struct #[f0, f1, f2])) (o0 : f0.offset = 0) (o1 : f1.offset = k0.length) (o2 : f2.offset = k0.length + k1.length) (c0 : P.cellsOf f0.type = k0.length) (c1 : P.cellsOf f1.type = k1.length) (c2 : P.cellsOf f2.type = k2.length)
    (h0 : FlatT H P f0.type k0) (h1 : FlatT H P f1.type k1) (h2 : FlatT H P f2.type k2) : FlatT H P t (k0 ++ k1 ++ k2) := fun h => by
  obtain ⟨y0, y1, y2, n, _, _, g0, g1, g2⟩ := trod_struct3 ht h
  have e0 := flat_part c0.symm (h0 g0)
  have e1 := flat_part c1.symm (h1 g1)
  have e2 := flat_part c2.symm (h2 g2)
  rw [o0] at e0
  rw [o1] at e1
  rw [o2] at e2
  exact flat_join (by simp) (flat_join rfl (by simpa using e0) e1) e2
theorem flat_struct4 {t : TypeId} {f0 f1 f2 f3 : Field} {k0 k1 k2 k3 : List IntKind} (ht : P.underlying t = some (.struct #[f0, f1, f2, f3])) (o0 : f0.offset = 0) (o1 : f1.offset = k0.length) (o2 : f2.offset = k0.length + k1.length) (o3 : f3.offset = k0.length + k1.length + k2.length)
    (c0 : P.cellsOf f0.type = k0.length) (c1 : P.cellsOf f1.type = k1.length) (c2 : P.cellsOf f2.type = k2.length) (c3 : P.cellsOf f3.type = k3.length)
    (h0 : FlatT H P f0.type k0) (h1 : FlatT H P f1.type k1) (h2 : FlatT H P f2.type k2) (h3 : FlatT H P f3.type k3) : FlatT H P t (k0 ++ k1 ++ k2 ++ k3) := fun h => by
  obtain ⟨y0, y1, y2, y3, n, _, _, g0, g1, g2, g3⟩ := trod_struct4 ht h
  have e0 := flat_part c0.symm (h0 g0)
  have e1 := flat_part c1.symm (h1 g1)
  have e2 := flat_part c2.symm (h2 g2)
  have e3 := flat_part c3.symm (h3 g3)
  rw [o0] at e0
  rw [o1] at e1
  rw [o2] at e2
  rw [o3] at e3
  exact flat_join (by simp only [List.length_append]) (flat_join (by simp only [List.length_append]) (flat_join rfl (by simpa using e0) e1) e2) e3
/-- A slice of rows, opened: cell by cell, kinds ks. -/
theorem open_cells {enc : TypeId × Value → H} {W : World} {t e : TypeId} {ks : List IntKind} {sz : Nat} {v : Value} {d : DataW H} {p : List MemPlace} {base : Nat} (ht : P.underlying t = some (.slice e)) (hc : P.cellsOf e = sz) (hs : 0 < sz) (hk : ks.length = sz) (hf : FlatT H P e ks)
    (hv : Value.okWide P W .any base t v) (h : DataW.Trod enc P W 0 (fun _ => true) true t v d p) :
    ∃ A len cap, v = .slice A len cap ∧ len ≤ maxLen ∧ (0 < len → ∃ b off, A = some ⟨b, off, none⟩ ∧ b < W.heap.size ∧ ∀ (i c : Nat) (k : IntKind), i < len → ks[c]? = some k → ∃ z, W.cell? ⟨b, off + i * sz + c, none⟩ = some (Value.int k z) ∧ (Lit.int k z).wf = true) := by
  obtain ⟨a0, len, cap, rfl⟩ := okWide_slice ht hv
  obtain ⟨fuel, hfu⟩ := h
  rcases open_slice ht hfu with ⟨hcs, _⟩ | ⟨a, len', cap', m, n, D, Pl, hcs, hb, hl, hm, hmm, _, hx⟩
  · simp [Value.cells] at hcs
    obtain ⟨rfl, rfl, rfl⟩ := hcs
    exact ⟨none, 0, 0, rfl, by decide, fun h => absurd h (Nat.lt_irrefl 0)⟩
  · simp [Value.cells] at hcs
    obtain ⟨rfl, rfl, rfl⟩ := hcs
    simp only [if_true] at hmm
    rw [hmm] at hx
    refine ⟨some a, len, cap, rfl, by omega, fun hn => ?_⟩
    have each : ∀ (i c : Nat) (k : IntKind), i < len → ks[c]? = some k → ∃ z, W.cell? ((a.add (i * sz)).add c) = some (Value.int k z) ∧ (Lit.int k z).wf = true := by
      intro i c k hi hkc
      obtain ⟨cs, h1, h2⟩ := hx i (by omega)
      rw [hc] at h1
      obtain ⟨_, _, hcell⟩ := World.cells?_some h1
      obtain ⟨z, h3, h4⟩ := hf h2 c k hkc
      have hcl : c < sz := by rw [← hk]; exact (List.getElem?_eq_some_iff.1 hkc).1
      exact ⟨z, (hcell c hcl).trans h3, h4⟩
    obtain ⟨b, off, spot⟩ := a
    obtain ⟨k0, hk0⟩ : ∃ k0, ks[0]? = some k0 := ⟨ks[0], List.getElem?_eq_getElem (by omega)⟩
    obtain ⟨z0, hz0, _⟩ := each 0 0 k0 hn hk0
    have hspot : spot = none := by simpa [Addr.add] using World.cell?_spot hz0
    subst hspot
    refine ⟨b, off, rfl, ?_, fun i c k hi hkc => ?_⟩
    · have := World.block_lt_of_cell? W _ hz0
      simpa [Addr.add] using this
    · obtain ⟨z, h3, h4⟩ := each i c k hi hkc
      rw [Go.WideShapes.add_plain, Go.WideShapes.add_plain] at h3
      exact ⟨z, h3, h4⟩
theorem open_tab {enc : TypeId × Value → H} {W : World} {t e : TypeId} {sz : Nat} {v : Value} {d : DataW H} {p : List MemPlace} {base : Nat} (ht : P.underlying t = some (.slice e)) (hc : P.cellsOf e = sz) (hs : 0 < sz) (hf : FlatT H P e (List.replicate sz .u32))
    (hv : Value.okWide P W .any base t v) (h : DataW.Trod enc P W 0 (fun _ => true) true t v d p) :
    ∃ A len cap f, v = .slice A len cap ∧ Tab W A len sz f ∧ len ≤ maxLen ∧ ∀ i c, 0 ≤ f i c ∧ f i c < 4294967296 := by
  obtain ⟨A, len, cap, rfl, hl, hx⟩ := open_cells ht hc hs (by simp) hf hv h
  by_cases hn : 0 < len
  · obtain ⟨b, off, rfl, hb, hcell⟩ := hx hn
    refine ⟨_, len, cap, fun i c => if i < len ∧ c < sz then (match W.cell? ⟨b, off + i * sz + c, none⟩ with | some (.int _ z) => z | _ => 0) else 0, rfl, fun _ => ⟨b, off, rfl, hb, fun i c hi hcc => ?_⟩, hl, fun i c => ?_⟩
    · obtain ⟨z, h1, _⟩ := hcell i c .u32 hi (by rw [List.getElem?_replicate, if_pos hcc])
      dsimp only
      rw [if_pos ⟨hi, hcc⟩, h1]
    · dsimp only
      split
      · rename_i hic
        obtain ⟨z, h1, h2⟩ := hcell i c .u32 hic.1 (by rw [List.getElem?_replicate, if_pos hic.2])
        rw [h1]
        have := bounds_u32 h2
        dsimp only
        omega
      · omega
  · exact ⟨A, len, cap, fun _ _ => 0, rfl, fun h => absurd h hn, hl, fun _ _ => ⟨Int.le_refl 0, show (0 : Int) < 4294967296 by decide⟩⟩
theorem open_rowz {enc : TypeId × Value → H} {W : World} {t e q : TypeId} {v : Value} {d : DataW H} {p : List MemPlace} {base : Nat} (ht : P.underlying t = some (.slice e)) (he : P.underlying e = some (.slice q)) (hq : P.underlying q = some (.int .u32)) (ce : P.cellsOf e = 1) (cq : P.cellsOf q = 1)
    (hv : Value.okWide P W .any base t v) (h : DataW.Trod enc P W 0 (fun _ => true) true t v d p) :
    ∃ A len cap R f B off Ai ci, v = .slice A len cap ∧ Rowz W A len R f B off Ai ci ∧ len ≤ maxLen ∧ (∀ i, i < len → R i ≤ maxLen) ∧ ∀ i c, 0 ≤ f i c ∧ f i c < 4294967296 := by
  obtain ⟨a0, len, cap, rfl⟩ := okWide_slice ht hv
  obtain ⟨fuel, hfu⟩ := h
  rcases open_int_rows ht he hq ce cq hfu with ⟨hcs, _⟩ | ⟨a, len', cap', Ai, L, C, Z, hcs, hb, hl, hm, _, hx⟩
  · simp [Value.cells] at hcs
    obtain ⟨rfl, rfl, rfl⟩ := hcs
    exact ⟨none, 0, 0, fun _ => 0, fun _ _ => 0, 0, 0, fun _ => none, fun _ => 0, rfl, ⟨fun h => absurd h (Nat.lt_irrefl 0), fun i h => absurd h (Nat.not_lt_zero i), fun i h => absurd h (Nat.not_lt_zero i), fun i h => absurd h (Nat.not_lt_zero i)⟩, by decide, fun i h => absurd h (Nat.not_lt_zero i), fun _ _ => ⟨Int.le_refl 0, show (0 : Int) < 4294967296 by decide⟩⟩
  · simp [Value.cells] at hcs
    obtain ⟨rfl, rfl, rfl⟩ := hcs
    obtain ⟨b, off, spot⟩ := a
    refine ⟨some ⟨b, off, spot⟩, len, cap, L, fun i c => if i < len then (Z i).getD c 0 else 0, b, off, Ai, C, rfl, ?_, by omega, fun i hi => ?_, fun i c => ?_⟩
    · by_cases hn : 0 < len
      · have hspot : spot = none := by simpa [Addr.add] using World.cell?_spot (hx 0 (by omega)).1
        subst hspot
        have hcell : ∀ i, i < len → W.cell? ⟨b, off + i, none⟩ = some (.slice (Ai i) (L i) (C i)) := fun i hi => by
          have := (hx i (by omega)).1
          rwa [Go.WideShapes.add_plain] at this
        refine ⟨fun _ => ⟨rfl, World.block_lt_of_cell? W _ (hcell 0 hn)⟩, hcell, fun i hi => (hx i (by omega)).2.1, fun i hi hr => ?_⟩
        obtain ⟨_, h2, h3, h4, h5, h6, h7⟩ := hx i (by omega)
        cases hA : Ai i with
        | none => have := h6 hA; omega
        | some a' =>
          obtain ⟨_, hc⟩ := h7 a' hA
          obtain ⟨b', o', sp'⟩ := a'
          have hsp : sp' = none := by simpa [Addr.add] using World.cell?_spot (hc 0 (by omega))
          subst hsp
          have hc' : ∀ c, c < L i → W.cell? ⟨b', o' + c, none⟩ = some (.int .u32 ((Z i).getD c 0)) := fun c hcc => by
            have := hc c (by omega)
            rwa [Go.WideShapes.add_plain] at this
          refine ⟨b', o', rfl, World.block_lt_of_cell? W _ (hc' 0 hr), fun c hcc => ?_⟩
          rw [if_pos hi]
          exact hc' c hcc
      · exact ⟨fun h => absurd h hn, fun i h => absurd h (by omega), fun i h => absurd h (by omega), fun i h => absurd h (by omega)⟩
    · have := hx i (by omega)
      omega
    · dsimp only
      split
      · rename_i hi
        obtain ⟨_, _, _, h4, h5, _, _⟩ := hx i (by omega)
        by_cases hc : c < (Z i).length
        · rw [List.getD_eq_getElem?_getD, List.getElem?_eq_getElem hc]
          have := bounds_u32 (h5 _ (List.getElem_mem hc))
          simp only [Option.getD_some]
          omega
        · rw [List.getD_eq_getElem?_getD, List.getElem?_eq_none (by omega)]
          simp
      · omega
end
end Go.Proofs.Ytflapbnbeipddaa
