/- Arrays of three ints as arguments. No condition. -/
import Derived.Test.YtjoehhojhfgooaaRow
import Derived.Laws.IdiomArrays
namespace Go.Proofs.Ytjoehhojhfgooaa
open Go.ChangeShapes Go.WideShapes Go.ChangeAt Go.RowKit
theorem open_arr3 {H : Type} {enc : TypeId × Value → H} {P : Program} {W : World} {t e : TypeId} {k : IntKind} {v : Value} {d : DataW H} {p : List MemPlace} {base : Nat} (ht : P.underlying t = some (.array 3 e)) (he : P.underlying e = some (.int k)) (hc : P.cellsOf t = 3) (hce : P.cellsOf e = 1)
    (hv : Value.okWide P W .any base t v) (h : DataW.Trod enc P W 0 (fun _ => true) true t v d p) :
    ∃ x y z, v = .agg #[.int k x, .int k y, .int k z] ∧ (Lit.int k x).wf = true ∧ (Lit.int k y).wf = true ∧ (Lit.int k z).wf = true := by
  obtain ⟨fuel, hfu⟩ := h
  unfold Value.okWide at hv
  rw [ht] at hv
  obtain ⟨cs, rfl, hs, _⟩ := hv
  rw [hc] at hs
  obtain ⟨l⟩ := cs
  simp at hs
  match l, hs with
  | [c0, c1, c2], _ =>
    simp [Value.cells] at hfu
    obtain ⟨y0, y1, y2, n, _, h0, h1, h2⟩ := trod_array3 ht hce hfu
    obtain ⟨x, hx, _, wx⟩ := DataW.trod_int he h0
    obtain ⟨y, hy, _, wy⟩ := DataW.trod_int he h1
    obtain ⟨z, hz, _, wz⟩ := DataW.trod_int he h2
    simp at hx hy hz
    subst hx hy hz
    exact ⟨x, y, z, rfl, wx, wy, wz⟩
end Go.Proofs.Ytjoehhojhfgooaa
