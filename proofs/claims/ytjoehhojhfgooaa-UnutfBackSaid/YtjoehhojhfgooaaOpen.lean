/- A slice of numbers as an argument, with its capacity; bytes as naturals. No condition. -/
import Derived.Test.YtjoehhojhfgooaaRow
import Derived.Test.YtjoehhojhfgooaaUtM
namespace Go.Proofs.Ytjoehhojhfgooaa
open Go.ChangeShapes Go.WideShapes Go.ChangeAt Go.RowKit
theorem open_ints_cap {H : Type} {enc : TypeId × Value → H} {P : Program} {W : World} {t e : TypeId} {k : IntKind} {v : Value} {d : DataW H} {p : List MemPlace} {base : Nat} (ht : P.underlying t = some (.slice e)) (he : P.underlying e = some (.int k)) (hc : P.cellsOf e = 1)
    (hv : Value.okWide P W .any base t v) (h : DataW.Trod enc P W 0 (fun _ => true) true t v d p) :
    ∃ A len cap xs, v = .slice A len cap ∧ Ints W k A len xs ∧ len ≤ maxLen ∧ (∀ x ∈ xs, (Lit.int k x).wf = true) ∧ len ≤ cap := by
  obtain ⟨a0, len, cap, rfl⟩ := okWide_slice ht hv
  obtain ⟨fuel, hf⟩ := h
  rcases open_ints ht he hc hf with ⟨hcs, _⟩ | ⟨a, len', cap', zs, hcs, _, hl, hm, hz, _, hcell, hwz⟩
  · simp [Value.cells] at hcs
    obtain ⟨rfl, rfl, rfl⟩ := hcs
    exact ⟨none, 0, 0, [], rfl, ⟨rfl, fun h => absurd h (Nat.lt_irrefl 0)⟩, by decide, by simp, Nat.le_refl _⟩
  · simp [Value.cells] at hcs
    obtain ⟨rfl, rfl, rfl⟩ := hcs
    simp only [if_true] at hz
    refine ⟨some a, len, cap, zs.take len, rfl, ⟨by rw [List.length_take]; omega, fun hn => ?_⟩, by omega, fun x hx => hwz x (List.mem_of_mem_take hx), by omega⟩
    obtain ⟨b, off, rfl, hcc⟩ := ints_at hcell (by omega)
    refine ⟨b, off, rfl, World.block_lt_of_cell? W ⟨b, off + 0, none⟩ (hcc 0 (by omega)), fun j hj => ?_⟩
    rw [hcc j (by omega)]
    simp [List.getD_eq_getElem?_getD, hj]
theorem u8s_of {W : World} {A : Option Addr} {n : Nat} {xs : List Int} (h : Ints W .u8 A n xs) (hw : ∀ x ∈ xs, (Lit.int .u8 x).wf = true) : U8s W A n (fun j => (xs.getD j 0).toNat) ∧ ∀ j, (xs.getD j 0).toNat < 256 := by
  have hb : ∀ j, 0 ≤ xs.getD j 0 ∧ xs.getD j 0 ≤ 255 := fun j => by
    rcases Nat.lt_or_ge j xs.length with hj | hj
    · have h := bounds_u8 (hw (xs.getD j 0) (by rw [List.getD_eq_getElem?_getD, List.getElem?_eq_getElem hj]; exact List.getElem_mem _))
      omega
    · rw [List.getD_eq_getElem?_getD, List.getElem?_eq_none hj]
      decide
  refine ⟨fun h0 => ?_, fun j => by have := hb j; omega⟩
  obtain ⟨b, o, e, hl, hc⟩ := h.2 h0
  refine ⟨b, o, e, hl, fun i hi => ?_⟩
  rw [hc i hi, Int.toNat_of_nonneg (hb i).1]
end Go.Proofs.Ytjoehhojhfgooaa
