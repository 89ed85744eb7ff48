/- Bytes and words as arguments. No condition. -/
import Derived.Test.YtdakbejppnijdaaRow
import Derived.Test.YtdakbejppnijdaaSjA
namespace Go.Proofs.Ytdakbejppnijdaa
open Go.ChangeShapes Go.WideShapes Go.ChangeAt Go.RowKit
theorem cl_of8 {W : World} {A : Option Addr} {n : Nat} {xs : List Int} (h : Ints W .u8 A n xs) (hw : ∀ x ∈ xs, (Lit.int .u8 x).wf = true) : Sj.Cl .u8 W A n (fun j => (xs.getD j 0).toNat) ∧ ∀ j, (xs.getD j 0).toNat < 256 := by
  have hb : ∀ j, 0 ≤ xs.getD j 0 ∧ xs.getD j 0 ≤ 255 := fun j => by
    rcases Nat.lt_or_ge j xs.length with hj | hj
    · have h := bounds_u8 (hw (xs.getD j 0) (by rw [List.getD_eq_getElem?_getD, List.getElem?_eq_getElem hj]; exact List.getElem_mem _))
      omega
    · rw [List.getD_eq_getElem?_getD, List.getElem?_eq_none hj]
      decide
  refine ⟨fun h0 => ?_, fun j => by have := hb j; omega⟩
  obtain ⟨b, o, e, hl, hc⟩ := h.2 h0
  refine ⟨b, o, e, hl, fun i hi => ?_⟩
  rw [hc i hi, Int.toNat_of_nonneg (hb i).1]
theorem cl_of32 {W : World} {A : Option Addr} {n : Nat} {xs : List Int} (h : Ints W .u32 A n xs) (hw : ∀ x ∈ xs, (Lit.int .u32 x).wf = true) : Sj.Cl .u32 W A n (fun j => (xs.getD j 0).toNat) ∧ ∀ j, (xs.getD j 0).toNat < 4294967296 := by
  have hb : ∀ j, 0 ≤ xs.getD j 0 ∧ xs.getD j 0 ≤ 4294967295 := fun j => by
    rcases Nat.lt_or_ge j xs.length with hj | hj
    · have h := bounds_u32 (hw (xs.getD j 0) (by rw [List.getD_eq_getElem?_getD, List.getElem?_eq_getElem hj]; exact List.getElem_mem _))
      omega
    · rw [List.getD_eq_getElem?_getD, List.getElem?_eq_none hj]
      decide
  refine ⟨fun h0 => ?_, fun j => by have := hb j; omega⟩
  obtain ⟨b, o, e, hl, hc⟩ := h.2 h0
  refine ⟨b, o, e, hl, fun i hi => ?_⟩
  rw [hc i hi, Int.toNat_of_nonneg (hb i).1]
end Go.Proofs.Ytdakbejppnijdaa
