/- Slices of pairs of ints as arguments. No condition. -/
import Derived.Test.YtflapbnbeipddaaTab
import Derived.Test.YtflapbnbeipddaaSnA
import Derived.Laws.IdiomArrays
namespace Go.Proofs.Ytflapbnbeipddaa
open Go.ChangeShapes Go.WideShapes Go.ChangeAt Go.RowKit Go.Deep Go.Joins
section
variable {H : Type} {P : Program}
theorem flat_arr2 {t e : TypeId} {k : IntKind} (ht : P.underlying t = some (.array 2 e)) (hct : P.cellsOf t = 2) (hce : P.cellsOf e = 1) (he : P.underlying e = some (.int k)) : FlatT H P t [k, k] := by
  intro enc w base spare held fuel cs x h
  cases fuel with
  | zero => simp [DataW.trod] at h
  | succ n =>
    unfold DataW.trod at h
    rw [ht] at h
    have r2 : List.range 2 = [0, 1] := rfl
    simp [r2, hce, hct] at h
    obtain ⟨hl, h⟩ := h
    match cs, hl with
    | [c0, c1], _ =>
      simp at h
      cases h0 : DataW.trod enc P w base spare held n e [c0] with
      | none => simp [h0] at h
      | some y0 =>
        cases h1 : DataW.trod enc P w base spare held n e [c1] with
        | none => simp [h0, h1] at h
        | some y1 =>
          obtain ⟨a, ha, _, wa⟩ := DataW.trod_int he h0
          obtain ⟨b, hb, _, wb⟩ := DataW.trod_int he h1
          intro c k' hk
          simp at ha hb
          subst ha hb
          match c, hk with
          | 0, hk => simp at hk; subst hk; exact ⟨a, rfl, wa⟩
          | 1, hk => simp at hk; subst hk; exact ⟨b, rfl, wb⟩
theorem open_prs {enc : TypeId × Value → H} {W : World} {t e i : TypeId} {v : Value} {d : DataW H} {p : List MemPlace} {base : Nat} (ht : P.underlying t = some (.slice e)) (hte : P.underlying e = some (.array 2 i)) (hti : P.underlying i = some (.int .i64)) (hc : P.cellsOf e = 2) (hci : P.cellsOf i = 1)
    (hv : Value.okWide P W .any base t v) (h : DataW.Trod enc P W 0 (fun _ => true) true t v d p) : ∃ A len cap X Y, v = .slice A len cap ∧ len ≤ maxLen ∧ Sn.Prw W A len X Y := by
  obtain ⟨A, len, cap, rfl, hl, hx⟩ := open_cells (ks := [.i64, .i64]) (sz := 2) ht hc (by decide) rfl (flat_arr2 hte hc hci hti) hv h
  by_cases hn : 0 < len
  · obtain ⟨b, o, rfl, hb, hcell⟩ := hx hn
    have g0 : ∀ i, i < len → ∃ z, W.cell? ⟨b, o + i * 2, none⟩ = some (.int .i64 z) := fun i hi => by
      obtain ⟨z, h1, _⟩ := hcell i 0 .i64 hi rfl
      exact ⟨z, h1⟩
    have g1 : ∀ i, i < len → ∃ z, W.cell? ⟨b, o + i * 2 + 1, none⟩ = some (.int .i64 z) := fun i hi => by
      obtain ⟨z, h1, _⟩ := hcell i 1 .i64 hi rfl
      exact ⟨z, h1⟩
    refine ⟨_, len, cap, fun i => if h : i < len then (g0 i h).choose else 0, fun i => if h : i < len then (g1 i h).choose else 0, rfl, hl, fun _ => ⟨b, o, rfl, hb, fun i hi => ?_⟩⟩
    dsimp only
    rw [dif_pos hi, dif_pos hi]
    exact ⟨(g0 i hi).choose_spec, (g1 i hi).choose_spec⟩
  · exact ⟨A, len, cap, fun _ => 0, fun _ => 0, rfl, hl, fun h => absurd h hn⟩
end
theorem wd_of {W : World} {A : Option Addr} {n : Nat} {xs : List Int} (h : Ints W .u32 A n xs) (hw : ∀ x ∈ xs, (Lit.int .u32 x).wf = true) : Sn.Wd W A n (fun j => (xs.getD j 0).toNat) := fun h0 => by
  obtain ⟨b, o, e, hl, hc⟩ := h.2 h0
  refine ⟨b, o, e, hl, fun i hi => ?_⟩
  rw [hc i hi]
  have hj : i < xs.length := by rw [h.1]; exact hi
  have hb := bounds_u32 (hw (xs.getD i 0) (by rw [List.getD_eq_getElem?_getD, List.getElem?_eq_getElem hj]; exact List.getElem_mem _))
  show _ = some (Value.int .u32 (((xs.getD i 0).toNat : Nat) : Int))
  rw [Int.toNat_of_nonneg hb.1]
end Go.Proofs.Ytflapbnbeipddaa
