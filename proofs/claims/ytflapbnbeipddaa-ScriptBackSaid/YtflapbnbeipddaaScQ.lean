/- A slice of ops, as an argument. No condition. -/
import Derived.Test.YtflapbnbeipddaaRow
import Derived.Test.YtflapbnbeipddaaScE
import Derived.Deep.Slices
import Derived.Deep.Matrix
import Derived.Deep.Strs
import Derived.Lib.SmallJoins
namespace Go.Proofs.Ytflapbnbeipddaa
open Go.ChangeShapes Go.WideShapes Go.ChangeAt Go.RowKit Go.Deep Go.Joins
theorem at_of_take {cs : List Value} {c k : Nat} {v : Value} (h : (cs.drop c).take k = [v]) : cs[c]? = some v := by
  have h1 : ((cs.drop c).take k)[0]? = some v := by rw [h]; rfl
  have hk : 0 < k := by
    rcases Nat.eq_zero_or_pos k with e | e
    · subst e
      simp at h
    · exact e
  rw [List.getElem?_take, if_pos hk, List.getElem?_drop, Nat.add_zero] at h1
  exact h1
section
variable {H : Type} {P : Program} {enc : TypeId × Value → H} {w : World} {base : Nat} {spare : Nat → Bool} {held : Bool} {fuel : Nat} {t : TypeId} {fs : Array Field} {cs : List Value} {x : DataW H × List MemPlace}
theorem fld_int (ht : P.underlying t = some (.struct fs)) (h : DataW.trod enc P w base spare held fuel t cs = some x) (i : Nat) (f : Field) (hi : fs[i]? = some f) {k : IntKind} (hu : P.underlying f.type = some (.int k)) : ∃ z, cs[f.offset]? = some (.int k z) ∧ (Lit.int k z).wf = true := by
  obtain ⟨xs, n, _, _, hl, hlen, hf⟩ := DataW.trod_struct ht h
  have hlt : i < xs.length := by rw [hlen]; exact (Array.getElem?_eq_some_iff.1 hi).1
  have hg := hf i f hi
  rw [List.getElem?_eq_getElem hlt] at hg
  obtain ⟨z, hz, _, hw⟩ := DataW.trod_int hu hg
  exact ⟨z, at_of_take hz, hw⟩
theorem fld_str (ht : P.underlying t = some (.struct fs)) (h : DataW.trod enc P w base spare held fuel t cs = some x) (i : Nat) (f : Field) (hi : fs[i]? = some f) (hu : P.underlying f.type = some .string) : ∃ l : Sc.Bs, cs[f.offset]? = some (.string (Sc.S l)) ∧ l.length ≤ maxLen := by
  obtain ⟨xs, n, _, _, hl, hlen, hf⟩ := DataW.trod_struct ht h
  have hlt : i < xs.length := by rw [hlen]; exact (Array.getElem?_eq_some_iff.1 hi).1
  have hg := hf i f hi
  rw [List.getElem?_eq_getElem hlt] at hg
  obtain ⟨s, hz, _, hs⟩ := DataW.trod_string hu hg
  refine ⟨s.data.toList, at_of_take hz, ?_⟩
  rw [← Sc.S_size]
  exact hs
end
set_option maxRecDepth 100000 in
theorem open_op {H : Type} {enc : TypeId × Value → H} {w : World} {base : Nat} {spare : Nat → Bool} {held : Bool} {fuel : Nat} {cs : List Value} {x : DataW H × List MemPlace} (h : DataW.trod enc Try.prog w base spare held fuel 34 cs = some x) :
    ∃ o : Sc.Op, (∀ (c : Nat) (v : Value), (Sc.ops o)[c]? = some v → cs[c]? = some v) ∧ Sc.wd o ∧ ∀ j, j < 4 → (Sc.txt o j).length ≤ maxLen := by
  obtain ⟨k, hk, wk⟩ := fld_int Try.underlying34 h 0 _ rfl Try.underlying3
  obtain ⟨p, hp, wp⟩ := fld_int Try.underlying34 h 1 _ rfl Try.underlying3
  obtain ⟨c, hc, wc⟩ := fld_int Try.underlying34 h 2 _ rfl Try.underlying3
  obtain ⟨l, hl, wl⟩ := fld_int Try.underlying34 h 3 _ rfl Try.underlying3
  obtain ⟨s, hs, ws⟩ := fld_str Try.underlying34 h 4 _ rfl Try.underlying9
  obtain ⟨o, ho, wo⟩ := fld_int Try.underlying34 h 5 _ rfl Try.underlying3
  obtain ⟨sa, hsa, wsa⟩ := fld_str Try.underlying34 h 6 _ rfl Try.underlying9
  obtain ⟨it, hit, wit⟩ := fld_int Try.underlying34 h 7 _ rfl Try.underlying3
  obtain ⟨r, hr, wr⟩ := fld_str Try.underlying34 h 8 _ rfl Try.underlying9
  obtain ⟨ot, hot, wot⟩ := fld_str Try.underlying34 h 9 _ rfl Try.underlying9
  obtain ⟨on, hon, won⟩ := fld_int Try.underlying34 h 10 _ rfl Try.underlying3
  refine ⟨⟨k, p, c, l, s, o, sa, it, r, ot, on⟩, fun q v hq => ?_, Sc.seven ?_ ?_ ?_ ?_ ?_ ?_ ?_, Sc.four ws wsa wr wot⟩
  · match q with
    | 0 => exact hk.trans hq
    | 1 => exact hp.trans hq
    | 2 => exact hc.trans hq
    | 3 => exact hl.trans hq
    | 4 => exact hs.trans hq
    | 5 => exact ho.trans hq
    | 6 => exact hsa.trans hq
    | 7 => exact hit.trans hq
    | 8 => exact hr.trans hq
    | 9 => exact hot.trans hq
    | 10 => exact hon.trans hq
    | q + 11 => exact absurd (Array.getElem?_eq_some_iff.1 hq).1 (by show ¬ q + 11 < 11; omega)
  · have := bounds_i64 wk; simp only [Sc.num]; omega
  · have := bounds_i64 wp; simp only [Sc.num]; omega
  · have := bounds_i64 wc; simp only [Sc.num]; omega
  · have := bounds_i64 wo; simp only [Sc.num]; omega
  · have := bounds_i64 wl; simp only [Sc.num]; omega
  · have := bounds_i64 wit; simp only [Sc.num]; omega
  · have := bounds_i64 won; simp only [Sc.num]; omega
set_option maxRecDepth 100000 in
theorem open_ops {H : Type} {enc : TypeId × Value → H} {W : World} {v : Value} {d : DataW H} {p : List MemPlace} {base : Nat}
    (hv : Value.okWide Try.prog W .any base 31 v) (h : DataW.Trod enc Try.prog W 0 (fun _ => true) true 31 v d p) :
    ∃ A len cap f, v = .slice A len cap ∧ Sc.Opz W A len f ∧ len ≤ maxLen ∧ (∀ i, i < len → Sc.wd (f i)) ∧ (∀ i, i < len → ∀ j, j < 4 → (Sc.txt (f i) j).length ≤ 9223372036854775807) := by
  have ht := Try.underlying31
  have hcz : Try.prog.cellsOf 34 = 11 := by kernel_rfl
  obtain ⟨a0, len, cap, rfl⟩ := okWide_slice ht hv
  obtain ⟨fuel, hfu⟩ := h
  rcases open_slice ht hfu with ⟨hcs, _⟩ | ⟨a, len', cap', m, n, D, Pl, hcs, hb, hl, hm, hmm, _, hx⟩
  · simp [Value.cells] at hcs
    obtain ⟨rfl, rfl, rfl⟩ := hcs
    exact ⟨none, 0, 0, fun _ => ⟨0, 0, 0, 0, [], 0, [], 0, [], [], 0⟩, rfl, fun h => absurd h (Nat.lt_irrefl 0), Nat.zero_le _, fun i h => absurd h (Nat.not_lt_zero i), fun i h => absurd h (Nat.not_lt_zero i)⟩
  · simp [Value.cells] at hcs
    obtain ⟨rfl, rfl, rfl⟩ := hcs
    simp only [if_true] at hmm
    rw [hmm] at hx
    have each : ∀ i, ∃ o : Sc.Op, i < len → (∀ (c : Nat) (u : Value), (Sc.ops o)[c]? = some u → W.cell? ((a.add (i * 11)).add c) = some u) ∧ Sc.wd o ∧ ∀ j, j < 4 → (Sc.txt o j).length ≤ maxLen := by
      intro i
      by_cases hi : i < len
      · obtain ⟨cs, h1, h2⟩ := hx i (by omega)
        rw [hcz] at h1
        obtain ⟨_, _, hcell⟩ := World.cells?_some h1
        obtain ⟨o, ho, hw, hxl⟩ := open_op h2
        refine ⟨o, fun _ => ⟨fun c u hu => ?_, hw, hxl⟩⟩
        have hc : c < 11 := (Array.getElem?_eq_some_iff.1 hu).1
        exact (hcell c hc).trans (ho c u hu)
      · exact ⟨⟨0, 0, 0, 0, [], 0, [], 0, [], [], 0⟩, fun h => absurd h hi⟩
    obtain ⟨f, hf⟩ := Classical.axiomOfChoice each
    refine ⟨some a, len, cap, f, rfl, fun hn => ?_, by omega, fun i hi => (hf i hi).2.1, fun i hi j hj => by have := (hf i hi).2.2 j hj; simp only [maxLen] at this; omega⟩
    obtain ⟨b, off, spot⟩ := a
    have hz0 := (hf 0 hn).1 0 _ rfl
    have hspot : spot = none := by simpa [Addr.add] using World.cell?_spot hz0
    subst hspot
    refine ⟨b, off, rfl, ?_, fun i hi c u hu => ?_⟩
    · have := World.block_lt_of_cell? W _ hz0
      simpa [Addr.add] using this
    · have h3 := (hf i hi).1 c u hu
      rw [Go.WideShapes.add_plain, Go.WideShapes.add_plain] at h3
      exact h3
end Go.Proofs.Ytflapbnbeipddaa
