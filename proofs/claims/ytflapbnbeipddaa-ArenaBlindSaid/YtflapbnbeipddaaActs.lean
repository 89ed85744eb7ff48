/- A slice of acts as an argument. No condition. -/
import Derived.Test.YtflapbnbeipddaaRow
import Derived.Test.YtflapbnbeipddaaArF
import Derived.Deep.Slices
namespace Go.Proofs.Ytflapbnbeipddaa
open Go.ChangeShapes Go.WideShapes Go.ChangeAt Go.RowKit Go.Deep
def numAt (w : World) (a : Addr) : Int := match w.cell? a with | some (.int _ z) => z | _ => 0
def rowAt (w : World) (a : Addr) : Option Addr × Nat × Nat := match w.cell? a with | some (.slice A m c) => (A, m, c) | _ => (none, 0, 0)
theorem numAt_eq {w : World} {a : Addr} {k : IntKind} {z : Int} (h : w.cell? a = some (.int k z)) : numAt w a = z := by unfold numAt; rw [h]
theorem rowAt_eq {w : World} {a : Addr} {A : Option Addr} {m c : Nat} (h : w.cell? a = some (.slice A m c)) : rowAt w a = (A, m, c) := by unfold rowAt; rw [h]
theorem act_cells {H : Type} {enc : TypeId × Value → H} {P : Program} {w : World} {base n : Nat} {held : Bool} {e : TypeId} {f0 f1 f2 f3 f4 : Field} {q : TypeId} {cs : List Value} {x : DataW H × List MemPlace}
    (he : P.underlying e = some (.struct #[f0, f1, f2, f3, f4])) (o0 : f0.offset = 0) (o1 : f1.offset = 1) (o2 : f2.offset = 2) (o3 : f3.offset = 3) (o4 : f4.offset = 4)
    (k0 : P.cellsOf f0.type = 1) (k1 : P.cellsOf f1.type = 1) (k2 : P.cellsOf f2.type = 1) (k3 : P.cellsOf f3.type = 1) (k4 : P.cellsOf f4.type = 1)
    (u0 : P.underlying f0.type = some (.int .u8)) (u1 : P.underlying f1.type = some (.int .i64)) (u2 : P.underlying f2.type = some (.int .i64)) (u3 : P.underlying f3.type = some (.int .u32)) (u4 : P.underlying f4.type = some (.slice q)) (uq : P.underlying q = some (.int .u32)) (kq : P.cellsOf q = 1)
    (h : DataW.trod enc P w base (fun _ => true) held n e cs = some x) (hl5 : cs.length = 5) :
    ∃ K At N V A m c, cs = [.int .u8 K, .int .i64 At, .int .i64 N, .int .u32 V, .slice A m c] ∧ (Lit.int .u8 K).wf = true ∧ (Lit.int .i64 At).wf = true ∧ (Lit.int .i64 N).wf = true ∧ (Lit.int .u32 V).wf = true ∧ m ≤ maxLen ∧
      (0 < m → ∃ b o, A = some ⟨b, o, none⟩ ∧ b < w.heap.size ∧ ∀ j, j < m → ∃ z, w.cell? ⟨b, o + j, none⟩ = some (.int .u32 z) ∧ (Lit.int .u32 z).wf = true) := by
  obtain ⟨xs, n', _, _, _, hlen, hf⟩ := DataW.trod_struct he h
  match xs, hlen, cs, hl5 with
  | [y0, y1, y2, y3, y4], _, [v0, v1, v2, v3, v4], _ =>
    have g0 := hf 0 f0 rfl
    have g1 := hf 1 f1 rfl
    have g2 := hf 2 f2 rfl
    have g3 := hf 3 f3 rfl
    have g4 := hf 4 f4 rfl
    simp [o0, o1, o2, o3, o4, k0, k1, k2, k3, k4] at g0 g1 g2 g3 g4
    obtain ⟨K, e0, _, w0⟩ := DataW.trod_int u0 g0
    obtain ⟨At, e1, _, w1⟩ := DataW.trod_int u1 g1
    obtain ⟨N, e2, _, w2⟩ := DataW.trod_int u2 g2
    obtain ⟨V, e3, _, w3⟩ := DataW.trod_int u3 g3
    simp only [List.cons.injEq, and_true] at e0 e1 e2 e3
    subst e0 e1 e2 e3
    rcases open_ints u4 uq kq g4 with ⟨hcs, _⟩ | ⟨a, len', cap', zs, hcs, _, hl, hm, hz, _, hcell, hwz⟩
    · simp only [List.cons.injEq, and_true] at hcs
      subst hcs
      exact ⟨K, At, N, V, none, 0, 0, rfl, w0, w1, w2, w3, Nat.zero_le _, fun h => absurd h (Nat.lt_irrefl 0)⟩
    · simp only [List.cons.injEq, and_true] at hcs
      subst hcs
      simp only [if_true] at hz
      refine ⟨K, At, N, V, some a, len', cap', rfl, w0, w1, w2, w3, by omega, fun h0 => ?_⟩
      obtain ⟨b, off, rfl, hcc⟩ := ints_at hcell (by omega)
      refine ⟨b, off, rfl, World.block_lt_of_cell? w ⟨b, off + 0, none⟩ (hcc 0 (by omega)), fun j hj => ⟨_, hcc j (by omega), ?_⟩⟩
      rw [List.getD_eq_getElem?_getD, List.getElem?_eq_getElem (by omega)]
      exact hwz _ (List.getElem_mem _)
theorem open_acts {H : Type} {enc : TypeId × Value → H} {P : Program} {W : World} {t e : TypeId} {f0 f1 f2 f3 f4 : Field} {q : TypeId} {v : Value} {d : DataW H} {p : List MemPlace} {base : Nat} (ht : P.underlying t = some (.slice e)) (hc : P.cellsOf e = 5)
    (he : P.underlying e = some (.struct #[f0, f1, f2, f3, f4])) (o0 : f0.offset = 0) (o1 : f1.offset = 1) (o2 : f2.offset = 2) (o3 : f3.offset = 3) (o4 : f4.offset = 4)
    (k0 : P.cellsOf f0.type = 1) (k1 : P.cellsOf f1.type = 1) (k2 : P.cellsOf f2.type = 1) (k3 : P.cellsOf f3.type = 1) (k4 : P.cellsOf f4.type = 1)
    (u0 : P.underlying f0.type = some (.int .u8)) (u1 : P.underlying f1.type = some (.int .i64)) (u2 : P.underlying f2.type = some (.int .i64)) (u3 : P.underlying f3.type = some (.int .u32)) (u4 : P.underlying f4.type = some (.slice q)) (uq : P.underlying q = some (.int .u32)) (kq : P.cellsOf q = 1)
    (hv : Value.okWide P W .any base t v) (h : DataW.Trod enc P W 0 (fun _ => true) true t v d p) :
    ∃ A len cap K At N V Ai mi ci f B off, v = .slice A len cap ∧ Acts W A len K At N V Ai mi ci f B off ∧ len ≤ maxLen ∧
      ∀ i, i < len → mi i ≤ maxLen ∧ (0 ≤ K i ∧ K i ≤ 255) ∧ (-9223372036854775808 ≤ At i ∧ At i ≤ 9223372036854775807) ∧ (-9223372036854775808 ≤ N i ∧ N i ≤ 9223372036854775807) ∧ (0 ≤ V i ∧ V i ≤ 4294967295) ∧ ∀ c, c < mi i → 0 ≤ f i c ∧ f i c ≤ 4294967295 := by
  obtain ⟨a0, len, cap, rfl⟩ := okWide_slice ht hv
  obtain ⟨fuel, hfu⟩ := h
  rcases open_slice ht hfu with ⟨hcs, _⟩ | ⟨a, len', cap', m, n, D, Pl, hcs, hb, hl, hm, hmm, _, hx⟩
  · simp [Value.cells] at hcs
    obtain ⟨rfl, rfl, rfl⟩ := hcs
    exact ⟨none, 0, 0, fun _ => 0, fun _ => 0, fun _ => 0, fun _ => 0, fun _ => none, fun _ => 0, fun _ => 0, fun _ _ => 0, 0, 0, rfl, ⟨fun h => absurd h (Nat.lt_irrefl 0), fun i h => absurd h (Nat.not_lt_zero i), fun i h => absurd h (Nat.not_lt_zero i), fun i h => absurd h (Nat.not_lt_zero i), fun i h => absurd h (Nat.not_lt_zero i), fun i h => absurd h (Nat.not_lt_zero i), fun i h => absurd h (Nat.not_lt_zero i)⟩, by decide, fun i h => absurd h (Nat.not_lt_zero i)⟩
  · simp [Value.cells] at hcs
    obtain ⟨rfl, rfl, rfl⟩ := hcs
    simp only [if_true] at hmm
    rw [hmm] at hx
    obtain ⟨b, off, spot⟩ := a
    have each : ∀ i, i < len → ∃ K At N V A m c, (∀ j v, [Value.int .u8 K, .int .i64 At, .int .i64 N, .int .u32 V, .slice A m c][j]? = some v → W.cell? (((⟨b, off, spot⟩ : Addr).add (i * 5)).add j) = some v) ∧ (Lit.int .u8 K).wf = true ∧ (Lit.int .i64 At).wf = true ∧ (Lit.int .i64 N).wf = true ∧ (Lit.int .u32 V).wf = true ∧ m ≤ maxLen ∧
        (0 < m → ∃ b o, A = some ⟨b, o, none⟩ ∧ b < W.heap.size ∧ ∀ j, j < m → ∃ z, W.cell? ⟨b, o + j, none⟩ = some (.int .u32 z) ∧ (Lit.int .u32 z).wf = true) := by
      intro i hi
      obtain ⟨cs, h1, h2⟩ := hx i (by omega)
      rw [hc] at h1
      obtain ⟨_, hl5, hcell⟩ := World.cells?_some h1
      obtain ⟨K, At, N, V, A, m', c, rfl, r⟩ := act_cells he o0 o1 o2 o3 o4 k0 k1 k2 k3 k4 u0 u1 u2 u3 u4 uq kq h2 hl5
      refine ⟨K, At, N, V, A, m', c, fun j v hj => ?_, r⟩
      have hj5 : j < 5 := by have := (List.getElem?_eq_some_iff.1 hj).1; simpa using this
      rw [hcell j hj5]
      exact hj
    by_cases hn : 0 < len
    · have hspot : spot = none := by
        obtain ⟨K, At, N, V, A, m', c, hj, _⟩ := each 0 hn
        simpa [Addr.add] using World.cell?_spot (hj 0 _ rfl)
      subst hspot
      simp only [Go.WideShapes.add_plain] at each
      have hB : b < W.heap.size := by
        obtain ⟨K, At, N, V, A, m', c, hj, _⟩ := each 0 hn
        exact World.block_lt_of_cell? W _ (hj 0 _ rfl)
      refine ⟨some ⟨b, off, none⟩, len, cap, fun i => numAt W ⟨b, off + i * 5, none⟩, fun i => numAt W ⟨b, off + i * 5 + 1, none⟩, fun i => numAt W ⟨b, off + i * 5 + 2, none⟩, fun i => numAt W ⟨b, off + i * 5 + 3, none⟩, fun i => (rowAt W ⟨b, off + i * 5 + 4, none⟩).1, fun i => (rowAt W ⟨b, off + i * 5 + 4, none⟩).2.1, fun i => (rowAt W ⟨b, off + i * 5 + 4, none⟩).2.2,
        fun i c => match (rowAt W ⟨b, off + i * 5 + 4, none⟩).1 with | some ⟨b', o', _⟩ => numAt W ⟨b', o' + c, none⟩ | none => 0, b, off, rfl, ⟨fun _ => ⟨rfl, hB⟩, fun i hi => ?_, fun i hi => ?_, fun i hi => ?_, fun i hi => ?_, fun i hi => ?_, fun i hi hm' => ?_⟩, by omega, fun i hi => ?_⟩
      all_goals
        obtain ⟨K, At, N, V, A, m', c, hj, w0, w1, w2, w3, hml, hrow⟩ := each i hi
        have c0 := hj 0 _ rfl
        have c1 := hj 1 _ rfl
        have c2 := hj 2 _ rfl
        have c3 := hj 3 _ rfl
        have c4 := hj 4 _ rfl
        rw [Nat.add_zero] at c0
      · rw [numAt_eq c0]; exact c0
      · rw [numAt_eq c1]; exact c1
      · rw [numAt_eq c2]; exact c2
      · rw [numAt_eq c3]; exact c3
      · rw [rowAt_eq c4]; exact c4
      · rw [rowAt_eq c4] at hm'
        obtain ⟨b', o', rfl, hb', hz⟩ := hrow hm'
        refine ⟨b', o', by rw [rowAt_eq c4], hb', fun j hj' => ?_⟩
        rw [rowAt_eq c4] at hj' ⊢
        obtain ⟨z, hz1, _⟩ := hz j hj'
        dsimp only
        rw [numAt_eq hz1]
        exact hz1
      · dsimp only
        rw [numAt_eq c0, numAt_eq c1, numAt_eq c2, numAt_eq c3, rowAt_eq c4]
        refine ⟨hml, bounds_u8 w0, bounds_i64 w1, bounds_i64 w2, bounds_u32 w3, fun j hj' => ?_⟩
        dsimp only at hj'
        obtain ⟨b', o', rfl, hb', hz⟩ := hrow (by omega)
        obtain ⟨z, hz1, hz2⟩ := hz j hj'
        dsimp only
        rw [numAt_eq hz1]
        exact bounds_u32 hz2
    · exact ⟨some ⟨b, off, spot⟩, len, cap, fun _ => 0, fun _ => 0, fun _ => 0, fun _ => 0, fun _ => none, fun _ => 0, fun _ => 0, fun _ _ => 0, 0, 0, rfl, ⟨fun h => absurd h hn, fun i h => absurd h (by omega), fun i h => absurd h (by omega), fun i h => absurd h (by omega), fun i h => absurd h (by omega), fun i h => absurd h (by omega), fun i h => absurd h (by omega)⟩, by omega, fun i h => absurd h (by omega)⟩
end Go.Proofs.Ytflapbnbeipddaa
