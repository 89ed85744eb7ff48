/- A slice that is full, of a greater block, and one element behind it. No condition. -/
import Derived.Test.YtjoehhojhfgooaaKit
import Derived.Test.YtjoehhojhfgooaaWords
import Derived.Deep.AppendSrc
import Derived.Deep.Upon
namespace Go.Proofs.Ytjoehhojhfgooaa
open Go.RowKit
theorem run_append_full {P : Program} (w : World) (t ty e : TypeId) (i : TypeInfo) (z : Value) (bytes : Nat) (ht : P.underlying t = some (.slice e)) (hi : P.info? e = some i) (hz : i.zero = some z) (hsize : i.size = 1) (hby : i.bytes = bytes)
    (b o len : Nat) (olds : List Value) (hol : olds.length = len) (hold : ∀ j, j < len → w.cell? ⟨b, o + j, none⟩ = olds[j]?) (ad : Addr) (c : Nat) (u : Value) (hu : w.cell? ad = some u) (h1 : u.oneCell' = true) (hlen : (len + 1) * bytes ≤ 140737488355328) (h63 : len + 1 ≤ maxLen) :
    ∃ cap w', (Builtin.append_ #[t, t] ty #[.slice (some ⟨b, o, none⟩) len len, .slice (some ad) 1 c]).run P w = .ok (.slice (some ⟨w.heap.size, 0, none⟩) (len + 1) cap) w' ∧ Below w.heap.size w w' ∧ w.heap.size < w'.heap.size ∧ ∀ j, j < len + 1 → w'.cell? ⟨w.heap.size, j, none⟩ = (olds ++ [u])[j]? := by
  subst hby
  have h63' : ((len + 1 : Nat) : Int) ≤ 9223372036854775807 := by simp only [maxLen] at h63; omega
  have hs : Src P i.size t (.slice (some ad) 1 c) 1 [u] w := by
    rw [hsize]
    refine Src.ofSlice _ ht ad 1 c [u] rfl (fun j v hv => ?_) (fun v hv => by simp at hv; subst hv; exact h1)
    have hj : j = 0 := by
      have := (List.getElem?_eq_some_iff.1 hv).1
      simpa using this
    subst hj
    have : u = v := by simpa using hv
    subst this
    have e0 : ad.add 0 = ad := by
      unfold Addr.add
      split <;> simp_all
    rw [e0]
    exact hu
  have hf : (Builtin.firstCells i.size len (.slice (some ⟨b, o, none⟩) len len)).run P w.drew = .ok olds.toArray w.drew := by
    rw [hsize]
    refine run_firstCells_some w.drew 1 len ⟨b, o, none⟩ len len olds (by omega) (fun j v hv => ?_)
    have hj : j < len := by
      have := (List.getElem?_eq_some_iff.1 hv).1
      omega
    rw [Addr.add_mid]
    exact (hold j hj).trans hv
  have hr := run_append_grow_src (P := P) w t t ty e i z ht hi hz (some ⟨b, o, none⟩) len len olds hf (.slice (some ad) 1 c) 1 [u] hs (by omega) h63' (growslice_fits (by omega) hlen)
  refine ⟨_, _, hr, (bl_drew (Below.refl _ _)).alloc (Nat.le_refl _) _, by simp, fun j hj => ?_⟩
  have hc := (Blk.new w.drew e ((olds ++ [u]).toArray ++ Builtin.zeroCells z.cells (grownCap w (len + 1) len e - (len + 1)))).cell j
  refine hc.trans ?_
  rw [Array.getElem?_append_left (by simp [hol]; omega)]
  simp
theorem wpList_append_full {P : Program} {w : World} {ops : Array Oper} {rest : List Oper} {op : Oper} {a : Act} {Q : Exit → Act → World → Prop} (hgd : op.guard = none) (s x : Operand) (t : TypeId)
    (ho : op.op = .call { callee := .builtin .append, args := #[s, x], argTypes := #[t, t] }) (e : TypeId) (i : TypeInfo) (z : Value) (bytes : Nat) (ht : P.underlying t = some (.slice e)) (hi : P.info? e = some i) (hz : i.zero = some z) (hsize : i.size = 1) (hby : i.bytes = bytes)
    (b o len : Nat) (hs : a.eval s = .slice (some ⟨b, o, none⟩) len len) (olds : List Value) (hol : olds.length = len) (hold : ∀ j, j < len → w.cell? ⟨b, o + j, none⟩ = olds[j]?) (ad : Addr) (c : Nat) (hx : a.eval x = .slice (some ad) 1 c) (u : Value) (hu : w.cell? ad = some u) (h1 : u.oneCell' = true)
    (hlen : (len + 1) * bytes ≤ 140737488355328) (h63 : len + 1 ≤ maxLen) (H : Nat) (hH : w.heap.size = H)
    (h : ∀ cap w', Below w.heap.size w w' → H < w'.heap.size → (∀ j, j < len + 1 → w'.cell? ⟨H, j, none⟩ = (olds ++ [u])[j]?) → wpList P ops Q rest (a.put op.dst (.slice (some ⟨H, 0, none⟩) (len + 1) cap)) w') : wpList P ops Q (op :: rest) a w := by
  subst hH
  refine wpList_plain hgd fun K hK => ?_
  obtain ⟨cap, w', hr, hb, hl, hc⟩ := run_append_full w t op.type e i z bytes ht hi hz hsize hby b o len olds hol hold ad c u hu h1 hlen h63
  unfold Oper.wp
  simp [execOp, ho, resolve, invoke, builtin, hs, hx, hr, Result.andThen]
  exact hK _ _ (h cap w' hb hl hc)
end Go.Proofs.Ytjoehhojhfgooaa
