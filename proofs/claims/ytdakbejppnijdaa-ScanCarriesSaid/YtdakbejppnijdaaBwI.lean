/- slices.Backward: the iterator goes over the bytes from the last one on. No condition. -/
import Derived.RangeFuncNested
import Derived.RangeFuncBound
import Derived.RangeFuncCalls
import Derived.RangeFuncLeaves
import Derived.Shelf.Abstract
import Derived.Shelf.RegionOpen
import Derived.WalkKit
import Derived.OwnWalkIn
import Derived.TacticsInMore
import Derived.LoopNIn
import Derived.LoopIn
import Derived.Maps.AppendAt
import Derived.Test.YtdakbejppnijdaaSjB
namespace Go.Proofs.Ytdakbejppnijdaa
open Go.RowKit Go.Shelf
set_option linter.unusedSimpArgs false
set_option linter.unusedVariables false
attribute [local go_sem] Oper.semAt_some
namespace Bw
/-- The numbers and bytes in their order. -/
def bks (f : Nat → Nat) : Nat → List (Nat × Nat)
  | 0 => []
  | k + 1 => (k, f k) :: bks f k
theorem bks_len (f : Nat → Nat) : ∀ k, (bks f k).length = k
  | 0 => rfl
  | k + 1 => by show (bks f k).length + 1 = k + 1; rw [bks_len f k]
def encs (q : Nat × Nat) : Array Value := #[.int .i64 (q.1 : Int), .int .u8 ((q.2 % 256 : Nat) : Int)]
end Bw
/-- What the iterator reads lies as it lay. -/
def Kc (Bn b : Nat) (A B : World) : Prop := B.cell? ⟨Bn, 0, none⟩ = A.cell? ⟨Bn, 0, none⟩ ∧ ∀ o, B.cell? ⟨b, o, none⟩ = A.cell? ⟨b, o, none⟩
theorem Kc.trans {Bn b : Nat} {A B C : World} (h : Kc Bn b A B) (k : Kc Bn b B C) : Kc Bn b A C := ⟨k.1.trans h.1, fun o => (k.2 o).trans (h.2 o)⟩
theorem Kc.refl (Bn b : Nat) (A : World) : Kc Bn b A A := ⟨rfl, fun _ => rfl⟩
theorem bwMake_any (A : Option Addr) (m c : Nat) (w : World) : Calls Try.prog 109 #[.slice A m c] w fun e w' => e = .returned (.func (.func 122) #[] #[.pointer (some ⟨w.heap.size, 0, none⟩)]) ∧ w' = w.alloc (.cells #[.slice A m c] 47) := by
  go_enter Try.func109, Try.ntmps109
  go_wp2_with fail
  go_ret
  exact ⟨rfl, rfl⟩
set_option maxRecDepth 100000 in
set_option maxHeartbeats 2000000 in
theorem bw1_in (n : Nat) (hn : 1 ≤ n) (l Bn b o m c : Nat) (A : Option Addr) (f : Nat → Nat) (hf : ∀ i, f i < 256) (hm : m ≤ 1000000) (J Jx : List (Nat × Nat) → World → Prop)
    (hY : ∀ pre x W, J pre W → pre.length < (Bw.bks f m).length → YieldAt Fence.wide (n - 1) Try.prog l (Bw.encs x) W fun e W' =>
      (e = .returned (.bool true) ∧ J (pre ++ [x]) W' ∧ Kc Bn b W W') ∨ (e = .returned (.bool false) ∧ Jx (pre ++ [x]) W'))
    (W : World) (hc : W.cell? ⟨Bn, 0, none⟩ = some (.slice A m c)) (hcells : ∀ i, i < m → A = some ⟨b, o, none⟩ ∧ W.cell? ⟨b, o + i, none⟩ = some (.int .u8 (f i : Nat))) (h0 : J [] W) :
    CallsIn Fence.wide n Try.prog 122 #[.func (.yield l) #[] #[], .pointer (some ⟨Bn, 0, none⟩)] W fun e W' => (∃ v, e = .returned v) ∧
      ((∃ ys, ys = Bw.bks f m ∧ J ys W') ∨ (∃ pre, True ∧ Jx pre W')) := by
  refine callsIn_of_wp Try.func122 rfl trivial ?_ rfl
  simp only [Try.ntmps122, List.size_toArray, List.length_cons, List.length_nil, Nat.reduceAdd, Nat.reduceSub, Array.replicate_succ, Array.replicate_zero, List.push_toArray, List.append_toArray, List.nil_append, List.cons_append]
  have HC := Lib.hid hcells
  have HY := Lib.hid hY
  clear hcells hY
  gi_wp2
  gi_loopw [3] (fun i wr => ∃ (k : Nat) (pre : List (Nat × Nat)), k ≤ m ∧ i = .int .i64 ((k : Int) - 1) ∧ J pre wr ∧ Bw.bks f m = pre ++ Bw.bks f k ∧ Kc Bn b W wr) (fun i _ => (intOf i + 1).toNat)
  case atStart => exact ⟨m, [], Nat.le_refl m, rfl, h0, rfl, Kc.refl _ _ _⟩
  case round =>
    rename World => wr
    obtain ⟨k, pre, hk, rfl, hJ, happ, hKc⟩ := hrel
    have HAPP := Lib.hid happ
    have hcb := hKc.1.trans hc
    cases k with
    | zero =>
      have hd : decide ((0 : Int) ≤ ((0 : Nat) : Int) - 1) = false := by decide
      clear happ hKc
      gi_wp2
      go_end0
      exact ⟨⟨_, rfl⟩, .inl ⟨_, by rw [HAPP.out]; exact (List.append_nil pre).symm, hJ⟩⟩
    | succ k =>
      have hi : ((k + 1 : Nat) : Int) - 1 = (k : Int) := by omega
      rw [hi]
      have hx := (hKc.2 (o + k)).trans (HC.out k (by omega)).2
      rw [(HC.out k (by omega)).1] at hcb
      obtain ⟨fn, tmps, assign, body, hy, hRd⟩ := HY.out pre (k, f k) wr hJ (by
        rw [HAPP.out, List.length_append]
        show pre.length < pre.length + ((Bw.bks f k).length + 1)
        omega)
      simp only [Bw.encs, Nat.mod_eq_of_lt (hf k)] at hy
      have HK := Lib.hid hKc
      clear happ hKc
      gi_wp2
      refine hRd.mono ?_
      rintro e W3 (⟨rfl, hJ3, hk3⟩ | ⟨rfl, hJx3⟩)
      · gi_wp2
        refine ⟨⟨k, pre ++ [(k, f k)], by omega, congrArg (Value.int .i64) (by omega), hJ3, by rw [HAPP.out, List.append_assoc]; rfl, HK.out.trans hk3⟩, by simp [intOf]⟩
      · gi_wp2
        refine bodyPost_ret (results_none rfl _ _ _) rfl ?_
        exact ⟨⟨_, rfl⟩, .inr ⟨_, trivial, hJx3⟩⟩
theorem bw_stops (n : Nat) (hn : 1 ≤ n) (Bn b o m c : Nat) (A : Option Addr) (f : Nat → Nat) (hf : ∀ i, f i < 256) (hm : m ≤ 1000000) (w : World) (hB : Bn < w.heap.size) (hb : b < w.heap.size) (hc : w.cell? ⟨Bn, 0, none⟩ = some (.slice A m c)) (hcells : ∀ i, i < m → A = some ⟨b, o, none⟩ ∧ w.cell? ⟨b, o + i, none⟩ = some (.int .u8 (f i : Nat))) :
    SeqStopsK Fence.wide n Try.prog 122 #[.pointer (some ⟨Bn, 0, none⟩)] Bw.encs (Kc Bn b) (fun ys => ys = Bw.bks f m) (fun _ => True) (Bw.bks f m).length w := fun l J Jx W hW _ _ hY h0 =>
  bw1_in n hn l Bn b o m c A f hf hm J Jx hY W ((hW.cell (p := ⟨Bn, 0, none⟩) hB).trans hc) (fun i hi => ⟨(hcells i hi).1, (hW.cell (p := ⟨b, o + i, none⟩) hb).trans (hcells i hi).2⟩) h0
theorem kc_put {Bn b : Nat} {w : World} (hB : Bn < w.heap.size) (hb : b < w.heap.size) (W : World) (l : Nat) (o o' : Obj) (hl : w.heap.size ≤ l) (h : W.heap[l]? = some o) (h1 : o.isCells = false) (h2 : o.isWalk = false) : Kc Bn b W (W.putObj l o') :=
  ⟨(belowK_b (w := w) (Nat.le_refl _) W l o o' hl h h1 h2).cell (p := ⟨Bn, 0, none⟩) hB, fun i => (belowK_b (w := w) (Nat.le_refl _) W l o o' hl h h1 h2).cell (p := ⟨b, i, none⟩) hb⟩
end Go.Proofs.Ytdakbejppnijdaa
