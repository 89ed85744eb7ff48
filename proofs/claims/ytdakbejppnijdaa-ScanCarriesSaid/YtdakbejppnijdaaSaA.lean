/- scan.up and scan.down: the iterators go over the numbers, up and down. No condition. -/
import Derived.RangeFuncNested
import Derived.RangeFuncBound
import Derived.RangeFuncCalls
import Derived.RangeFuncLeaves
import Derived.Shelf.Abstract
import Derived.Shelf.RegionOpen
import Derived.WalkKit
import Derived.OwnWalkIn
import Derived.TacticsInMore
import Derived.LoopNIn
import Derived.LoopIn
import Derived.Maps.AppendAt
import Derived.Test.YtdakbejppnijdaaIv
namespace Go.Proofs.Ytdakbejppnijdaa
open Go.RowKit Go.Shelf
set_option linter.unusedSimpArgs false
set_option linter.unusedVariables false
attribute [local go_sem] Oper.semAt_some
namespace Sa
def us (k : Nat) : List Nat := List.range k
theorem us_succ (k : Nat) : us (k + 1) = us k ++ [k] := List.range_succ
theorem us_len (k : Nat) : (us k).length = k := List.length_range
def ds : Nat → List Nat
  | 0 => []
  | k + 1 => k :: ds k
theorem ds_len : ∀ k, (ds k).length = k
  | 0 => rfl
  | k + 1 => by show (ds k).length + 1 = k + 1; rw [ds_len k]
theorem ds_lt : ∀ k, ∀ i ∈ ds k, i < k
  | 0, i, h => by simp [ds] at h
  | k + 1, i, h => by
    rcases List.mem_cons.1 h with rfl | h
    · omega
    · have := ds_lt k i h; omega
theorem us_lt (k : Nat) : ∀ i ∈ us k, i < k := fun i h => List.mem_range.1 h
def vs {m : Nat} (l : List (Fin m)) : List Nat := l.map Fin.val
theorem vs_nil {m : Nat} : vs ([] : List (Fin m)) = [] := rfl
theorem vs_snoc {m : Nat} (l : List (Fin m)) (x : Fin m) : vs (l ++ [x]) = vs l ++ [x.val] := by simp [vs]
theorem vs_len {m : Nat} (l : List (Fin m)) : (vs l).length = l.length := by simp [vs]
def enc {m : Nat} (i : Fin m) : Array Value := #[.int .i64 (i.val : Int)]
/-- What the iterator reads lies as it lay. -/
def Kc (Bn : Nat) (A B : World) : Prop := B.cell? ⟨Bn, 0, none⟩ = A.cell? ⟨Bn, 0, none⟩
theorem Kc.trans {Bn : Nat} {A B C : World} (h : Kc Bn A B) (k : Kc Bn B C) : Kc Bn A C := Eq.trans k h
theorem Kc.refl (Bn : Nat) (A : World) : Kc Bn A A := rfl
end Sa
theorem saUp_any (n : Int) (w : World) : Calls Try.prog 64 #[.int .i64 n] w fun e w' => e = .returned (.func (.func 101) #[] #[.pointer (some ⟨w.heap.size, 0, none⟩)]) ∧ w' = w.alloc (.cells #[.int .i64 n] 3) := by
  go_enter Try.func64, Try.ntmps64
  go_wp2_with fail
  go_ret
  exact ⟨rfl, rfl⟩
theorem saDown_any (n : Int) (w : World) : Calls Try.prog 67 #[.int .i64 n] w fun e w' => e = .returned (.func (.func 102) #[] #[.pointer (some ⟨w.heap.size, 0, none⟩)]) ∧ w' = w.alloc (.cells #[.int .i64 n] 3) := by
  go_enter Try.func67, Try.ntmps67
  go_wp2_with fail
  go_ret
  exact ⟨rfl, rfl⟩
theorem wide_fn (f : FuncId) : Fence.wide.fn f = True := rfl
theorem wide_all (X : Option FuncId) : (∀ f, X = some f → Fence.wide.fn f) = True := eq_true fun _ _ => trivial
attribute [local go_sem] wide_fn wide_all
set_option maxRecDepth 100000 in
set_option maxHeartbeats 2000000 in
theorem saUp_in (n : Nat) (hn : 1 ≤ n) (l Bn m : Nat) (hm : m ≤ 4194304) (J Jx : List (Fin m) → World → Prop)
    (hY : ∀ pre x W, J pre W → pre.length < m → YieldAt Fence.wide (n - 1) Try.prog l (Sa.enc x) W fun e W' =>
      (e = .returned (.bool true) ∧ J (pre ++ [x]) W' ∧ Sa.Kc Bn W W') ∨ (e = .returned (.bool false) ∧ Jx (pre ++ [x]) W'))
    (W : World) (hc : W.cell? ⟨Bn, 0, none⟩ = some (.int .i64 m)) (h0 : J [] W) :
    CallsIn Fence.wide n Try.prog 101 #[.func (.yield l) #[] #[], .pointer (some ⟨Bn, 0, none⟩)] W fun e W' => (∃ v, e = .returned v) ∧
      ((∃ ys, Sa.vs ys = Sa.us m ∧ J ys W') ∨ (∃ pre, True ∧ Jx pre W')) := by
  refine callsIn_of_wp Try.func101 rfl trivial ?_ rfl
  simp only [Try.ntmps101, List.size_toArray, List.length_cons, List.length_nil, Nat.reduceAdd, Nat.reduceSub, Array.replicate_succ, Array.replicate_zero, List.push_toArray, List.append_toArray, List.nil_append, List.cons_append]
  have HY := Lib.hid hY
  clear hY
  gi_wp2
  gi_loopw [3] (fun i wr => ∃ (k : Nat) (pre : List (Fin m)), k ≤ m ∧ i = .int .i64 (k : Int) ∧ J pre wr ∧ Sa.vs pre = Sa.us k ∧ Sa.Kc Bn W wr) (fun i _ => m - (intOf i).toNat)
  case atStart => exact ⟨0, [], Nat.zero_le _, rfl, h0, rfl, Sa.Kc.refl _ _⟩
  case round =>
    rename World => wr
    obtain ⟨k, pre, hk, rfl, hJ, hvs, hKc⟩ := hrel
    have HVS := Lib.hid hvs
    clear hvs
    have hcb := Eq.trans hKc hc
    have HK := Lib.hid hKc
    clear hKc
    rcases (by omega : k < m ∨ k = m) with hkm | rfl
    · have hd : decide ((k : Int) < (m : Int)) = true := decide_eq_true (by omega)
      obtain ⟨fn, tmps, assign, body, hy, hRd⟩ := HY.out pre ⟨k, hkm⟩ wr hJ (by rw [← Sa.vs_len, HVS.out, Sa.us_len]; exact hkm)
      simp only [Sa.enc] at hy
      gi_wp2
      refine hRd.mono ?_
      rintro e W3 (⟨rfl, hJ3, hk3⟩ | ⟨rfl, hJx3⟩)
      · gi_wp2
        refine ⟨⟨k + 1, _, by omega, congrArg (Value.int .i64) (by omega), hJ3, by rw [Sa.vs_snoc, HVS.out, Sa.us_succ], HK.out.trans hk3⟩, by simp [intOf]; omega⟩
      · gi_wp2
        go_end0
        exact ⟨⟨_, rfl⟩, .inr ⟨_, trivial, hJx3⟩⟩
    · have hd : decide ((k : Int) < (k : Int)) = false := decide_eq_false (by omega)
      gi_wp2
      go_end0
      exact ⟨⟨_, rfl⟩, .inl ⟨_, HVS.out, hJ⟩⟩
set_option maxRecDepth 100000 in
set_option maxHeartbeats 2000000 in
theorem saDown_in (n : Nat) (hn : 1 ≤ n) (l Bn m : Nat) (hm : m ≤ 4194304) (J Jx : List (Fin m) → World → Prop)
    (hY : ∀ pre x W, J pre W → pre.length < m → YieldAt Fence.wide (n - 1) Try.prog l (Sa.enc x) W fun e W' =>
      (e = .returned (.bool true) ∧ J (pre ++ [x]) W' ∧ Sa.Kc Bn W W') ∨ (e = .returned (.bool false) ∧ Jx (pre ++ [x]) W'))
    (W : World) (hc : W.cell? ⟨Bn, 0, none⟩ = some (.int .i64 m)) (h0 : J [] W) :
    CallsIn Fence.wide n Try.prog 102 #[.func (.yield l) #[] #[], .pointer (some ⟨Bn, 0, none⟩)] W fun e W' => (∃ v, e = .returned v) ∧
      ((∃ ys, Sa.vs ys = Sa.ds m ∧ J ys W') ∨ (∃ pre, True ∧ Jx pre W')) := by
  refine callsIn_of_wp Try.func102 rfl trivial ?_ rfl
  simp only [Try.ntmps102, List.size_toArray, List.length_cons, List.length_nil, Nat.reduceAdd, Nat.reduceSub, Array.replicate_succ, Array.replicate_zero, List.push_toArray, List.append_toArray, List.nil_append, List.cons_append]
  have HY := Lib.hid hY
  clear hY
  gi_wp2
  gi_loopw [3] (fun i wr => ∃ (k : Nat) (pre : List (Fin m)), k ≤ m ∧ i = .int .i64 ((k : Int) - 1) ∧ J pre wr ∧ Sa.ds m = Sa.vs pre ++ Sa.ds k ∧ Sa.Kc Bn W wr) (fun i _ => (intOf i + 1).toNat)
  case atStart => exact ⟨m, [], Nat.le_refl m, rfl, h0, rfl, Sa.Kc.refl _ _⟩
  case round =>
    rename World => wr
    obtain ⟨k, pre, hk, rfl, hJ, happ, hKc⟩ := hrel
    have HAPP := Lib.hid happ
    have hcb := Eq.trans hKc hc
    have HK := Lib.hid hKc
    clear hKc happ
    cases k with
    | zero =>
      have hd : decide ((0 : Int) ≤ ((0 : Nat) : Int) - 1) = false := by decide
      gi_wp2
      go_end0
      exact ⟨⟨_, rfl⟩, .inl ⟨_, by rw [HAPP.out]; exact (List.append_nil _).symm, hJ⟩⟩
    | succ k =>
      have hi : ((k + 1 : Nat) : Int) - 1 = (k : Int) := by omega
      rw [hi]
      obtain ⟨fn, tmps, assign, body, hy, hRd⟩ := HY.out pre ⟨k, by omega⟩ wr hJ (by
        have hl := congrArg List.length HAPP.out
        rw [Sa.ds_len, List.length_append, Sa.vs_len, Sa.ds_len] at hl
        omega)
      simp only [Sa.enc] at hy
      gi_wp2
      refine hRd.mono ?_
      rintro e W3 (⟨rfl, hJ3, hk3⟩ | ⟨rfl, hJx3⟩)
      · gi_wp2
        refine ⟨⟨k, _, by omega, congrArg (Value.int .i64) (by omega), hJ3, by rw [HAPP.out, Sa.vs_snoc, List.append_assoc]; rfl, HK.out.trans hk3⟩, by simp [intOf]⟩
      · gi_wp2
        go_end0
        exact ⟨⟨_, rfl⟩, .inr ⟨_, trivial, hJx3⟩⟩
/-- The iterator gf goes over xs where the box holds m. -/
structure Sa.It (gf : Nat) (m : Nat) (xs : List Nat) : Prop where
  seq : ∀ (Bn : Nat) (w : World), Bn < w.heap.size → w.cell? ⟨Bn, 0, none⟩ = some (.int .i64 m) → SeqStopsK Fence.wide 2 Try.prog gf #[.pointer (some ⟨Bn, 0, none⟩)] (Sa.enc (m := m)) (Sa.Kc Bn) (fun ys => Sa.vs ys = xs) (fun _ => True) m w
  ent : ∀ args w, (callFunc gf args).run Try.prog w = .ok (.enter gf args) w
  lt : ∀ i ∈ xs, i < m
  len : xs.length = m
theorem Sa.up (m : Nat) (hm : m ≤ 4194304) : Sa.It 101 m (Sa.us m) where
  seq Bn w hB hc := fun l J Jx W hW _ _ hY h0 => saUp_in 2 (by decide) l Bn m hm J Jx hY W ((hW.cell (p := ⟨Bn, 0, none⟩) hB).trans hc) h0
  ent := enters_of Try.func101 (by kernel_rfl) rfl
  lt := Sa.us_lt m
  len := Sa.us_len m
theorem Sa.down (m : Nat) (hm : m ≤ 4194304) : Sa.It 102 m (Sa.ds m) where
  seq Bn w hB hc := fun l J Jx W hW _ _ hY h0 => saDown_in 2 (by decide) l Bn m hm J Jx hY W ((hW.cell (p := ⟨Bn, 0, none⟩) hB).trans hc) h0
  ent := enters_of Try.func102 (by kernel_rfl) rfl
  lt := Sa.ds_lt m
  len := Sa.ds_len m
theorem Sa.kc_put {Bn : Nat} {w : World} (hB : Bn < w.heap.size) (W : World) (l : Nat) (o o' : Obj) (hl : w.heap.size ≤ l) (h : W.heap[l]? = some o) (h1 : o.isCells = false) (h2 : o.isWalk = false) : Sa.Kc Bn W (W.putObj l o') :=
  (belowK_b (w := w) (Nat.le_refl _) W l o o' hl h h1 h2).cell (p := ⟨Bn, 0, none⟩) hB
end Go.Proofs.Ytdakbejppnijdaa
