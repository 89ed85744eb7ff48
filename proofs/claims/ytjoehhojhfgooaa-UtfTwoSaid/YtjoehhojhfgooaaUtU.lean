/- Two texts, one behind the other: plain. No condition. -/
import Derived.Test.YtjoehhojhfgooaaUtT
namespace Go.Proofs.Ytjoehhojhfgooaa
namespace Ut
/-- One text behind another one. -/
def both (f f2 : Nat → Nat) (n : Nat) (i : Nat) : Nat := if i < n then f i else f2 (i - n)
def Eqv (a b : A) : Prop := a.m = b.m ∧ a.b = b.b ∧ (a.m ≠ 0 → a = b)
theorem Eqv.stp {a b : A} (h : Eqv a b) (x : Nat) : stp a x true = stp b x true := by
  obtain ⟨h1, h2, h3⟩ := h
  by_cases hm : a.m = 0
  · have hm2 : b.m = 0 := by rw [← h1]; exact hm
    unfold Ut.stp
    rw [if_pos rfl, if_pos rfl, if_pos hm, if_pos hm2, h2]
  · rw [h3 hm]
theorem rn_first (f f2 : Nat → Nat) (n n2 : Nat) : ∀ k, k ≤ n → rn (both f f2 n) (n + n2) k = rn f n k
  | 0, _ => rfl
  | k + 1, hk => by
    rw [rn_succ, rn_succ, rn_first f f2 n n2 k (by omega), decide_eq_true (show k < n + n2 by omega), decide_eq_true (show k < n by omega)]
    congr 1
    unfold both
    rw [if_pos (by omega)]
theorem wk_first (f f2 : Nat → Nat) (n n2 k : Nat) (hk : k < n) : wk (both f f2 n) (n + n2) k = wk f n k ∧ ov (both f f2 n) (n + n2) k = ov f n k := by
  have e1 := rn_first f f2 n n2 k (by omega)
  have e2 := rn_first f f2 n n2 (k + 1) (by omega)
  have e3 : both f f2 n k = f k := by unfold both; rw [if_pos hk]
  have h : wk (both f f2 n) (n + n2) k = wk f n k := by
    unfold wk
    rw [e1, e3, decide_eq_true (show k < n + n2 by omega), decide_eq_true hk]
  refine ⟨h, ?_⟩
  unfold ov
  rw [h, e2]
theorem rn_second (f f2 : Nat → Nat) (n n2 : Nat) (hm : (rn f n n).m = 0) (hb : (rn f n n).b = false) : ∀ j, j ≤ n2 → Eqv (rn (both f f2 n) (n + n2) (n + j)) (rn f2 n2 j)
  | 0, _ => by
    rw [Nat.add_zero, rn_first f f2 n n2 n (Nat.le_refl _)]
    exact ⟨hm, hb, fun h => absurd hm h⟩
  | j + 1, hj => by
    have ih := rn_second f f2 n n2 hm hb j (by omega)
    have e : both f f2 n (n + j) = f2 j := by unfold both; rw [if_neg (by omega), Nat.add_sub_cancel_left]
    rw [← Nat.add_assoc, rn_succ, rn_succ, decide_eq_true (show n + j < n + n2 by omega), decide_eq_true (show j < n2 by omega), e, ih.stp]
    exact ⟨rfl, rfl, fun _ => rfl⟩
theorem wk_second (f f2 : Nat → Nat) (n n2 j : Nat) (hm : (rn f n n).m = 0) (hb : (rn f n n).b = false) (hj : j < n2) : wk (both f f2 n) (n + n2) (n + j) = wk f2 n2 j ∧ ov (both f f2 n) (n + n2) (n + j) = ov f2 n2 j := by
  have ih := rn_second f f2 n n2 hm hb j (by omega)
  have e : both f f2 n (n + j) = f2 j := by unfold both; rw [if_neg (by omega), Nat.add_sub_cancel_left]
  have e1 : rn (both f f2 n) (n + n2) (n + j + 1) = rn f2 n2 (j + 1) := by
    rw [rn_succ, rn_succ, decide_eq_true (show n + j < n + n2 by omega), decide_eq_true (show j < n2 by omega), e, ih.stp]
  have h : wk (both f f2 n) (n + n2) (n + j) = wk f2 n2 j := by
    unfold wk wh
    rw [e, ih.stp, decide_eq_true (show n + j < n + n2 by omega), decide_eq_true hj]
  refine ⟨h, ?_⟩
  unfold ov
  rw [h, e1]
theorem good_parts (f : Nat → Nat) (n : Nat) (h : isBad f n = false) : (rn f n n).m = 0 ∧ (rn f n n).b = false := by
  unfold isBad at h
  rw [Bool.or_eq_false_iff] at h
  refine ⟨?_, h.1⟩
  have := h.2
  simpa using this
theorem bad_both (f f2 : Nat → Nat) (n n2 : Nat) (h : isBad f n = false) : isBad (both f f2 n) (n + n2) = isBad f2 n2 := by
  obtain ⟨hm, hb⟩ := good_parts f n h
  have := rn_second f f2 n n2 hm hb n2 (Nat.le_refl _)
  unfold isBad
  rw [this.1, this.2.1]
end Ut
theorem lst_first (f f2 : Nat → Nat) (n n2 : Nat) (h : Ut.isBad f n = false) (h2 : Ut.isBad f2 n2 = false) : ∀ k, k ≤ n → lst (Ut.both f f2 n) (n + n2) k = lst f n k
  | 0, _ => rfl
  | k + 1, hk => by
    obtain ⟨e1, e2⟩ := Ut.wk_first f f2 n n2 k (by omega)
    rw [lst_succ, lst_succ, lst_first f f2 n n2 h h2 k (by omega), e1, e2, Ut.bad_both f f2 n n2 h, h, h2]
theorem lst_both (f f2 : Nat → Nat) (n n2 : Nat) (h : Ut.isBad f n = false) (h2 : Ut.isBad f2 n2 = false) : ∀ j, j ≤ n2 → lst (Ut.both f f2 n) (n + n2) (n + j) = lst f n n ++ lst f2 n2 j
  | 0, _ => by rw [Nat.add_zero, lst_first f f2 n n2 h h2 n (Nat.le_refl _), lst_zero, List.append_nil]
  | j + 1, hj => by
    obtain ⟨hm, hb⟩ := Ut.good_parts f n h
    obtain ⟨e1, e2⟩ := Ut.wk_second f f2 n n2 j hm hb (by omega)
    rw [← Nat.add_assoc, lst_succ, lst_succ, lst_both f f2 n n2 h h2 j (by omega), e1, e2, Ut.bad_both f f2 n n2 h, h2, List.append_assoc]
end Go.Proofs.Ytjoehhojhfgooaa
