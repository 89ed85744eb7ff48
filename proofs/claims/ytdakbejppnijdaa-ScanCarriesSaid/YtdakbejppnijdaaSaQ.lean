/- Words carried on, the first and the last one, plain. No condition. -/
import Derived.Test.YtdakbejppnijdaaSaP
namespace Go.Proofs.Ytdakbejppnijdaa
open Go.RowKit
set_option linter.unusedSimpArgs false
set_option linter.unusedVariables false
namespace Sa
def od (h : Nat → Nat) (i : Nat) : Bool := decide (h i % 2 = 1)
theorem mk_odd (a : Nat) (ha : a < 4294967296) : mk (a : Int) = Ct.Mask (decide (a % 2 = 1)) := by
  unfold mk
  have h1 := Ct.and_nat a 1 ha (by decide)
  rw [show ((1 : Nat) : Int) = 1 from rfl, Nat.and_one_is_mod] at h1
  rw [h1]
  rcases Nat.mod_two_eq_zero_or_one a with h | h
  · rw [h, decide_eq_false (by decide)]
    rfl
  · rw [h, decide_eq_true (by decide)]
    rfl
theorem sel_bool (b : Bool) (x y : Nat) (hx : x < 4294967296) (hy : y < 4294967296) : Ct.Sel (Ct.Mask b) x y = ((if b then x else y : Nat) : Int) := by
  rw [Ct.sel_mask b x y hx hy]
  cases b <;> rfl
theorem or_bool (c d : Bool) : Ct.Or (Ct.Mask c) (Ct.Mask d) = Ct.Mask (c || d) := by cases c <;> cases d <;> decide +kernel
/-- The last word that has, of the first k. -/
def lv (f h : Nat → Nat) : Nat → Nat
  | 0 => 0
  | k + 1 => if od h k then f k else lv f h k
def an (h : Nat → Nat) : Nat → Bool
  | 0 => false
  | k + 1 => an h k || od h k
/-- The document's first one. -/
def ev1 (f h : Nat → Nat) : Nat → Nat
  | 0 => 0
  | k + 1 => if od h k && !an h k then f k else ev1 f h k
/-- From m - 1 downwards. -/
def gd (f h : Nat → Nat) : Nat → Nat → Nat
  | x, 0 => x
  | x, m + 1 => gd f h (if od h m then f m else x) m
/-- The nearest one that has, from the end on, behind j of n words. -/
def bw (f h : Nat → Nat) (n : Nat) : Nat → Nat
  | 0 => 0
  | j + 1 => if od h (n - 1 - j) then f (n - 1 - j) else bw f h n j
theorem lv_zero (f h : Nat → Nat) : lv f h 0 = 0 := rfl
theorem lv_succ (f h : Nat → Nat) (k : Nat) : lv f h (k + 1) = if od h k then f k else lv f h k := rfl
theorem an_zero (h : Nat → Nat) : an h 0 = false := rfl
theorem an_succ (h : Nat → Nat) (k : Nat) : an h (k + 1) = (an h k || od h k) := rfl
theorem ev1_zero (f h : Nat → Nat) : ev1 f h 0 = 0 := rfl
theorem ev1_succ (f h : Nat → Nat) (k : Nat) : ev1 f h (k + 1) = if od h k && !an h k then f k else ev1 f h k := rfl
theorem bw_zero (f h : Nat → Nat) (n : Nat) : bw f h n 0 = 0 := rfl
theorem bw_succ (f h : Nat → Nat) (n j : Nat) : bw f h n (j + 1) = if od h (n - 1 - j) then f (n - 1 - j) else bw f h n j := rfl
theorem lv_lt (f h : Nat → Nat) (hf : ∀ i, f i < 4294967296) : ∀ k, lv f h k < 4294967296
  | 0 => by show 0 < 4294967296; decide
  | k + 1 => by rw [lv_succ]; split; exact hf k; exact lv_lt f h hf k
theorem ev1_lt (f h : Nat → Nat) (hf : ∀ i, f i < 4294967296) : ∀ k, ev1 f h k < 4294967296
  | 0 => by show 0 < 4294967296; decide
  | k + 1 => by rw [ev1_succ]; split; exact hf k; exact ev1_lt f h hf k
theorem bw_lt (f h : Nat → Nat) (hf : ∀ i, f i < 4294967296) (n : Nat) : ∀ k, bw f h n k < 4294967296
  | 0 => by show 0 < 4294967296; decide
  | k + 1 => by rw [bw_succ]; split; exact hf _; exact bw_lt f h hf n k
theorem gd_lt (f h : Nat → Nat) (hf : ∀ i, f i < 4294967296) : ∀ (m x : Nat), x < 4294967296 → gd f h x m < 4294967296
  | 0, x, hx => hx
  | m + 1, x, hx => by
    show gd f h _ m < _
    refine gd_lt f h hf m _ ?_
    split
    · exact hf m
    · exact hx
theorem gd_eq (f h : Nat → Nat) : ∀ (m x : Nat), gd f h x m = if an h m then ev1 f h m else x
  | 0, x => rfl
  | m + 1, x => by
    show gd f h _ m = _
    rw [gd_eq f h m, an_succ, ev1_succ]
    cases an h m <;> cases od h m <;> simp
theorem gd_zero (f h : Nat → Nat) (m : Nat) : gd f h 0 m = ev1 f h m := by
  rw [gd_eq]
  split
  · rfl
  · rename_i hn
    have : ∀ k, an h k = false → ev1 f h k = 0 := fun k => by
      induction k with
      | zero => exact fun _ => rfl
      | succ k ih =>
        intro hk
        rw [an_succ, Bool.or_eq_false_iff] at hk
        rw [ev1_succ, hk.2, Bool.false_and, if_neg Bool.false_ne_true]
        exact ih hk.1
    exact (this m (by simpa using hn)).symm
theorem la_f (f h : Nat → Nat) (n i : Nat) (hi : i < n) : (la n n f h).getD (0 + i) 0 = (f i : Int) := by rw [la_get, Nat.zero_add, if_pos hi]
theorem la_h (f h : Nat → Nat) (n i : Nat) (hi : i < n) : (la n n f h).getD (n + i) 0 = (h i : Int) := by rw [la_get, if_neg (by omega), if_pos (by omega), show n + i - n = i by omega]
section
variable (f h : Nat → Nat) (n : Nat) (hf : ∀ i, f i < 4294967296) (hh : ∀ i, h i < 4294967296)
include hf hh
theorem mt_last : ∀ k, k ≤ n → mt 0 n (la n n f h) (us k) = (((lv f h k : Nat) : Int), Ct.Mask (an h k))
  | 0, _ => rfl
  | k + 1, hk => by
    rw [us_succ, mt_snoc, mt_last k (by omega), la_f f h n k (by omega), la_h f h n k (by omega), mk_odd _ (hh k)]
    show (Ct.Sel _ _ _, Ct.Or _ _) = _
    rw [sel_bool _ _ _ (hf k) (lv_lt f h hf k), or_bool]
    rfl
theorem mt_down : ∀ m, m ≤ n → ∀ (x : Nat) (a : Bool), x < 4294967296 → (ds m).foldl (fun s i => (Ct.Sel (mk ((la n n f h).getD (n + i) 0)) ((la n n f h).getD (0 + i) 0) s.1, Ct.Or s.2 (mk ((la n n f h).getD (n + i) 0)))) ((x : Int), Ct.Mask a) = (((gd f h x m : Nat) : Int), Ct.Mask (a || an h m))
  | 0, _, x, a, _ => by rw [an_zero, Bool.or_false]; rfl
  | m + 1, hm, x, a, hx => by
    show (m :: ds m).foldl _ _ = _
    rw [List.foldl_cons]
    rw [la_f f h n m (by omega), la_h f h n m (by omega), mk_odd _ (hh m), sel_bool _ _ _ (hf m) hx, or_bool]
    rw [mt_down m (by omega) _ _ (by split; exact hf m; exact hx)]
    refine Prod.ext rfl ?_
    show Ct.Mask _ = Ct.Mask _
    rw [an_succ]
    refine congrArg Ct.Mask ?_
    show (a || od h m || an h m) = (a || (an h m || od h m))
    cases a <;> cases an h m <;> cases od h m <;> rfl
theorem mt_first : mt 0 n (la n n f h) (ds n) = (((ev1 f h n : Nat) : Int), Ct.Mask (an h n)) := by
  have := mt_down f h n hf hh n (Nat.le_refl n) 0 false (by decide)
  rw [gd_zero, Bool.false_or] at this
  exact this
theorem fl_up : ∀ k, k ≤ n → (fl 0 n (la n n f h) (us k)).1 = (lv f h k : Nat) ∧ (fl 0 n (la n n f h) (us k)).2.length = n + n ∧ ∀ j, (fl 0 n (la n n f h) (us k)).2.getD j 0 = if j < k then ((lv f h (j + 1) : Nat) : Int) else (la n n f h).getD j 0
  | 0, _ => ⟨rfl, la_len n n f h, fun j => by rw [if_neg (Nat.not_lt_zero j)]; rfl⟩
  | k + 1, hk => by
    obtain ⟨h1, h2, h3⟩ := fl_up k (by omega)
    have h4 := h3 (0 + k)
    rw [if_neg (by omega), la_f f h n k (by omega)] at h4
    have h5 := h3 (n + k)
    rw [if_neg (by omega), la_h f h n k (by omega)] at h5
    rw [us_succ, fl_snoc, h1, h4, h5, mk_odd _ (hh k), sel_bool _ _ _ (hf k) (lv_lt f h hf k)]
    refine ⟨rfl, by rw [List.length_set]; exact h2, fun j => ?_⟩
    show List.getD (List.set _ _ _) _ _ = _
    rw [getD_set _ _ _ _ (by omega), Nat.zero_add]
    by_cases hjk : j = k
    · subst hjk
      rw [if_pos rfl, if_pos (Nat.lt_succ_self j)]
      rfl
    · rw [if_neg hjk, h3 j]
      by_cases hlt : j < k
      · rw [if_pos hlt, if_pos (show j < k + 1 by omega)]
      · rw [if_neg hlt, if_neg (show ¬ j < k + 1 by omega)]
theorem fl_down : ∀ k, k ≤ n → (fl 0 n (la n n f h) (pr n k)).1 = (bw f h n k : Nat) ∧ (fl 0 n (la n n f h) (pr n k)).2.length = n + n ∧ ∀ j, (fl 0 n (la n n f h) (pr n k)).2.getD j 0 = if n - k ≤ j ∧ j < n then ((bw f h n (n - j) : Nat) : Int) else (la n n f h).getD j 0
  | 0, _ => ⟨rfl, la_len n n f h, fun j => by rw [if_neg (by omega)]; rfl⟩
  | k + 1, hk => by
    obtain ⟨h1, h2, h3⟩ := fl_down k (by omega)
    have h4 := h3 (0 + (n - 1 - k))
    rw [if_neg (by omega), la_f f h n _ (by omega)] at h4
    have h5 := h3 (n + (n - 1 - k))
    rw [if_neg (by omega), la_h f h n _ (by omega)] at h5
    rw [pr_succ, fl_snoc, h1, h4, h5, mk_odd _ (hh _), sel_bool _ _ _ (hf _) (bw_lt f h hf n k)]
    refine ⟨rfl, by rw [List.length_set]; exact h2, fun j => ?_⟩
    show List.getD (List.set _ _ _) _ _ = _
    rw [getD_set _ _ _ _ (by omega), Nat.zero_add]
    by_cases hjk : j = n - 1 - k
    · subst hjk
      rw [if_pos rfl, if_pos (show n - (k + 1) ≤ n - 1 - k ∧ n - 1 - k < n by omega), show n - (n - 1 - k) = k + 1 by omega]
      rfl
    · rw [if_neg hjk, h3 j]
      by_cases hlt : n - k ≤ j ∧ j < n
      · rw [if_pos hlt, if_pos (show n - (k + 1) ≤ j ∧ j < n by omega)]
      · rw [if_neg hlt, if_neg (show ¬ (n - (k + 1) ≤ j ∧ j < n) by omega)]
/-- What Carry and Back leave. -/
theorem fl_carry : (∀ j, j < n → (fl 0 n (la n n f h) (us n)).2.getD (0 + j) 0 = (lv f h (j + 1) : Nat)) ∧ (∀ j, j < n → (fl 0 n (la n n f h) (us n)).2.getD (n + j) 0 = (h j : Nat)) := by
  obtain ⟨_, _, h3⟩ := fl_up f h n hf hh n (Nat.le_refl n)
  refine ⟨fun j hj => ?_, fun j hj => ?_⟩
  · rw [h3, Nat.zero_add, if_pos hj]
  · rw [h3, if_neg (by omega), la_h f h n j hj]
theorem fl_back : (∀ j, j < n → (fl 0 n (la n n f h) (ds n)).2.getD (0 + j) 0 = (bw f h n (n - j) : Nat)) ∧ (∀ j, j < n → (fl 0 n (la n n f h) (ds n)).2.getD (n + j) 0 = (h j : Nat)) := by
  rw [ds_pr]
  obtain ⟨_, _, h3⟩ := fl_down f h n hf hh n (Nat.le_refl n)
  refine ⟨fun j hj => ?_, fun j hj => ?_⟩
  · rw [h3, Nat.zero_add, if_pos ⟨by omega, hj⟩]
  · rw [h3, if_neg (by omega), la_h f h n j hj]
end
end Sa
end Go.Proofs.Ytdakbejppnijdaa
