/- What Decode leaves in an arena's words, by the plain machine. No condition. -/
import Derived.Test.YtjoehhojhfgooaaUtP
import Derived.Test.YtjoehhojhfgooaaUtG
namespace Go.Proofs.Ytjoehhojhfgooaa
namespace Ut
theorem set_get (W : List Int) (a i : Nat) (x : Int) (ha : a < W.length) : (W.set a x).getD i 0 = if i = a then x else W.getD i 0 := by
  rw [List.getD_eq_getElem?_getD, List.getElem?_set, List.getD_eq_getElem?_getD]
  by_cases h : a = i
  · subst h
    rw [if_pos rfl, if_pos ha, if_pos rfl]
    rfl
  · rw [if_neg h, if_neg (fun e => h e.symm)]
theorem and_mask (b : Bool) (x : Nat) (hx : x < 4294967296) : Ct.And (Ct.Mask b) x = ((if b then x else 0 : Nat) : Int) := by
  cases b
  · rw [show Ct.Mask false = ((0 : Nat) : Int) from rfl, Ct.and_nat 0 x (by decide) hx, Nat.zero_and]
    rfl
  · rw [show Ct.Mask true = ((4294967295 : Nat) : Int) from rfl, Ct.and_nat _ x (by decide) hx, show (4294967295 : Nat) = 2 ^ 32 - 1 from rfl, Nat.and_comm, Nat.and_two_pow_sub_one_eq_mod, Nat.mod_eq_of_lt hx]
    rfl
theorem dc_form (n : Nat) (ws : List Int) (hl : 3 * n ≤ ws.length) (f : Nat → Nat) (hf : ∀ k, f k < 256) (hw : ∀ k, k < n → Ct.And (ws.getD k 0) 255 = f k) (len : Nat) (hlen : len < 4294967296) (hn : n ≤ 4096) : ∀ k, k ≤ n →
    (dc 0 n (2 * n) len ws k).2 = conc (rn f (min len n) k) ∧ ∀ i, (dc 0 n (2 * n) len ws k).1.getD i 0 = if n ≤ i ∧ i < n + k then (ov f (min len n) (i - n) : Int) else if 2 * n ≤ i ∧ i < 2 * n + k then Ct.Mask (wk f (min len n) (i - 2 * n)) else ws.getD i 0
  | 0, _ => by
    rw [dc_zero]
    refine ⟨rfl, fun i => ?_⟩
    rw [if_neg (by omega), if_neg (by omega)]
  | k + 1, hk => by
    obtain ⟨h1, h2⟩ := dc_form n ws hl f hf hw len hlen hn k (by omega)
    obtain ⟨⟨W, s⟩, h⟩ : ∃ r, dc 0 n (2 * n) len ws k = r := ⟨_, rfl⟩
    have hWl : W.length = ws.length := by have := dc_len 0 n (2 * n) len ws k; rwa [h] at this
    rw [h] at h1 h2
    simp only at h1 h2
    have hb : Ct.And (W.getD (0 + k) 0) 255 = f k := by
      rw [Nat.zero_add, h2 k, if_neg (by omega), if_neg (by omega), hw k (by omega)]
    have hlv : Ct.Lt (k : Int) len = Ct.Mask (decide (k < min len n)) := by
      rw [Ct.lt_nat k len (by omega) hlen]
      congr 1
      rw [decide_eq_decide]
      omega
    have hinv := rn_inv f (min len n) hf k
    obtain ⟨e1, e2⟩ := next_conc (rn f (min len n) k) (f k) (decide (k < min len n)) (hf k) hinv
    have hp := inv_p _ (rn_inv f (min len n) hf (k + 1))
    have e3 : np s (f k) (Ct.Mask (decide (k < min len n))) = ((rn f (min len n) (k + 1)).p : Int) := by
      rw [h1]
      have := congrArg S.p e1
      exact this
    rw [dc_succ _ _ _ _ _ _ _ _ h, hb, hlv, e3, h1, e2, e1]
    refine ⟨rfl, fun i => ?_⟩
    have hwk : wh (rn f (min len n) k) (f k) (decide (k < min len n)) = wk f (min len n) k := rfl
    have hov : ((if wk f (min len n) k then (rn f (min len n) (k + 1)).p else 0 : Nat) : Int) = (ov f (min len n) k : Int) := rfl
    rw [hwk, and_mask _ _ (by omega), hov]
    simp only
    rw [set_get _ _ _ _ (by rw [List.length_set]; omega), set_get _ _ _ _ (by omega), h2 i]
    by_cases ha : i = 2 * n + k
    · subst ha
      rw [if_pos rfl, if_neg (by omega), if_pos (by omega), show 2 * n + k - 2 * n = k by omega]
    · rw [if_neg ha]
      by_cases hb2 : i = n + k
      · subst hb2
        rw [if_pos rfl, if_pos (by omega), show n + k - n = k by omega]
      · rw [if_neg hb2]
        by_cases hc : n ≤ i ∧ i < n + k
        · rw [if_pos hc, if_pos (by omega)]
        · have hc2 : ¬ (n ≤ i ∧ i < n + (k + 1)) := by omega
          rw [if_neg hc, if_neg hc2]
          by_cases hd : 2 * n ≤ i ∧ i < 2 * n + k
          · rw [if_pos hd, if_pos (by omega)]
          · rw [if_neg hd, if_neg (by omega)]
theorem dd_form (n : Nat) (x : Int) (W : List Int) (hl : 3 * n ≤ W.length) : ∀ k, k ≤ n → ∀ i, (dd n (2 * n) x W k).getD i 0 = if n ≤ i ∧ i < n + k ∨ 2 * n ≤ i ∧ i < 2 * n + k then Ct.And (Ct.Not x) (W.getD i 0) else W.getD i 0
  | 0, _, i => by
    rw [dd_zero, if_neg (by omega)]
  | k + 1, hk, i => by
    have ih := dd_form n x W hl k (by omega)
    have hl2 : (dd n (2 * n) x W k).length = W.length := dd_len _ _ _ _ _
    rw [dd_succ _ _ _ _ _ _ rfl]
    rw [set_get _ _ _ _ (by rw [List.length_set]; omega), set_get _ _ _ _ (by omega), set_get _ _ _ _ (by omega), ih i, ih (n + k), ih (2 * n + k)]
    by_cases ha : i = 2 * n + k
    · subst ha
      rw [if_pos rfl, if_neg (by omega), if_neg (by omega), if_pos (by omega)]
    · rw [if_neg ha]
      by_cases hb : i = n + k
      · subst hb
        rw [if_pos rfl, if_neg (by omega), if_pos (by omega)]
      · rw [if_neg hb]
        by_cases hc : n ≤ i ∧ i < n + k ∨ 2 * n ≤ i ∧ i < 2 * n + k
        · rw [if_pos hc, if_pos (by omega)]
        · rw [if_neg hc, if_neg (by omega)]
/-- Are these bytes no UTF-8? -/
def isBad (f : Nat → Nat) (M : Nat) : Bool := (rn f M M).b || !decide ((rn f M M).m = 0)
theorem answer_form (n : Nat) (ws : List Int) (hl : 3 * n ≤ ws.length) (f : Nat → Nat) (hf : ∀ k, f k < 256) (hw : ∀ k, k < n → Ct.And (ws.getD k 0) 255 = f k) (len : Nat) (hlen : len < 4294967296) (hn : n ≤ 4096) :
    answer 0 n (2 * n) n len ws = Ct.Mask (isBad f (min len n)) := by
  obtain ⟨h1, -⟩ := dc_form n ws hl f hf hw len hlen hn n (Nat.le_refl _)
  have h3 := rn_stay f (min len n) n (Nat.min_le_right _ _)
  have hm := (rn_inv f (min len n) hf (min len n)).1
  unfold answer bad isBad
  rw [h1, h3]
  unfold conc
  simp only
  rw [Ct.zero_nat _ (by omega), Ct.not_mask, or_masks]
  congr 2
theorem ov_lt (f : Nat → Nat) (M : Nat) (hf : ∀ k, f k < 256) (k : Nat) : ov f M k < 2097152 := by
  unfold ov
  split
  · exact inv_p _ (rn_inv f M hf (k + 1))
  · decide
theorem out_form (n : Nat) (ws : List Int) (hl : 3 * n ≤ ws.length) (f : Nat → Nat) (hf : ∀ k, f k < 256) (hw : ∀ k, k < n → Ct.And (ws.getD k 0) 255 = f k) (len : Nat) (hlen : len < 4294967296) (hn : n ≤ 4096) (i : Nat) :
    (out 0 n (2 * n) n len ws).getD i 0 = if n ≤ i ∧ i < 2 * n then (if isBad f (min len n) then 0 else (ov f (min len n) (i - n) : Int)) else if 2 * n ≤ i ∧ i < 3 * n then Ct.Mask (!isBad f (min len n) && wk f (min len n) (i - 2 * n)) else ws.getD i 0 := by
  have hx := answer_form n ws hl f hf hw len hlen hn
  obtain ⟨-, h2⟩ := dc_form n ws hl f hf hw len hlen hn n (Nat.le_refl _)
  unfold out
  unfold answer at hx
  rw [hx, dd_form n _ _ (by rw [dc_len]; exact hl) n (Nat.le_refl _) i, Ct.not_mask, h2 i]
  by_cases ha : n ≤ i ∧ i < 2 * n
  · rw [if_pos (by omega), if_pos (by omega), if_pos ha, and_mask _ _ (by have := ov_lt f (min len n) hf (i - n); omega)]
    cases isBad f (min len n) <;> rfl
  · rw [if_neg ha]
    by_cases hb : 2 * n ≤ i ∧ i < 3 * n
    · rw [if_pos hb, if_pos (by omega), if_neg (by omega), if_pos (by omega), and_masks]
    · rw [if_neg hb, if_neg (by omega), if_neg (by omega), if_neg (by omega)]
end Ut
end Go.Proofs.Ytjoehhojhfgooaa
