/- Sums and or'ed words, plain. No condition. -/
import Derived.Test.YtdakbejppnijdaaSaG
namespace Go.Proofs.Ytdakbejppnijdaa
open Go.RowKit
set_option linter.unusedSimpArgs false
set_option linter.unusedVariables false
namespace Sa
theorem getD_set (l : List Int) (i j : Nat) (v : Int) (hi : i < l.length) : (l.set i v).getD j 0 = if j = i then v else l.getD j 0 := by
  rw [List.getD_eq_getElem?_getD, List.getElem?_set]
  by_cases h : i = j
  · subst h
    rw [if_pos rfl, if_pos hi, if_pos rfl]
    rfl
  · rw [if_neg h, if_neg (fun e => h e.symm), List.getD_eq_getElem?_getD]
theorem putw_get (ws : List Int) (a : Nat) (f : Nat → Int) : ∀ k, a + k ≤ ws.length → ∀ i, (putw ws a f k).getD i 0 = if a ≤ i ∧ i < a + k then f (i - a) else ws.getD i 0
  | 0, _, i => by rw [putw_zero, if_neg (by omega)]
  | k + 1, hk, i => by
    rw [putw_succ, getD_set _ _ _ _ (by rw [putw_len]; omega), putw_get ws a f k (by omega) i]
    by_cases h : i = a + k
    · subst h
      rw [if_pos rfl, if_pos ⟨by omega, by omega⟩, show a + k - a = k by omega]
    · rw [if_neg h]
      by_cases h2 : a ≤ i ∧ i < a + k
      · rw [if_pos h2, if_pos (by omega)]
      · rw [if_neg h2, if_neg (by omega)]
theorem rep_get (n i : Nat) : (List.replicate n (0 : Int)).getD i 0 = 0 := by
  rw [List.getD_eq_getElem?_getD, List.getElem?_replicate]
  split <;> rfl
theorem la_get (n m : Nat) (f g : Nat → Nat) (i : Nat) : (la n m f g).getD i 0 = if i < n then (f i : Int) else if i < n + m then (g (i - n) : Int) else 0 := by
  unfold la
  rw [putw_get _ _ _ _ (by rw [putw_len, List.length_replicate]; exact Nat.le_refl _), putw_get _ _ _ _ (by rw [List.length_replicate]; omega), rep_get]
  by_cases h1 : i < n
  · rw [if_neg (by omega), if_pos ⟨by omega, by omega⟩, if_pos h1, Nat.sub_zero]
  · by_cases h2 : i < n + m
    · rw [if_pos ⟨by omega, h2⟩, if_neg h1, if_pos h2]
    · rw [if_neg (by omega), if_neg (by omega), if_neg h1, if_neg h2]
def ad (f : Nat → Nat) : Nat → Nat
  | 0 => 0
  | k + 1 => (ad f k + f k) % 4294967296
def oru (f : Nat → Nat) (i : Nat) : Nat → Nat
  | 0 => 0
  | k + 1 => oru f i k ||| f (i + k)
def ord (f : Nat → Nat) (m : Nat) : Nat → Nat
  | 0 => 0
  | j + 1 => ord f m j ||| f (m - 1 - j)
theorem ad_zero (f : Nat → Nat) : ad f 0 = 0 := rfl
theorem ad_succ (f : Nat → Nat) (k : Nat) : ad f (k + 1) = (ad f k + f k) % 4294967296 := rfl
theorem oru_zero (f : Nat → Nat) (i : Nat) : oru f i 0 = 0 := rfl
theorem oru_succ (f : Nat → Nat) (i k : Nat) : oru f i (k + 1) = oru f i k ||| f (i + k) := rfl
theorem ad_lt (f : Nat → Nat) : ∀ k, ad f k < 4294967296
  | 0 => by show 0 < 4294967296; decide
  | k + 1 => Nat.mod_lt _ (by decide)
theorem oru_lt (f : Nat → Nat) (hf : ∀ i, f i < 4294967296) (i : Nat) : ∀ k, oru f i k < 4294967296
  | 0 => by show 0 < 4294967296; decide
  | k + 1 => Ct.or_lt _ _ (oru_lt f hf i k) (hf _)
theorem ord_lt (f : Nat → Nat) (hf : ∀ i, f i < 4294967296) (m : Nat) : ∀ k, ord f m k < 4294967296
  | 0 => by show 0 < 4294967296; decide
  | k + 1 => Ct.or_lt _ _ (ord_lt f hf m k) (hf _)
theorem oru_shift (f : Nat → Nat) (i : Nat) : ∀ k, oru f i (k + 1) = f i ||| oru f (i + 1) k
  | 0 => by show 0 ||| f (i + 0) = f i ||| 0; simp
  | k + 1 => by
    rw [oru_succ f i (k + 1), oru_shift f i k, oru_succ f (i + 1) k, Nat.or_assoc, show i + (k + 1) = i + 1 + k by omega]
theorem ord_eq (f : Nat → Nat) (m : Nat) : ∀ j, j ≤ m → ord f m j = oru f (m - j) j
  | 0, _ => rfl
  | j + 1, h => by
    show ord f m j ||| f (m - 1 - j) = _
    rw [ord_eq f m j (by omega), oru_shift, Nat.or_comm, show m - (j + 1) + 1 = m - j by omega, show m - 1 - j = m - (j + 1) by omega]
/-- One pass upwards. -/
theorem st_up (gg : Int → Int → Int) (late : Bool) (ac : Nat → Int) (f : Nat → Int) (n : Nat) (ws : List Int) (hl : ws.length = n) (hw : ∀ j, j < n → ws.getD j 0 = f j) (h0 : ac 0 = 0) (hs : ∀ k, k < n → ac (k + 1) = gg (ac k) (f k)) :
    ∀ k, k ≤ n → (st gg 0 late ws (us k)).1 = ac k ∧ (st gg 0 late ws (us k)).2.length = n ∧ ∀ j, j < n → (st gg 0 late ws (us k)).2.getD j 0 = if j < k then (if late then ac j else ac (j + 1)) else f j
  | 0, _ => ⟨h0.symm, hl, fun j hj => by rw [if_neg (Nat.not_lt_zero j)]; exact hw j hj⟩
  | k + 1, h => by
    obtain ⟨h1, h2, h3⟩ := st_up gg late ac f n ws hl hw h0 hs k (by omega)
    have h4 := h3 k (by omega)
    rw [if_neg (Nat.lt_irrefl k)] at h4
    rw [us_succ, st_snoc, Nat.zero_add, h1, h4, ← hs k (by omega)]
    refine ⟨rfl, by rw [List.length_set]; exact h2, fun j hj => ?_⟩
    show List.getD (List.set _ _ _) _ _ = _
    rw [getD_set _ _ _ _ (by omega)]
    by_cases hjk : j = k
    · subst hjk
      rw [if_pos rfl, if_pos (Nat.lt_succ_self j)]
    · rw [if_neg hjk, h3 j hj]
      by_cases hlt : j < k
      · rw [if_pos hlt, if_pos (show j < k + 1 by omega)]
      · rw [if_neg hlt, if_neg (show ¬ j < k + 1 by omega)]
def pr (n j : Nat) : List Nat := (List.range j).map fun t => n - 1 - t
theorem pr_succ (n j : Nat) : pr n (j + 1) = pr n j ++ [n - 1 - j] := by
  unfold pr
  rw [List.range_succ, List.map_append]
  rfl
theorem ds_pr : ∀ n, ds n = pr n n
  | 0 => rfl
  | n + 1 => by
    show n :: ds n = _
    rw [ds_pr n]
    unfold pr
    rw [List.range_succ_eq_map, List.map_cons, List.map_map]
    have h : (List.range n).map (fun t => n - 1 - t) = (List.range n).map ((fun t => n + 1 - 1 - t) ∘ Nat.succ) := List.map_congr_left fun t ht => by
      show n - 1 - t = n + 1 - 1 - (t + 1)
      omega
    rw [h]
    rfl
/-- One pass downwards. -/
theorem st_down (gg : Int → Int → Int) (ac : Nat → Int) (f : Nat → Int) (n : Nat) (ws : List Int) (hl : ws.length = n) (hw : ∀ j, j < n → ws.getD j 0 = f j) (h0 : ac 0 = 0) (hs : ∀ k, k < n → ac (k + 1) = gg (ac k) (f (n - 1 - k))) :
    ∀ k, k ≤ n → (st gg 0 false ws (pr n k)).1 = ac k ∧ (st gg 0 false ws (pr n k)).2.length = n ∧ ∀ j, j < n → (st gg 0 false ws (pr n k)).2.getD j 0 = if n - k ≤ j then ac (n - j) else f j
  | 0, _ => ⟨h0.symm, hl, fun j hj => by rw [if_neg (by omega)]; exact hw j hj⟩
  | k + 1, h => by
    obtain ⟨h1, h2, h3⟩ := st_down gg ac f n ws hl hw h0 hs k (by omega)
    have h4 := h3 (n - 1 - k) (by omega)
    rw [if_neg (by omega)] at h4
    rw [pr_succ, st_snoc, Nat.zero_add, h1, h4, ← hs k (by omega)]
    refine ⟨rfl, by rw [List.length_set]; exact h2, fun j hj => ?_⟩
    show List.getD (List.set _ _ _) _ _ = _
    rw [getD_set _ _ _ _ (by omega)]
    by_cases hjk : j = n - 1 - k
    · subst hjk
      rw [if_pos rfl, if_pos (show n - (k + 1) ≤ n - 1 - k by omega), show n - (n - 1 - k) = k + 1 by omega]
      simp
    · rw [if_neg hjk, h3 j hj]
      by_cases hlt : n - k ≤ j
      · rw [if_pos hlt, if_pos (show n - (k + 1) ≤ j by omega)]
      · rw [if_neg hlt, if_neg (show ¬ n - (k + 1) ≤ j by omega)]
/-- What the four kinds leave. -/
theorem kind0 (n : Nat) (f g : Nat → Nat) : (st Ct.Add 0 false (la n 0 f g) (us n)).1 = (ad f n : Nat) ∧ ∀ j, j < n → (st Ct.Add 0 false (la n 0 f g) (us n)).2.getD j 0 = (ad f (j + 1) : Nat) := by
  obtain ⟨h1, h2, h3⟩ := st_up Ct.Add false (fun k => (ad f k : Nat)) (fun k => (f k : Int)) n (la n 0 f g) (la_len n 0 f g) (fun j hj => by rw [la_get, if_pos hj]) rfl (fun k _ => by rw [Ct.add_nat]; rfl) n (Nat.le_refl n)
  exact ⟨h1, fun j hj => by rw [h3 j hj, if_pos hj]; rfl⟩
theorem kind1 (n : Nat) (f g : Nat → Nat) : (st Ct.Add 0 true (la n 0 f g) (us n)).1 = (ad f n : Nat) ∧ ∀ j, j < n → (st Ct.Add 0 true (la n 0 f g) (us n)).2.getD j 0 = (ad f j : Nat) := by
  obtain ⟨h1, h2, h3⟩ := st_up Ct.Add true (fun k => (ad f k : Nat)) (fun k => (f k : Int)) n (la n 0 f g) (la_len n 0 f g) (fun j hj => by rw [la_get, if_pos hj]) rfl (fun k _ => by rw [Ct.add_nat]; rfl) n (Nat.le_refl n)
  exact ⟨h1, fun j hj => by rw [h3 j hj, if_pos hj]; rfl⟩
theorem kind2 (n : Nat) (f g : Nat → Nat) (hf : ∀ i, f i < 4294967296) : (st Ct.Or 0 false (la n 0 f g) (us n)).1 = (oru f 0 n : Nat) ∧ ∀ j, j < n → (st Ct.Or 0 false (la n 0 f g) (us n)).2.getD j 0 = (oru f 0 (j + 1) : Nat) := by
  obtain ⟨h1, h2, h3⟩ := st_up Ct.Or false (fun k => (oru f 0 k : Nat)) (fun k => (f k : Int)) n (la n 0 f g) (la_len n 0 f g) (fun j hj => by rw [la_get, if_pos hj]) rfl (fun k _ => by rw [Ct.or_nat _ _ (oru_lt f hf 0 k) (hf k), oru_succ, Nat.zero_add]) n (Nat.le_refl n)
  exact ⟨h1, fun j hj => by rw [h3 j hj, if_pos hj]; rfl⟩
theorem kind3 (n : Nat) (f g : Nat → Nat) (hf : ∀ i, f i < 4294967296) : (st Ct.Or 0 false (la n 0 f g) (ds n)).1 = (oru f 0 n : Nat) ∧ ∀ j, j < n → (st Ct.Or 0 false (la n 0 f g) (ds n)).2.getD j 0 = (oru f j (n - j) : Nat) := by
  rw [ds_pr]
  obtain ⟨h1, h2, h3⟩ := st_down Ct.Or (fun k => (ord f n k : Nat)) (fun k => (f k : Int)) n (la n 0 f g) (la_len n 0 f g) (fun j hj => by rw [la_get, if_pos hj]) rfl (fun k _ => by rw [Ct.or_nat _ _ (ord_lt f hf n k) (hf _)]; rfl) n (Nat.le_refl n)
  refine ⟨?_, fun j hj => ?_⟩
  · rw [h1, ord_eq f n n (Nat.le_refl n), Nat.sub_self]
  · rw [h3 j hj, if_pos (by omega)]
    show ((ord f n (n - j) : Nat) : Int) = _
    rw [ord_eq f n (n - j) (by omega), show n - (n - j) = j by omega]
end Sa
end Go.Proofs.Ytdakbejppnijdaa
