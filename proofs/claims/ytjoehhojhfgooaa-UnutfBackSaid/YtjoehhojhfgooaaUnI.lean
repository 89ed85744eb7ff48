/- unutf: the masks and the bytes of a point are UTF-8's; what Encode answers, and leaves in an arena's words. Plain. No condition. -/
import Derived.Test.YtjoehhojhfgooaaUtN
import Derived.Test.YtjoehhojhfgooaaUnE
import Derived.Test.YtjoehhojhfgooaaPkQ
namespace Go.Proofs.Ytjoehhojhfgooaa
namespace Un
open Go.RowKit
theorem sh_mask (x : Nat) (hx : x < 2097152) (k : Nat) (hk : k < 4) : sh x k = Ct.Mask (decide (k < Ut.blen x)) := by
  have l1 : Ct.Lt (x : Int) 128 = Ct.Mask (decide (x < 128)) := Ct.lt_nat x 128 (by omega) (by decide)
  have l2 : Ct.Lt (x : Int) 2048 = Ct.Mask (decide (x < 2048)) := Ct.lt_nat x 2048 (by omega) (by decide)
  have l3 : Ct.Lt (x : Int) 65536 = Ct.Mask (decide (x < 65536)) := Ct.lt_nat x 65536 (by omega) (by decide)
  unfold sh Ut.blen
  rw [l1, l2, l3, Ct.not_mask, Ct.not_mask, Ct.not_mask]
  by_cases h1 : x < 128
  · rcases (by omega : k = 0 ∨ k = 1 ∨ k = 2 ∨ k = 3) with rfl | rfl | rfl | rfl <;> simp [h1] <;> congr 1 <;> simp <;> omega
  · by_cases h2 : x < 2048
    · rcases (by omega : k = 0 ∨ k = 1 ∨ k = 2 ∨ k = 3) with rfl | rfl | rfl | rfl <;> simp [h1, h2] <;> congr 1 <;> simp <;> omega
    · by_cases h3 : x < 65536
      · rcases (by omega : k = 0 ∨ k = 1 ∨ k = 2 ∨ k = 3) with rfl | rfl | rfl | rfl <;> simp [h1, h2, h3]
      · rcases (by omega : k = 0 ∨ k = 1 ∨ k = 2 ∨ k = 3) with rfl | rfl | rfl | rfl <;> simp [h1, h2, h3]
def ldN (u : Nat) : Nat := if u = 2 then 192 else if u = 3 then 224 else if u = 4 then 240 else 0
theorem ld_nat (u : Nat) : ld u = (ldN u : Int) := by
  unfold ld ldN
  split
  · rfl
  · split
    · rfl
    · split <;> rfl
def tlN (x u k : Nat) : Nat := if 0 < k then (x / 64 ^ (u - 1 - k) &&& 63) ||| 128 else x / 64 ^ (u - 1 - k)
def obN (x u k : Nat) : Nat := if k < u then (if k = 0 ∧ 1 < u then tlN x u 0 ||| ldN u else tlN x u k) else 0
theorem div_lt {x : Nat} (hx : x < 2097152) (d : Nat) : x / d < 2097152 := Nat.lt_of_le_of_lt (Nat.div_le_self _ _) hx
theorem tl_nat (x : Nat) (hx : x < 2097152) (u k : Nat) (hu : u ≤ 4) (hk : k < u) : tl x u k = (tlN x u k : Int) ∧ tlN x u k < 4294967296 := by
  have e : (6 : Int) * ((u : Int) - 1 - (k : Int)) = ((6 * (u - 1 - k) : Nat) : Int) := by omega
  have hs : Ct.Shr (x : Int) (6 * ((u : Int) - 1 - (k : Int))) = ((x / 64 ^ (u - 1 - k) : Nat) : Int) := by
    rw [e, Pk.shr_nat _ _ (by omega), Nat.pow_mul]
  have hd := div_lt hx (64 ^ (u - 1 - k))
  unfold tl tlN
  rw [hs]
  by_cases h : 0 < k
  · rw [if_pos h, if_pos h]
    have h1 := Ct.and_lt (x / 64 ^ (u - 1 - k)) 63 (by omega)
    refine ⟨?_, Ct.or_lt _ _ h1 (by decide)⟩
    rw [show (63 : Int) = ((63 : Nat) : Int) from rfl, Ct.and_nat _ _ (by omega) (by decide), show (128 : Int) = ((128 : Nat) : Int) from rfl, Ct.or_nat _ _ h1 (by decide)]
  · rw [if_neg h, if_neg h]
    exact ⟨rfl, by omega⟩
theorem ob_nat (x : Nat) (hx : x < 2097152) (u k : Nat) (hu : u ≤ 4) : ob x u k = (obN x u k : Int) ∧ obN x u k < 4294967296 := by
  unfold ob obN
  by_cases h : k < u
  · rw [if_pos h, if_pos h]
    by_cases h2 : k = 0 ∧ 1 < u
    · rw [if_pos h2, if_pos h2]
      obtain ⟨h3, h4⟩ := tl_nat x hx u 0 hu (by omega)
      have h5 : ldN u < 4294967296 := by
        unfold ldN
        split
        · decide
        · split
          · decide
          · split <;> decide
      rw [h3, ld_nat, Ct.or_nat _ _ h4 h5]
      exact ⟨rfl, Ct.or_lt _ _ h4 h5⟩
    · rw [if_neg h2, if_neg h2]
      exact tl_nat x hx u k hu h
  · rw [if_neg h, if_neg h]
    exact ⟨rfl, by decide⟩
theorem byt_ob (x : Nat) (hx : x < 2097152) (k : Nat) (_hk : k < 4) : byt x k = (obN x (Ut.blen x) k : Int) := by
  have o1 := ob_nat x hx 1 k (by decide)
  have o2 := ob_nat x hx 2 k (by decide)
  have o3 := ob_nat x hx 3 k (by decide)
  have o4 := ob_nat x hx 4 k (by decide)
  unfold byt
  rw [gt_succ, gt_succ, gt_succ, gt_succ, gt_zero, sh_mask x hx 0 (by decide), sh_mask x hx 1 (by decide), sh_mask x hx 2 (by decide), sh_mask x hx 3 (by decide), o1.1, o2.1, o3.1, o4.1]
  rw [show (0 : Int) = ((0 : Nat) : Int) from rfl, Ut.sel_int _ _ _ o1.2 (by decide), Ut.sel_int _ _ _ o2.2 (by split <;> first | exact o1.2 | decide)]
  rw [Ut.sel_int _ _ _ o3.2 (by split; exact o2.2; split; exact o1.2; decide), Ut.sel_int _ _ _ o4.2 (by split; exact o3.2; split; exact o2.2; split; exact o1.2; decide)]
  congr 1
  unfold Ut.blen
  by_cases h1 : x < 128
  · simp [h1]
  · by_cases h2 : x < 2048
    · simp [h1, h2]
    · by_cases h3 : x < 65536
      · simp [h1, h2, h3]
      · simp [h1, h2, h3]
theorem or_128 : ∀ a, a < 64 → a ||| 128 = 128 + a := by decide
theorem or_192 : ∀ a, a < 32 → a ||| 192 = 192 + a := by decide
theorem or_224 : ∀ a, a < 16 → a ||| 224 = 224 + a := by decide
theorem or_240 : ∀ a, a < 8 → a ||| 240 = 240 + a := by decide
theorem tail_nat (y : Nat) : (y &&& 63) ||| 128 = 128 + y % 64 := by
  rw [show (63 : Nat) = 2 ^ 6 - 1 from rfl, Nat.and_two_pow_sub_one_eq_mod, show (2 : Nat) ^ 6 = 64 from rfl]
  exact or_128 _ (Nat.mod_lt _ (by decide))
theorem obN_bat (x : Nat) (hx : x < 2097152) (k : Nat) (hk : k < 4) : obN x (Ut.blen x) k = if k < Ut.blen x then bat x k else 0 := by
  unfold obN
  by_cases hkb : k < Ut.blen x
  · rw [if_pos hkb, if_pos hkb]
    revert hkb
    unfold Ut.blen bat tlN ldN
    by_cases h1 : x < 128
    · simp only [if_pos h1]
      intro hkb
      obtain rfl : k = 0 := by omega
      simp
    · by_cases h2 : x < 2048
      · simp only [if_neg h1, if_pos h2]
        intro hkb
        rcases (by omega : k = 0 ∨ k = 1) with rfl | rfl
        · simp [or_192 (x / 64) (by omega)]
        · simp [tail_nat]
      · by_cases h3 : x < 65536
        · simp only [if_neg h1, if_neg h2, if_pos h3]
          intro hkb
          rcases (by omega : k = 0 ∨ k = 1 ∨ k = 2) with rfl | rfl | rfl
          · simp [or_224 (x / 4096) (by omega)]
          · simp [tail_nat]
          · simp [tail_nat]
        · simp only [if_neg h1, if_neg h2, if_neg h3]
          intro hkb
          rcases (by omega : k = 0 ∨ k = 1 ∨ k = 2 ∨ k = 3) with rfl | rfl | rfl | rfl
          · simp [or_240 (x / 262144) (by omega)]; omega
          · simp [tail_nat]
          · simp [tail_nat]
          · simp [tail_nat]
  · rw [if_neg hkb, if_neg hkb]
theorem byt_nat (x : Nat) (hx : x < 2097152) (k : Nat) (hk : k < 4) : byt x k = ((if k < Ut.blen x then bat x k else 0 : Nat) : Int) := by
  rw [byt_ob x hx k hk, obN_bat x hx k hk]
theorem blen_le (x : Nat) : 1 ≤ Ut.blen x ∧ Ut.blen x ≤ 4 := by
  unfold Ut.blen
  split
  · omega
  · split
    · omega
    · split <;> omega
theorem bat_lt (x : Nat) (hx : x < 2097152) (k : Nat) : bat x k < 256 := by
  unfold bat
  split
  · omega
  · split
    · split <;> omega
    · split
      · split
        · omega
        · split <;> omega
      · split
        · omega
        · split
          · omega
          · split <;> omega
end Un
namespace Un
theorem in4_get (b s : Nat → Int) (y : Int) (a st : Nat) (ws : List Int) (h1 : a + 4 ≤ st) (h2 : st + 4 ≤ ws.length) : ∀ K, K ≤ 4 →
    (∀ k, k < K → (in4 b s y a st ws K).getD (a + k) 0 = b k) ∧ (∀ k, k < K → (in4 b s y a st ws K).getD (st + k) 0 = Ct.And y (s k)) ∧ ∀ r, (r < a ∨ a + 4 ≤ r) → (r < st ∨ st + 4 ≤ r) → (in4 b s y a st ws K).getD r 0 = ws.getD r 0
  | 0, _ => ⟨fun k hk => absurd hk (Nat.not_lt_zero k), fun k hk => absurd hk (Nat.not_lt_zero k), fun r _ _ => by rw [in4_zero]⟩
  | K + 1, hK => by
    obtain ⟨i1, i2, i3⟩ := in4_get b s y a st ws h1 h2 K (by omega)
    have hl := in4_len b s y a st ws K
    have hg : ∀ r, (in4 b s y a st ws (K + 1)).getD r 0 = if r = st + K then Ct.And y (s K) else if r = a + K then b K else (in4 b s y a st ws K).getD r 0 := fun r => by
      rw [in4_succ _ _ _ _ _ _ _ _ rfl, Ut.set_get _ _ _ _ (by rw [List.length_set, hl]; omega), Ut.set_get _ _ _ _ (by rw [hl]; omega)]
    refine ⟨fun k hk => ?_, fun k hk => ?_, fun r hr hr2 => ?_⟩
    · rw [hg, if_neg (by omega)]
      by_cases e : k = K
      · rw [if_pos (by omega), e]
      · rw [if_neg (by omega)]
        exact i1 k (by omega)
    · rw [hg]
      by_cases e : k = K
      · rw [if_pos (by omega), e]
      · rw [if_neg (by omega), if_neg (by omega)]
        exact i2 k (by omega)
    · rw [hg, if_neg (by omega), if_neg (by omega)]
      exact i3 r hr hr2
/-- Of byte b: its point's number, and its number in there. -/
def kb (pf kf : Nat → Nat) (b : Nat) : Bool := kf (b / 4) % 2 == 1 && decide (b % 4 < Ut.blen (pf (b / 4) % 2097152))
def bb (pf : Nat → Nat) (b : Nat) : Nat := if b % 4 < Ut.blen (pf (b / 4) % 2097152) then bat (pf (b / 4) % 2097152) (b % 4) else 0
theorem point_nat (x : Nat) (hx : x < 4294967296) : Ct.And (x : Int) 2097151 = ((x % 2097152 : Nat) : Int) := by
  rw [show (2097151 : Int) = ((2097151 : Nat) : Int) from rfl, Ct.and_nat _ _ hx (by decide), show (2097151 : Nat) = 2 ^ 21 - 1 from rfl, Nat.and_two_pow_sub_one_eq_mod]
theorem four_div (i k : Nat) (hk : k < 4) : (4 * i + k) / 4 = i ∧ (4 * i + k) % 4 = k := by omega
theorem sp_get (pt kl n top : Nat) (ws : List Int) (pf kf : Nat → Nat) (hpf : ∀ i, pf i < 4294967296) (hkf : ∀ i, kf i < 4294967296) (h1 : pt + n ≤ top) (h2 : kl + n ≤ top) (hl : top + 8 * n ≤ ws.length)
    (hp : ∀ i, i < n → ws.getD (pt + i) 0 = (pf i : Int)) (hk : ∀ i, i < n → ws.getD (kl + i) 0 = (kf i : Int)) : ∀ i, i ≤ n →
    (∀ b, b < 4 * i → (sp pt kl top (top + 4 * n) ws i).getD (top + b) 0 = (bb pf b : Int)) ∧ (∀ b, b < 4 * i → (sp pt kl top (top + 4 * n) ws i).getD (top + 4 * n + b) 0 = ((if kb pf kf b then 4294967295 else 0 : Nat) : Int)) ∧
    ∀ r, r < top → (sp pt kl top (top + 4 * n) ws i).getD r 0 = ws.getD r 0
  | 0, _ => ⟨fun b hb => absurd hb (Nat.not_lt_zero b), fun b hb => absurd hb (Nat.not_lt_zero b), fun r _ => by rw [sp_zero]⟩
  | i + 1, hi => by
    obtain ⟨i1, i2, i3⟩ := sp_get pt kl n top ws pf kf hpf hkf h1 h2 hl hp hk i (by omega)
    have hln := sp_len pt kl top (top + 4 * n) ws i
    obtain ⟨V, hV⟩ : ∃ V, sp pt kl top (top + 4 * n) ws i = V := ⟨_, rfl⟩
    rw [hV] at i1 i2 i3 hln
    have hx : sx pt i V = ((pf i % 2097152 : Nat) : Int) := by
      unfold sx
      rw [i3 _ (by omega), hp i (by omega), point_nat _ (hpf i)]
    have hy : sy kl i V = Ct.Mask (kf i % 2 == 1) := by
      unfold sy
      rw [i3 _ (by omega), hk i (by omega), Pk.sub_bit _ (hkf i)]
    have hxl : pf i % 2097152 < 2097152 := Nat.mod_lt _ (by decide)
    rw [sp_succ _ _ _ _ _ _ _ hV, hx, hy]
    obtain ⟨j1, j2, j3⟩ := in4_get (byt ((pf i % 2097152 : Nat) : Int)) (sh ((pf i % 2097152 : Nat) : Int)) (Ct.Mask (kf i % 2 == 1)) (top + 4 * i) (top + 4 * n + 4 * i) V (by omega) (by omega) 4 (Nat.le_refl _)
    refine ⟨fun b hb => ?_, fun b hb => ?_, fun r hr => ?_⟩
    · by_cases hbi : b < 4 * i
      · rw [j3 _ (by omega) (by omega)]
        exact i1 b hbi
      · obtain ⟨k, rfl⟩ : ∃ k, b = 4 * i + k := ⟨b - 4 * i, by omega⟩
        have hk4 : k < 4 := by omega
        obtain ⟨e1, e2⟩ := four_div i k hk4
        rw [← Nat.add_assoc, j1 k hk4, byt_nat _ hxl k hk4]
        unfold bb
        rw [e1, e2]
    · by_cases hbi : b < 4 * i
      · rw [j3 _ (by omega) (by omega)]
        exact i2 b hbi
      · obtain ⟨k, rfl⟩ : ∃ k, b = 4 * i + k := ⟨b - 4 * i, by omega⟩
        have hk4 : k < 4 := by omega
        obtain ⟨e1, e2⟩ := four_div i k hk4
        rw [← Nat.add_assoc, j2 k hk4, sh_mask _ hxl k hk4, Ut.and_masks, Ct.mask_nat]
        unfold kb
        rw [e1, e2]
    · rw [j3 _ (by omega) (by omega)]
      exact i3 r hr
theorem al0 (n top : Nat) : Pk.AL (top + 4 * n) (top + 8 * n) (fun _ => top) 1 0 = top + 4 * n := Pk.AL_keep _ _ _ _
theorem al1 (n top : Nat) : Pk.AL (top + 4 * n) (top + 8 * n) (fun _ => top) 1 1 = top := Pk.AL_lane _ _ _ _ 0 (by decide)
theorem al2 (n top : Nat) : Pk.AL (top + 4 * n) (top + 8 * n) (fun _ => top) 1 2 = top + 8 * n := Pk.AL_far _ _ _ _
theorem enc_apart (n top : Nat) : Pk.Apart (4 * n) (top + 8 * n + 4 * n) (Pk.AL (top + 4 * n) (top + 8 * n) (fun _ => top) 1) 3 where
  fit j hj := by
    rcases (by omega : j = 0 ∨ j = 1 ∨ j = 2) with rfl | rfl | rfl
    · rw [al0]; omega
    · rw [al1]; omega
    · rw [al2]; omega
  ne j j' q q' hj hj' hq hq' h := by
    rcases (by omega : j = 0 ∨ j = 1 ∨ j = 2) with rfl | rfl | rfl <;> rcases (by omega : j' = 0 ∨ j' = 1 ∨ j' = 2) with rfl | rfl | rfl <;> simp only [al0, al1, al2] at h <;> omega
/-- The bytes of the kept ones of i points. -/
def wl (pf kf : Nat → Nat) : Nat → List Nat
  | 0 => []
  | i + 1 => wl pf kf i ++ (if kf i % 2 = 1 then (List.range (Ut.blen (pf i % 2097152))).map (bat (pf i % 2097152)) else [])
theorem wl_zero (pf kf : Nat → Nat) : wl pf kf 0 = [] := rfl
theorem wl_succ (pf kf : Nat → Nat) (i : Nat) : wl pf kf (i + 1) = wl pf kf i ++ (if kf i % 2 = 1 then (List.range (Ut.blen (pf i % 2097152))).map (bat (pf i % 2097152)) else []) := rfl
theorem kb_at (pf kf : Nat → Nat) (i k : Nat) (hk : k < 4) : kb pf kf (4 * i + k) = (kf i % 2 == 1 && decide (k < Ut.blen (pf i % 2097152))) := by
  obtain ⟨e1, e2⟩ := four_div i k hk
  unfold kb
  rw [e1, e2]
theorem kc_in (pf kf : Nat → Nat) (i c : Nat) (hc : Pk.kc (kb pf kf) (4 * i) = c) : ∀ k, k ≤ 4 → Pk.kc (kb pf kf) (4 * i + k) = c + if kf i % 2 = 1 then min k (Ut.blen (pf i % 2097152)) else 0
  | 0, _ => by rw [Nat.add_zero, hc]; split <;> simp
  | k + 1, hk => by
    rw [← Nat.add_assoc, Pk.kc_succ, kc_in pf kf i c hc k (by omega), kb_at pf kf i k (by omega)]
    by_cases h : kf i % 2 = 1
    · rw [if_pos h, if_pos h]
      by_cases h2 : k < Ut.blen (pf i % 2097152)
      · simp [h, h2]; omega
      · simp [h, h2]; omega
    · rw [if_neg h, if_neg h]
      simp [h]
theorem wl_len (pf kf : Nat → Nat) : ∀ i, (wl pf kf i).length = Pk.kc (kb pf kf) (4 * i)
  | 0 => rfl
  | i + 1 => by
    have ih := wl_len pf kf i
    have := blen_le (pf i % 2097152)
    rw [wl_succ, List.length_append, show 4 * (i + 1) = 4 * i + 4 by omega, kc_in pf kf i _ ih.symm 4 (Nat.le_refl _)]
    split
    · simp; omega
    · simp
theorem wl_get (pf kf : Nat → Nat) : ∀ n i k, i < n → k < 4 → kb pf kf (4 * i + k) = true → (wl pf kf n).getD (Pk.kc (kb pf kf) (4 * i + k)) 0 = bat (pf i % 2097152) k
  | 0, i, k, hi, _, _ => absurd hi (Nat.not_lt_zero i)
  | n + 1, i, k, hi, hk, hb => by
    rw [wl_succ, List.getD_eq_getElem?_getD]
    by_cases hin : i < n
    · have ih := wl_get pf kf n i k hin hk hb
      have hlt : Pk.kc (kb pf kf) (4 * i + k) < (wl pf kf n).length := by
        rw [wl_len]
        exact Pk.kc_lt _ hb (by omega)
      rw [List.getElem?_append_left hlt, ← List.getD_eq_getElem?_getD]
      exact ih
    · obtain rfl : i = n := by omega
      rw [kb_at pf kf i k hk] at hb
      have h1 : kf i % 2 = 1 := by
        by_cases h : kf i % 2 = 1
        · exact h
        · simp [h] at hb
      have h2 : k < Ut.blen (pf i % 2097152) := by
        by_cases h : k < Ut.blen (pf i % 2097152)
        · exact h
        · simp [h] at hb
      have hkc := kc_in pf kf i _ (wl_len pf kf i).symm k (by omega)
      rw [if_pos h1] at hkc ⊢
      rw [hkc, List.getElem?_append_right (by omega), show (wl pf kf i).length + min k (Ut.blen (pf i % 2097152)) - (wl pf kf i).length = k by omega, List.getElem?_map, List.getElem?_range h2]
      rfl
end Un
namespace Un
theorem fl_get (out to : Nat) (ov : Int) (ws : List Int) (m : Nat) (h1 : out + m ≤ to) (h2 : out + m ≤ ws.length) : ∀ k, k ≤ m → ∀ r, (fl out to ov ws k).getD r 0 = if out ≤ r ∧ r < out + k then Ct.And (Ct.Not ov) (ws.getD (to + (r - out)) 0) else ws.getD r 0
  | 0, _, r => by rw [fl_zero, if_neg (by omega)]
  | k + 1, hk, r => by
    have ih := fl_get out to ov ws m h1 h2 k (by omega)
    rw [fl_succ _ _ _ _ _ _ rfl, Ut.set_get _ _ _ _ (by rw [fl_len]; omega), ih (to + k), ih r]
    by_cases h : r = out + k
    · rw [if_pos h, if_neg (by omega), if_pos (by omega), h, Nat.add_sub_cancel_left]
    · rw [if_neg h]
      by_cases h3 : out ≤ r ∧ r < out + k
      · rw [if_pos h3, if_pos (by omega)]
      · rw [if_neg h3, if_neg (by omega)]
theorem getD_out (l : List Nat) (q : Nat) (h : l.length ≤ q) : l.getD q 0 = 0 := by
  rw [List.getD_eq_getElem?_getD, List.getElem?_eq_none h]
  rfl
theorem kc_find (kb : Nat → Bool) (q : Nat) : ∀ n, q < Pk.kc kb n → ∃ i, i < n ∧ kb i = true ∧ Pk.kc kb i = q
  | 0, h => absurd h (Nat.not_lt_zero q)
  | n + 1, h => by
    rw [Pk.kc_succ] at h
    by_cases h1 : q < Pk.kc kb n
    · obtain ⟨i, h2, h3⟩ := kc_find kb q n h1
      exact ⟨i, by omega, h3⟩
    · cases hb : kb n
      · rw [hb] at h
        simp at h
        omega
      · rw [hb, if_pos rfl] at h
        exact ⟨n, Nat.lt_succ_self n, hb, by omega⟩
theorem bb_lt (pf : Nat → Nat) (b : Nat) : bb pf b < 4294967296 := by
  unfold bb
  split
  · have := bat_lt (pf (b / 4) % 2097152) (Nat.mod_lt _ (by decide)) (b % 4)
    omega
  · decide
theorem bat_byte (pf kf : Nat → Nat) : ∀ i, ∀ x ∈ wl pf kf i, x < 256
  | 0, x, h => by rw [wl_zero] at h; cases h
  | i + 1, x, h => by
    rw [wl_succ, List.mem_append] at h
    rcases h with h | h
    · exact bat_byte pf kf i x h
    · split at h
      · rw [List.mem_map] at h
        obtain ⟨k, _, rfl⟩ := h
        exact bat_lt _ (Nat.mod_lt _ (by decide)) k
      · cases h
theorem wl_bound (pf kf : Nat → Nat) : ∀ i, (wl pf kf i).length ≤ 4 * i
  | 0 => by rw [wl_zero]; simp
  | i + 1 => by
    have ih := wl_bound pf kf i
    have := blen_le (pf i % 2097152)
    rw [wl_succ, List.length_append]
    split
    · simp; omega
    · simp; omega
set_option maxRecDepth 10000 in
theorem enc_plain (pt kl n out most top : Nat) (ws : List Int) (pf kf : Nat → Nat) (hpf : ∀ i, pf i < 4294967296) (hkf : ∀ i, kf i < 4294967296) (h1 : pt + n ≤ top) (h2 : kl + n ≤ top) (h3 : out + most ≤ top) (hl : top + 12 * n ≤ ws.length) (hn : n ≤ 166)
    (hp : ∀ i, i < n → ws.getD (pt + i) 0 = (pf i : Int)) (hk : ∀ i, i < n → ws.getD (kl + i) 0 = (kf i : Int)) (hm : most < 4294967296) (hm4 : most ≤ 4 * n) :
    siz pt kl n top ws = ((wl pf kf n).length : Int) ∧ ovr pt kl n most top ws = Ct.Mask (decide (most < (wl pf kf n).length)) ∧
    ∀ r, r < top → (fin pt kl n out most top ws).getD r 0 = if out ≤ r ∧ r < out + most then ((if (wl pf kf n).length ≤ most then (wl pf kf n).getD (r - out) 0 else 0 : Nat) : Int) else ws.getD r 0 := by
  have hw1l : (w1 n top ws).length = ws.length := gvw_len _ _ _
  have hw1 : ∀ r, r < top → (w1 n top ws).getD r 0 = ws.getD r 0 := fun r hr => by
    unfold w1
    rw [Pk.gvw_at _ _ hl _ (by omega), if_neg (by omega)]
  obtain ⟨g1, g2, g3⟩ := sp_get pt kl n top (w1 n top ws) pf kf hpf hkf h1 h2 (by omega) (fun i hi => by rw [hw1 _ (by omega)]; exact hp i hi) (fun i hi => by rw [hw1 _ (by omega)]; exact hk i hi) n (Nat.le_refl _)
  have hw2l : (w2 pt kl n top ws).length = ws.length := by unfold w2; rw [sp_len, hw1l]
  obtain ⟨V, hV⟩ : ∃ V, w2 pt kl n top ws = V := ⟨_, rfl⟩
  have hV' : sp pt kl top (top + 4 * n) (w1 n top ws) n = V := hV
  rw [hV'] at g1 g2 g3
  rw [hV] at hw2l
  have hwb := wl_bound pf kf n
  obtain ⟨p1, p2, p3⟩ := Pk.pk_out (top + 4 * n) (4 * n) (top + 8 * n) 1 (fun _ => top) V (fun j i => if j = 0 then (if kb pf kf i then 4294967295 else 0) else bb pf i) (fun j i => by
    split
    · split <;> decide
    · exact bb_lt pf i) (by omega) (by omega) (enc_apart n top) (fun j hj i hi => by
    rcases (by omega : j = 0 ∨ j = 1) with rfl | rfl
    · rw [al0, if_pos rfl]; exact g2 i hi
    · rw [al1, if_neg (by decide)]; exact g1 i hi) (kb pf kf) (fun i => by
    rw [if_pos rfl]
    cases kb pf kf i <;> decide)
  have hlen := wl_len pf kf n
  have hsiz : siz pt kl n top ws = ((wl pf kf n).length : Int) := by
    unfold siz
    rw [hV, p1, hlen]
  have hovr : ovr pt kl n most top ws = Ct.Mask (decide (most < (wl pf kf n).length)) := by
    unfold ovr
    rw [hsiz, Ct.lt_nat _ _ hm (by omega)]
  have hq : ∀ q, q < 4 * n → (w3 pt kl n top ws).getD (top + q) 0 = ((wl pf kf n).getD q 0 : Int) := fun q hq => by
    unfold w3
    rw [hV]
    obtain ⟨q1, q2⟩ := p2 1 (by decide)
    rw [al1] at q1 q2
    by_cases hql : q < (wl pf kf n).length
    · rw [hlen] at hql
      obtain ⟨b, hb, hkb, rfl⟩ := kc_find (kb pf kf) q (4 * n) hql
      rw [q1 b hb hkb]
      have hb4 : 4 * (b / 4) + b % 4 = b := by omega
      have := wl_get pf kf n (b / 4) (b % 4) (by omega) (by omega) (by rw [hb4]; exact hkb)
      rw [hb4] at this
      rw [this]
      unfold Pk.VV
      rw [if_neg (by decide), if_neg (by decide)]
      show ((bb pf b : Nat) : Int) = _
      unfold bb
      unfold kb at hkb
      rw [if_pos (by
        have h := (Bool.and_eq_true _ _ ▸ hkb).2
        exact of_decide_eq_true h)]
    · rw [q2 q hq (by omega), getD_out _ _ (by omega)]
      rfl
  have hw3l : (w3 pt kl n top ws).length = ws.length := by unfold w3; rw [Pk.out_len, hV, hw2l]
  have hlow : ∀ r, r < top → (w3 pt kl n top ws).getD r 0 = ws.getD r 0 := fun r hr => by
    unfold w3
    rw [hV, p3 r (fun j hj i hi => by
      rcases (by omega : j = 0 ∨ j = 1 ∨ j = 2) with rfl | rfl | rfl
      · rw [al0]; omega
      · rw [al1]; omega
      · rw [al2]; omega), g3 r hr, hw1 r hr]
  refine ⟨hsiz, hovr, fun r hr => ?_⟩
  unfold fin
  rw [Pk.gvw_at _ _ (by rw [fl_len, hw3l]; omega) _ (by omega), if_neg (by omega), fl_get _ _ _ _ most h3 (by rw [hw3l]; omega) most (Nat.le_refl _), hovr, Ct.not_mask]
  by_cases h : out ≤ r ∧ r < out + most
  · have hlt : (wl pf kf n).getD (r - out) 0 < 4294967296 := by
      by_cases hql : r - out < (wl pf kf n).length
      · rw [List.getD_eq_getElem?_getD, List.getElem?_eq_getElem hql]
        have := bat_byte pf kf n _ (List.getElem_mem hql)
        exact Nat.lt_trans this (by decide)
      · rw [getD_out _ _ (by omega)]; decide
    rw [if_pos h, if_pos h, hq _ (by omega), Ut.and_mask _ _ hlt]
    by_cases hfit : (wl pf kf n).length ≤ most
    · rw [if_pos hfit, if_pos (by simp; omega)]
    · rw [if_neg hfit, if_neg (by simp; omega)]
  · rw [if_neg h, if_neg h]
    exact hlow r hr
end Un
end Go.Proofs.Ytjoehhojhfgooaa
