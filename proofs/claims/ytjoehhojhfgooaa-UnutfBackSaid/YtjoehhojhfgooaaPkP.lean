/- Package pack: what is kept stands without gaps. Plain. No condition. -/
import Derived.Test.YtjoehhojhfgooaaPk3
import Derived.Test.YtjoehhojhfgooaaUtQ
namespace Go.Proofs.Ytjoehhojhfgooaa
namespace Pk
/-- How many ahead of i are not kept, and how many are. -/
def gp (kb : Nat → Bool) : Nat → Nat
  | 0 => 0
  | i + 1 => gp kb i + (if kb i then 0 else 1)
def kc (kb : Nat → Bool) : Nat → Nat
  | 0 => 0
  | i + 1 => kc kb i + (if kb i then 1 else 0)
theorem gp_kc (kb : Nat → Bool) : ∀ i, gp kb i + kc kb i = i
  | 0 => rfl
  | i + 1 => by
    have := gp_kc kb i
    unfold gp kc
    cases kb i <;> simp <;> omega
theorem kc_succ (kb : Nat → Bool) (i : Nat) : kc kb (i + 1) = kc kb i + (if kb i then 1 else 0) := rfl
theorem gp_succ (kb : Nat → Bool) (i : Nat) : gp kb (i + 1) = gp kb i + (if kb i then 0 else 1) := rfl
theorem kc_mono (kb : Nat → Bool) (a : Nat) : ∀ d, kc kb a ≤ kc kb (a + d)
  | 0 => Nat.le_refl _
  | d + 1 => by
    have := kc_mono kb a d
    rw [← Nat.add_assoc, kc_succ]
    omega
theorem gp_mono (kb : Nat → Bool) (a : Nat) : ∀ d, gp kb a ≤ gp kb (a + d)
  | 0 => Nat.le_refl _
  | d + 1 => by
    have := gp_mono kb a d
    rw [← Nat.add_assoc, gp_succ]
    omega
theorem kc_lt (kb : Nat → Bool) {a b : Nat} (h : kb a = true) (hab : a < b) : kc kb a < kc kb b := by
  have h1 := kc_mono kb (a + 1) (b - (a + 1))
  rw [show a + 1 + (b - (a + 1)) = b by omega] at h1
  have h2 : kc kb (a + 1) = kc kb a + 1 := by
    show kc kb a + (if kb a then 1 else 0) = _
    rw [if_pos h]
  omega
theorem gp_le (kb : Nat → Bool) {a b : Nat} (hab : a ≤ b) : gp kb a ≤ gp kb b := by
  have h1 := gp_mono kb a (b - a)
  rwa [show a + (b - a) = b by omega] at h1
/-- Where one is behind b bits. -/
def p (kb : Nat → Bool) (b k : Nat) : Nat := kc kb k + 2 ^ b * (gp kb k / 2 ^ b)
def pb (kb : Nat → Bool) (b k : Nat) : Nat := gp kb k / 2 ^ b % 2
theorem p_zero (kb : Nat → Bool) (k : Nat) : p kb 0 k = k := by
  unfold p
  rw [Nat.pow_zero, Nat.div_one, Nat.one_mul]
  have := gp_kc kb k
  omega
theorem p_succ (kb : Nat → Bool) (b k : Nat) : p kb b k = p kb (b + 1) k + 2 ^ b * pb kb b k := by
  unfold p pb
  have h : gp kb k / 2 ^ (b + 1) = gp kb k / 2 ^ b / 2 := by rw [Nat.pow_succ, Nat.div_div_eq_div_mul]
  rw [h, Nat.pow_succ, Nat.mul_assoc, Nat.add_assoc, ← Nat.mul_add]
  congr 2
  omega
theorem p_le (kb : Nat → Bool) (b k : Nat) : p kb b k ≤ k := by
  unfold p
  have h := Nat.mul_div_le (gp kb k) (2 ^ b)
  have := gp_kc kb k
  omega
theorem p_lt (kb : Nat → Bool) (b : Nat) {k k' : Nat} (h : kb k = true) (hk : k < k') : p kb b k < p kb b k' := by
  unfold p
  have h1 := kc_lt kb h hk
  have h2 : gp kb k / 2 ^ b ≤ gp kb k' / 2 ^ b := Nat.div_le_div_right (gp_le kb (Nat.le_of_lt hk))
  have h3 : 2 ^ b * (gp kb k / 2 ^ b) ≤ 2 ^ b * (gp kb k' / 2 ^ b) := Nat.mul_le_mul_left _ h2
  omega
theorem p_end (kb : Nat → Bool) (b k : Nat) (h : k < 2 ^ b) : p kb b k = kc kb k := by
  unfold p
  have := gp_kc kb k
  rw [Nat.div_eq_of_lt (by omega), Nat.mul_zero, Nat.add_zero]
/-- In the midst of a bit: those ahead of t have gone. -/
def P (kb : Nat → Bool) (b t k : Nat) : Nat := if p kb b k < t then p kb (b + 1) k else p kb b k
theorem P_lt (kb : Nat → Bool) (b t : Nat) {k k' : Nat} (h : kb k = true) (hk : k < k') : P kb b t k < P kb b t k' := by
  have h1 := p_lt kb b h hk
  have h2 := p_lt kb (b + 1) h hk
  have h3 := p_succ kb b k
  unfold P
  split
  · split
    · exact h2
    · omega
  · rw [if_neg (by omega)]
    exact h1
theorem P_inj (kb : Nat → Bool) (b t : Nat) {k k' : Nat} (h : kb k = true) (h' : kb k' = true) (he : P kb b t k = P kb b t k') : k = k' := by
  rcases Nat.lt_trichotomy k k' with hl | rfl | hl
  · have := P_lt kb b t h hl; omega
  · rfl
  · have := P_lt kb b t h' hl; omega
theorem P_low (kb : Nat → Bool) (b k t : Nat) (h : t ≤ 2 ^ b) : P kb b t k = p kb b k := by
  unfold P
  split
  · rename_i h1
    have h2 := p_succ kb b k
    have h3 : pb kb b k = 0 := by
      rcases Nat.eq_zero_or_pos (pb kb b k) with h4 | h4
      · exact h4
      · have : 2 ^ b ≤ 2 ^ b * pb kb b k := Nat.le_mul_of_pos_right _ h4
        omega
    rw [h3] at h2
    omega
  · rfl
theorem P_high (kb : Nat → Bool) (b n k : Nat) (h : k < n) : P kb b n k = p kb (b + 1) k := by
  unfold P
  rw [if_pos (Nat.lt_of_le_of_lt (p_le kb b k) h)]
/-! ### words -/
theorem sub_bit (w : Nat) (hw : w < 4294967296) : Ct.Sub 0 (Ct.And w 1) = Ct.Mask (w % 2 == 1) := by
  rw [show (1 : Int) = ((1 : Nat) : Int) from rfl, Ct.and_nat w 1 hw (by decide), show (1 : Nat) = 2 ^ 1 - 1 from rfl, Nat.and_two_pow_sub_one_eq_mod, show (2 : Nat) ^ 1 = 2 from rfl]
  rcases Nat.mod_two_eq_zero_or_one w with h | h <;> rw [h] <;> decide +kernel
theorem shr_nat (w b : Nat) (hb : b ≤ 31) : Ct.Shr w b = ((w / 2 ^ b : Nat) : Int) := by
  unfold Ct.Shr
  rw [if_neg (by omega)]
  split
  · have : b = 0 := by omega
    subst this
    simp
  · rw [Int.toNat_natCast]
    simp
theorem not_and (b : Bool) (x : Nat) (hx : x < 4294967296) : Ct.And (Ct.Not (Ct.Mask b)) x = ((if b then 0 else x : Nat) : Int) := by
  rw [Ct.not_mask, Ut.and_mask _ _ hx]
  cases b <;> rfl
/-! ### lanes -/
/-- Lanes that have no words in common, and are within. -/
structure Apart (n len : Nat) (A : Nat → Nat) (M : Nat) : Prop where
  fit : ∀ j, j < M → A j + n ≤ len
  ne : ∀ j j' q q', j < M → j' < M → q < n → q' < n → A j + q = A j' + q' → j = j' ∧ q = q'
theorem mL_get (n len : Nat) (A : Nat → Nat) (M : Nat) (hA : Apart n len A M) (ws : List Int) (hl : len ≤ ws.length) (i to : Nat) (x : Int) (hi : i < n) (ht : to < n) (hne : i ≠ to) : ∀ J, J ≤ M →
    (∀ j, j < J → (mL A i to x ws J).getD (A j + to) 0 = Ct.Sel x (ws.getD (A j + i) 0) (ws.getD (A j + to) 0) ∧ (mL A i to x ws J).getD (A j + i) 0 = Ct.And (Ct.Not x) (ws.getD (A j + i) 0)) ∧
    (∀ r, (∀ j, j < J → r ≠ A j + to ∧ r ≠ A j + i) → (mL A i to x ws J).getD r 0 = ws.getD r 0)
  | 0, _ => ⟨fun j hj => by omega, fun r _ => by rw [mL_zero]⟩
  | J + 1, hJ => by
    obtain ⟨ih1, ih2⟩ := mL_get n len A M hA ws hl i to x hi ht hne J (by omega)
    have hf := hA.fit J (by omega)
    have hlen : (mL A i to x ws J).length = ws.length := mL_len _ _ _ _ _ _
    have e1 : (mL A i to x ws J).getD (A J + i) 0 = ws.getD (A J + i) 0 := ih2 _ (fun j hj => ⟨fun e => by
      have := (hA.ne J j i to (by omega) (by omega) hi ht e).1; omega, fun e => by
      have := (hA.ne J j i i (by omega) (by omega) hi hi e).1; omega⟩)
    have e2 : (mL A i to x ws J).getD (A J + to) 0 = ws.getD (A J + to) 0 := ih2 _ (fun j hj => ⟨fun e => by
      have := (hA.ne J j to to (by omega) (by omega) ht ht e).1; omega, fun e => by
      have := (hA.ne J j to i (by omega) (by omega) ht hi e).1; omega⟩)
    rw [mL_succ _ _ _ _ _ _ _ rfl, e1, e2]
    refine ⟨fun j hj => ?_, fun r hr => ?_⟩
    · by_cases hjJ : j = J
      · subst hjJ
        refine ⟨?_, ?_⟩
        · rw [Ut.set_get _ _ _ _ (by rw [List.length_set]; omega), if_neg (by omega), Ut.set_get _ _ _ _ (by omega), if_pos rfl]
        · rw [Ut.set_get _ _ _ _ (by rw [List.length_set]; omega), if_pos rfl]
      · have hj' : j < J := by omega
        have n1 : A j + to ≠ A J + i := fun e => hjJ (hA.ne j J to i (by omega) (by omega) ht hi e).1
        have n2 : A j + to ≠ A J + to := fun e => hjJ (hA.ne j J to to (by omega) (by omega) ht ht e).1
        have n3 : A j + i ≠ A J + i := fun e => hjJ (hA.ne j J i i (by omega) (by omega) hi hi e).1
        have n4 : A j + i ≠ A J + to := fun e => hjJ (hA.ne j J i to (by omega) (by omega) hi ht e).1
        obtain ⟨a, b⟩ := ih1 j hj'
        refine ⟨?_, ?_⟩
        · rw [Ut.set_get _ _ _ _ (by rw [List.length_set]; omega), if_neg n1, Ut.set_get _ _ _ _ (by omega), if_neg n2, a]
        · rw [Ut.set_get _ _ _ _ (by rw [List.length_set]; omega), if_neg n3, Ut.set_get _ _ _ _ (by omega), if_neg n4, b]
    · obtain ⟨r1, r2⟩ := hr J (by omega)
      rw [Ut.set_get _ _ _ _ (by rw [List.length_set]; omega), if_neg r2, Ut.set_get _ _ _ _ (by omega), if_neg r1]
      exact ih2 r (fun j hj => hr j (by omega))
/-- The kept ones stand at their places, and zeros elsewhere. -/
def Occ (n : Nat) (A : Nat → Nat) (M : Nat) (kb : Nat → Bool) (V : Nat → Nat → Nat) (pos : Nat → Nat) (ws : List Int) : Prop :=
  ∀ j, j < M → (∀ k, k < n → kb k = true → ws.getD (A j + pos k) 0 = (V j k : Int)) ∧ ∀ q, q < n → (∀ k, k < n → kb k = true → pos k ≠ q) → ws.getD (A j + q) 0 = 0
theorem Occ.eq {n : Nat} {A : Nat → Nat} {M : Nat} {kb : Nat → Bool} {V : Nat → Nat → Nat} {pos pos' : Nat → Nat} {ws : List Int} (h : Occ n A M kb V pos ws) (he : ∀ k, k < n → kb k = true → pos k = pos' k) : Occ n A M kb V pos' ws := fun j hj =>
  ⟨fun k hk hb => by rw [← he k hk hb]; exact (h j hj).1 k hk hb, fun q hq hn => (h j hj).2 q hq (fun k hk hb e => hn k hk hb (by rw [← he k hk hb]; exact e))⟩
theorem move_step (n len : Nat) (A : Nat → Nat) (M f : Nat) (hf : f < M) (hA : Apart n len A M) (kb : Nat → Bool) (V : Nat → Nat → Nat) (hV : ∀ j k, k < n → V j k < 4294967296) (hVf : ∀ k, k < n → V f k = gp kb k) (b : Nat) (hb : b ≤ 31) (ws : List Int) (hl : len ≤ ws.length) (kk : Nat) (hk : 2 ^ b + kk < n)
    (h : Occ n A M kb V (P kb b (2 ^ b + kk)) ws) : Occ n A M kb V (P kb b (2 ^ b + (kk + 1))) (mL A (2 ^ b + kk) kk (mx (A f) b (2 ^ b + kk) ws) ws M) := by
  have hp : 1 ≤ 2 ^ b := Nat.one_le_pow _ _ (by decide)
  obtain ⟨i, hi⟩ : ∃ i, 2 ^ b + kk = i := ⟨_, rfl⟩
  rw [show 2 ^ b + (kk + 1) = i + 1 by omega, hi]
  rw [hi] at h hk
  have hik : i ≠ kk := by omega
  have hkn : kk < n := by omega
  by_cases hex : ∃ k, k < n ∧ kb k = true ∧ P kb b i k = i
  · obtain ⟨k, hkn2, hkb, hki⟩ := hex
    have hpk : p kb b k = i := by
      unfold P at hki
      split at hki
      · have := p_succ kb b k
        omega
      · exact hki
    have hfw := (h f hf).1 k hkn2 hkb
    rw [hki, hVf k hkn2] at hfw
    have hx : mx (A f) b i ws = Ct.Mask (pb kb b k == 1) := by
      unfold mx
      have hg := gp_kc kb k
      have hgl : gp kb k < 4294967296 := by rw [← hVf k hkn2]; exact hV f k hkn2
      rw [hfw, shr_nat _ b hb, sub_bit _ (Nat.lt_of_le_of_lt (Nat.div_le_self _ _) hgl)]
      rfl
    rw [hx]
    have hps := p_succ kb b k
    have hP1 : ∀ k', k' ≠ k → k' < n → kb k' = true → P kb b (i + 1) k' = P kb b i k' := fun k' hne hk' hb' => by
      have hpn : p kb b k' ≠ i := fun e => hne (by
        rcases Nat.lt_trichotomy k k' with hl | hl | hl
        · have := p_lt kb b hkb hl; omega
        · omega
        · have := p_lt kb b hb' hl; omega)
      unfold P
      by_cases h1 : p kb b k' < i
      · rw [if_pos h1, if_pos (by omega)]
      · rw [if_neg h1, if_neg (by omega)]
    have hP2 : P kb b (i + 1) k = p kb (b + 1) k := by
      unfold P
      rw [if_pos (by omega)]
    obtain ⟨g1, g2⟩ := mL_get n len A M hA ws hl i kk (Ct.Mask (pb kb b k == 1)) hk hkn hik M (Nat.le_refl _)
    have hpb : pb kb b k = 0 ∨ pb kb b k = 1 := by unfold pb; omega
    rcases hpb with hpb | hpb
    · -- it stays
      rw [hpb] at hps g1 g2 ⊢
      have hP3 : P kb b (i + 1) k = P kb b i k := by rw [hP2, hki]; omega
      have hsame : ∀ j, j < M → ∀ q, q < n → (mL A i kk (Ct.Mask ((0 : Nat) == 1)) ws M).getD (A j + q) 0 = ws.getD (A j + q) 0 := fun j hj q hq => by
        obtain ⟨a1, a2⟩ := g1 j hj
        have hw : ∀ q, q < n → ∃ v : Nat, v < 4294967296 ∧ ws.getD (A j + q) 0 = (v : Int) := fun q hq => by
          by_cases hq2 : ∃ k', k' < n ∧ kb k' = true ∧ P kb b i k' = q
          · obtain ⟨k', x1, x2, x3⟩ := hq2
            exact ⟨V j k', hV j k' x1, by rw [← x3]; exact (h j hj).1 k' x1 x2⟩
          · exact ⟨0, by decide, (h j hj).2 q hq (fun k' x1 x2 x3 => hq2 ⟨k', x1, x2, x3⟩)⟩
        by_cases e1 : q = kk
        · subst e1
          obtain ⟨v1, b1, c1⟩ := hw i hk
          obtain ⟨v2, b2, c2⟩ := hw q hq
          rw [a1, c1, c2, Ut.sel_int _ _ _ b1 b2]
          rfl
        · by_cases e2 : q = i
          · subst e2
            obtain ⟨v1, b1, c1⟩ := hw q hq
            rw [a2, c1, not_and _ _ b1]
            rfl
          · exact g2 _ (fun j' hj' => ⟨fun e => e1 (hA.ne j j' q kk hj hj' hq hkn e).2, fun e => e2 (hA.ne j j' q i hj hj' hq hk e).2⟩)
      have hPn : ∀ k', P kb b i k' ≤ k' := fun k' => by
        unfold P
        split
        · exact p_le _ _ _
        · exact p_le _ _ _
      intro j hj
      refine ⟨fun k' hk' hb' => ?_, fun q hq hn => ?_⟩
      · have e : P kb b (i + 1) k' = P kb b i k' := by
          by_cases hkk : k' = k
          · rw [hkk]; exact hP3
          · exact hP1 k' hkk hk' hb'
        rw [e, hsame j hj _ (Nat.lt_of_le_of_lt (hPn k') hk')]
        exact (h j hj).1 k' hk' hb'
      · rw [hsame j hj q hq]
        refine (h j hj).2 q hq (fun k' hk' hb' e => hn k' hk' hb' ?_)
        rw [← e]
        by_cases hkk : k' = k
        · rw [hkk]; exact hP3
        · exact hP1 k' hkk hk' hb'
    · -- it goes
      rw [hpb] at hps g1 g2 ⊢
      have hto : p kb (b + 1) k = kk := by omega
      have hfree : ∀ k', k' < n → kb k' = true → P kb b i k' ≠ kk := fun k' hk' hb' e => by
        by_cases hkk : k' = k
        · rw [hkk, hki] at e; omega
        · have h1 := hP1 k' hkk hk' hb'
          exact hkk (P_inj kb b (i + 1) hb' hkb (by rw [h1, hP2, hto, e]))
      intro j hj
      have hY : ws.getD (A j + kk) 0 = 0 := (h j hj).2 kk hkn hfree
      have hX := (h j hj).1 k hkn2 hkb
      rw [hki] at hX
      obtain ⟨a1, a2⟩ := g1 j hj
      rw [hX, hY, show (0 : Int) = ((0 : Nat) : Int) from rfl, Ut.sel_int _ _ _ (hV j k hkn2) (by decide)] at a1
      rw [hX, not_and _ _ (hV j k hkn2)] at a2
      refine ⟨fun k' hk' hb' => ?_, fun q hq hn => ?_⟩
      · by_cases hkk : k' = k
        · subst hkk
          rw [hP2, hto]
          exact a1
        · rw [hP1 k' hkk hk' hb', g2 _ (fun j' hj' => ?_)]
          · exact (h j hj).1 k' hk' hb'
          · have hPn : P kb b i k' < n := by
              have : P kb b i k' ≤ k' := by
                unfold P
                split
                · exact p_le _ _ _
                · exact p_le _ _ _
              omega
            refine ⟨fun e => hfree k' hk' hb' (hA.ne j j' _ kk hj hj' hPn hkn e).2, fun e => hkk ?_⟩
            have := (hA.ne j j' _ i hj hj' hPn hk e).2
            exact P_inj kb b i hb' hkb (by rw [this, hki])
      · have hqk : q ≠ kk := fun e => hn k hkn2 hkb (by rw [hP2, hto, e])
        by_cases hqi : q = i
        · subst hqi
          exact a2
        · rw [g2 _ (fun j' hj' => ⟨fun e => hqk (hA.ne j j' q kk hj hj' hq hkn e).2, fun e => hqi (hA.ne j j' q i hj hj' hq hk e).2⟩)]
          refine (h j hj).2 q hq (fun k' hk' hb' e => ?_)
          by_cases hkk : k' = k
          · rw [hkk, hki] at e
            omega
          · exact hn k' hk' hb' (by rw [hP1 k' hkk hk' hb', e])
  · -- nobody is there
    have hno : ∀ k, k < n → kb k = true → P kb b i k ≠ i := fun k h1 h2 h3 => hex ⟨k, h1, h2, h3⟩
    have hfw := (h f hf).2 i hk hno
    have hx : mx (A f) b i ws = Ct.Mask false := by
      unfold mx
      rw [hfw, show (0 : Int) = ((0 : Nat) : Int) from rfl, shr_nat 0 b hb, Nat.zero_div]
      exact sub_bit 0 (by decide)
    rw [hx]
    obtain ⟨g1, g2⟩ := mL_get n len A M hA ws hl i kk (Ct.Mask false) hk hkn hik M (Nat.le_refl _)
    have hPe : ∀ k', k' < n → kb k' = true → P kb b (i + 1) k' = P kb b i k' := fun k' hk' hb' => by
      have hpn : p kb b k' ≠ i := fun e => hno k' hk' hb' (by
        unfold P
        rw [if_neg (by omega)]
        exact e)
      unfold P
      by_cases h1 : p kb b k' < i
      · rw [if_pos h1, if_pos (by omega)]
      · rw [if_neg h1, if_neg (by omega)]
    have hsame : ∀ j, j < M → ∀ q, q < n → (mL A i kk (Ct.Mask false) ws M).getD (A j + q) 0 = ws.getD (A j + q) 0 := fun j hj q hq => by
      obtain ⟨a1, a2⟩ := g1 j hj
      have hw : ∀ q, q < n → ∃ v : Nat, v < 4294967296 ∧ ws.getD (A j + q) 0 = (v : Int) := fun q hq => by
        by_cases hq2 : ∃ k', k' < n ∧ kb k' = true ∧ P kb b i k' = q
        · obtain ⟨k', x1, x2, x3⟩ := hq2
          exact ⟨V j k', hV j k' x1, by rw [← x3]; exact (h j hj).1 k' x1 x2⟩
        · exact ⟨0, by decide, (h j hj).2 q hq (fun k' x1 x2 x3 => hq2 ⟨k', x1, x2, x3⟩)⟩
      by_cases e1 : q = kk
      · subst e1
        obtain ⟨v1, b1, c1⟩ := hw i hk
        obtain ⟨v2, b2, c2⟩ := hw q hq
        rw [a1, c1, c2, Ut.sel_int _ _ _ b1 b2]
        rfl
      · by_cases e2 : q = i
        · subst e2
          obtain ⟨v1, b1, c1⟩ := hw q hq
          rw [a2, c1, not_and _ _ b1]
          rfl
        · exact g2 _ (fun j' hj' => ⟨fun e => e1 (hA.ne j j' q kk hj hj' hq hkn e).2, fun e => e2 (hA.ne j j' q i hj hj' hq hk e).2⟩)
    intro j hj
    have hPn : ∀ k', P kb b i k' ≤ k' := fun k' => by
      unfold P
      split
      · exact p_le _ _ _
      · exact p_le _ _ _
    refine ⟨fun k' hk' hb' => ?_, fun q hq hn => ?_⟩
    · rw [hPe k' hk' hb', hsame j hj _ (Nat.lt_of_le_of_lt (hPn k') hk')]
      exact (h j hj).1 k' hk' hb'
    · rw [hsame j hj q hq]
      exact (h j hj).2 q hq (fun k' hk' hb' e => hn k' hk' hb' (by rw [hPe k' hk' hb', e]))
theorem move_all (n len : Nat) (A : Nat → Nat) (M f : Nat) (hf : f < M) (hA : Apart n len A M) (kb : Nat → Bool) (V : Nat → Nat → Nat) (hV : ∀ j k, k < n → V j k < 4294967296) (hVf : ∀ k, k < n → V f k = gp kb k) (b : Nat) (hb : b ≤ 31) (ws : List Int) (hl : len ≤ ws.length) (h : Occ n A M kb V (p kb b) ws) :
    Occ n A M kb V (p kb (b + 1)) (mv (A f) b A M ws (n - 2 ^ b)) := by
  have hs : ∀ K, K ≤ n - 2 ^ b → Occ n A M kb V (P kb b (2 ^ b + K)) (mv (A f) b A M ws K) := by
    intro K
    induction K with
    | zero =>
      intro _
      rw [mv_zero]
      exact h.eq (fun k _ _ => (P_low kb b k (2 ^ b + 0) (Nat.le_refl _)).symm)
    | succ K ih =>
      intro hK
      rw [mv_succ _ _ _ _ _ _ _ rfl]
      exact move_step n len A M f hf hA kb V hV hVf b hb _ (by rw [mv_len]; exact hl) K (by omega) (ih (by omega))
  by_cases hn : 2 ^ b ≤ n
  · have h1 := hs (n - 2 ^ b) (Nat.le_refl _)
    rw [show 2 ^ b + (n - 2 ^ b) = n by omega] at h1
    exact h1.eq (fun k hk _ => P_high kb b n k hk)
  · have h1 := hs (n - 2 ^ b) (Nat.le_refl _)
    rw [show n - 2 ^ b = 0 by omega, Nat.add_zero] at h1
    rw [show n - 2 ^ b = 0 by omega]
    refine h1.eq (fun k hk _ => ?_)
    rw [P_low kb b k _ (Nat.le_refl _), ← P_low kb b k n (by omega), P_high kb b n k hk]
theorem moves_all (n len : Nat) (A : Nat → Nat) (M f : Nat) (hf : f < M) (hA : Apart n len A M) (kb : Nat → Bool) (V : Nat → Nat → Nat) (hV : ∀ j k, k < n → V j k < 4294967296) (hVf : ∀ k, k < n → V f k = gp kb k) (ws : List Int) (hl : len ≤ ws.length) (h : Occ n A M kb V (p kb 0) ws) : ∀ b, b ≤ 31 →
    Occ n A M kb V (p kb b) (mvs (A f) n A M ws b)
  | 0, _ => by rw [mvs_zero]; exact h
  | b + 1, hb => by
    rw [mvs_succ _ _ _ _ _ _ _ rfl]
    exact move_all n len A M f hf hA kb V hV hVf b (by omega) _ (by rw [mvs_len]; exact hl) (moves_all n len A M f hf hA kb V hV hVf ws hl h b (by omega))
end Pk
end Go.Proofs.Ytjoehhojhfgooaa
