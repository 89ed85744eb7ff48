/- Package pack: what Pack leaves in an arena's words. Plain. No condition. -/
import Derived.Test.YtjoehhojhfgooaaPkP
namespace Go.Proofs.Ytjoehhojhfgooaa
namespace Pk
theorem gvw_at (ws : List Int) (top : Nat) (ht : top ≤ ws.length) : ∀ k, k ≤ top → ∀ i, (gvw ws top k).getD i 0 = if top - k ≤ i ∧ i < top then 0 else ws.getD i 0
  | 0, _, i => by rw [gvw_zero, if_neg (by omega)]
  | k + 1, hk, i => by
    rw [gvw_succ, Ut.set_get _ _ _ _ (by rw [gvw_len]; omega), gvw_at ws top ht k (by omega) i]
    by_cases h : i = top - (k + 1)
    · rw [if_pos h, if_pos (by omega)]
    · rw [if_neg h]
      by_cases h2 : top - k ≤ i ∧ i < top
      · rw [if_pos h2, if_pos (by omega)]
      · rw [if_neg h2, if_neg (by omega)]
theorem bL_get (n len : Nat) (L : Nat → Nat) (m : Nat) (ws : List Int) (hl : len ≤ ws.length) (i : Nat) (hi : i < n) (hfit : ∀ j, j < m → L j + n ≤ len) (hne : ∀ j j', j < m → j' < m → L j + i = L j' + i → j = j') (x : Int) : ∀ J, J ≤ m →
    (∀ j, j < J → (bL L i x ws J).getD (L j + i) 0 = Ct.And x (ws.getD (L j + i) 0)) ∧ (∀ r, (∀ j, j < J → r ≠ L j + i) → (bL L i x ws J).getD r 0 = ws.getD r 0)
  | 0, _ => ⟨fun j hj => by omega, fun r _ => by rw [bL_zero]⟩
  | J + 1, hJ => by
    obtain ⟨ih1, ih2⟩ := bL_get n len L m ws hl i hi hfit hne x J (by omega)
    have hf := hfit J (by omega)
    have hlen : (bL L i x ws J).length = ws.length := bL_len _ _ _ _ _
    have e1 : (bL L i x ws J).getD (L J + i) 0 = ws.getD (L J + i) 0 := ih2 _ (fun j hj e => by
      have := hne J j (by omega) (by omega) e
      omega)
    rw [bL_succ _ _ _ _ _ _ rfl, e1]
    refine ⟨fun j hj => ?_, fun r hr => ?_⟩
    · by_cases hjJ : j = J
      · subst hjJ
        rw [Ut.set_get _ _ _ _ (by omega), if_pos rfl]
      · rw [Ut.set_get _ _ _ _ (by omega), if_neg (fun e => hjJ (hne j J (by omega) (by omega) e))]
        exact ih1 j (by omega)
    · rw [Ut.set_get _ _ _ _ (by omega), if_neg (hr J (by omega))]
      exact ih2 r (fun j hj => hr j (by omega))
theorem AL_keep (keep far : Nat) (L : Nat → Nat) (m : Nat) : AL keep far L m 0 = keep := by
  unfold AL KL
  rw [if_neg (by omega), if_pos rfl]
theorem AL_lane (keep far : Nat) (L : Nat → Nat) (m j : Nat) (h : j < m) : AL keep far L m (j + 1) = L j := by
  unfold AL KL
  rw [if_neg (by omega), if_neg (by omega), Nat.add_sub_cancel]
theorem AL_far (keep far : Nat) (L : Nat → Nat) (m : Nat) : AL keep far L m (m + 1) = far := by
  unfold AL
  rw [if_pos rfl]
/-- The words that are kept, lane by lane. -/
def VV (kb : Nat → Bool) (m : Nat) (W : Nat → Nat → Nat) (j k : Nat) : Nat := if j = 0 then 4294967295 else if j = m + 1 then gp kb k else W j k
theorem begin_form (keep top n m : Nat) (L : Nat → Nat) (ws : List Int) (W : Nat → Nat → Nat) (hW : ∀ j i, W j i < 4294967296) (len : Nat) (hl : len ≤ ws.length) (hn : n ≤ 1000000) (hA : Apart n len (AL keep top L m) (m + 2)) (hw : ∀ j, j ≤ m → ∀ i, i < n → ws.getD (AL keep top L m j + i) 0 = (W j i : Int)) (kb : Nat → Bool) (hkb : ∀ i, kb i = (W 0 i % 2 == 1)) :
    ∀ k, k ≤ n → (bg keep top L m ws k).gaps = (gp kb k : Int) ∧ (bg keep top L m ws k).kept = (kc kb k : Int) ∧
      (∀ j, j < m + 2 → ∀ i, i < k → (bg keep top L m ws k).ws.getD (AL keep top L m j + i) 0 = ((if kb i then VV kb m W j i else 0 : Nat) : Int)) ∧
      (∀ j, j ≤ m → ∀ i, k ≤ i → i < n → (bg keep top L m ws k).ws.getD (AL keep top L m j + i) 0 = (W j i : Int)) ∧
      (∀ r, (∀ j, j < m + 2 → ∀ i, i < n → r ≠ AL keep top L m j + i) → (bg keep top L m ws k).ws.getD r 0 = ws.getD r 0)
  | 0, _ => by
    rw [bg_zero]
    exact ⟨rfl, rfl, fun j _ i hi => by omega, fun j hj i _ hi => hw j hj i hi, fun r _ => rfl⟩
  | k + 1, hk => by
    obtain ⟨h1, h2, h3, h4, h5⟩ := begin_form keep top n m L ws W hW len hl hn hA hw kb hkb k (by omega)
    have hlen := bg_len keep top L m ws k
    obtain ⟨⟨V, gps, kpt⟩, h⟩ : ∃ r, bg keep top L m ws k = r := ⟨_, rfl⟩
    rw [h] at h1 h2 h3 h4 h5 hlen
    simp only at h1 h2 h3 h4 h5 hlen
    have hgk := gp_kc kb k
    have hx : bx keep k V = Ct.Mask (kb k) := by
      unfold bx
      have e := h4 0 (by omega) k (Nat.le_refl _) (by omega)
      rw [AL_keep] at e
      rw [e, sub_bit _ (hW 0 k), hkb k]
    have f0 : keep + n ≤ len := by have := hA.fit 0 (by omega); rwa [AL_keep] at this
    have f1 : top + n ≤ len := by have := hA.fit (m + 1) (by omega); rwa [AL_far] at this
    have f2 : ∀ j, j < m → L j + n ≤ len := fun j hj => by have := hA.fit (j + 1) (by omega); rwa [AL_lane _ _ _ _ _ hj] at this
    have nkt : keep + k ≠ top + k := fun e => by
      have := (hA.ne 0 (m + 1) k k (by omega) (by omega) (by omega) (by omega) (by rw [AL_keep, AL_far]; exact e)).1
      omega
    have nkl : ∀ j, j < m → keep + k ≠ L j + k := fun j hj e => by
      have := (hA.ne 0 (j + 1) k k (by omega) (by omega) (by omega) (by omega) (by rw [AL_keep, AL_lane _ _ _ _ _ hj]; exact e)).1
      omega
    have ntl : ∀ j, j < m → top + k ≠ L j + k := fun j hj e => by
      have := (hA.ne (m + 1) (j + 1) k k (by omega) (by omega) (by omega) (by omega) (by rw [AL_far, AL_lane _ _ _ _ _ hj]; exact e)).1
      omega
    have nll : ∀ j j', j < m → j' < m → L j + k = L j' + k → j = j' := fun j j' hj hj' e => by
      have := (hA.ne (j + 1) (j' + 1) k k (by omega) (by omega) (by omega) (by omega) (by rw [AL_lane _ _ _ _ _ hj, AL_lane _ _ _ _ _ hj']; exact e)).1
      omega
    rw [bg_succ _ _ _ _ _ _ _ _ _ h, hx, h1, h2]
    simp only
    obtain ⟨b1, b2⟩ := bL_get n len L m ((V.set (keep + k) (Ct.Mask (kb k))).set (top + k) (Ct.And (Ct.Mask (kb k)) (gp kb k))) (by rw [List.length_set, List.length_set, hlen]; exact hl) k (by omega) f2 nll (Ct.Mask (kb k)) m (Nat.le_refl _)
    have s1 : ∀ r, ((V.set (keep + k) (Ct.Mask (kb k))).set (top + k) (Ct.And (Ct.Mask (kb k)) (gp kb k))).getD r 0 = if r = top + k then Ct.And (Ct.Mask (kb k)) (gp kb k) else if r = keep + k then Ct.Mask (kb k) else V.getD r 0 := fun r => by
      rw [Ut.set_get _ _ _ _ (by rw [List.length_set, hlen]; omega), Ut.set_get _ _ _ _ (by rw [hlen]; omega)]
    refine ⟨?_, ?_, fun j hj i hi => ?_, fun j hj i hki hi => ?_, fun r hr => ?_⟩
    · rw [gp_succ, show (1 : Int) = ((1 : Nat) : Int) from rfl, not_and _ _ (by decide), Ct.add_nat]
      cases kb k
      · simp; omega
      · simp; omega
    · rw [kc_succ, Ct.mask_nat, Ct.sub_nat _ _ (Ct.mask_lt _)]
      cases kb k
      · simp; omega
      · simp; omega
    · by_cases hik : i = k
      · subst hik
        by_cases hj0 : j = 0
        · subst hj0
          rw [AL_keep, b2 _ (fun j' hj' => nkl j' hj'), s1, if_neg nkt, if_pos rfl, Ct.mask_nat]
          unfold VV
          rw [if_pos rfl]
        · by_cases hjm : j = m + 1
          · subst hjm
            rw [AL_far, b2 _ (fun j' hj' => ntl j' hj'), s1, if_pos rfl, Ut.and_mask _ _ (by omega)]
            unfold VV
            rw [if_neg hj0, if_pos rfl]
          · obtain ⟨q, rfl⟩ : ∃ q, j = q + 1 := ⟨j - 1, by omega⟩
            have hq : q < m := by omega
            have e := h4 (q + 1) (by omega) i (Nat.le_refl _) (by omega)
            rw [AL_lane _ _ _ _ _ hq] at e
            rw [AL_lane _ _ _ _ _ hq, b1 q hq, s1, if_neg (fun e => ntl q hq e.symm), if_neg (fun e => nkl q hq e.symm), e, Ut.and_mask _ _ (hW _ _)]
            unfold VV
            rw [if_neg hj0, if_neg hjm]
      · have hne : ∀ j', j' < m + 2 → AL keep top L m j + i ≠ AL keep top L m j' + k := fun j' hj' e => hik (hA.ne j j' i k hj hj' (by omega) (by omega) e).2
        have n0 := hne 0 (by omega)
        have n1 := hne (m + 1) (by omega)
        rw [AL_keep] at n0
        rw [AL_far] at n1
        rw [b2 _ (fun j' hj' => by have := hne (j' + 1) (by omega); rwa [AL_lane _ _ _ _ _ hj'] at this), s1, if_neg n1, if_neg n0]
        exact h3 j hj i (by omega)
    · have hne : ∀ j', j' < m + 2 → AL keep top L m j + i ≠ AL keep top L m j' + k := fun j' hj' e => by
        have := (hA.ne j j' i k (by omega) hj' hi (by omega) e).2
        omega
      have n0 := hne 0 (by omega)
      have n1 := hne (m + 1) (by omega)
      rw [AL_keep] at n0
      rw [AL_far] at n1
      rw [b2 _ (fun j' hj' => by have := hne (j' + 1) (by omega); rwa [AL_lane _ _ _ _ _ hj'] at this), s1, if_neg n1, if_neg n0]
      exact h4 j hj i (by omega) hi
    · have n0 := hr 0 (by omega) k (by omega)
      have n1 := hr (m + 1) (by omega) k (by omega)
      rw [AL_keep] at n0
      rw [AL_far] at n1
      rw [b2 _ (fun j' hj' => by have := hr (j' + 1) (by omega) k (by omega); rwa [AL_lane _ _ _ _ _ hj'] at this), s1, if_neg n1, if_neg n0]
      exact h5 r hr
theorem mv_far (n len : Nat) (A : Nat → Nat) (M : Nat) (hA : Apart n len A M) (f b : Nat) (ws : List Int) (hl : len ≤ ws.length) (r : Nat) (hr : ∀ j, j < M → ∀ i, i < n → r ≠ A j + i) : ∀ K, K ≤ n - 2 ^ b → (mv f b A M ws K).getD r 0 = ws.getD r 0
  | 0, _ => by rw [mv_zero]
  | K + 1, hK => by
    have hp : 1 ≤ 2 ^ b := Nat.one_le_pow _ _ (by decide)
    have ih := mv_far n len A M hA f b ws hl r hr K (by omega)
    rw [mv_succ _ _ _ _ _ _ _ rfl, (mL_get n len A M hA _ (by rw [mv_len]; exact hl) (2 ^ b + K) K _ (by omega) (by omega) (by omega) M (Nat.le_refl _)).2 r (fun j hj => ⟨hr j hj K (by omega), hr j hj _ (by omega)⟩)]
    exact ih
theorem mvs_far (n len : Nat) (A : Nat → Nat) (M : Nat) (hA : Apart n len A M) (f : Nat) (ws : List Int) (hl : len ≤ ws.length) (r : Nat) (hr : ∀ j, j < M → ∀ i, i < n → r ≠ A j + i) : ∀ b, (mvs f n A M ws b).getD r 0 = ws.getD r 0
  | 0 => by rw [mvs_zero]
  | b + 1 => by
    rw [mvs_succ _ _ _ _ _ _ _ rfl, mv_far n len A M hA f b _ (by rw [mvs_len]; exact hl) r hr _ (Nat.le_refl _)]
    exact mvs_far n len A M hA f ws hl r hr b
theorem out_len (keep n top m : Nat) (L : Nat → Nat) (ws : List Int) : (out keep n top m L ws).length = ws.length := by
  unfold out
  rw [gvw_len, mvs_len, bg_len]
theorem stp_fit (n : Nat) (hn : n ≤ 65536) : ∀ k, k < n → k < 2 ^ stp n := by
  intro k hk
  unfold stp
  split
  · have : k = 0 := by omega
    subst this
    simp
  · have := (bitLen_bound 16 (n - 1) (by omega) (by decide)).2.1
    omega
theorem pk_out (keep n top m : Nat) (L : Nat → Nat) (ws : List Int) (W : Nat → Nat → Nat) (hW : ∀ j i, W j i < 4294967296) (hl : top + n ≤ ws.length) (hn : n ≤ 49152) (hA : Apart n (top + n) (AL keep top L m) (m + 2)) (hw : ∀ j, j ≤ m → ∀ i, i < n → ws.getD (AL keep top L m j + i) 0 = (W j i : Int)) (kb : Nat → Bool) (hkb : ∀ i, kb i = (W 0 i % 2 == 1)) :
    kept keep n top m L ws = (kc kb n : Int) ∧
    (∀ j, j ≤ m → (∀ k, k < n → kb k = true → (out keep n top m L ws).getD (AL keep top L m j + kc kb k) 0 = (VV kb m W j k : Int)) ∧ ∀ q, q < n → kc kb n ≤ q → (out keep n top m L ws).getD (AL keep top L m j + q) 0 = 0) ∧
    (∀ r, (∀ j, j < m + 2 → ∀ i, i < n → r ≠ AL keep top L m j + i) → (out keep n top m L ws).getD r 0 = ws.getD r 0) := by
  obtain ⟨h1, h2, h3, h4, h5⟩ := begin_form keep top n m L ws W hW (top + n) hl (by omega) hA hw kb hkb n (Nat.le_refl _)
  have hgl : ∀ k, gp kb k ≤ k := fun k => by have := gp_kc kb k; omega
  have hlen := bg_len keep top L m ws n
  obtain ⟨BW, hBW⟩ : ∃ BW, (bg keep top L m ws n).ws = BW := ⟨_, rfl⟩
  rw [hBW] at h3 h4 h5 hlen
  have hVV : ∀ j k, k < n → VV kb m W j k < 4294967296 := fun j k hk => by
    unfold VV
    split
    · decide
    · split
      · have := hgl k; omega
      · exact hW _ _
  have hocc : Occ n (AL keep top L m) (m + 2) kb (VV kb m W) (p kb 0) BW := fun j hj =>
    ⟨fun k hk hb => by rw [p_zero, h3 j hj k hk, if_pos hb], fun q hq hno => by
      rw [h3 j hj q hq]
      have : kb q = false := by
        cases hq2 : kb q
        · rfl
        · exact absurd (p_zero kb q) (hno q hq hq2)
      rw [this]
      rfl⟩
  have hst := stp_fit n (by omega)
  have hs16 : stp n ≤ 31 := by have := stp_le n (by omega); omega
  have hM := moves_all n (top + n) (AL keep top L m) (m + 2) (m + 1) (by omega) hA kb (VV kb m W) hVV (fun k _ => by unfold VV; rw [if_neg (by omega), if_pos rfl]) BW (by rw [hlen]; exact hl) hocc (stp n) hs16
  rw [AL_far] at hM
  have hMl : (mvs top n (AL keep top L m) (m + 2) BW (stp n)).length = ws.length := by rw [mvs_len, hlen]
  have hout : ∀ r, (out keep n top m L ws).getD r 0 = if top ≤ r ∧ r < top + n then 0 else (mvs top n (AL keep top L m) (m + 2) BW (stp n)).getD r 0 := fun r => by
    unfold out
    rw [hBW, gvw_at _ _ (by rw [hMl]; exact hl) n (by omega) r, Nat.add_sub_cancel]
  have hin : ∀ j, j ≤ m → ∀ q, q < n → ¬ (top ≤ AL keep top L m j + q ∧ AL keep top L m j + q < top + n) := fun j hj q hq hc => by
    have := (hA.ne j (m + 1) q (AL keep top L m j + q - top) (by omega) (by omega) hq (by omega) (by rw [AL_far]; omega)).1
    omega
  refine ⟨h2, fun j hj => ⟨fun k hk hb => ?_, fun q hq hqk => ?_⟩, fun r hr => ?_⟩
  · have hkn : kc kb k < n := by have := gp_kc kb k; omega
    rw [hout, if_neg (hin j hj _ hkn)]
    have := (hM j (by omega)).1 k hk hb
    rwa [p_end kb _ k (hst k hk)] at this
  · rw [hout, if_neg (hin j hj q hq)]
    refine (hM j (by omega)).2 q hq (fun k hk hb e => ?_)
    rw [p_end kb _ k (hst k hk)] at e
    have := kc_lt kb hb hk
    omega
  · rw [hout, if_neg (fun hc => by
      have := hr (m + 1) (by omega) (r - top) (by omega)
      rw [AL_far] at this
      omega), mvs_far n (top + n) (AL keep top L m) (m + 2) hA top BW (by rw [hlen]; exact hl) r hr]
    exact h5 r hr
end Pk
end Go.Proofs.Ytjoehhojhfgooaa
