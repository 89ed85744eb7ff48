/- UTF-8: the machine of package utf, byte by byte, and the document's points. Plain. No condition. -/
import Derived.Test.YtjoehhojhfgooaaUtDef
import Derived.Test.YtjoehhojhfgooaaCtPlain
namespace Go.Proofs.Ytjoehhojhfgooaa
namespace Ut
/-- A lead byte: how many come behind it, from which to which the first of these may be, its own bits, and whether it may be one. -/
structure Ld where
  m : Nat
  l : Nat
  h : Nat
  p : Nat
  y : Bool
def lead (c : Nat) : Ld :=
  if c ≤ 127 then ⟨0, 0, 0, c, true⟩
  else if 194 ≤ c ∧ c ≤ 223 then ⟨1, 128, 191, c - 192, true⟩
  else if 224 ≤ c ∧ c ≤ 239 then ⟨2, if c = 224 then 160 else 128, if c = 237 then 159 else 191, c - 224, true⟩
  else if 240 ≤ c ∧ c ≤ 244 then ⟨3, if c = 240 then 144 else 128, if c = 244 then 143 else 191, c - 240, true⟩
  else ⟨0, 0, 0, 0, false⟩
def leadOk (c : Nat) : Bool :=
  decide ((bg c 9).m = (lead c).m) && decide ((bg c 9).l = (lead c).l) && decide ((bg c 9).h = (lead c).h) && decide ((bg c 9).p = (lead c).p) && decide ((bg c 9).y = Ct.Mask (lead c).y)
theorem leads_ok : ((List.range 256).all leadOk) = true := by decide +kernel
theorem bg_lead (c : Nat) (h : c < 256) : bg c 9 = ⟨(lead c).m, (lead c).l, (lead c).h, (lead c).p, Ct.Mask (lead c).y⟩ := by
  have h1 := List.all_eq_true.1 leads_ok c (List.mem_range.2 h)
  unfold leadOk at h1
  simp only [Bool.and_eq_true, decide_eq_true_eq] at h1
  obtain ⟨⟨⟨⟨a, b⟩, c'⟩, d⟩, e⟩ := h1
  rw [← a, ← b, ← c', ← d, ← e]
structure A where
  m : Nat
  l : Nat
  h : Nat
  p : Nat
  b : Bool
def conc (a : A) : S := ⟨a.m, a.l, a.h, a.p, Ct.Mask a.b⟩
def Inv (a : A) : Prop := a.m ≤ 3 ∧ a.l < 256 ∧ a.h < 256 ∧ (a.p + 1) * 64 ^ a.m ≤ 2097152
def stp (a : A) (x : Nat) (live : Bool) : A :=
  if live then (if a.m = 0 then ⟨(lead x).m, (lead x).l, (lead x).h, (lead x).p, a.b || !(lead x).y⟩ else ⟨a.m - 1, 128, 191, a.p * 64 + x % 64, a.b || !(decide (a.l ≤ x) && decide (x ≤ a.h))⟩) else a
def wh (a : A) (x : Nat) (live : Bool) : Bool := live && decide ((stp a x true).m = 0)
theorem lead_inv (c : Nat) (_hc : c < 256) : (lead c).m ≤ 3 ∧ (lead c).l < 256 ∧ (lead c).h < 256 ∧ ((lead c).p + 1) * 64 ^ (lead c).m ≤ 2097152 := by
  unfold lead
  split
  · simp; omega
  · split
    · simp; omega
    · split
      · refine ⟨by simp, ?_, ?_, ?_⟩
        · simp only []; split <;> decide
        · simp only []; split <;> decide
        · simp only []; omega
      · split
        · refine ⟨by simp, ?_, ?_, ?_⟩
          · simp only []; split <;> decide
          · simp only []; split <;> decide
          · simp only []; omega
        · simp
theorem stp_inv (a : A) (x : Nat) (live : Bool) (hx : x < 256) (h : Inv a) : Inv (stp a x live) := by
  unfold stp
  split
  · split
    · exact lead_inv x hx
    · rename_i hm
      obtain ⟨h1, h2, h3, h4⟩ := h
      refine ⟨by simp only []; omega, by simp, by simp, ?_⟩
      simp only []
      obtain ⟨k, hk⟩ : ∃ k, a.m = k + 1 := ⟨a.m - 1, by omega⟩
      rw [hk] at h4 ⊢
      rw [Nat.pow_succ] at h4
      rw [Nat.add_sub_cancel]
      have h5 : a.p * 64 + x % 64 + 1 ≤ (a.p + 1) * 64 := by omega
      calc (a.p * 64 + x % 64 + 1) * 64 ^ k ≤ ((a.p + 1) * 64) * 64 ^ k := Nat.mul_le_mul_right _ h5
        _ = (a.p + 1) * (64 ^ k * 64) := by rw [Nat.mul_assoc, Nat.mul_comm 64]
        _ ≤ 2097152 := h4
  · exact h
theorem inv_p (a : A) (h : Inv a) : a.p < 2097152 := by
  have h1 : 1 ≤ 64 ^ a.m := Nat.one_le_pow _ _ (by decide)
  have h2 : a.p + 1 ≤ (a.p + 1) * 64 ^ a.m := Nat.le_mul_of_pos_right _ h1
  have := h.2.2.2
  omega
theorem sel_int (b : Bool) (x y : Nat) (hx : x < 4294967296) (hy : y < 4294967296) : Ct.Sel (Ct.Mask b) x y = ((if b then x else y : Nat) : Int) := by
  rw [Ct.sel_mask b x y hx hy]
  cases b <;> rfl
theorem sel_masks (b c d : Bool) : Ct.Sel (Ct.Mask b) (Ct.Mask c) (Ct.Mask d) = Ct.Mask (if b then c else d) := by cases b <;> cases c <;> cases d <;> decide +kernel
theorem or_masks (c d : Bool) : Ct.Or (Ct.Mask c) (Ct.Mask d) = Ct.Mask (c || d) := by cases c <;> cases d <;> decide +kernel
theorem and_masks (c d : Bool) : Ct.And (Ct.Mask c) (Ct.Mask d) = Ct.Mask (c && d) := by cases c <;> cases d <;> decide +kernel
theorem within_nat (x l h : Nat) (hx : x < 256) (hl : l < 256) (hh : h < 256) : within x l h = Ct.Mask (decide (l ≤ x) && decide (x ≤ h)) := by
  unfold within
  rw [Ct.lt_nat x l (by omega) (by omega), Ct.lt_nat h x (by omega) (by omega), or_masks, Ct.not_mask]
  congr 1
  rw [Bool.eq_iff_iff]
  simp
theorem ins_nat (a : A) (h : Inv a) : ins (conc a) = Ct.Mask (!(a.m == 0)) := by
  unfold ins
  rw [show (conc a).m = (a.m : Int) from rfl, Ct.zero_nat a.m (by have := h.1; omega), Ct.not_mask]
theorem shl6 (p x : Nat) (hp : p < 2097152) (hx : x < 256) : Ct.Or (Ct.Shl p 6) (Ct.And x 63) = ((p * 64 + x % 64 : Nat) : Int) := by
  have h1 : Ct.Shl p 6 = ((p * 64 : Nat) : Int) := by
    unfold Ct.Shl
    rw [if_neg (by decide), if_neg (by decide), show (6 : Int).toNat = 6 from rfl]
    omega
  have h2 : Ct.And x 63 = ((x % 64 : Nat) : Int) := by
    rw [show (63 : Int) = ((63 : Nat) : Int) from rfl, Ct.and_nat x 63 (by omega) (by decide), show (63 : Nat) = 2 ^ 6 - 1 from rfl, Nat.and_two_pow_sub_one_eq_mod]
  rw [h1, h2, Ct.or_nat _ _ (by omega) (by omega)]
  congr 1
  rw [show p * 64 = 2 ^ 6 * p by omega, ← Nat.two_pow_add_eq_or_of_lt (show x % 64 < 2 ^ 6 by omega)]
theorem fits_nat (a : A) (x : Nat) (hx : x < 256) (h : Inv a) : fits (conc a) x = Ct.Mask (if a.m = 0 then (lead x).y else (decide (a.l ≤ x) && decide (x ≤ a.h))) := by
  unfold fits
  rw [ins_nat a h, bg_lead x hx]
  show Ct.Sel _ (within x a.l a.h) (Ct.Mask _) = _
  rw [within_nat x a.l a.h hx h.2.1 h.2.2.1, sel_masks]
  congr 1
  by_cases hm : a.m = 0 <;> simp [hm]
theorem next_conc (a : A) (x : Nat) (live : Bool) (hx : x < 256) (h : Inv a) : next (conc a) x (Ct.Mask live) = conc (stp a x live) ∧ whole (conc a) x (Ct.Mask live) = Ct.Mask (wh a x live) := by
  have hi := ins_nat a h
  have hp := inv_p a h
  have hlx := lead_inv x hx
  have hlp : (lead x).p < 2097152 := by
    have h1 : 1 ≤ 64 ^ (lead x).m := Nat.one_le_pow _ _ (by decide)
    have h2 : (lead x).p + 1 ≤ ((lead x).p + 1) * 64 ^ (lead x).m := Nat.le_mul_of_pos_right _ h1
    have := hlx.2.2.2
    omega
  have hm3 := h.1
  have h256 := h.2.1
  have h256' := h.2.2.1
  have hsub : Ct.Sel (Ct.Mask (!(a.m == 0))) (Ct.Sub a.m 1) (lead x).m = ((if a.m = 0 then (lead x).m else a.m - 1 : Nat) : Int) := by
    rw [show (1 : Int) = ((1 : Nat) : Int) from rfl, Ct.sub_nat a.m 1 (by decide), sel_int _ _ _ (Nat.mod_lt _ (by decide)) (by omega)]
    by_cases hm : a.m = 0
    · simp [hm]
    · rw [if_neg hm]
      have : (!(a.m == 0)) = true := by simp [hm]
      rw [if_pos this]
      omega
  have em : nm (conc a) x (Ct.Mask live) = ((stp a x live).m : Int) := by
    unfold nm
    rw [hi, bg_lead x hx]
    show Ct.Sel (Ct.Mask live) (Ct.Sel _ (Ct.Sub a.m 1) (lead x).m) (a.m : Int) = _
    rw [hsub, sel_int _ _ _ (by split <;> omega) (by omega)]
    congr 1
    unfold stp
    cases live
    · simp
    · simp only [if_true]
      by_cases hm : a.m = 0 <;> simp [hm]
  have el : nl (conc a) x (Ct.Mask live) = ((stp a x live).l : Int) := by
    unfold nl
    rw [hi, bg_lead x hx]
    show Ct.Sel (Ct.Mask live) (Ct.Sel _ ((128 : Nat) : Int) (lead x).l) (a.l : Int) = _
    rw [sel_int _ _ _ (by decide) (by omega), sel_int _ _ _ (by split <;> omega) (by omega)]
    congr 1
    unfold stp
    cases live
    · simp
    · simp only [if_true]
      by_cases hm : a.m = 0 <;> simp [hm]
  have eh : nh (conc a) x (Ct.Mask live) = ((stp a x live).h : Int) := by
    unfold nh
    rw [hi, bg_lead x hx]
    show Ct.Sel (Ct.Mask live) (Ct.Sel _ ((191 : Nat) : Int) (lead x).h) (a.h : Int) = _
    rw [sel_int _ _ _ (by decide) (by omega), sel_int _ _ _ (by split <;> omega) (by omega)]
    congr 1
    unfold stp
    cases live
    · simp
    · simp only [if_true]
      by_cases hm : a.m = 0 <;> simp [hm]
  have ep : np (conc a) x (Ct.Mask live) = ((stp a x live).p : Int) := by
    unfold np
    rw [hi, bg_lead x hx]
    show Ct.Sel (Ct.Mask live) (Ct.Sel _ (Ct.Or (Ct.Shl a.p 6) (Ct.And x 63)) (lead x).p) (a.p : Int) = _
    rw [shl6 a.p x hp hx, sel_int _ _ _ (by omega) (by omega), sel_int _ _ _ (by split <;> omega) (by omega)]
    congr 1
    unfold stp
    cases live
    · simp
    · simp only [if_true]
      by_cases hm : a.m = 0 <;> simp [hm]
  have eb : nb (conc a) x (Ct.Mask live) = Ct.Mask (stp a x live).b := by
    unfold nb
    rw [fits_nat a x hx h]
    show Ct.Or (Ct.Mask a.b) _ = _
    rw [Ct.not_mask, and_masks, or_masks]
    congr 1
    unfold stp
    cases live
    · simp
    · simp only [if_true]
      by_cases hm : a.m = 0 <;> simp [hm]
  refine ⟨?_, ?_⟩
  · unfold next conc
    unfold conc at em el eh ep eb
    rw [em, el, eh, ep, eb]
  · unfold whole
    rw [em, Ct.zero_nat _ (by have := (stp_inv a x live hx h).1; omega), and_masks]
    congr 1
    unfold wh
    cases live
    · rfl
    · simp only [Bool.true_and]
      rw [Bool.eq_iff_iff]
      simp
/-! ### the machine over bytes -/
def rn (f : Nat → Nat) (M : Nat) : Nat → A
  | 0 => ⟨0, 0, 0, 0, false⟩
  | k + 1 => stp (rn f M k) (f k) (decide (k < M))
def wk (f : Nat → Nat) (M k : Nat) : Bool := wh (rn f M k) (f k) (decide (k < M))
/-- What is put out at a byte. -/
def ov (f : Nat → Nat) (M k : Nat) : Nat := if wk f M k then (rn f M (k + 1)).p else 0
theorem rn_succ (f : Nat → Nat) (M k : Nat) : rn f M (k + 1) = stp (rn f M k) (f k) (decide (k < M)) := rfl
theorem rn_inv (f : Nat → Nat) (M : Nat) (hf : ∀ k, f k < 256) : ∀ k, Inv (rn f M k)
  | 0 => ⟨Nat.zero_le _, Nat.zero_lt_succ _, Nat.zero_lt_succ _, by show (0 + 1) * 64 ^ 0 ≤ 2097152; decide⟩
  | k + 1 => stp_inv _ _ _ (hf k) (rn_inv f M hf k)
theorem rn_stay (f : Nat → Nat) (M : Nat) : ∀ k, M ≤ k → rn f M k = rn f M M
  | 0, h => by rw [Nat.le_zero.1 h]
  | k + 1, h => by
    rcases Nat.lt_or_ge M (k + 1) with h1 | h1
    · rw [rn_succ, decide_eq_false (by omega), show stp (rn f M k) (f k) false = rn f M k from rfl, rn_stay f M k (by omega)]
    · rw [show k + 1 = M by omega]
theorem wk_behind (f : Nat → Nat) (M k : Nat) (h : M ≤ k) : wk f M k = false := by
  unfold wk wh
  rw [decide_eq_false (by omega)]
  rfl
theorem bad_stays (f : Nat → Nat) (M k : Nat) (h : (rn f M k).b = true) : ∀ j, (rn f M (k + j)).b = true
  | 0 => h
  | j + 1 => by
    have ih := bad_stays f M k h j
    rw [← Nat.add_assoc, rn_succ]
    unfold stp
    split
    · split <;> simp [ih]
    · exact ih
/-- Bytes behind a lead byte, as the document reads them: so many more, the next one at k. -/
def cont (g : Nat → Nat) (r : Nat) : Nat → Nat → Nat → Nat → Nat → Nat × Nat
  | 0, _, _, p, k => (p, k)
  | m + 1, l, h, p, k => if k < r ∧ l ≤ g k ∧ g k ≤ h then cont g r m 128 191 (p * 64 + g k % 64) (k + 1) else (0, 0)
/-- The document's first point of r bytes. -/
def Pt (g : Nat → Nat) (r : Nat) : Nat × Nat :=
  if r = 0 then (0, 0) else if (lead (g 0)).y then cont g r (lead (g 0)).m (lead (g 0)).l (lead (g 0)).h (lead (g 0)).p 1 else (0, 0)
theorem cont_good (f : Nat → Nat) (M s : Nat) (hs : s ≤ M) : ∀ (m l h p k : Nat), rn f M (s + k) = ⟨m, l, h, p, false⟩ → k ≤ M - s → (cont (fun i => f (s + i)) (M - s) m l h p k).2 ≠ 0 →
    k ≤ (cont (fun i => f (s + i)) (M - s) m l h p k).2 ∧ (cont (fun i => f (s + i)) (M - s) m l h p k).2 ≤ M - s ∧
    (rn f M (s + (cont (fun i => f (s + i)) (M - s) m l h p k).2)).m = 0 ∧ (rn f M (s + (cont (fun i => f (s + i)) (M - s) m l h p k).2)).b = false ∧ (rn f M (s + (cont (fun i => f (s + i)) (M - s) m l h p k).2)).p = (cont (fun i => f (s + i)) (M - s) m l h p k).1 ∧
    ∀ j, s + k ≤ j → j < s + (cont (fun i => f (s + i)) (M - s) m l h p k).2 → wk f M j = decide (j + 1 = s + (cont (fun i => f (s + i)) (M - s) m l h p k).2)
  | 0, l, h, p, k, hr, hk, _ => by
    have e : cont (fun i => f (s + i)) (M - s) 0 l h p k = (p, k) := rfl
    rw [e]
    simp only []
    rw [hr]
    exact ⟨Nat.le_refl _, hk, rfl, rfl, rfl, fun j h1 h2 => by omega⟩
  | m + 1, l, h, p, k, hr, hk, hc => by
    by_cases hin : k < M - s ∧ l ≤ f (s + k) ∧ f (s + k) ≤ h
    · have e : cont (fun i => f (s + i)) (M - s) (m + 1) l h p k = cont (fun i => f (s + i)) (M - s) m 128 191 (p * 64 + f (s + k) % 64) (k + 1) := by
        show (if _ then _ else _) = _
        rw [if_pos hin]
      have hst : stp ⟨m + 1, l, h, p, false⟩ (f (s + k)) true = ⟨m, 128, 191, p * 64 + f (s + k) % 64, false⟩ := by
        unfold stp
        simp [hin.2.1, hin.2.2]
      have hn : rn f M (s + (k + 1)) = ⟨m, 128, 191, p * 64 + f (s + k) % 64, false⟩ := by
        rw [← Nat.add_assoc, rn_succ, hr, decide_eq_true (show s + k < M by omega), hst]
      rw [e] at hc ⊢
      obtain ⟨h1, h2, h3, h4, h5, h6⟩ := cont_good f M s hs m 128 191 _ (k + 1) hn (by omega) hc
      refine ⟨by omega, h2, h3, h4, h5, fun j hj1 hj2 => ?_⟩
      rcases Nat.lt_or_ge (s + k) j with h7 | h7
      · exact h6 j (by omega) hj2
      · obtain rfl : j = s + k := by omega
        have hw : wk f M (s + k) = decide (m = 0) := by
          unfold wk wh
          rw [hr, decide_eq_true (show s + k < M by omega), hst]
          rfl
        rw [hw]
        cases m with
        | zero =>
          have e0 : cont (fun i => f (s + i)) (M - s) 0 128 191 (p * 64 + f (s + k) % 64) (k + 1) = (p * 64 + f (s + k) % 64, k + 1) := rfl
          rw [e0]
          simp [Nat.add_assoc]
        | succ m =>
          have h8 : k + 1 < (cont (fun i => f (s + i)) (M - s) (m + 1) 128 191 (p * 64 + f (s + k) % 64) (k + 1)).2 := by
            rcases Nat.lt_or_ge (k + 1) (cont (fun i => f (s + i)) (M - s) (m + 1) 128 191 (p * 64 + f (s + k) % 64) (k + 1)).2 with h9 | h9
            · exact h9
            · have h10 : (cont (fun i => f (s + i)) (M - s) (m + 1) 128 191 (p * 64 + f (s + k) % 64) (k + 1)).2 = k + 1 := by omega
              rw [h10, hn] at h3
              simp at h3
          rw [decide_eq_false (by omega), decide_eq_false (by omega)]
    · exfalso
      apply hc
      show (if _ then _ else _ : Nat × Nat).2 = 0
      rw [if_neg hin]
theorem cont_bad (f : Nat → Nat) (M s : Nat) (hs : s ≤ M) : ∀ (m l h p k : Nat), rn f M (s + k) = ⟨m, l, h, p, false⟩ → k ≤ M - s → 0 < k → (cont (fun i => f (s + i)) (M - s) m l h p k).2 = 0 → (rn f M M).m ≠ 0 ∨ (rn f M M).b = true
  | 0, l, h, p, k, _, _, hk0, hc => by
    have e : (cont (fun i => f (s + i)) (M - s) 0 l h p k).2 = k := rfl
    omega
  | m + 1, l, h, p, k, hr, hk, hk0, hc => by
    by_cases hkr : k < M - s
    · have hst : stp ⟨m + 1, l, h, p, false⟩ (f (s + k)) true = ⟨m, 128, 191, p * 64 + f (s + k) % 64, !(decide (l ≤ f (s + k)) && decide (f (s + k) ≤ h))⟩ := by
        unfold stp
        simp
      have hn : rn f M (s + (k + 1)) = ⟨m, 128, 191, p * 64 + f (s + k) % 64, !(decide (l ≤ f (s + k)) && decide (f (s + k) ≤ h))⟩ := by
        rw [← Nat.add_assoc, rn_succ, hr, decide_eq_true (show s + k < M by omega), hst]
      by_cases hin : l ≤ f (s + k) ∧ f (s + k) ≤ h
      · have e : cont (fun i => f (s + i)) (M - s) (m + 1) l h p k = cont (fun i => f (s + i)) (M - s) m 128 191 (p * 64 + f (s + k) % 64) (k + 1) := by
          show (if _ then _ else _) = _
          rw [if_pos ⟨hkr, hin⟩]
        rw [e] at hc
        have : (!(decide (l ≤ f (s + k)) && decide (f (s + k) ≤ h))) = false := by simp [hin.1, hin.2]
        rw [this] at hn
        exact cont_bad f M s hs m 128 191 _ (k + 1) hn (by omega) (by omega) hc
      · right
        have hb : (rn f M (s + (k + 1))).b = true := by
          rw [hn]
          show (!(decide (l ≤ f (s + k)) && decide (f (s + k) ≤ h))) = true
          rw [Bool.not_eq_true', ← Bool.not_eq_true, Bool.and_eq_true, decide_eq_true_eq, decide_eq_true_eq]
          exact hin
        have := bad_stays f M (s + (k + 1)) hb (M - (s + (k + 1)))
        rwa [show s + (k + 1) + (M - (s + (k + 1))) = M by omega] at this
    · left
      rw [show M = s + k by omega] at hr ⊢
      rw [hr]
      simp
theorem pt_good (f : Nat → Nat) (M s : Nat) (hs : s ≤ M) (hm : (rn f M s).m = 0) (hb : (rn f M s).b = false) (hp : (Pt (fun i => f (s + i)) (M - s)).2 ≠ 0) :
    1 ≤ (Pt (fun i => f (s + i)) (M - s)).2 ∧ (Pt (fun i => f (s + i)) (M - s)).2 ≤ M - s ∧ (rn f M (s + (Pt (fun i => f (s + i)) (M - s)).2)).m = 0 ∧ (rn f M (s + (Pt (fun i => f (s + i)) (M - s)).2)).b = false ∧
    (rn f M (s + (Pt (fun i => f (s + i)) (M - s)).2)).p = (Pt (fun i => f (s + i)) (M - s)).1 ∧ ∀ j, s ≤ j → j < s + (Pt (fun i => f (s + i)) (M - s)).2 → wk f M j = decide (j + 1 = s + (Pt (fun i => f (s + i)) (M - s)).2) := by
  have hr : ¬ M - s = 0 := by
    intro h0
    apply hp
    unfold Pt
    rw [if_pos h0]
  have hy : (lead (f s)).y = true := by
    cases h : (lead (f s)).y
    · exfalso
      apply hp
      unfold Pt
      rw [if_neg hr]
      simp only [Nat.add_zero]
      rw [h]
      rfl
    · rfl
  have e : Pt (fun i => f (s + i)) (M - s) = cont (fun i => f (s + i)) (M - s) (lead (f s)).m (lead (f s)).l (lead (f s)).h (lead (f s)).p 1 := by
    unfold Pt
    rw [if_neg hr]
    simp only [Nat.add_zero]
    rw [if_pos hy]
  have hst : stp (rn f M s) (f s) true = ⟨(lead (f s)).m, (lead (f s)).l, (lead (f s)).h, (lead (f s)).p, false⟩ := by
    unfold stp
    rw [if_pos rfl, if_pos hm, hb, hy]
    rfl
  have hn : rn f M (s + 1) = ⟨(lead (f s)).m, (lead (f s)).l, (lead (f s)).h, (lead (f s)).p, false⟩ := by
    rw [rn_succ, decide_eq_true (show s < M by omega), hst]
  rw [e] at hp ⊢
  obtain ⟨h1, h2, h3, h4, h5, h6⟩ := cont_good f M s hs _ _ _ _ 1 hn (by omega) hp
  refine ⟨h1, h2, h3, h4, h5, fun j hj1 hj2 => ?_⟩
  rcases Nat.lt_or_ge s j with h7 | h7
  · exact h6 j (by omega) hj2
  · obtain rfl : j = s := by omega
    have hw : wk f M j = decide ((lead (f j)).m = 0) := by
      unfold wk wh
      rw [decide_eq_true (show j < M by omega), hst]
      rfl
    rw [hw]
    by_cases h0 : (lead (f j)).m = 0
    · have e0 : (cont (fun i => f (j + i)) (M - j) (lead (f j)).m (lead (f j)).l (lead (f j)).h (lead (f j)).p 1).2 = 1 := by
        rw [h0]
        rfl
      rw [e0, decide_eq_true h0]
      simp
    · have h8 : (cont (fun i => f (j + i)) (M - j) (lead (f j)).m (lead (f j)).l (lead (f j)).h (lead (f j)).p 1).2 ≠ 1 := by
        intro h9
        rw [h9, hn] at h3
        exact h0 h3
      rw [decide_eq_false h0, decide_eq_false (by omega)]
theorem pt_bad (f : Nat → Nat) (M s : Nat) (hs : s < M) (hm : (rn f M s).m = 0) (hb : (rn f M s).b = false) (hp : (Pt (fun i => f (s + i)) (M - s)).2 = 0) : (rn f M M).m ≠ 0 ∨ (rn f M M).b = true := by
  have hr : ¬ M - s = 0 := by omega
  cases hy : (lead (f s)).y
  · right
    have hb1 : (rn f M (s + 1)).b = true := by
      rw [rn_succ, decide_eq_true hs]
      unfold stp
      rw [if_pos rfl, if_pos hm, hy]
      simp
    have := bad_stays f M (s + 1) hb1 (M - (s + 1))
    rwa [show s + 1 + (M - (s + 1)) = M by omega] at this
  · have e : Pt (fun i => f (s + i)) (M - s) = cont (fun i => f (s + i)) (M - s) (lead (f s)).m (lead (f s)).l (lead (f s)).h (lead (f s)).p 1 := by
      unfold Pt
      rw [if_neg hr]
      simp only [Nat.add_zero]
      rw [if_pos hy]
    have hn : rn f M (s + 1) = ⟨(lead (f s)).m, (lead (f s)).l, (lead (f s)).h, (lead (f s)).p, false⟩ := by
      rw [rn_succ, decide_eq_true hs]
      unfold stp
      rw [if_pos rfl, if_pos hm, hb, hy]
      rfl
    rw [e] at hp
    exact cont_bad f M s (by omega) _ _ _ _ 1 hn (by omega) (by decide) hp
/-! ### points, one behind the other -/
def pos (f : Nat → Nat) (M : Nat) : Nat → Nat
  | 0 => 0
  | j + 1 => pos f M j + (Pt (fun i => f (pos f M j + i)) (M - pos f M j)).2
def val (f : Nat → Nat) (M j : Nat) : Nat := (Pt (fun i => f (pos f M j + i)) (M - pos f M j)).1
def nof (f : Nat → Nat) (M j : Nat) : Nat := (Pt (fun i => f (pos f M j + i)) (M - pos f M j)).2
theorem pos_zero (f : Nat → Nat) (M : Nat) : pos f M 0 = 0 := rfl
theorem pos_succ (f : Nat → Nat) (M j : Nat) : pos f M (j + 1) = pos f M j + nof f M j := rfl
/-- So many points are right. -/
def Rights (f : Nat → Nat) (M J : Nat) : Prop := ∀ q, q < J → nof f M q ≠ 0
theorem run_pos (f : Nat → Nat) (M : Nat) : ∀ J, Rights f M J → pos f M J ≤ M ∧ (rn f M (pos f M J)).m = 0 ∧ (rn f M (pos f M J)).b = false
  | 0, _ => ⟨Nat.zero_le _, rfl, rfl⟩
  | J + 1, h => by
    obtain ⟨h1, h2, h3⟩ := run_pos f M J (fun q hq => h q (by omega))
    obtain ⟨a, b, c, d, e, g⟩ := pt_good f M (pos f M J) h1 h2 h3 (h J (by omega))
    exact ⟨by rw [pos_succ]; unfold nof; omega, c, d⟩
theorem run_step (f : Nat → Nat) (M J : Nat) (h : Rights f M (J + 1)) : 1 ≤ nof f M J ∧ pos f M (J + 1) ≤ M ∧ ov f M (pos f M (J + 1) - 1) = val f M J ∧ wk f M (pos f M (J + 1) - 1) = true ∧
    ∀ i, pos f M J ≤ i → i + 1 < pos f M (J + 1) → ov f M i = 0 ∧ wk f M i = false := by
  obtain ⟨h1, h2, h3⟩ := run_pos f M J (fun q hq => h q (by omega))
  obtain ⟨a, b, c, d, e, g⟩ := pt_good f M (pos f M J) h1 h2 h3 (h J (by omega))
  have hps := pos_succ f M J
  have hnf : nof f M J = (Pt (fun i => f (pos f M J + i)) (M - pos f M J)).2 := rfl
  rw [← hnf] at a b c d e g
  rw [hps]
  have hw : wk f M (pos f M J + nof f M J - 1) = true := by
    rw [g _ (by omega) (by omega), decide_eq_true (by omega)]
  refine ⟨a, by omega, ?_, hw, fun i h4 h5 => ?_⟩
  · unfold ov
    rw [if_pos hw, show pos f M J + nof f M J - 1 + 1 = pos f M J + nof f M J by omega, e]
    rfl
  · have hw2 : wk f M i = false := by rw [g i h4 (by omega), decide_eq_false (by omega)]
    refine ⟨?_, hw2⟩
    unfold ov
    rw [hw2]
    rfl
theorem run_bad (f : Nat → Nat) (M J : Nat) (h : Rights f M J) (hp : pos f M J < M) (hn : nof f M J = 0) : (rn f M M).m ≠ 0 ∨ (rn f M M).b = true := by
  obtain ⟨h1, h2, h3⟩ := run_pos f M J h
  exact pt_bad f M _ hp h2 h3 hn
/-- How many bytes a point has. -/
def blen (p : Nat) : Nat := if p < 128 then 1 else if p < 2048 then 2 else if p < 65536 then 3 else 4
theorem pt_blen (g : Nat → Nat) (r : Nat) (hg : ∀ k, g k < 256) (h : (Pt g r).2 ≠ 0) : blen (Pt g r).1 = (Pt g r).2 ∧ (Pt g r).1 < 2097152 := by
  have h0 := hg 0
  have h1 := hg 1
  have h2 := hg 2
  have h3 := hg 3
  revert h
  unfold Pt
  split
  · intro h; exact absurd rfl h
  · split
    · rename_i hy
      revert hy
      unfold lead
      split
      · intro _ _
        refine ⟨?_, ?_⟩
        · show blen (g 0) = 1
          unfold blen
          rw [if_pos (by omega)]
        · show g 0 < 2097152
          omega
      · split
        · intro _
          simp only [cont]
          split
          · intro _
            simp only []
            refine ⟨?_, by omega⟩
            unfold blen
            rw [if_neg (by omega), if_pos (by omega)]
          · intro h; exact absurd rfl h
        · split
          · intro _
            obtain ⟨lo, hlo⟩ : ∃ lo, (if g 0 = 224 then 160 else 128) = lo := ⟨_, rfl⟩
            obtain ⟨hi, hhi⟩ : ∃ hi, (if g 0 = 237 then 159 else 191) = hi := ⟨_, rfl⟩
            rw [hlo, hhi]
            have hl2 : g 0 = 224 ∧ lo = 160 ∨ g 0 ≠ 224 ∧ lo = 128 := by split at hlo <;> omega
            have hh2 : hi ≤ 191 := by split at hhi <;> omega
            clear hlo hhi
            simp only [cont]
            split
            · split
              · intro _
                refine ⟨?_, by omega⟩
                unfold blen
                rw [if_neg (by omega), if_neg (by omega), if_pos (by omega)]
              · intro h; exact absurd rfl h
            · intro h; exact absurd rfl h
          · split
            · intro _
              obtain ⟨lo, hlo⟩ : ∃ lo, (if g 0 = 240 then 144 else 128) = lo := ⟨_, rfl⟩
              obtain ⟨hi, hhi⟩ : ∃ hi, (if g 0 = 244 then 143 else 191) = hi := ⟨_, rfl⟩
              rw [hlo, hhi]
              have hl2 : g 0 = 240 ∧ lo = 144 ∨ g 0 ≠ 240 ∧ lo = 128 := by split at hlo <;> omega
              have hh2 : hi ≤ 191 := by split at hhi <;> omega
              clear hlo hhi
              simp only [cont]
              split
              · split
                · split
                  · intro _
                    refine ⟨?_, by omega⟩
                    unfold blen
                    rw [if_neg (by omega), if_neg (by omega), if_neg (by omega)]
                  · intro h; exact absurd rfl h
                · intro h; exact absurd rfl h
              · intro h; exact absurd rfl h
            · intro hy; cases hy
    · intro h; exact absurd rfl h
end Ut
end Go.Proofs.Ytjoehhojhfgooaa
