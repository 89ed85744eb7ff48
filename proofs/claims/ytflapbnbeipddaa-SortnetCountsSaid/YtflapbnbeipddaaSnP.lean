/- The network of merge exchange leaves any words in order: by its work on bits. Plain. No condition. -/
import Derived.Test.YtflapbnbeipddaaKit
namespace Go.Proofs.Ytflapbnbeipddaa
namespace Sn
def ex (f : Nat → Nat) (q : Nat × Nat) : Nat → Nat := fun k => if k = q.1 then min (f q.1) (f q.2) else if k = q.2 then max (f q.1) (f q.2) else f k
def run (f : Nat → Nat) (ps : List (Nat × Nat)) : Nat → Nat := ps.foldl ex f
def exB (b : Nat → Bool) (q : Nat × Nat) : Nat → Bool := fun k => if k = q.1 then b q.1 && b q.2 else if k = q.2 then b q.1 || b q.2 else b k
def runB (b : Nat → Bool) (ps : List (Nat × Nat)) : Nat → Bool := ps.foldl exB b
theorem thr_one (t : Nat) (f : Nat → Nat) (q : Nat × Nat) : (fun k => decide (t ≤ ex f q k)) = exB (fun k => decide (t ≤ f k)) q := by
  funext k
  unfold ex exB
  by_cases h1 : k = q.1
  · rw [if_pos h1, if_pos h1]
    by_cases a : t ≤ f q.1 <;> by_cases b : t ≤ f q.2 <;> simp [a, b] <;> omega
  · rw [if_neg h1, if_neg h1]
    by_cases h2 : k = q.2
    · rw [if_pos h2, if_pos h2]
      by_cases a : t ≤ f q.1 <;> by_cases b : t ≤ f q.2 <;> simp [a, b] <;> omega
    · rw [if_neg h2, if_neg h2]
theorem thr (t : Nat) : ∀ (ps : List (Nat × Nat)) (f : Nat → Nat), (fun k => decide (t ≤ run f ps k)) = runB (fun k => decide (t ≤ f k)) ps
  | [], _ => rfl
  | q :: ps, f => by
    show (fun k => decide (t ≤ run (ex f q) ps k)) = runB (exB (fun k => decide (t ≤ f k)) q) ps
    rw [thr t ps (ex f q), thr_one]
def lyK (p r d K : Nat) : List (Nat × Nat) := ((List.range K).filter fun i => i / p % 2 == r).map fun i => (i, i + d)
/-- One layer: all pairs that are d apart, those of which the bit p is r. -/
def ly (n p r d : Nat) : List (Nat × Nat) := lyK p r d (n - d)
theorem lyK_succ (p r d K : Nat) : lyK p r d (K + 1) = lyK p r d K ++ if K / p % 2 = r then [(K, K + d)] else [] := by
  unfold lyK
  rw [List.range_succ, List.filter_append, List.map_append]
  by_cases h : K / p % 2 = r
  · simp [h]
  · simp [h]
theorem runB_app (b : Nat → Bool) (x y : List (Nat × Nat)) : runB b (x ++ y) = runB (runB b x) y := List.foldl_append
theorem lyK_eff (p r d : Nat) (hd : 0 < d) (hdis : ∀ i, i / p % 2 = r → (i + d) / p % 2 ≠ r) (b : Nat → Bool) : ∀ K k,
    runB b (lyK p r d K) k = if k / p % 2 = r then (if k < K then b k && b (k + d) else b k) else if d ≤ k ∧ k - d < K ∧ (k - d) / p % 2 = r then b (k - d) || b k else b k
  | 0, k => by
    show b k = _
    split
    · rw [if_neg (Nat.not_lt_zero k)]
    · rw [if_neg (fun h => absurd h.2.1 (Nat.not_lt_zero _))]
  | K + 1, k => by
    have ih := lyK_eff p r d hd hdis b K
    rw [lyK_succ]
    by_cases hK : K / p % 2 = r
    · rw [if_pos hK, runB_app]
      have hKd := hdis K hK
      have e1 : runB b (lyK p r d K) K = b K := by rw [ih, if_pos hK, if_neg (Nat.lt_irrefl K)]
      have e2 : runB b (lyK p r d K) (K + d) = b (K + d) := by rw [ih, if_neg hKd, if_neg (fun h => by have := h.2.1; omega)]
      show exB (runB b (lyK p r d K)) (K, K + d) k = _
      unfold exB
      simp only [e1, e2]
      by_cases h1 : k = K
      · subst h1
        rw [if_pos rfl, if_pos hK, if_pos (Nat.lt_succ_self k)]
      · rw [if_neg h1]
        by_cases h2 : k = K + d
        · subst h2
          rw [if_pos rfl, if_neg hKd, if_pos ⟨by omega, by omega, by rw [Nat.add_sub_cancel]; exact hK⟩, Nat.add_sub_cancel]
        · rw [if_neg h2, ih]
          by_cases h3 : k / p % 2 = r
          · rw [if_pos h3, if_pos h3]
            by_cases h4 : k < K
            · rw [if_pos h4, if_pos (by omega)]
            · rw [if_neg h4, if_neg (by omega)]
          · rw [if_neg h3, if_neg h3]
            by_cases h5 : d ≤ k ∧ k - d < K ∧ (k - d) / p % 2 = r
            · rw [if_pos h5, if_pos ⟨h5.1, by omega, h5.2.2⟩]
            · rw [if_neg h5, if_neg (fun h => h5 ⟨h.1, by omega, h.2.2⟩)]
    · rw [if_neg hK, List.append_nil, ih]
      by_cases h3 : k / p % 2 = r
      · rw [if_pos h3, if_pos h3]
        have : k ≠ K := fun e => hK (e ▸ h3)
        by_cases h4 : k < K
        · rw [if_pos h4, if_pos (by omega)]
        · rw [if_neg h4, if_neg (by omega)]
      · rw [if_neg h3, if_neg h3]
        by_cases h5 : d ≤ k ∧ k - d < K ∧ (k - d) / p % 2 = r
        · rw [if_pos h5, if_pos ⟨h5.1, by omega, h5.2.2⟩]
        · rw [if_neg h5, if_neg (fun h => h5 ⟨h.1, by
            have : k - d ≠ K := fun e => hK (e ▸ h.2.2)
            omega, h.2.2⟩)]
def Tru (n : Nat) (b : Nat → Bool) : Prop := ∀ k, n ≤ k → b k = true
theorem ly_eff (n p r d : Nat) (hd : 0 < d) (hdis : ∀ i, i / p % 2 = r → (i + d) / p % 2 ≠ r) (b : Nat → Bool) (ht : Tru n b) (k : Nat) :
    runB b (ly n p r d) k = if k / p % 2 = r then b k && b (k + d) else if d ≤ k ∧ (k - d) / p % 2 = r then b (k - d) || b k else b k := by
  unfold ly
  rw [lyK_eff p r d hd hdis b]
  by_cases h1 : k / p % 2 = r
  · rw [if_pos h1, if_pos h1]
    by_cases h2 : k < n - d
    · rw [if_pos h2]
    · rw [if_neg h2, ht (k + d) (by omega), Bool.and_true]
  · rw [if_neg h1, if_neg h1]
    by_cases h3 : d ≤ k ∧ (k - d) / p % 2 = r
    · rw [if_pos h3]
      by_cases h2 : k < n
      · rw [if_pos ⟨h3.1, by omega, h3.2⟩]
      · rw [if_neg (fun h => by have := h.2.1; omega), ht k (by omega), Bool.or_true]
    · rw [if_neg h3, if_neg (fun h => h3 ⟨h.1, h.2.2⟩)]
theorem ly_tru (n p r d : Nat) (hd : 0 < d) (hdis : ∀ i, i / p % 2 = r → (i + d) / p % 2 ≠ r) (b : Nat → Bool) (ht : Tru n b) : Tru n (runB b (ly n p r d)) := fun k hk => by
  rw [ly_eff n p r d hd hdis b ht]
  split
  · rw [ht k hk, ht (k + d) (by omega)]; rfl
  · split
    · rw [ht k hk, Bool.or_true]
    · exact ht k hk
/-- By residues: the even ones are in order, and the odd ones. -/
def St (p : Nat) (b : Nat → Bool) (Z0 Z1 : Nat → Nat) : Prop := ∀ r, r < p → ∀ m, b (r + 2 * p * m) = decide (Z0 r ≤ m) ∧ b (r + p + 2 * p * m) = decide (Z1 r ≤ m)
theorem even_ix (p r m : Nat) (hr : r < p) : (r + 2 * p * m) / p = 2 * m := by
  rw [show r + 2 * p * m = r + p * (2 * m) by rw [Nat.mul_comm 2 p, Nat.mul_assoc], Nat.add_mul_div_left _ _ (by omega), Nat.div_eq_of_lt hr, Nat.zero_add]
theorem odd_ix (p r m : Nat) (hr : r < p) : (r + p + 2 * p * m) / p = 2 * m + 1 := by
  rw [show r + p + 2 * p * m = r + p * (2 * m + 1) by rw [Nat.mul_add, Nat.mul_one, Nat.mul_comm 2 p, Nat.mul_assoc]; omega, Nat.add_mul_div_left _ _ (by omega), Nat.div_eq_of_lt hr, Nat.zero_add]
theorem dec_and (a b : Prop) [Decidable a] [Decidable b] : (decide a && decide b) = decide (a ∧ b) := by simp
theorem dec_or (a b : Prop) [Decidable a] [Decidable b] : (decide a || decide b) = decide (a ∨ b) := by simp
theorem add_div_p (p m i : Nat) (hp : 0 < p) : (i + p * m) / p = i / p + m := Nat.add_mul_div_left _ _ hp
theorem dis_of (p m r : Nat) (hp : 0 < p) (hm : m % 2 = 1) : ∀ i, i / p % 2 = r → (i + p * m) / p % 2 ≠ r := fun i h => by
  rw [add_div_p p m i hp]
  omega
theorem first (n p : Nat) (hp : 0 < p) (b : Nat → Bool) (ht : Tru n b) (Z0 Z1 : Nat → Nat) (h : St p b Z0 Z1) : St p (runB b (ly n p 0 p)) (fun r => max (Z0 r) (Z1 r)) (fun r => min (Z0 r) (Z1 r)) ∧ Tru n (runB b (ly n p 0 p)) := by
  have hdis : ∀ i, i / p % 2 = 0 → (i + p) / p % 2 ≠ 0 := fun i hi => by
    have := dis_of p 1 0 hp rfl i hi
    rwa [Nat.mul_one] at this
  refine ⟨fun r hr m => ?_, ly_tru n p 0 p hp hdis b ht⟩
  obtain ⟨h0, h1⟩ := h r hr m
  have e0 := even_ix p r m hr
  have e1 := odd_ix p r m hr
  constructor
  · rw [ly_eff n p 0 p hp hdis b ht, if_pos (by rw [e0]; omega), h0, show r + 2 * p * m + p = r + p + 2 * p * m by omega, h1, dec_and]
    congr 1
    simp only [eq_iff_iff]
    omega
  · rw [ly_eff n p 0 p hp hdis b ht, if_neg (by rw [e1]; omega), if_pos ⟨by omega, by rw [show r + p + 2 * p * m - p = r + 2 * p * m by omega, e0]; omega⟩, show r + p + 2 * p * m - p = r + 2 * p * m by omega, h0, h1, dec_or]
    congr 1
    simp only [eq_iff_iff]
    omega
theorem merge_one (n p h : Nat) (hp : 0 < p) (hh : 0 < h) (b : Nat → Bool) (ht : Tru n b) (Z0 Z1 : Nat → Nat) (hs : St p b Z0 Z1) :
    St p (runB b (ly n p 1 (p * (2 * h - 1)))) (fun r => min (Z0 r) (Z1 r + h)) (fun r => max (Z1 r) (Z0 r - h)) ∧ Tru n (runB b (ly n p 1 (p * (2 * h - 1)))) := by
  have hdis := dis_of p (2 * h - 1) 1 hp (by omega)
  have hd : 0 < p * (2 * h - 1) := Nat.mul_pos hp (by omega)
  refine ⟨fun r hr m => ?_, ly_tru n p 1 _ hd hdis b ht⟩
  have e0 := even_ix p r m hr
  have e1 := odd_ix p r m hr
  have hmul : p * (2 * h - 1) + p = 2 * p * h := by
    rw [← Nat.mul_succ, show (2 * h - 1).succ = 2 * h by omega, ← Nat.mul_assoc, Nat.mul_comm p 2]
  constructor
  · rw [ly_eff n p 1 _ hd hdis b ht, if_neg (by rw [e0]; omega), (hs r hr m).1]
    by_cases hm : h ≤ m
    · obtain ⟨q, rfl⟩ : ∃ q, m = q + h := ⟨m - h, by omega⟩
      have e2 : r + 2 * p * (q + h) - p * (2 * h - 1) = r + p + 2 * p * q := by
        rw [Nat.mul_add]
        omega
      have hle : p * (2 * h - 1) ≤ r + 2 * p * (q + h) := by rw [Nat.mul_add]; omega
      rw [if_pos ⟨hle, by rw [e2, odd_ix p r q hr]; omega⟩, e2, (hs r hr q).2, dec_or]
      congr 1
      simp only [eq_iff_iff]
      omega
    · have hlt : ¬ p * (2 * h - 1) ≤ r + 2 * p * m := fun hc => by
        have : 2 * p * (m + 1) ≤ 2 * p * h := Nat.mul_le_mul_left _ (by omega)
        rw [Nat.mul_succ] at this
        omega
      rw [if_neg (fun hc => hlt hc.1)]
      congr 1
      simp only [eq_iff_iff]
      omega
  · rw [ly_eff n p 1 _ hd hdis b ht, if_pos (by rw [e1]; omega), (hs r hr m).2, show r + p + 2 * p * m + p * (2 * h - 1) = r + 2 * p * (m + h) by rw [Nat.mul_add]; omega, (hs r hr (m + h)).1, dec_and]
    congr 1
    simp only [eq_iff_iff]
    omega
/-- The merges of what is further apart. -/
def mer (n p : Nat) : Nat → List (Nat × Nat)
  | 0 => []
  | t + 1 => ly n p 1 (p * (2 * 2 ^ t - 1)) ++ mer n p t
theorem mer_ok (n p : Nat) (hp : 0 < p) : ∀ (t : Nat) (b : Nat → Bool), Tru n b → ∀ Z0 Z1, St p b Z0 Z1 → (∀ r, r < p → Z1 r ≤ Z0 r ∧ Z0 r ≤ Z1 r + 2 ^ t) →
    Tru n (runB b (mer n p t)) ∧ ∃ Z0 Z1, St p (runB b (mer n p t)) Z0 Z1 ∧ ∀ r, r < p → Z1 r ≤ Z0 r ∧ Z0 r ≤ Z1 r + 1
  | 0, b, ht, Z0, Z1, hs, hz => ⟨ht, Z0, Z1, hs, hz⟩
  | t + 1, b, ht, Z0, Z1, hs, hz => by
    obtain ⟨h1, h2⟩ := merge_one n p (2 ^ t) hp (Nat.two_pow_pos t) b ht Z0 Z1 hs
    show Tru n (runB b (ly n p 1 (p * (2 * 2 ^ t - 1)) ++ mer n p t)) ∧ _
    rw [show mer n p (t + 1) = ly n p 1 (p * (2 * 2 ^ t - 1)) ++ mer n p t from rfl, runB_app]
    refine mer_ok n p hp t _ h2 _ _ h1 (fun r hr => ?_)
    have := hz r hr
    rw [Nat.pow_succ] at this
    omega
def phase (n B b : Nat) : List (Nat × Nat) := ly n (2 ^ b) 0 (2 ^ b) ++ mer n (2 ^ b) (B - b)
/-- In order by residues of p. -/
def Inv (p : Nat) (b : Nat → Bool) : Prop := ∀ r, r < p → ∃ z, ∀ k, b (r + p * k) = decide (z ≤ k)
theorem phase_ok (n B b : Nat) (hb : b ≤ B) (hn : n ≤ 2 ^ (B + 1)) (c : Nat → Bool) (ht : Tru n c) (hi : Inv (2 * 2 ^ b) c) : Tru n (runB c (phase n B b)) ∧ Inv (2 ^ b) (runB c (phase n B b)) := by
  have hp : 0 < 2 ^ b := Nat.two_pow_pos b
  obtain ⟨p, hpe⟩ : ∃ p, 2 ^ b = p := ⟨_, rfl⟩
  unfold phase
  rw [hpe] at hp hi ⊢
  have hz : ∀ r, r < 2 * p → ∃ z, (∀ k, c (r + 2 * p * k) = decide (z ≤ k)) := hi
  let Z0 : Nat → Nat := fun r => if h : r < 2 * p then (hz r h).choose else 0
  have hZ : ∀ r, r < 2 * p → ∀ k, c (r + 2 * p * k) = decide (Z0 r ≤ k) := fun r h k => by
    have := (hz r h).choose_spec k
    simp only [Z0, dif_pos h]
    exact this
  have hs : St p c Z0 (fun r => Z0 (r + p)) := fun r hr m => ⟨hZ r (by omega) m, hZ (r + p) (by omega) m⟩
  have hpow : 2 * p * 2 ^ (B - b) = 2 ^ (B + 1) := by
    rw [← hpe, ← Nat.pow_succ', ← Nat.pow_add]
    congr 1
    omega
  have hbd : ∀ r, r < 2 * p → Z0 r ≤ 2 ^ (B - b) := fun r hr => by
    have h1 := hZ r hr (2 ^ (B - b))
    rw [ht _ (by omega)] at h1
    exact of_decide_eq_true h1.symm
  obtain ⟨f1, f2⟩ := first n p hp c ht _ _ hs
  rw [runB_app]
  obtain ⟨m1, Y0, Y1, m2, m3⟩ := mer_ok n p hp (B - b) _ f2 _ _ f1 (fun r hr => by
    have h0 := hbd r (by omega)
    have h1 := hbd (r + p) (by omega)
    omega)
  refine ⟨m1, fun r hr => ⟨Y0 r + Y1 r, fun k => ?_⟩⟩
  have h3 := m3 r hr
  rcases Nat.mod_two_eq_zero_or_one k with h | h
  · obtain ⟨m, rfl⟩ : ∃ m, k = 2 * m := ⟨k / 2, by omega⟩
    rw [show r + p * (2 * m) = r + 2 * p * m by rw [← Nat.mul_assoc, Nat.mul_comm p 2], (m2 r hr m).1]
    congr 1
    simp only [eq_iff_iff]
    omega
  · obtain ⟨m, rfl⟩ : ∃ m, k = 2 * m + 1 := ⟨k / 2, by omega⟩
    rw [show r + p * (2 * m + 1) = r + p + 2 * p * m by rw [Nat.mul_add, ← Nat.mul_assoc, Nat.mul_comm p 2, Nat.mul_one]; omega, (m2 r hr m).2]
    congr 1
    simp only [eq_iff_iff]
    omega
def net (n B : Nat) : Nat → List (Nat × Nat)
  | 0 => phase n B 0
  | b + 1 => phase n B (b + 1) ++ net n B b
theorem net_ok (n B : Nat) (hn : n ≤ 2 ^ (B + 1)) : ∀ b, b ≤ B → ∀ c : Nat → Bool, Tru n c → Inv (2 * 2 ^ b) c → Inv 1 (runB c (net n B b))
  | 0, hb, c, ht, hi => (phase_ok n B 0 hb hn c ht hi).2
  | b + 1, hb, c, ht, hi => by
    obtain ⟨h1, h2⟩ := phase_ok n B (b + 1) hb hn c ht hi
    rw [show net n B (b + 1) = phase n B (b + 1) ++ net n B b from rfl, runB_app]
    refine net_ok n B hn b (by omega) _ h1 ?_
    rwa [show 2 * 2 ^ b = 2 ^ (b + 1) from (Nat.pow_succ').symm]
theorem net_bits (n B : Nat) (hn : n ≤ 2 ^ (B + 1)) (c : Nat → Bool) (ht : Tru n c) : ∀ i j, i ≤ j → runB c (net n B B) i = true → runB c (net n B B) j = true := by
  have hi : Inv (2 * 2 ^ B) c := fun r hr => ⟨if c r then 0 else 1, fun k => by
    rw [← Nat.pow_succ']
    cases k with
    | zero =>
      rw [Nat.mul_zero, Nat.add_zero]
      cases c r <;> simp
    | succ k =>
      have : 2 ^ (B + 1) ≤ 2 ^ (B + 1) * (k + 1) := Nat.le_mul_of_pos_right _ (Nat.succ_pos k)
      rw [ht _ (by rw [show B.succ = B + 1 from rfl]; omega)]
      cases c r <;> simp⟩
  obtain ⟨z, hz⟩ := net_ok n B hn B (Nat.le_refl B) c ht hi 0 (by decide)
  intro i j hij h
  have h1 := hz i
  have h2 := hz j
  rw [Nat.zero_add, Nat.one_mul] at h1 h2
  rw [h1] at h
  rw [h2]
  have := of_decide_eq_true h
  exact decide_eq_true (by omega)
theorem agree (n : Nat) : ∀ (ps : List (Nat × Nat)) (b b' : Nat → Bool), (∀ q ∈ ps, q.1 < q.2 ∧ q.2 < n) → (∀ k, k < n → b k = b' k) → ∀ k, k < n → runB b ps k = runB b' ps k
  | [], _, _, _, h, k, hk => h k hk
  | q :: ps, b, b', hq, h, k, hk => by
    show runB (exB b q) ps k = runB (exB b' q) ps k
    obtain ⟨q1, q2⟩ := hq q (List.mem_cons_self ..)
    refine agree n ps _ _ (fun x hx => hq x (List.mem_cons_of_mem _ hx)) (fun k hk => ?_) k hk
    unfold exB
    rw [h q.1 (by omega), h q.2 q2, h k hk]
theorem ly_in (n p r d : Nat) (hd : 0 < d) : ∀ q ∈ ly n p r d, q.1 < q.2 ∧ q.2 < n := fun q hq => by
  unfold ly lyK at hq
  rw [List.mem_map] at hq
  obtain ⟨i, hi, rfl⟩ := hq
  have := List.mem_range.1 (List.mem_filter.1 hi).1
  simp only
  omega
theorem mer_in (n p : Nat) (hp : 0 < p) : ∀ t, ∀ q ∈ mer n p t, q.1 < q.2 ∧ q.2 < n
  | 0, q, hq => by cases hq
  | t + 1, q, hq => by
    have := Nat.two_pow_pos t
    rcases List.mem_append.1 (show q ∈ ly n p 1 (p * (2 * 2 ^ t - 1)) ++ mer n p t from hq) with h | h
    · exact ly_in n p 1 _ (Nat.mul_pos hp (by omega)) q h
    · exact mer_in n p hp t q h
theorem phase_in (n B b : Nat) : ∀ q ∈ phase n B b, q.1 < q.2 ∧ q.2 < n := fun q hq => by
  rcases List.mem_append.1 hq with h | h
  · exact ly_in n _ 0 _ (Nat.two_pow_pos b) q h
  · exact mer_in n _ (Nat.two_pow_pos b) _ q h
theorem net_in (n B : Nat) : ∀ b, ∀ q ∈ net n B b, q.1 < q.2 ∧ q.2 < n
  | 0, q, hq => phase_in n B 0 q hq
  | b + 1, q, hq => by
    rcases List.mem_append.1 (show q ∈ phase n B (b + 1) ++ net n B b from hq) with h | h
    · exact phase_in n B _ q h
    · exact net_in n B b q h
/-- Words that have gone through the network are in order. -/
theorem net_sorts (n B : Nat) (hn : n ≤ 2 ^ (B + 1)) (f : Nat → Nat) (i j : Nat) (hij : i ≤ j) (hj : j < n) : run f (net n B B) i ≤ run f (net n B B) j := by
  obtain ⟨t, ht⟩ : ∃ t, run f (net n B B) i = t := ⟨_, rfl⟩
  rw [ht]
  have e := fun k => congrFun (thr t (net n B B) f) k
  have a := agree n (net n B B) (fun k => decide (t ≤ f k)) (fun k => if k < n then decide (t ≤ f k) else true) (net_in n B B) (fun k hk => by rw [if_pos hk])
  have h := net_bits n B hn (fun k => if k < n then decide (t ≤ f k) else true) (fun k hk => by simp only; rw [if_neg (by omega)]) i j hij
  rw [← a i (by omega), ← a j hj, ← e i, ← e j] at h
  exact of_decide_eq_true (h (decide_eq_true (by rw [ht]; exact Nat.le_refl t)))
/-- How often a word stands there. -/
def cnt (f : Nat → Nat) (x : Nat) : Nat → Nat
  | 0 => 0
  | n + 1 => cnt f x n + if f n = x then 1 else 0
theorem cnt_upd (f : Nat → Nat) (x a v : Nat) : ∀ n, (a < n → cnt (fun k => if k = a then v else f k) x n + (if f a = x then 1 else 0) = cnt f x n + if v = x then 1 else 0) ∧ (n ≤ a → cnt (fun k => if k = a then v else f k) x n = cnt f x n)
  | 0 => ⟨fun h => absurd h (Nat.not_lt_zero a), fun _ => rfl⟩
  | n + 1 => by
    obtain ⟨h1, h2⟩ := cnt_upd f x a v n
    show (_ → cnt _ x n + (if (if n = a then v else f n) = x then 1 else 0) + _ = cnt f x n + _ + _) ∧ (_ → cnt _ x n + (if (if n = a then v else f n) = x then 1 else 0) = cnt f x n + _)
    constructor
    · intro h
      by_cases e : n = a
      · subst e
        rw [h2 (Nat.le_refl n), if_pos rfl]
        omega
      · rw [if_neg e]
        have := h1 (by omega)
        omega
    · intro h
      rw [if_neg (show n ≠ a by omega), h2 (by omega)]
theorem cnt_ex (f : Nat → Nat) (q : Nat × Nat) (x n : Nat) (h1 : q.1 < q.2) (h2 : q.2 < n) : cnt (ex f q) x n = cnt f x n := by
  have a1 := (cnt_upd (fun k => if k = q.2 then max (f q.1) (f q.2) else f k) x q.1 (min (f q.1) (f q.2)) n).1 (by omega)
  have a2 := (cnt_upd f x q.2 (max (f q.1) (f q.2)) n).1 h2
  simp only [if_neg (show q.1 ≠ q.2 by omega)] at a1
  have a1' : cnt (ex f q) x n + (if f q.1 = x then 1 else 0) = cnt (fun k => if k = q.2 then max (f q.1) (f q.2) else f k) x n + if min (f q.1) (f q.2) = x then 1 else 0 := a1
  rcases Nat.le_total (f q.1) (f q.2) with h | h
  · rw [Nat.min_eq_left h] at a1'
    rw [Nat.max_eq_right h] at a1' a2
    by_cases u : f q.1 = x <;> by_cases v : f q.2 = x <;> simp only [u, v, if_true, if_false] at a1' a2 <;> omega
  · rw [Nat.min_eq_right h] at a1'
    rw [Nat.max_eq_left h] at a1' a2
    by_cases u : f q.1 = x <;> by_cases v : f q.2 = x <;> simp only [u, v, if_true, if_false] at a1' a2 <;> omega
theorem cnt_run (n x : Nat) : ∀ (ps : List (Nat × Nat)) (f : Nat → Nat), (∀ q ∈ ps, q.1 < q.2 ∧ q.2 < n) → cnt (run f ps) x n = cnt f x n
  | [], _, _ => rfl
  | q :: ps, f, h => by
    show cnt (run (ex f q) ps) x n = _
    rw [cnt_run n x ps _ (fun y hy => h y (List.mem_cons_of_mem _ hy)), cnt_ex f q x n (h q (List.mem_cons_self ..)).1 (h q (List.mem_cons_self ..)).2]
end Sn
end Go.Proofs.Ytflapbnbeipddaa
