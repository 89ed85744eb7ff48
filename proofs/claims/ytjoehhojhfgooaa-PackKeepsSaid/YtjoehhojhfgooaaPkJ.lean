/- PackKeeps: what is laid, and what Pack leaves of it. Plain. No condition. -/
import Derived.Test.YtjoehhojhfgooaaPk6
import Derived.Test.YtjoehhojhfgooaaPk7
import Derived.Test.YtjoehhojhfgooaaPkQ
namespace Go.Proofs.Ytjoehhojhfgooaa
namespace Pk
theorem kc_surj (kb : Nat → Bool) (q : Nat) : ∀ n, q < kc kb n → ∃ i, i < n ∧ kb i = true ∧ kc kb i = q
  | 0, h => absurd h (Nat.not_lt_zero q)
  | n + 1, h => by
    rw [kc_succ] at h
    by_cases h1 : q < kc kb n
    · obtain ⟨i, h2, h3⟩ := kc_surj kb q n h1
      exact ⟨i, by omega, h3⟩
    · cases hb : kb n
      · rw [hb] at h
        simp at h
        omega
      · rw [hb, if_pos rfl] at h
        exact ⟨n, Nat.lt_succ_self n, hb, by omega⟩
theorem AL_mul (n W j : Nat) (_hj : j < W + 2) : AL 0 (n * (W + 1)) (fun j => n * (j + 1)) W j = n * j := by
  unfold AL KL
  split
  · rename_i h; rw [h]
  · split
    · rename_i h; rw [h, Nat.mul_zero]
    · show n * (j - 1 + 1) = n * j
      rw [Nat.sub_add_cancel (by omega)]
theorem mul_div (n j q : Nat) (h : q < n) : (n * j + q) / n = j ∧ (n * j + q) % n = q :=
  ⟨by rw [Nat.mul_add_div (by omega), Nat.div_eq_of_lt h, Nat.add_zero], by rw [Nat.mul_add_mod, Nat.mod_eq_of_lt h]⟩
theorem apart_mul (n W : Nat) : Apart n (n * (W + 1) + n) (AL 0 (n * (W + 1)) (fun j => n * (j + 1)) W) (W + 2) where
  fit j hj := by
    rw [AL_mul n W j hj]
    have : n * j ≤ n * (W + 1) := Nat.mul_le_mul_left n (by omega)
    omega
  ne j j' q q' hj hj' hq hq' h := by
    rw [AL_mul n W j hj, AL_mul n W j' hj'] at h
    have h1 := mul_div n j q hq
    have h2 := mul_div n j' q' hq'
    rw [h] at h1
    exact ⟨h1.1.symm.trans h2.1, h1.2.symm.trans h2.2⟩
theorem lanes_mul (n W : Nat) : Lanes (n * (W + 1)) (n : Int) (KL (0 : Int) (fun k => ((n * (k + 1) : Nat) : Int))) (1 + W) := by
  have e : ∀ k, KL (0 : Int) (fun k => ((n * (k + 1) : Nat) : Int)) k = ((n * k : Nat) : Int) := fun k => by
    unfold KL
    split
    · rename_i h; rw [h]; rfl
    · show ((n * (k - 1 + 1) : Nat) : Int) = _
      rw [Nat.sub_add_cancel (by omega)]
  intro k hk
  rw [e]
  have h1 : n * k + n ≤ n * (W + 1) := by rw [← Nat.mul_succ]; exact Nat.mul_le_mul_left n (by omega)
  refine ⟨⟨by omega, by omega, by omega⟩, fun j hj => ?_⟩
  rw [e]
  have h2 : n * j + n ≤ n * k := by rw [← Nat.mul_succ]; exact Nat.mul_le_mul_left n (by omega)
  rintro ⟨h3, h4, h5⟩
  omega
/-- What Pack leaves of what is laid. -/
theorem keeps_plain (n W : Nat) (hn : n ≤ 1000) (K : Nat → Nat) (hK : ∀ i, K i < 4294967296) (f : Nat → Nat → Int) (hf : ∀ i k, 0 ≤ f i k ∧ f i k < 4294967296) (ws : List Int) (hl : ws.length = n * (W + 2)) (hw : ∀ r, ws.getD r 0 = lyw n (fun i => (K i : Int)) f (n * (W + 1)) r)
    (kb : Nat → Bool) (hkb : ∀ i, kb i = (K i % 2 == 1)) (g : Nat → Nat → Int) (hg1 : ∀ i, i < n → kb i = true → ∀ k, k < W → g (kc kb i) k = f i k) (hg2 : ∀ q, q < n → kc kb n ≤ q → ∀ k, k < W → g q k = 0) :
    kept 0 n (n * (W + 1)) W (fun j => n * (j + 1)) ws = (kc kb n : Int) ∧
    (∀ i, i < n → (out 0 n (n * (W + 1)) W (fun j => n * (j + 1)) ws).getD i 0 = if i < kc kb n then 4294967295 else 0) ∧
    (∀ i, i < n → ∀ j, j < W → (out 0 n (n * (W + 1)) W (fun j => n * (j + 1)) ws).getD (n * (j + 1) + i) 0 = g i j) := by
  have hlen : n * (W + 1) + n = ws.length := by rw [hl, ← Nat.mul_succ]
  have h := pk_out 0 n (n * (W + 1)) W (fun j => n * (j + 1)) ws (fun j i => if j = 0 then K i else (f i (j - 1)).toNat) (fun j i => by
    split
    · exact hK i
    · have := hf i (j - 1); omega) (by omega) (by omega) (apart_mul n W) (fun j hj i hi => by
    rw [AL_mul n W j (by omega), hw]
    obtain ⟨h1, h2⟩ := mul_div n j i hi
    unfold lyw
    by_cases hj0 : j = 0
    · subst hj0
      rw [if_pos (by omega), if_pos rfl, Nat.mul_zero, Nat.zero_add]
    · have h3 : n ≤ n * j := Nat.le_mul_of_pos_right n (by omega)
      have h4 : n * j + n ≤ n * (W + 1) := by rw [← Nat.mul_succ]; exact Nat.mul_le_mul_left n (by omega)
      rw [if_neg (by omega), if_pos (by omega), if_neg hj0, h1, h2]
      have := hf i (j - 1)
      omega) kb (fun i => by rw [hkb]; simp)
  obtain ⟨h1, h2, -⟩ := h
  refine ⟨h1, fun i hi => ?_, fun i hi j hj => ?_⟩
  · obtain ⟨h3, h4⟩ := h2 0 (Nat.zero_le _)
    rw [AL_mul n W 0 (by omega), Nat.mul_zero] at h3 h4
    by_cases hik : i < kc kb n
    · rw [if_pos hik]
      obtain ⟨k, hk, hkb1, hkq⟩ := kc_surj kb i n hik
      have := h3 k hk hkb1
      rw [Nat.zero_add, hkq] at this
      rw [this]
      rfl
    · rw [if_neg hik]
      have := h4 i hi (by omega)
      rwa [Nat.zero_add] at this
  · obtain ⟨h3, h4⟩ := h2 (j + 1) (by omega)
    rw [AL_mul n W (j + 1) (by omega)] at h3 h4
    by_cases hik : i < kc kb n
    · obtain ⟨k, hk, hkb1, hkq⟩ := kc_surj kb i n hik
      have := h3 k hk hkb1
      rw [hkq] at this
      rw [this, ← hkq, hg1 k hk hkb1 j hj]
      unfold VV
      rw [if_neg (by omega), if_neg (by omega)]
      show (((if j + 1 = 0 then K k else (f k (j + 1 - 1)).toNat : Nat)) : Int) = f k j
      rw [if_neg (by omega), Nat.add_sub_cancel]
      have := hf k j
      omega
    · rw [h4 i hi (by omega), hg2 i hi (by omega) j hj]
end Pk
end Go.Proofs.Ytjoehhojhfgooaa
