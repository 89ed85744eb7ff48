/- UnutfBack: the bytes of the points of right bytes are these bytes. Plain. No condition. -/
import Derived.Test.YtjoehhojhfgooaaUnI
import Derived.Test.YtjoehhojhfgooaaUtDc
namespace Go.Proofs.Ytjoehhojhfgooaa
namespace Ut
theorem pt_bat (g : Nat → Nat) (r : Nat) (hg : ∀ k, g k < 256) (h : (Pt g r).2 ≠ 0) : ∀ k, k < (Pt g r).2 → bat (Pt g r).1 k = g k := by
  have h0 := hg 0
  have h1 := hg 1
  have h2 := hg 2
  have h3 := hg 3
  revert h
  unfold Pt
  split
  · intro h; exact absurd rfl h
  · split
    · rename_i hy
      revert hy
      unfold lead
      split
      · intro _ _
        show ∀ k, k < 1 → bat (g 0) k = g k
        intro k hk
        obtain rfl : k = 0 := by omega
        unfold bat
        rw [if_pos (by omega)]
      · split
        · intro _
          simp only [cont, Nat.reduceAdd]
          split
          · intro _
            simp only []
            intro k hk
            unfold bat
            rw [if_neg (by omega), if_pos (by omega)]
            rcases (by omega : k = 0 ∨ k = 1) with rfl | rfl
            · rw [if_pos rfl]; omega
            · rw [if_neg (by decide)]; omega
          · intro h; exact absurd rfl h
        · split
          · intro _
            obtain ⟨lo, hlo⟩ : ∃ lo, (if g 0 = 224 then 160 else 128) = lo := ⟨_, rfl⟩
            obtain ⟨hi, hhi⟩ : ∃ hi, (if g 0 = 237 then 159 else 191) = hi := ⟨_, rfl⟩
            rw [hlo, hhi]
            have hl2 : g 0 = 224 ∧ lo = 160 ∨ g 0 ≠ 224 ∧ lo = 128 := by split at hlo <;> omega
            have hh2 : hi ≤ 191 := by split at hhi <;> omega
            clear hlo hhi
            simp only [cont, Nat.reduceAdd]
            split
            · split
              · intro _
                simp only []
                intro k hk
                unfold bat
                rw [if_neg (by omega), if_neg (by omega), if_pos (by omega)]
                rcases (by omega : k = 0 ∨ k = 1 ∨ k = 2) with rfl | rfl | rfl
                · rw [if_pos rfl]; omega
                · rw [if_neg (by decide), if_pos rfl]; omega
                · rw [if_neg (by decide), if_neg (by decide)]; omega
              · intro h; exact absurd rfl h
            · intro h; exact absurd rfl h
          · split
            · intro _
              obtain ⟨lo, hlo⟩ : ∃ lo, (if g 0 = 240 then 144 else 128) = lo := ⟨_, rfl⟩
              obtain ⟨hi, hhi⟩ : ∃ hi, (if g 0 = 244 then 143 else 191) = hi := ⟨_, rfl⟩
              rw [hlo, hhi]
              have hl2 : g 0 = 240 ∧ lo = 144 ∨ g 0 ≠ 240 ∧ lo = 128 := by split at hlo <;> omega
              have hh2 : hi ≤ 191 := by split at hhi <;> omega
              clear hlo hhi
              simp only [cont, Nat.reduceAdd]
              split
              · split
                · split
                  · intro _
                    simp only []
                    intro k hk
                    unfold bat
                    rw [if_neg (by omega), if_neg (by omega), if_neg (by omega)]
                    rcases (by omega : k = 0 ∨ k = 1 ∨ k = 2 ∨ k = 3) with rfl | rfl | rfl | rfl
                    · rw [if_pos rfl]; omega
                    · rw [if_neg (by decide), if_pos rfl]; omega
                    · rw [if_neg (by decide), if_neg (by decide), if_pos rfl]; omega
                    · rw [if_neg (by decide), if_neg (by decide), if_neg (by decide)]; omega
                  · intro h; exact absurd rfl h
                · intro h; exact absurd rfl h
              · intro h; exact absurd rfl h
            · intro hy; cases hy
    · intro h; exact absurd rfl h
end Ut
namespace Un
def kpn (f : Nat → Nat) (n c : Nat) : Nat := if Ut.wk f n c then 4294967295 else 0
theorem wl_stay (pf kf : Nat → Nat) (a : Nat) : ∀ d, (∀ i, a ≤ i → i < a + d → kf i % 2 ≠ 1) → wl pf kf (a + d) = wl pf kf a
  | 0, _ => rfl
  | d + 1, h => by
    rw [← Nat.add_assoc, wl_succ, if_neg (h (a + d) (by omega) (by omega)), List.append_nil]
    exact wl_stay pf kf a d fun i h1 h2 => h i h1 (by omega)
theorem map_split (f : Nat → Nat) (a d : Nat) : (List.range (a + d)).map f = (List.range a).map f ++ (List.range d).map fun k => f (a + k) := by
  refine List.ext_getElem? fun i => ?_
  rcases Nat.lt_or_ge i a with h | h
  · rw [List.getElem?_append_left (by simpa using h), List.getElem?_map, List.getElem?_map, List.getElem?_range h, List.getElem?_range (by omega)]
  · rw [List.getElem?_append_right (by simpa using h), List.getElem?_map, List.getElem?_map]
    simp only [List.length_map, List.length_range]
    rcases Nat.lt_or_ge i (a + d) with h2 | h2
    · rw [List.getElem?_range h2, List.getElem?_range (by omega)]
      simp only [Option.map_some]
      rw [show a + (i - a) = i by omega]
    · rw [List.getElem?_eq_none (by simp; omega), List.getElem?_eq_none (by simp; omega)]
      rfl
theorem back_list (f : Nat → Nat) (n : Nat) (hf : ∀ i, f i < 256) : ∀ J, Ut.Rights f n J → wl (Ut.ov f n) (kpn f n) (Ut.pos f n J) = (List.range (Ut.pos f n J)).map f
  | 0, _ => by rw [Ut.pos_zero]; rfl
  | J + 1, h => by
    have ih := back_list f n hf J (fun q hq => h q (by omega))
    obtain ⟨h1, h2, h3, h4, h5⟩ := Ut.run_step f n J h
    have hps := Ut.pos_succ f n J
    obtain ⟨hbl, hv21⟩ := val_blen f n J hf (h J (by omega))
    have hbt := Ut.pt_bat (fun i => f (Ut.pos f n J + i)) (n - Ut.pos f n J) (fun k => hf _) (h J (by omega))
    obtain ⟨a, ha⟩ : ∃ a, Ut.pos f n J = a := ⟨_, rfl⟩
    obtain ⟨d, hd⟩ : ∃ d, Ut.nof f n J = d + 1 := ⟨Ut.nof f n J - 1, by omega⟩
    have hbt' : ∀ k, k < d + 1 → bat (Ut.val f n J) k = f (a + k) := fun k hk => by
      have := hbt k (by have : (Ut.Pt (fun i => f (Ut.pos f n J + i)) (n - Ut.pos f n J)).2 = d + 1 := hd; omega)
      rw [ha] at this
      exact (show bat (Ut.val f n J) k = _ by unfold Ut.val; rw [ha]; exact this)
    rw [ha] at ih hps h5
    rw [hd] at hps hbl
    have e1 : Ut.pos f n (J + 1) - 1 = a + d := by omega
    rw [e1] at h3 h4
    rw [hps, ← Nat.add_assoc, wl_succ, wl_stay _ _ a d (fun i i1 i2 => by
      have := (h5 i i1 (by omega)).2
      unfold kpn
      rw [this]
      decide), ih, Nat.add_assoc, map_split f a (d + 1), h3, Nat.mod_eq_of_lt hv21, hbl, if_pos (by unfold kpn; rw [h4]; rfl)]
    congr 1
    refine List.map_congr_left fun k hk => hbt' k (List.mem_range.1 hk)
theorem back_all (f : Nat → Nat) (n J : Nat) (hf : ∀ i, f i < 256) (hR : Ut.Rights f n J) (hp : Ut.pos f n J = n) : wl (Ut.ov f n) (kpn f n) n = (List.range n).map f := by
  have := back_list f n hf J hR
  rwa [hp] at this
theorem ov_lt (f : Nat → Nat) (n : Nat) (hf : ∀ i, f i < 256) (i : Nat) : Ut.ov f n i < 4294967296 := by
  unfold Ut.ov
  split
  · have := Ut.inv_p _ (Ut.rn_inv f n hf (i + 1))
    omega
  · decide
theorem kpn_lt (f : Nat → Nat) (n i : Nat) : kpn f n i < 4294967296 := by
  unfold kpn
  split <;> decide
end Un
end Go.Proofs.Ytjoehhojhfgooaa
