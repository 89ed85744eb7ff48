/- UnutfRefuses: the law's call. No condition. -/
import Derived.Test.YtjoehhojhfgooaaUnK
namespace Go.Proofs.Ytjoehhojhfgooaa
open Go.RowKit
set_option linter.unusedSimpArgs false
set_option linter.unusedVariables false
attribute [local go_sem] IntKind.wrap_u32' signed_u32 max_u32
attribute [local go_sem ↓] Go.wp_at_zero Go.wp_at_succ
attribute [local go_sem] Calm.C
attribute [local go_sem low] Calm.al_cell Calm.al_frozen
namespace Un
def Sep (X Y s t : Int) : Prop := s = 0 ∨ t = 0 ∨ t ≤ X - Y ∨ s ≤ Y - X
/-- Of places ahead of k: within, and apart, as the law asks it. -/
def Ok (n m : Int) (L S : Nat → Int) (k : Nat) : Prop := (0 ≤ n ∧ n ≤ 4 ∧ 0 ≤ m ∧ m ≤ 4 * n) ∧ ∀ i, i < k → (0 ≤ L i ∧ L i ≤ 30 - S i) ∧ ∀ j, j < i → Sep (L i) (L j) (S i) (S j)
theorem Ok_zero (n m : Int) (L S : Nat → Int) : Ok n m L S 0 ↔ 0 ≤ n ∧ n ≤ 4 ∧ 0 ≤ m ∧ m ≤ 4 * n := ⟨fun h => h.1, fun h => ⟨h, fun i hi => absurd hi (Nat.not_lt_zero i)⟩⟩
theorem Ok_succ (n m : Int) (L S : Nat → Int) (k : Nat) : Ok n m L S (k + 1) ↔ (Ok n m L S k ∧ (0 ≤ L k ∧ L k ≤ 30 - S k)) ∧ ∀ j, j < k → Sep (L k) (L j) (S k) (S j) := by
  constructor
  · exact fun h => ⟨⟨⟨h.1, fun i hi => h.2 i (by omega)⟩, (h.2 k (by omega)).1⟩, (h.2 k (by omega)).2⟩
  · rintro ⟨⟨h1, h2⟩, h3⟩
    refine ⟨h1.1, fun i hi => ?_⟩
    rcases Nat.lt_or_ge i k with h | h
    · exact h1.2 i h
    · obtain rfl : i = k := by omega
      exact ⟨h2, h3⟩
theorem Ok_rt (n m x y z : Int) : Ok n m (L3 x y z) (L3 n n m) 3 ↔ (Rt 30 x y n z m ∧ 30 + 12 * n ≤ 80) := by
  constructor
  · rintro ⟨⟨h0, h1, h2, h3⟩, h⟩
    have a := h 0 (by decide)
    have b := h 1 (by decide)
    have c := h 2 (by decide)
    have b0 := b.2 0 (by decide)
    have c0 := c.2 0 (by decide)
    have c1 := c.2 1 (by decide)
    simp [L3, Sep] at a b c b0 c0 c1
    refine ⟨⟨h0, by omega, h2, h3, ⟨a.1, h0, by omega⟩, ⟨b.1.1, h0, by omega⟩, ⟨c.1.1, h2, by omega⟩, ?_, ?_, ?_⟩, by omega⟩ <;> unfold Ovl <;> omega
  · rintro ⟨⟨h0, h1, h2, h3, ⟨a1, -, a2⟩, ⟨b1, -, b2⟩, ⟨c1, -, c2⟩, o1, o2, o3⟩, hr⟩
    unfold Ovl at o1 o2 o3
    refine ⟨⟨h0, by omega, h2, h3⟩, fun i hi => ?_⟩
    rcases (by omega : i = 0 ∨ i = 1 ∨ i = 2) with rfl | rfl | rfl
    · refine ⟨?_, fun j hj => absurd hj (Nat.not_lt_zero j)⟩
      simp [L3]; omega
    · refine ⟨by simp [L3]; omega, fun j hj => ?_⟩
      obtain rfl : j = 0 := by omega
      simp [L3, Sep]; omega
    · refine ⟨by simp [L3]; omega, fun j hj => ?_⟩
      rcases (by omega : j = 0 ∨ j = 1) with rfl | rfl
      · simp [L3, Sep]; omega
      · simp [L3, Sep]; omega
end Un
theorem agg3 (x y z : Int) (k : Nat) (h : k < 3) : (#[Value.int .i64 x, Value.int .i64 y, Value.int .i64 z] : Array Value)[k]? = some (.int .i64 (L3 x y z k)) := by
  rcases (by omega : k = 0 ∨ k = 1 ∨ k = 2) with rfl | rfl | rfl <;> rfl
theorem norm_take80 {w : World} {p g lp : Nat} {F : Nat → Prop} {ws : List Int} (h : Ar w p g lp F ws (0 + (30 : Int).toNat) ([] ++ [⟨4, ((0 : Nat) : Int), 30⟩])) : Ar w p g lp F ws 30 [⟨4, 0, 30⟩] := h
theorem L3_0 (x y z : Int) : L3 x y z 0 = x := rfl
theorem L3_1 (x y z : Int) : L3 x y z 1 = y := rfl
theorem L3_2 (x y z : Int) : L3 x y z 2 = z := rfl
theorem arr_new (w : World) (x y z : Int) (t : TypeId) : ∀ i, i < 3 → (w.alloc (.cells #[.int .i64 x, .int .i64 y, .int .i64 z] t)).cell? ⟨w.heap.size, i, none⟩ = some (.int .i64 (L3 x y z i)) := fun i hi => ((Blk.new w t _).cell i).trans (agg3 x y z i hi)
theorem arr_below {W w1 : World} {b : Nat} {L : Nat → Int} (hb : Below W.heap.size W w1) (h : ∀ i, i < 3 → W.cell? ⟨b, i, none⟩ = some (.int .i64 (L i))) : ∀ i, i < 3 → w1.cell? ⟨b, i, none⟩ = some (.int .i64 (L i)) :=
  fun i hi => (hb.cell (p := ⟨b, i, none⟩) (World.block_lt_of_cell? W ⟨b, i, none⟩ (h i hi))).trans (h i hi)
theorem arr_kept {wq w0 w1 : World} {p g b : Nat} {F0 F1 : Nat → Prop} {L : Nat → Int} (hb : Below wq.heap.size wq w0) (hs : Step (AF p g F0) (AF p g F1) w0 w1) (hl : ∀ i, AF p g F0 i → wq.heap.size ≤ i) (h : ∀ i, i < 3 → wq.cell? ⟨b, i, none⟩ = some (.int .i64 (L i))) : ∀ i, i < 3 → w1.cell? ⟨b, i, none⟩ = some (.int .i64 (L i)) := fun i hi => by
  have hbl := World.block_lt_of_cell? wq ⟨b, i, none⟩ (h i hi)
  exact (old_cell hs (Nat.lt_of_lt_of_le hbl hb.size) (fun hf => absurd (hl _ hf) (Nat.not_le.2 hbl))).trans ((hb.cell (p := ⟨b, i, none⟩) hbl).trans (h i hi))
theorem ix_arr3 (f : Nat → Int) {k : Nat} (hk : k < 3) : ∀ w : World, (Instr.index 61 (.agg #[.int .i64 (f 0), .int .i64 (f 1), .int .i64 (f 2)]) (.int .i64 (k : Int))).run Try.prog w = .ok (.int .i64 (f k)) w := fun _ => by
  rcases (by omega : k = 0 ∨ k = 1 ∨ k = 2) with rfl | rfl | rfl <;> kernel_rfl
theorem sl_arr3 (B : Nat) {k : Nat} (hk : k < 3) : ∀ W : World, (Instr.sliceAt 61 (.pointer (some ⟨B, 0, none⟩)) none (some (.int .i64 (k : Int))) none).run Try.prog W = .ok (.slice (some ⟨B, 0, none⟩) k 3) W := fun W => by
  rcases (by omega : k = 0 ∨ k = 1 ∨ k = 2) with rfl | rfl | rfl <;> kernel_rfl
theorem Encode_ok {w : World} {p g lp : Nat} {FL : Nat → Prop} {ws : List Int} {top : Nat} {evs : List Ev} (h : Ar w p g lp FL ws top evs) (he : evs.length < 100000000) (hws : ws.length ≤ 2000) (a b n o m : Int) (R : Bool) (hR : R = true ↔ (Rt top a b n o m ∧ top + 12 * n ≤ ws.length)) :
    Calls Try.prog 16 #[.pointer (some ⟨p, 0, none⟩), .int .i64 a, .int .i64 b, .int .i64 n, .int .i64 o, .int .i64 m] w fun e w' =>
      ∃ s v FL' V E, e = .returned (.tuple #[.agg #[.int .u32 s], .agg #[.int .u32 v], .bool R]) ∧ Ar w' p g lp FL' V top E ∧ (R = false → E = evs) ∧ Step (AF p g FL) (AF p g FL') w w' := by
  cases R
  · refine (Encode_f h a b n o m (fun hc => by simpa using hR.2 hc)).mono ?_
    rintro e w' ⟨rfl, hb⟩
    exact ⟨0, 0, FL, ws, evs, rfl, h.below (Lib.hid hb), fun _ => rfl, Step.of_below h.most hb⟩
  · obtain ⟨hr, hroom⟩ := hR.1 rfl
    have hr' := hr
    obtain ⟨h0, h1, h2, h3, ⟨a1, -, a2⟩, ⟨b1, -, b2⟩, ⟨c1, -, c2⟩, -, -, -⟩ := hr
    refine (Encode_e h he hws a b n o m a.toNat b.toNat n.toNat o.toNat m.toNat (by omega) (by omega) (by omega) (by omega) (by omega) hr' (by omega)).mono ?_
    rintro e w' ⟨rfl, F', hA, hs⟩
    exact ⟨_, _, F', _, _, rfl, hA, fun h => absurd h (by simp), hs⟩
attribute [local irreducible] L3 Un.siz Un.ovr Un.fin Un.evs
set_option maxRecDepth 10000 in
set_option maxHeartbeats 12000000 in
theorem UnutfRefuses_any (w : World) (x y z n m : Int) : Calls Try.prog 11 #[.agg #[.int .i64 x, .int .i64 y, .int .i64 z], .int .i64 n, .int .i64 m] w fun e w' => e = .returned (.bool true) ∧ Below w.heap.size w w' := by
  rcases (by omega : (0 ≤ n ∧ n ≤ 4 ∧ 0 ≤ m ∧ m ≤ 4 * n) ∨ (0 ≤ n ∧ n ≤ 4 ∧ 0 ≤ m ∧ ¬ m ≤ 4 * n) ∨ (0 ≤ n ∧ n ≤ 4 ∧ ¬ 0 ≤ m) ∨ (0 ≤ n ∧ ¬ n ≤ 4) ∨ ¬ 0 ≤ n) with ⟨g0, g1, g2, g3⟩ | ⟨g0, g1, g2, g3⟩ | ⟨g0, g1, g2⟩ | ⟨g0, g1⟩ | g0
  · go_enter Try.func11, Try.ntmps11
    go_wp2_with (first | (go_at_call 12; refine (awake10_any _).mono ?_; rintro e wq ⟨rfl, hb⟩; have hcf_wq := bcell hb; (try simp only [World.size_alloc, World.size_setCell, drew_size] at hcf_wq); have hz_wq := hb.size; (try simp only [World.size_alloc, World.size_setCell, World.size_drew] at hz_wq); have hbh_wq := Lib.hid hb; clear hb; obtain ⟨hc_wq, hf_wq⟩ := hcf_wq) | (go_at_call 24; with_reducible refine (ANew_any 80 80 (by decide) _).mono ?_; rintro e w0 ⟨p, g, lp, F0, rfl, hA, hlow, hb⟩; have H0 := Lib.hid hA; have LOW := Lib.hid hlow; have B0 := Lib.hid hb; have z0 := hb.size; clear hA hlow hb) | (go_at_call 25; with_reducible refine (ATake_j H0.out (by decide) 30 (by decide) (by rw [List.length_replicate]; decide)).mono ?_; rintro e w1 ⟨rfl, F1, hA1, hs1⟩; have HA := Lib.hid (norm_take80 hA1); have S1 := Lib.hid hs1; have z1 := hs1.size; have CA := Lib.hid (arr_kept B0.out S1.out LOW.out (arr_below hbh_wq.out (arr_new w x y z _))); have n0 := CA.out 0 (by decide); have n1 := CA.out 1 (by decide); have n2 := CA.out 2 (by decide); clear hA1 hs1) | (go_at_call 14; with_reducible refine (ALog_any HA.out).mono ?_; rintro e w6 ⟨rfl, hw⟩; replace hw := hw.symm; subst hw) | (go_at_call 15; with_reducible refine (Len_any _ F1 lp _ HA.out.lg).mono ?_; rintro e w6 ⟨rfl, hw⟩; subst hw))
    obtain ⟨W2, hW2⟩ : ∃ W2, w1.alloc (.cells #[.int .i64 n, .int .i64 n, .int .i64 m] 61) = W2 := ⟨_, rfl⟩
    obtain ⟨B, hB⟩ : ∃ B, w.heap.size = B := ⟨_, rfl⟩
    obtain ⟨D, hD⟩ : ∃ D, w1.heap.size = D := ⟨_, rfl⟩
    have HA2 := Lib.hid (show Ar W2 p g lp F1 (List.replicate 80 0) 30 [⟨4, 0, 30⟩] by rw [← hW2]; exact HA.out.alloc _)
    have hBD : B < D := by omega
    have CA2 := Lib.hid (show ∀ i, i < 3 → W2.cell? ⟨B, i, none⟩ = some (.int .i64 (L3 x y z i)) from fun i hi => by
      rw [← hW2]
      exact (((Below.refl w1.heap.size w1).alloc (Nat.le_refl _) _).cell (p := ⟨B, i, none⟩) (by show B < w1.heap.size; omega)).trans (hB ▸ CA.out i hi))
    have SA2 := Lib.hid (show ∀ i, i < 3 → W2.cell? ⟨D, i, none⟩ = some (.int .i64 (L3 n n m i)) from fun i hi => by
      rw [← hW2, ← hD]
      exact arr_new w1 n n m _ i hi)
    have HB2 : Hid (Below w.heap.size w W2) := by
      rw [← hW2]
      refine Lib.hid ?_
      have b0 : Below w.heap.size w w0 := by (repeat' (first | with_reducible exact Below.refl _ _ | with_reducible refine bl_drewN ?_ _ | with_reducible refine bl_drew ?_ | refine bl_set (by (first | omega | (simp; done) | (simp; omega))) ?_ _ | refine bl_alloc (by (first | omega | (simp; done) | (simp; omega))) ?_ _ | refine bl_then (by assumption) ?_ (by (first | omega | (simp; done) | (simp; omega))) | refine Step.bl (by assumption) (by assumption) (by (first | omega | (simp; done) | (simp; omega))) (by (first | omega | (simp; done) | (simp; omega))) ?_))
      have b1 := S1.out.below b0 b0.size (fun i hi => by have := LOW.out i hi; omega)
      exact b1.alloc b1.size _
    have L2 : Hid (∀ i, AF p g F1 i → w.heap.size ≤ i) := Lib.hid (by
      have b0 : Below w.heap.size w w0 := by (repeat' (first | with_reducible exact Below.refl _ _ | with_reducible refine bl_drewN ?_ _ | with_reducible refine bl_drew ?_ | refine bl_set (by (first | omega | (simp; done) | (simp; omega))) ?_ _ | refine bl_alloc (by (first | omega | (simp; done) | (simp; omega))) ?_ _ | refine bl_then (by assumption) ?_ (by (first | omega | (simp; done) | (simp; omega))) | refine Step.bl (by assumption) (by assumption) (by (first | omega | (simp; done) | (simp; omega))) (by (first | omega | (simp; done) | (simp; omega))) ?_))
      exact S1.out.low b0.size (fun i hi => by have := LOW.out i hi; omega))
    have zD : W2.heap.size = D + 1 := by rw [← hW2, ← hD]; simp
    rw [hW2, hB, hD]
    have nB : ¬ AF p g F1 B := fun hf => by
      have h1 := (S1.out.foot B (by omega)).1 hf
      have h2 := LOW.out _ h1
      omega
    clear hW2 n0 n1 n2 hc_wq hf_wq hbh_wq HA H0 B0 S1 CA LOW
    go_loopw [9, 47] (fun b i wr => ∃ (k : Nat) (r : Bool), k ≤ 3 ∧ i = .int .i64 (k : Int) ∧ b = .bool r ∧ (r = true ↔ Un.Ok n m (L3 x y z) (L3 n n m) k) ∧ wr = W2) (fun _ i _ => 3 - (intOf i).toNat)
    case atStart => exact ⟨0, _, Nat.zero_le _, rfl, rfl, by rw [Un.Ok_zero]; simp; omega, rfl⟩
    case round =>
      obtain ⟨k, r, hk, rfl, rfl, hr, hwr⟩ := hrel
      replace hwr := hwr.symm
      subst hwr
      by_cases hk3 : k < 3
      · have hix := ix_arr3 (L3 x y z) hk3
        have hsl := sl_arr3 B hk3
        have hck := SA2.out k hk3
        obtain ⟨X, hX⟩ : ∃ X, L3 x y z k = X := ⟨_, rfl⟩
        obtain ⟨s, hs⟩ : ∃ s, L3 n n m k = s := ⟨_, rfl⟩
        rw [hX] at hix
        rw [hs] at hck
        have HX := Lib.hid hX
        have HSk := Lib.hid hs
        have hsb : (0 ≤ n ∧ n ≤ 4 ∧ 0 ≤ m ∧ m ≤ 4 * n) → 0 ≤ s ∧ s ≤ 16 := fun h => by
          rw [← hs]
          unfold L3
          split
          · omega
          · split <;> omega
        have hs16 := hsb ⟨g0, g1, g2, g3⟩
        have hw30 : IntKind.i64.wrap (30 - s) = 30 - s := IntWalk.i64_in _ (by omega)
        clear hX hs hsb
        have hrr : (r = true ∧ 0 ≤ X ∧ X ≤ 30 - s) ∨ (r = true ∧ 0 ≤ X ∧ ¬ X ≤ 30 - s) ∨ (r = true ∧ ¬ 0 ≤ X) ∨ r = false := by
          cases r
          · exact .inr (.inr (.inr rfl))
          · rcases (by omega : (0 ≤ X ∧ X ≤ 30 - s) ∨ (0 ≤ X ∧ ¬ X ≤ 30 - s) ∨ ¬ 0 ≤ X) with h | h | h
            · exact .inl ⟨rfl, h⟩
            · exact .inr (.inl ⟨rfl, h⟩)
            · exact .inr (.inr (.inl ⟨rfl, h⟩))
        have hgo : ∀ r2 : Bool, (r2 = true ↔ (r = true ∧ 0 ≤ X ∧ X ≤ 30 - s)) → Hid (r2 = true ↔ (Un.Ok n m (L3 x y z) (L3 n n m) k ∧ (0 ≤ X ∧ X ≤ 30 - s))) := fun r2 h => Lib.hid (by rw [h, hr])
        have HGO := Lib.hid hgo
        have HR := Lib.hid hr
        clear hgo hr
        rcases hrr with ⟨hr1, a0, a1⟩ | ⟨hr1, a0, a1⟩ | ⟨hr1, a0⟩ | hr1
        all_goals
          subst hr1
          go_wp2_with fail
          go_loopw [9, 67] (fun b i w2 => ∃ (q : Nat) (r2 : Bool), q ≤ k ∧ i = .int .i64 (q : Int) ∧ b = .bool r2 ∧ (r2 = true ↔ (Un.Ok n m (L3 x y z) (L3 n n m) k ∧ (0 ≤ X ∧ X ≤ 30 - s)) ∧ ∀ j, j < q → Un.Sep X (L3 x y z j) s (L3 n n m j)) ∧ w2 = W2) (fun _ i _ => k - (intOf i).toNat)
          case atStart =>
            refine ⟨0, _, Nat.zero_le _, rfl, rfl, ?_, rfl⟩
            rw [and_iff_left (fun j hj => absurd hj (Nat.not_lt_zero j))]
            exact (HGO.out _ (by simp; try omega)).out
          case round =>
            obtain ⟨q, r2, hq, rfl, rfl, hr2', hw2⟩ := hrel
            have hr2 := Lib.hid hr2'
            clear hr2'
            replace hw2 := hw2.symm
            subst hw2
            by_cases hqk : q < k
            · have hcq := CA2.out q (by omega)
              have hsq := SA2.out q (by omega)
              obtain ⟨Y, hY⟩ : ∃ Y, L3 x y z q = Y := ⟨_, rfl⟩
              obtain ⟨t, ht⟩ : ∃ t, L3 n n m q = t := ⟨_, rfl⟩
              rw [hY] at hcq
              rw [ht] at hsq
              have HY := Lib.hid hY
              have HT := Lib.hid ht
              clear hY ht
              cases r2
              · go_wp2_with fail
                refine ⟨⟨q + 1, false, by omega, by go_num, rfl, ⟨fun h => absurd h (by simp), fun h => ?_⟩, trivial⟩, by simp [intOf]; omega⟩
                exact hr2.out.2 ⟨h.1, fun j hj => h.2 j (by omega)⟩
              · obtain ⟨⟨hO, hX0, hX1⟩, hj2⟩ := hr2.out.1 rfl
                have hYr := (hO.2 q hqk).1
                rw [HY.out, HT.out] at hYr
                have ht0 : 0 ≤ t ∧ t ≤ 16 := by
                  rw [← HT.out]
                  unfold L3
                  split
                  · omega
                  · split <;> omega
                have HO := Lib.hid hO
                have HJ := Lib.hid hj2
                have HSEP := Lib.hid (show ∀ r3 : Bool, (r3 = true ↔ Un.Sep X Y s t) → (r3 = true ↔ (Un.Ok n m (L3 x y z) (L3 n n m) k ∧ (0 ≤ X ∧ X ≤ 30 - s)) ∧ ∀ j, j < q + 1 → Un.Sep X (L3 x y z j) s (L3 n n m j)) from fun r3 h => by
                  rw [h]
                  constructor
                  · refine fun h2 => ⟨⟨HO.out, hX0, hX1⟩, fun j hj => ?_⟩
                    rcases Nat.lt_or_ge j q with h3 | h3
                    · exact HJ.out j h3
                    · obtain rfl : j = q := by omega
                      rw [HY.out, HT.out]; exact h2
                  · intro h2
                    have h3 := h2.2 q (Nat.lt_succ_self q)
                    rwa [HY.out, HT.out] at h3)
                clear hO hj2 hr2
                rcases (by omega : s = 0 ∨ (s ≠ 0 ∧ t = 0) ∨ (s ≠ 0 ∧ t ≠ 0 ∧ t ≤ X - Y) ∨ (s ≠ 0 ∧ t ≠ 0 ∧ ¬ t ≤ X - Y ∧ s ≤ Y - X) ∨ (s ≠ 0 ∧ t ≠ 0 ∧ ¬ t ≤ X - Y ∧ ¬ s ≤ Y - X)) with e0 | ⟨e0, e1⟩ | ⟨e0, e1, e2⟩ | ⟨e0, e1, e2, e3⟩ | ⟨e0, e1, e2, e3⟩
                · have hz : (s == 0) = true := by simpa using e0
                  go_wp2_with fail
                  exact ⟨⟨q + 1, true, by omega, by go_num, rfl, HSEP.out true ⟨fun _ => .inl e0, fun _ => rfl⟩, trivial⟩, by simp [intOf]; omega⟩
                · have hz : (s == 0) = false := by simpa using e0
                  have hz2 : (t == 0) = true := by simpa using e1
                  go_wp2_with fail
                  exact ⟨⟨q + 1, true, by omega, by go_num, rfl, HSEP.out true ⟨fun _ => .inr (.inl e1), fun _ => rfl⟩, trivial⟩, by simp [intOf]; omega⟩
                · have hz : (s == 0) = false := by simpa using e0
                  have hz2 : (t == 0) = false := by simpa using e1
                  go_wp2_with fail
                  exact ⟨⟨q + 1, true, by omega, by go_num, rfl, HSEP.out true ⟨fun _ => .inr (.inr (.inl e2)), fun _ => rfl⟩, trivial⟩, by simp [intOf]; omega⟩
                · have hz : (s == 0) = false := by simpa using e0
                  have hz2 : (t == 0) = false := by simpa using e1
                  go_wp2_with fail
                  exact ⟨⟨q + 1, true, by omega, by go_num, rfl, HSEP.out true ⟨fun _ => .inr (.inr (.inr e3)), fun _ => rfl⟩, trivial⟩, by simp [intOf]; omega⟩
                · have hz : (s == 0) = false := by simpa using e0
                  have hz2 : (t == 0) = false := by simpa using e1
                  go_wp2_with fail
                  exact ⟨⟨q + 1, false, by omega, by go_num, rfl, HSEP.out false ⟨fun h => absurd h (by simp), fun h => by unfold Un.Sep at h; omega⟩, trivial⟩, by simp [intOf]; omega⟩
            · have hge : k ≤ q := by omega
              go_wp2_with fail
              refine ⟨⟨k + 1, r2, by omega, by go_num, rfl, ?_, trivial⟩, by simp [intOf]; omega⟩
              have hE : q = k := by omega
              have hr3 := hr2.out
              rw [hE] at hr3
              rw [hr3, Un.Ok_succ, HX.out, HSk.out]
      · have hkE : k = 3 := by omega
        have HR3 := Lib.hid (show r = true ↔ (Rt 30 x y n z m ∧ ((30 : Nat) : Int) + 12 * n ≤ ((List.replicate 80 (0 : Int)).length : Nat)) by
          rw [List.length_replicate, hr, hkE]
          exact Un.Ok_rt n m x y z)
        have hge : 3 ≤ k := by omega
        have m0 := CA2.out 0 (by decide)
        have m1 := CA2.out 1 (by decide)
        have m2 := CA2.out 2 (by decide)
        have l0 : L3 x y z 0 = x := L3_0 x y z
        have l1 : L3 x y z 1 = y := L3_1 x y z
        have l2 : L3 x y z 2 = z := L3_2 x y z
        rw [l0] at m0
        rw [l1] at m1
        rw [l2] at m2
        clear hr hkE
        cases r
        all_goals
          go_wp2_with (first
            | (go_at_call 16; with_reducible refine (Encode_ok HA2.out (by decide) (by rw [List.length_replicate]; decide) x y n z m _ HR3.out).mono ?_; rintro e w5 ⟨s5, v5, F5, V5, E5, rfl, hA5, hE5, hs5⟩; have HA := Lib.hid hA5; (try (have hEl : (E5.length : Int) = 1 := by simp [hE5 rfl])); clear hE5; have S5 := Lib.hid hs5; have z5 := hs5.size; clear hA5 hs5)
            | (go_at_call 14; with_reducible refine' Calls.mono (ALog_any ?_) ?_; rotate_left 6; (next => (repeat' (first | with_reducible exact HA.out | with_reducible refine' Ar.drewN ?_ _ | with_reducible refine' Ar.drew ?_ | with_reducible refine' Ar.farE ?_ ?_ _ | with_reducible refine' Ar.alloc ?_ _ | with_reducible refine' Ar.below ?_ (by assumption))); (try (all_goals (simp [*, ↓IntWalk.iteOmega]; first | done | fail))); (first | done | fail)); rintro e w6 ⟨rfl, hw⟩; replace hw := hw.symm; subst hw)
            | (go_at_call 15; with_reducible refine' Calls.mono (Len_any _ _ _ _ (Ar.lg ?_)) ?_; rotate_left 6; (next => (repeat' (first | with_reducible exact HA.out | with_reducible refine' Ar.drewN ?_ _ | with_reducible refine' Ar.drew ?_ | with_reducible refine' Ar.farE ?_ ?_ _ | with_reducible refine' Ar.alloc ?_ _ | with_reducible refine' Ar.below ?_ (by assumption))); (try (all_goals (simp [*, ↓IntWalk.iteOmega]; first | done | fail))); (first | done | fail)); rintro e w6 ⟨rfl, hw⟩; subst hw)
            | (go_at_call 18; with_reducible refine' Calls.mono (ATop_any ?_) ?_; rotate_left 6; (next => (repeat' (first | with_reducible exact HA.out | with_reducible refine' Ar.drewN ?_ _ | with_reducible refine' Ar.drew ?_ | with_reducible refine' Ar.farE ?_ ?_ _ | with_reducible refine' Ar.alloc ?_ _ | with_reducible refine' Ar.below ?_ (by assumption))); (try (all_goals (simp [*, ↓IntWalk.iteOmega]; first | done | fail))); (first | done | fail)); rintro e w6 ⟨rfl, hw⟩; replace hw := hw.symm; subst hw))
          go_ret
          refine ⟨rfl, ?_⟩
          have b5 := S5.out.below HB2.out HB2.out.size L2.out
          exact bl_alloc (by first | omega | (simp; omega)) (bl_alloc (by omega) b5 _) _
  all_goals
    go_enter Try.func11, Try.ntmps11
    go_wp2_with (first | (go_at_call 12; refine (awake10_any _).mono ?_; rintro e wq ⟨rfl, hb⟩; have hcf_wq := bcell hb; (try simp only [World.size_alloc, World.size_setCell, drew_size] at hcf_wq); have hz_wq := hb.size; (try simp only [World.size_alloc, World.size_setCell, World.size_drew] at hz_wq); have hbh_wq := Lib.hid hb; clear hb; obtain ⟨hc_wq, hf_wq⟩ := hcf_wq) | (go_at_call 24; with_reducible refine (ANew_any 80 80 (by decide) _).mono ?_; rintro e w0 ⟨p, g, lp, F0, rfl, hA, hlow, hb⟩; have H0 := Lib.hid hA; have LOW := Lib.hid hlow; have B0 := Lib.hid hb; have z0 := hb.size; clear hA hlow hb) | (go_at_call 25; with_reducible refine (ATake_j H0.out (by decide) 30 (by decide) (by rw [List.length_replicate]; decide)).mono ?_; rintro e w1 ⟨rfl, F1, hA1, hs1⟩; have HA := Lib.hid (norm_take80 hA1); have S1 := Lib.hid hs1; have z1 := hs1.size; have CA := Lib.hid (arr_kept B0.out S1.out LOW.out (arr_below hbh_wq.out (arr_new w x y z _))); have n0 := CA.out 0 (by decide); have n1 := CA.out 1 (by decide); have n2 := CA.out 2 (by decide); clear hA1 hs1) | (go_at_call 14; with_reducible refine (ALog_any HA.out).mono ?_; rintro e w6 ⟨rfl, hw⟩; replace hw := hw.symm; subst hw) | (go_at_call 15; with_reducible refine (Len_any _ F1 lp _ HA.out.lg).mono ?_; rintro e w6 ⟨rfl, hw⟩; subst hw))
    obtain ⟨W2, hW2⟩ : ∃ W2, w1.alloc (.cells #[.int .i64 n, .int .i64 n, .int .i64 m] 61) = W2 := ⟨_, rfl⟩
    obtain ⟨B, hB⟩ : ∃ B, w.heap.size = B := ⟨_, rfl⟩
    obtain ⟨D, hD⟩ : ∃ D, w1.heap.size = D := ⟨_, rfl⟩
    have HA2 := Lib.hid (show Ar W2 p g lp F1 (List.replicate 80 0) 30 [⟨4, 0, 30⟩] by rw [← hW2]; exact HA.out.alloc _)
    have hBD : B < D := by omega
    have CA2 := Lib.hid (show ∀ i, i < 3 → W2.cell? ⟨B, i, none⟩ = some (.int .i64 (L3 x y z i)) from fun i hi => by
      rw [← hW2]
      exact (((Below.refl w1.heap.size w1).alloc (Nat.le_refl _) _).cell (p := ⟨B, i, none⟩) (by show B < w1.heap.size; omega)).trans (hB ▸ CA.out i hi))
    have SA2 := Lib.hid (show ∀ i, i < 3 → W2.cell? ⟨D, i, none⟩ = some (.int .i64 (L3 n n m i)) from fun i hi => by
      rw [← hW2, ← hD]
      exact arr_new w1 n n m _ i hi)
    have HB2 : Hid (Below w.heap.size w W2) := by
      rw [← hW2]
      refine Lib.hid ?_
      have b0 : Below w.heap.size w w0 := by (repeat' (first | with_reducible exact Below.refl _ _ | with_reducible refine bl_drewN ?_ _ | with_reducible refine bl_drew ?_ | refine bl_set (by (first | omega | (simp; done) | (simp; omega))) ?_ _ | refine bl_alloc (by (first | omega | (simp; done) | (simp; omega))) ?_ _ | refine bl_then (by assumption) ?_ (by (first | omega | (simp; done) | (simp; omega))) | refine Step.bl (by assumption) (by assumption) (by (first | omega | (simp; done) | (simp; omega))) (by (first | omega | (simp; done) | (simp; omega))) ?_))
      have b1 := S1.out.below b0 b0.size (fun i hi => by have := LOW.out i hi; omega)
      exact b1.alloc b1.size _
    have L2 : Hid (∀ i, AF p g F1 i → w.heap.size ≤ i) := Lib.hid (by
      have b0 : Below w.heap.size w w0 := by (repeat' (first | with_reducible exact Below.refl _ _ | with_reducible refine bl_drewN ?_ _ | with_reducible refine bl_drew ?_ | refine bl_set (by (first | omega | (simp; done) | (simp; omega))) ?_ _ | refine bl_alloc (by (first | omega | (simp; done) | (simp; omega))) ?_ _ | refine bl_then (by assumption) ?_ (by (first | omega | (simp; done) | (simp; omega))) | refine Step.bl (by assumption) (by assumption) (by (first | omega | (simp; done) | (simp; omega))) (by (first | omega | (simp; done) | (simp; omega))) ?_))
      exact S1.out.low b0.size (fun i hi => by have := LOW.out i hi; omega))
    have zD : W2.heap.size = D + 1 := by rw [← hW2, ← hD]; simp
    rw [hW2, hB, hD]
    have nB : ¬ AF p g F1 B := fun hf => by
      have h1 := (S1.out.foot B (by omega)).1 hf
      have h2 := LOW.out _ h1
      omega
    clear hW2 n0 n1 n2 hc_wq hf_wq hbh_wq HA H0 B0 S1 CA LOW
    have HNO := Lib.hid (show ¬ Un.Ok n m (L3 x y z) (L3 n n m) 3 from fun h => by
      have := h.1
      omega)
    go_loopw [9, 47] (fun b i wr => ∃ k : Nat, k ≤ 3 ∧ i = .int .i64 (k : Int) ∧ b = .bool false ∧ wr = W2) (fun _ i _ => 3 - (intOf i).toNat)
    case atStart => exact ⟨0, Nat.zero_le _, rfl, by first | rfl | (simp; omega), rfl⟩
    case round =>
      obtain ⟨k, hk, rfl, rfl, hwr⟩ := hrel
      replace hwr := hwr.symm
      subst hwr
      by_cases hk3 : k < 3
      · have hix := ix_arr3 (L3 x y z) hk3
        have hsl := sl_arr3 B hk3
        go_wp2_with fail
        go_loopw [9, 67] (fun b i w2 => ∃ q : Nat, q ≤ k ∧ i = .int .i64 (q : Int) ∧ b = .bool false ∧ w2 = W2) (fun _ i _ => k - (intOf i).toNat)
        case atStart => exact ⟨0, Nat.zero_le _, rfl, rfl, rfl⟩
        case round =>
          obtain ⟨q, hq, rfl, rfl, hw2⟩ := hrel
          replace hw2 := hw2.symm
          subst hw2
          by_cases hqk : q < k
          · have hcq := CA2.out q (by omega)
            obtain ⟨Y, hY⟩ : ∃ Y, L3 x y z q = Y := ⟨_, rfl⟩
            rw [hY] at hcq
            clear hY
            go_wp2_with fail
            exact ⟨⟨q + 1, by omega, by go_num, rfl, trivial⟩, by simp [intOf]; omega⟩
          · have hge : k ≤ q := by omega
            go_wp2_with fail
            exact ⟨⟨k + 1, by omega, by go_num, rfl, trivial⟩, by simp [intOf]; omega⟩
      · have HR3 := Lib.hid (show false = true ↔ (Rt 30 x y n z m ∧ ((30 : Nat) : Int) + 12 * n ≤ ((List.replicate 80 (0 : Int)).length : Nat)) by
          rw [List.length_replicate]
          exact ⟨fun h => absurd h (by simp), fun h => absurd ((Un.Ok_rt n m x y z).2 h) HNO.out⟩)
        have hge : 3 ≤ k := by omega
        have m0 := CA2.out 0 (by decide)
        have m1 := CA2.out 1 (by decide)
        have m2 := CA2.out 2 (by decide)
        have l0 : L3 x y z 0 = x := L3_0 x y z
        have l1 : L3 x y z 1 = y := L3_1 x y z
        have l2 : L3 x y z 2 = z := L3_2 x y z
        rw [l0] at m0
        rw [l1] at m1
        rw [l2] at m2
        go_wp2_with (first
          | (go_at_call 16; with_reducible refine (Encode_ok HA2.out (by decide) (by rw [List.length_replicate]; decide) x y n z m _ HR3.out).mono ?_; rintro e w5 ⟨s5, v5, F5, V5, E5, rfl, hA5, hE5, hs5⟩; have HA := Lib.hid hA5; (try (have hEl : (E5.length : Int) = 1 := by simp [hE5 rfl])); clear hE5; have S5 := Lib.hid hs5; have z5 := hs5.size; clear hA5 hs5)
          | (go_at_call 14; with_reducible refine' Calls.mono (ALog_any ?_) ?_; rotate_left 6; (next => (repeat' (first | with_reducible exact HA.out | with_reducible refine' Ar.drewN ?_ _ | with_reducible refine' Ar.drew ?_ | with_reducible refine' Ar.farE ?_ ?_ _ | with_reducible refine' Ar.alloc ?_ _ | with_reducible refine' Ar.below ?_ (by assumption))); (try (all_goals (simp [*, ↓IntWalk.iteOmega]; first | done | fail))); (first | done | fail)); rintro e w6 ⟨rfl, hw⟩; replace hw := hw.symm; subst hw)
          | (go_at_call 15; with_reducible refine' Calls.mono (Len_any _ _ _ _ (Ar.lg ?_)) ?_; rotate_left 6; (next => (repeat' (first | with_reducible exact HA.out | with_reducible refine' Ar.drewN ?_ _ | with_reducible refine' Ar.drew ?_ | with_reducible refine' Ar.farE ?_ ?_ _ | with_reducible refine' Ar.alloc ?_ _ | with_reducible refine' Ar.below ?_ (by assumption))); (try (all_goals (simp [*, ↓IntWalk.iteOmega]; first | done | fail))); (first | done | fail)); rintro e w6 ⟨rfl, hw⟩; subst hw)
          | (go_at_call 18; with_reducible refine' Calls.mono (ATop_any ?_) ?_; rotate_left 6; (next => (repeat' (first | with_reducible exact HA.out | with_reducible refine' Ar.drewN ?_ _ | with_reducible refine' Ar.drew ?_ | with_reducible refine' Ar.farE ?_ ?_ _ | with_reducible refine' Ar.alloc ?_ _ | with_reducible refine' Ar.below ?_ (by assumption))); (try (all_goals (simp [*, ↓IntWalk.iteOmega]; first | done | fail))); (first | done | fail)); rintro e w6 ⟨rfl, hw⟩; replace hw := hw.symm; subst hw))
        go_ret
        refine ⟨rfl, ?_⟩
        have b5 := S5.out.below HB2.out HB2.out.size L2.out
        exact bl_alloc (by first | omega | (simp; omega)) (bl_alloc (by omega) b5 _) _
end Go.Proofs.Ytjoehhojhfgooaa
