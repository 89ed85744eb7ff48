/- UtfRefuses: the law's call. No condition. -/
import Derived.Test.YtjoehhojhfgooaaUtG
namespace Go.Proofs.Ytjoehhojhfgooaa
open Go.RowKit
set_option linter.unusedSimpArgs false
set_option linter.unusedVariables false
attribute [local go_sem] IntKind.wrap_u32' signed_u32 max_u32
attribute [local go_sem ↓] Go.wp_at_zero Go.wp_at_succ
attribute [local go_sem] Calm.C
attribute [local go_sem low] Calm.al_cell Calm.al_frozen
namespace Ut
/-- Of places ahead of k: within, and apart, as the law asks it. -/
def Ok (n : Int) (L : Nat → Int) (k : Nat) : Prop := (0 ≤ n ∧ n ≤ 30) ∧ ∀ i, i < k → (0 ≤ L i ∧ L i ≤ 30 - n) ∧ ∀ j, j < i → n = 0 ∨ n ≤ L i - L j ∨ n ≤ L j - L i
theorem Ok_zero (n : Int) (L : Nat → Int) : Ok n L 0 ↔ 0 ≤ n ∧ n ≤ 30 := ⟨fun h => h.1, fun h => ⟨h, fun i hi => absurd hi (Nat.not_lt_zero i)⟩⟩
theorem Ok_succ (n : Int) (L : Nat → Int) (k : Nat) : Ok n L (k + 1) ↔ Ok n L k ∧ (0 ≤ L k ∧ L k ≤ 30 - n) ∧ ∀ j, j < k → n = 0 ∨ n ≤ L k - L j ∨ n ≤ L j - L k := by
  constructor
  · exact fun h => ⟨⟨h.1, fun i hi => h.2 i (by omega)⟩, h.2 k (by omega)⟩
  · rintro ⟨h1, h2⟩
    refine ⟨h1.1, fun i hi => ?_⟩
    rcases Nat.lt_or_ge i k with h | h
    · exact h1.2 i h
    · obtain rfl : i = k := by omega
      exact h2
theorem Ok_lanes (n : Int) (L : Nat → Int) : Ok n L 3 ↔ 0 ≤ n ∧ n ≤ 4096 ∧ Lanes 30 n L 3 := by
  constructor
  · rintro ⟨⟨h0, h1⟩, h⟩
    refine ⟨h0, by omega, fun k hk => ?_⟩
    obtain ⟨⟨h2, h3⟩, h4⟩ := h k hk
    refine ⟨⟨h2, h0, by omega⟩, fun j hj => ?_⟩
    have := h4 j hj
    unfold Meets
    omega
  · rintro ⟨h0, h1, h⟩
    have hf := (h 0 (by decide)).1
    unfold Fit at hf
    refine ⟨⟨h0, by omega⟩, fun i hi => ?_⟩
    obtain ⟨h2, h3⟩ := h i hi
    unfold Fit at h2
    refine ⟨⟨h2.1, by omega⟩, fun j hj => ?_⟩
    have h4 := h3 j hj
    unfold Meets at h4
    omega
end Ut
theorem agg3 (x y z : Int) (k : Nat) (h : k < 3) : (#[Value.int .i64 x, Value.int .i64 y, Value.int .i64 z] : Array Value)[k]? = some (.int .i64 (L3 x y z k)) := by
  rcases (by omega : k = 0 ∨ k = 1 ∨ k = 2) with rfl | rfl | rfl <;> rfl
theorem Decode_w {w : World} {p g lp : Nat} {FL : Nat → Prop} {ws : List Int} {top : Nat} {evs : List Ev} (h : Ar w p g lp FL ws top evs) (inn n out keep len : Int) (he : evs.length < 1000000000000) (h0 : 0 ≤ n) (h1 : n ≤ 4096) (hL : Lanes top n (L3 inn out keep) 3) :
    Calls Try.prog 27 #[.pointer (some ⟨p, 0, none⟩), .int .i64 inn, .int .i64 n, .agg #[.int .u32 len], .int .i64 out, .int .i64 keep] w fun e w' =>
      ∃ ans V E FL', e = .returned (.tuple #[.agg #[.int .u32 ans], .bool true]) ∧ Ar w' p g lp FL' V top E ∧ Step (AF p g FL) (AF p g FL') w w' := by
  refine (Decode_t h inn n out keep len he h0 h1 hL).mono ?_
  rintro e w' ⟨rfl, F', hA, hs⟩
  exact ⟨_, _, _, F', rfl, hA, hs⟩
theorem norm_take {w : World} {p g lp : Nat} {F : Nat → Prop} {ws : List Int} (h : Ar w p g lp F ws (0 + (30 : Int).toNat) ([] ++ [⟨4, ((0 : Nat) : Int), 30⟩])) : Ar w p g lp F ws 30 [⟨4, 0, 30⟩] := h
theorem L3_0 (x y z : Int) : L3 x y z 0 = x := rfl
theorem L3_1 (x y z : Int) : L3 x y z 1 = y := rfl
theorem L3_2 (x y z : Int) : L3 x y z 2 = z := rfl
theorem arr_new (w : World) (x y z : Int) (t : TypeId) : ∀ i, i < 3 → (w.alloc (.cells #[.int .i64 x, .int .i64 y, .int .i64 z] t)).cell? ⟨w.heap.size, i, none⟩ = some (.int .i64 (L3 x y z i)) := fun i hi => ((Blk.new w t _).cell i).trans (agg3 x y z i hi)
theorem arr_below {W w1 : World} {b : Nat} {L : Nat → Int} (hb : Below W.heap.size W w1) (h : ∀ i, i < 3 → W.cell? ⟨b, i, none⟩ = some (.int .i64 (L i))) : ∀ i, i < 3 → w1.cell? ⟨b, i, none⟩ = some (.int .i64 (L i)) :=
  fun i hi => (hb.cell (p := ⟨b, i, none⟩) (World.block_lt_of_cell? W ⟨b, i, none⟩ (h i hi))).trans (h i hi)
theorem arr_kept {wq w0 w1 : World} {p g b : Nat} {F0 F1 : Nat → Prop} {L : Nat → Int} (hb : Below wq.heap.size wq w0) (hs : Step (AF p g F0) (AF p g F1) w0 w1) (hl : ∀ i, AF p g F0 i → wq.heap.size ≤ i) (h : ∀ i, i < 3 → wq.cell? ⟨b, i, none⟩ = some (.int .i64 (L i))) (_ : True) : ∀ i, i < 3 → w1.cell? ⟨b, i, none⟩ = some (.int .i64 (L i)) := fun i hi => by
  have hbl := World.block_lt_of_cell? wq ⟨b, i, none⟩ (h i hi)
  exact (old_cell hs (Nat.lt_of_lt_of_le hbl hb.size) (fun hf => absurd (hl _ hf) (Nat.not_le.2 hbl))).trans ((hb.cell (p := ⟨b, i, none⟩) hbl).trans (h i hi))
attribute [local irreducible] Ut.out Ut.answer Ut.evs L3
set_option maxRecDepth 10000 in
set_option maxHeartbeats 12000000 in
theorem UtfRefuses_any (w : World) (x y z n : Int) : Calls Try.prog 7 #[.agg #[.int .i64 x, .int .i64 y, .int .i64 z], .int .i64 n] w fun e w' => e = .returned (.bool true) ∧ Below w.heap.size w w' := by
  have i0 : ∀ w : World, (Instr.index 61 (.agg #[.int .i64 x, .int .i64 y, .int .i64 z]) (.int .i64 0)).run Try.prog w = .ok (.int .i64 x) w := fun _ => by kernel_rfl
  have i1 : ∀ w : World, (Instr.index 61 (.agg #[.int .i64 x, .int .i64 y, .int .i64 z]) (.int .i64 1)).run Try.prog w = .ok (.int .i64 y) w := fun _ => by kernel_rfl
  have i2 : ∀ w : World, (Instr.index 61 (.agg #[.int .i64 x, .int .i64 y, .int .i64 z]) (.int .i64 2)).run Try.prog w = .ok (.int .i64 z) w := fun _ => by kernel_rfl
  rcases (by omega : (0 ≤ n ∧ n ≤ 30) ∨ (0 ≤ n ∧ ¬ n ≤ 30) ∨ ¬ 0 ≤ n) with ⟨g0, g1⟩ | ⟨g0, g1⟩ | g0
  · go_enter Try.func7, Try.ntmps7
    go_wp2_with (first | (go_at_call 29; refine (awake09_any _).mono ?_; rintro e wq ⟨rfl, hb⟩; have hcf_wq := bcell hb; (try simp only [World.size_alloc, World.size_setCell, drew_size] at hcf_wq); have hz_wq := hb.size; (try simp only [World.size_alloc, World.size_setCell, World.size_drew] at hz_wq); have hbh_wq := Lib.hid hb; clear hb; obtain ⟨hc_wq, hf_wq⟩ := hcf_wq) | (go_at_call 24; with_reducible refine (ANew_any 30 30 (by decide) _).mono ?_; rintro e w0 ⟨p, g, lp, F0, rfl, hA, hlow, hb⟩; have H0 := Lib.hid hA; have LOW := Lib.hid hlow; have B0 := Lib.hid hb; have z0 := hb.size; have HM0 := Lib.hid hA.most; clear hA hlow hb) | (go_at_call 25; with_reducible refine (ATake_j H0.out (by decide) 30 (by decide) (by rw [List.length_replicate]; decide)).mono ?_; rintro e w1 ⟨rfl, F1, hA1, hs1⟩; have HA := Lib.hid (norm_take hA1); have S1 := Lib.hid hs1; have z1 := hs1.size; have CA := Lib.hid (arr_kept B0.out S1.out LOW.out (arr_below hbh_wq.out (arr_new w x y z _)) trivial); have n0 := CA.out 0 (by decide); have n1 := CA.out 1 (by decide); have n2 := CA.out 2 (by decide); simp only [L3_0, L3_1, L3_2] at n0 n1 n2; clear hA1 hs1) | (go_at_call 14; with_reducible refine (ALog_any HA.out).mono ?_; rintro e w6 ⟨rfl, hw⟩; replace hw := hw.symm; subst hw) | (go_at_call 15; with_reducible refine (Len_any _ F1 lp _ HA.out.lg).mono ?_; rintro e w6 ⟨rfl, hw⟩; subst hw))
    go_loopw [7, 29] (fun b i wr => ∃ (k : Nat) (r : Bool), k ≤ 3 ∧ i = .int .i64 k ∧ b = .bool r ∧ (r = true ↔ Ut.Ok n (L3 x y z) k) ∧ wr = w1) (fun _ i _ => 3 - (intOf i).toNat)
    case atStart => exact ⟨0, _, Nat.zero_le _, rfl, rfl, by rw [Ut.Ok_zero]; simp; omega, rfl⟩
    case round =>
      obtain ⟨k, r, hk, rfl, rfl, hr, hwr⟩ := hrel
      replace hwr := hwr.symm
      subst hwr
      rcases (by omega : k = 0 ∨ k = 1 ∨ k = 2 ∨ k = 3) with rfl | rfl | rfl | rfl
      · cases r
        · have hr1 := Lib.hid (show (false = true) ↔ (Ut.Ok n (L3 x y z) 0 ∧ (0 ≤ x ∧ x ≤ 30 - n)) from ⟨fun h => absurd h (by simp), fun h => hr.2 h.1⟩)
          clear hr
          go_wp2_with fail
          go_loopw [7, 47] (fun b i w2 => ∃ (q : Nat) (r2 : Bool), q ≤ 0 ∧ i = .int .i64 q ∧ b = .bool r2 ∧ (r2 = true ↔ (Ut.Ok n (L3 x y z) 0 ∧ (0 ≤ x ∧ x ≤ 30 - n)) ∧ ∀ j, j < q → n = 0 ∨ n ≤ x - L3 x y z j ∨ n ≤ L3 x y z j - x) ∧ w2 = w1) (fun _ i _ => 0 - (intOf i).toNat)
          case atStart => exact ⟨0, _, Nat.zero_le _, rfl, rfl, by rw [and_iff_left (fun j hj => absurd hj (Nat.not_lt_zero j))]; simpa using hr1.out, rfl⟩
          case round =>
            obtain ⟨q, r2, hq, rfl, rfl, hr2', hw2⟩ := hrel
            have hr2 := Lib.hid hr2'
            clear hr2'
            replace hw2 := hw2.symm
            subst hw2
            by_cases hqk : q < 0
            · exact absurd hqk (Nat.not_lt_zero q)
            · have hge : 0 ≤ q := by omega
              go_wp2_with fail
              refine ⟨⟨0 + 1, r2, by omega, by go_num, rfl, ?_, trivial⟩, by simp [intOf]⟩
              have hE : q = 0 := by omega
              have hr3 := hr2.out
              rw [hE] at hr3
              rw [hr3, Ut.Ok_succ n (L3 x y z) 0, L3_0, and_assoc]
        · have hO := hr.1 rfl
          have hnn := hO.1
          by_cases a0 : 0 ≤ x
          · by_cases a1 : x ≤ 30 - n
            · have hr1 := Lib.hid (show (true = true) ↔ (Ut.Ok n (L3 x y z) 0 ∧ (0 ≤ x ∧ x ≤ 30 - n)) from ⟨fun _ => ⟨hO, a0, a1⟩, fun _ => rfl⟩)
              clear hr hO
              go_wp2_with fail
              go_loopw [7, 47] (fun b i w2 => ∃ (q : Nat) (r2 : Bool), q ≤ 0 ∧ i = .int .i64 q ∧ b = .bool r2 ∧ (r2 = true ↔ (Ut.Ok n (L3 x y z) 0 ∧ (0 ≤ x ∧ x ≤ 30 - n)) ∧ ∀ j, j < q → n = 0 ∨ n ≤ x - L3 x y z j ∨ n ≤ L3 x y z j - x) ∧ w2 = w1) (fun _ i _ => 0 - (intOf i).toNat)
              case atStart => exact ⟨0, _, Nat.zero_le _, rfl, rfl, by rw [and_iff_left (fun j hj => absurd hj (Nat.not_lt_zero j))]; simpa using hr1.out, rfl⟩
              case round =>
                obtain ⟨q, r2, hq, rfl, rfl, hr2', hw2⟩ := hrel
                have hr2 := Lib.hid hr2'
                clear hr2'
                replace hw2 := hw2.symm
                subst hw2
                by_cases hqk : q < 0
                · exact absurd hqk (Nat.not_lt_zero q)
                · have hge : 0 ≤ q := by omega
                  go_wp2_with fail
                  refine ⟨⟨0 + 1, r2, by omega, by go_num, rfl, ?_, trivial⟩, by simp [intOf]⟩
                  have hE : q = 0 := by omega
                  have hr3 := hr2.out
                  rw [hE] at hr3
                  rw [hr3, Ut.Ok_succ n (L3 x y z) 0, L3_0, and_assoc]
            · have hr1 := Lib.hid (show (false = true) ↔ (Ut.Ok n (L3 x y z) 0 ∧ (0 ≤ x ∧ x ≤ 30 - n)) from ⟨fun h => absurd h (by simp), fun h => absurd h.2.2 a1⟩)
              clear hr hO
              go_wp2_with fail
              go_loopw [7, 47] (fun b i w2 => ∃ (q : Nat) (r2 : Bool), q ≤ 0 ∧ i = .int .i64 q ∧ b = .bool r2 ∧ (r2 = true ↔ (Ut.Ok n (L3 x y z) 0 ∧ (0 ≤ x ∧ x ≤ 30 - n)) ∧ ∀ j, j < q → n = 0 ∨ n ≤ x - L3 x y z j ∨ n ≤ L3 x y z j - x) ∧ w2 = w1) (fun _ i _ => 0 - (intOf i).toNat)
              case atStart => exact ⟨0, _, Nat.zero_le _, rfl, rfl, by rw [and_iff_left (fun j hj => absurd hj (Nat.not_lt_zero j))]; simpa using hr1.out, rfl⟩
              case round =>
                obtain ⟨q, r2, hq, rfl, rfl, hr2', hw2⟩ := hrel
                have hr2 := Lib.hid hr2'
                clear hr2'
                replace hw2 := hw2.symm
                subst hw2
                by_cases hqk : q < 0
                · exact absurd hqk (Nat.not_lt_zero q)
                · have hge : 0 ≤ q := by omega
                  go_wp2_with fail
                  refine ⟨⟨0 + 1, r2, by omega, by go_num, rfl, ?_, trivial⟩, by simp [intOf]⟩
                  have hE : q = 0 := by omega
                  have hr3 := hr2.out
                  rw [hE] at hr3
                  rw [hr3, Ut.Ok_succ n (L3 x y z) 0, L3_0, and_assoc]
          · have hr1 := Lib.hid (show (false = true) ↔ (Ut.Ok n (L3 x y z) 0 ∧ (0 ≤ x ∧ x ≤ 30 - n)) from ⟨fun h => absurd h (by simp), fun h => absurd h.2.1 a0⟩)
            clear hr hO
            go_wp2_with fail
            go_loopw [7, 47] (fun b i w2 => ∃ (q : Nat) (r2 : Bool), q ≤ 0 ∧ i = .int .i64 q ∧ b = .bool r2 ∧ (r2 = true ↔ (Ut.Ok n (L3 x y z) 0 ∧ (0 ≤ x ∧ x ≤ 30 - n)) ∧ ∀ j, j < q → n = 0 ∨ n ≤ x - L3 x y z j ∨ n ≤ L3 x y z j - x) ∧ w2 = w1) (fun _ i _ => 0 - (intOf i).toNat)
            case atStart => exact ⟨0, _, Nat.zero_le _, rfl, rfl, by rw [and_iff_left (fun j hj => absurd hj (Nat.not_lt_zero j))]; simpa using hr1.out, rfl⟩
            case round =>
              obtain ⟨q, r2, hq, rfl, rfl, hr2', hw2⟩ := hrel
              have hr2 := Lib.hid hr2'
              clear hr2'
              replace hw2 := hw2.symm
              subst hw2
              by_cases hqk : q < 0
              · exact absurd hqk (Nat.not_lt_zero q)
              · have hge : 0 ≤ q := by omega
                go_wp2_with fail
                refine ⟨⟨0 + 1, r2, by omega, by go_num, rfl, ?_, trivial⟩, by simp [intOf]⟩
                have hE : q = 0 := by omega
                have hr3 := hr2.out
                rw [hE] at hr3
                rw [hr3, Ut.Ok_succ n (L3 x y z) 0, L3_0, and_assoc]
      · cases r
        · have hr1 := Lib.hid (show (false = true) ↔ (Ut.Ok n (L3 x y z) 1 ∧ (0 ≤ y ∧ y ≤ 30 - n)) from ⟨fun h => absurd h (by simp), fun h => hr.2 h.1⟩)
          clear hr
          go_wp2_with fail
          go_loopw [7, 47] (fun b i w2 => ∃ (q : Nat) (r2 : Bool), q ≤ 1 ∧ i = .int .i64 q ∧ b = .bool r2 ∧ (r2 = true ↔ (Ut.Ok n (L3 x y z) 1 ∧ (0 ≤ y ∧ y ≤ 30 - n)) ∧ ∀ j, j < q → n = 0 ∨ n ≤ y - L3 x y z j ∨ n ≤ L3 x y z j - y) ∧ w2 = w1) (fun _ i _ => 1 - (intOf i).toNat)
          case atStart => exact ⟨0, _, Nat.zero_le _, rfl, rfl, by rw [and_iff_left (fun j hj => absurd hj (Nat.not_lt_zero j))]; simpa using hr1.out, rfl⟩
          case round =>
            obtain ⟨q, r2, hq, rfl, rfl, hr2', hw2⟩ := hrel
            have hr2 := Lib.hid hr2'
            clear hr2'
            replace hw2 := hw2.symm
            subst hw2
            by_cases hqk : q < 1
            · have hcq := CA.out q (by omega)
              obtain ⟨Y, hY⟩ : ∃ Y, L3 x y z q = Y := ⟨_, rfl⟩
              rw [hY] at hcq
              cases r2
              · go_wp2_with fail
                refine ⟨⟨q + 1, false, by omega, by go_num, rfl, ⟨fun h => absurd h (by simp), fun h => ?_⟩, trivial⟩, by simp [intOf]; omega⟩
                exact hr2.out.2 ⟨h.1, fun j hj => h.2 j (by omega)⟩
              · obtain ⟨⟨hO, hX0, hX1⟩, hj2⟩ := hr2.out.1 rfl
                have hYr := (hO.2 q hqk).1
                rw [hY] at hYr
                have hnn := hO.1
                have HO := Lib.hid hO
                have HJ := Lib.hid hj2
                clear hO hj2 hr2 hr1
                rcases (by omega : n = 0 ∨ (n ≠ 0 ∧ n ≤ y - Y) ∨ (n ≠ 0 ∧ ¬ n ≤ y - Y ∧ n ≤ Y - y) ∨ (n ≠ 0 ∧ ¬ n ≤ y - Y ∧ ¬ n ≤ Y - y)) with e0 | ⟨e0, e1⟩ | ⟨e0, e1, e2⟩ | ⟨e0, e1, e2⟩
                · have hz : (n == 0) = true := by simpa using e0
                  go_wp2_with fail
                  refine ⟨⟨q + 1, true, by omega, by go_num, rfl, ⟨fun _ => ⟨⟨HO.out, hX0, hX1⟩, fun j hj => .inl e0⟩, fun _ => rfl⟩, trivial⟩, by simp [intOf]; omega⟩
                · have hz : (n == 0) = false := by simpa using e0
                  go_wp2_with fail
                  refine ⟨⟨q + 1, true, by omega, by go_num, rfl, ⟨fun _ => ⟨⟨HO.out, hX0, hX1⟩, fun j hj => ?_⟩, fun _ => rfl⟩, trivial⟩, by simp [intOf]; omega⟩
                  rcases Nat.lt_or_ge j q with h | h
                  · exact HJ.out j h
                  · obtain rfl : j = q := by omega
                    rw [hY]; exact .inr (.inl e1)
                · have hz : (n == 0) = false := by simpa using e0
                  go_wp2_with fail
                  refine ⟨⟨q + 1, true, by omega, by go_num, rfl, ⟨fun _ => ⟨⟨HO.out, hX0, hX1⟩, fun j hj => ?_⟩, fun _ => rfl⟩, trivial⟩, by simp [intOf]; omega⟩
                  rcases Nat.lt_or_ge j q with h | h
                  · exact HJ.out j h
                  · obtain rfl : j = q := by omega
                    rw [hY]; exact .inr (.inr e2)
                · have hz : (n == 0) = false := by simpa using e0
                  go_wp2_with fail
                  refine ⟨⟨q + 1, false, by omega, by go_num, rfl, ⟨fun h => absurd h (by simp), fun h => ?_⟩, trivial⟩, by simp [intOf]; omega⟩
                  have h3 := h.2 q (by omega)
                  rw [hY] at h3
                  omega
            · have hge : 1 ≤ q := by omega
              go_wp2_with fail
              refine ⟨⟨1 + 1, r2, by omega, by go_num, rfl, ?_, trivial⟩, by simp [intOf]⟩
              have hE : q = 1 := by omega
              have hr3 := hr2.out
              rw [hE] at hr3
              rw [hr3, Ut.Ok_succ n (L3 x y z) 1, L3_1, and_assoc]
        · have hO := hr.1 rfl
          have hnn := hO.1
          by_cases a0 : 0 ≤ y
          · by_cases a1 : y ≤ 30 - n
            · have hr1 := Lib.hid (show (true = true) ↔ (Ut.Ok n (L3 x y z) 1 ∧ (0 ≤ y ∧ y ≤ 30 - n)) from ⟨fun _ => ⟨hO, a0, a1⟩, fun _ => rfl⟩)
              clear hr hO
              go_wp2_with fail
              go_loopw [7, 47] (fun b i w2 => ∃ (q : Nat) (r2 : Bool), q ≤ 1 ∧ i = .int .i64 q ∧ b = .bool r2 ∧ (r2 = true ↔ (Ut.Ok n (L3 x y z) 1 ∧ (0 ≤ y ∧ y ≤ 30 - n)) ∧ ∀ j, j < q → n = 0 ∨ n ≤ y - L3 x y z j ∨ n ≤ L3 x y z j - y) ∧ w2 = w1) (fun _ i _ => 1 - (intOf i).toNat)
              case atStart => exact ⟨0, _, Nat.zero_le _, rfl, rfl, by rw [and_iff_left (fun j hj => absurd hj (Nat.not_lt_zero j))]; simpa using hr1.out, rfl⟩
              case round =>
                obtain ⟨q, r2, hq, rfl, rfl, hr2', hw2⟩ := hrel
                have hr2 := Lib.hid hr2'
                clear hr2'
                replace hw2 := hw2.symm
                subst hw2
                by_cases hqk : q < 1
                · have hcq := CA.out q (by omega)
                  obtain ⟨Y, hY⟩ : ∃ Y, L3 x y z q = Y := ⟨_, rfl⟩
                  rw [hY] at hcq
                  cases r2
                  · go_wp2_with fail
                    refine ⟨⟨q + 1, false, by omega, by go_num, rfl, ⟨fun h => absurd h (by simp), fun h => ?_⟩, trivial⟩, by simp [intOf]; omega⟩
                    exact hr2.out.2 ⟨h.1, fun j hj => h.2 j (by omega)⟩
                  · obtain ⟨⟨hO, hX0, hX1⟩, hj2⟩ := hr2.out.1 rfl
                    have hYr := (hO.2 q hqk).1
                    rw [hY] at hYr
                    have hnn := hO.1
                    have HO := Lib.hid hO
                    have HJ := Lib.hid hj2
                    clear hO hj2 hr2 hr1
                    rcases (by omega : n = 0 ∨ (n ≠ 0 ∧ n ≤ y - Y) ∨ (n ≠ 0 ∧ ¬ n ≤ y - Y ∧ n ≤ Y - y) ∨ (n ≠ 0 ∧ ¬ n ≤ y - Y ∧ ¬ n ≤ Y - y)) with e0 | ⟨e0, e1⟩ | ⟨e0, e1, e2⟩ | ⟨e0, e1, e2⟩
                    · have hz : (n == 0) = true := by simpa using e0
                      go_wp2_with fail
                      refine ⟨⟨q + 1, true, by omega, by go_num, rfl, ⟨fun _ => ⟨⟨HO.out, hX0, hX1⟩, fun j hj => .inl e0⟩, fun _ => rfl⟩, trivial⟩, by simp [intOf]; omega⟩
                    · have hz : (n == 0) = false := by simpa using e0
                      go_wp2_with fail
                      refine ⟨⟨q + 1, true, by omega, by go_num, rfl, ⟨fun _ => ⟨⟨HO.out, hX0, hX1⟩, fun j hj => ?_⟩, fun _ => rfl⟩, trivial⟩, by simp [intOf]; omega⟩
                      rcases Nat.lt_or_ge j q with h | h
                      · exact HJ.out j h
                      · obtain rfl : j = q := by omega
                        rw [hY]; exact .inr (.inl e1)
                    · have hz : (n == 0) = false := by simpa using e0
                      go_wp2_with fail
                      refine ⟨⟨q + 1, true, by omega, by go_num, rfl, ⟨fun _ => ⟨⟨HO.out, hX0, hX1⟩, fun j hj => ?_⟩, fun _ => rfl⟩, trivial⟩, by simp [intOf]; omega⟩
                      rcases Nat.lt_or_ge j q with h | h
                      · exact HJ.out j h
                      · obtain rfl : j = q := by omega
                        rw [hY]; exact .inr (.inr e2)
                    · have hz : (n == 0) = false := by simpa using e0
                      go_wp2_with fail
                      refine ⟨⟨q + 1, false, by omega, by go_num, rfl, ⟨fun h => absurd h (by simp), fun h => ?_⟩, trivial⟩, by simp [intOf]; omega⟩
                      have h3 := h.2 q (by omega)
                      rw [hY] at h3
                      omega
                · have hge : 1 ≤ q := by omega
                  go_wp2_with fail
                  refine ⟨⟨1 + 1, r2, by omega, by go_num, rfl, ?_, trivial⟩, by simp [intOf]⟩
                  have hE : q = 1 := by omega
                  have hr3 := hr2.out
                  rw [hE] at hr3
                  rw [hr3, Ut.Ok_succ n (L3 x y z) 1, L3_1, and_assoc]
            · have hr1 := Lib.hid (show (false = true) ↔ (Ut.Ok n (L3 x y z) 1 ∧ (0 ≤ y ∧ y ≤ 30 - n)) from ⟨fun h => absurd h (by simp), fun h => absurd h.2.2 a1⟩)
              clear hr hO
              go_wp2_with fail
              go_loopw [7, 47] (fun b i w2 => ∃ (q : Nat) (r2 : Bool), q ≤ 1 ∧ i = .int .i64 q ∧ b = .bool r2 ∧ (r2 = true ↔ (Ut.Ok n (L3 x y z) 1 ∧ (0 ≤ y ∧ y ≤ 30 - n)) ∧ ∀ j, j < q → n = 0 ∨ n ≤ y - L3 x y z j ∨ n ≤ L3 x y z j - y) ∧ w2 = w1) (fun _ i _ => 1 - (intOf i).toNat)
              case atStart => exact ⟨0, _, Nat.zero_le _, rfl, rfl, by rw [and_iff_left (fun j hj => absurd hj (Nat.not_lt_zero j))]; simpa using hr1.out, rfl⟩
              case round =>
                obtain ⟨q, r2, hq, rfl, rfl, hr2', hw2⟩ := hrel
                have hr2 := Lib.hid hr2'
                clear hr2'
                replace hw2 := hw2.symm
                subst hw2
                by_cases hqk : q < 1
                · have hcq := CA.out q (by omega)
                  obtain ⟨Y, hY⟩ : ∃ Y, L3 x y z q = Y := ⟨_, rfl⟩
                  rw [hY] at hcq
                  cases r2
                  · go_wp2_with fail
                    refine ⟨⟨q + 1, false, by omega, by go_num, rfl, ⟨fun h => absurd h (by simp), fun h => ?_⟩, trivial⟩, by simp [intOf]; omega⟩
                    exact hr2.out.2 ⟨h.1, fun j hj => h.2 j (by omega)⟩
                  · obtain ⟨⟨hO, hX0, hX1⟩, hj2⟩ := hr2.out.1 rfl
                    have hYr := (hO.2 q hqk).1
                    rw [hY] at hYr
                    have hnn := hO.1
                    have HO := Lib.hid hO
                    have HJ := Lib.hid hj2
                    clear hO hj2 hr2 hr1
                    omega
                · have hge : 1 ≤ q := by omega
                  go_wp2_with fail
                  refine ⟨⟨1 + 1, r2, by omega, by go_num, rfl, ?_, trivial⟩, by simp [intOf]⟩
                  have hE : q = 1 := by omega
                  have hr3 := hr2.out
                  rw [hE] at hr3
                  rw [hr3, Ut.Ok_succ n (L3 x y z) 1, L3_1, and_assoc]
          · have hr1 := Lib.hid (show (false = true) ↔ (Ut.Ok n (L3 x y z) 1 ∧ (0 ≤ y ∧ y ≤ 30 - n)) from ⟨fun h => absurd h (by simp), fun h => absurd h.2.1 a0⟩)
            clear hr hO
            go_wp2_with fail
            go_loopw [7, 47] (fun b i w2 => ∃ (q : Nat) (r2 : Bool), q ≤ 1 ∧ i = .int .i64 q ∧ b = .bool r2 ∧ (r2 = true ↔ (Ut.Ok n (L3 x y z) 1 ∧ (0 ≤ y ∧ y ≤ 30 - n)) ∧ ∀ j, j < q → n = 0 ∨ n ≤ y - L3 x y z j ∨ n ≤ L3 x y z j - y) ∧ w2 = w1) (fun _ i _ => 1 - (intOf i).toNat)
            case atStart => exact ⟨0, _, Nat.zero_le _, rfl, rfl, by rw [and_iff_left (fun j hj => absurd hj (Nat.not_lt_zero j))]; simpa using hr1.out, rfl⟩
            case round =>
              obtain ⟨q, r2, hq, rfl, rfl, hr2', hw2⟩ := hrel
              have hr2 := Lib.hid hr2'
              clear hr2'
              replace hw2 := hw2.symm
              subst hw2
              by_cases hqk : q < 1
              · have hcq := CA.out q (by omega)
                obtain ⟨Y, hY⟩ : ∃ Y, L3 x y z q = Y := ⟨_, rfl⟩
                rw [hY] at hcq
                cases r2
                · go_wp2_with fail
                  refine ⟨⟨q + 1, false, by omega, by go_num, rfl, ⟨fun h => absurd h (by simp), fun h => ?_⟩, trivial⟩, by simp [intOf]; omega⟩
                  exact hr2.out.2 ⟨h.1, fun j hj => h.2 j (by omega)⟩
                · obtain ⟨⟨hO, hX0, hX1⟩, hj2⟩ := hr2.out.1 rfl
                  have hYr := (hO.2 q hqk).1
                  rw [hY] at hYr
                  have hnn := hO.1
                  have HO := Lib.hid hO
                  have HJ := Lib.hid hj2
                  clear hO hj2 hr2 hr1
                  omega
              · have hge : 1 ≤ q := by omega
                go_wp2_with fail
                refine ⟨⟨1 + 1, r2, by omega, by go_num, rfl, ?_, trivial⟩, by simp [intOf]⟩
                have hE : q = 1 := by omega
                have hr3 := hr2.out
                rw [hE] at hr3
                rw [hr3, Ut.Ok_succ n (L3 x y z) 1, L3_1, and_assoc]
      · cases r
        · have hr1 := Lib.hid (show (false = true) ↔ (Ut.Ok n (L3 x y z) 2 ∧ (0 ≤ z ∧ z ≤ 30 - n)) from ⟨fun h => absurd h (by simp), fun h => hr.2 h.1⟩)
          clear hr
          go_wp2_with fail
          go_loopw [7, 47] (fun b i w2 => ∃ (q : Nat) (r2 : Bool), q ≤ 2 ∧ i = .int .i64 q ∧ b = .bool r2 ∧ (r2 = true ↔ (Ut.Ok n (L3 x y z) 2 ∧ (0 ≤ z ∧ z ≤ 30 - n)) ∧ ∀ j, j < q → n = 0 ∨ n ≤ z - L3 x y z j ∨ n ≤ L3 x y z j - z) ∧ w2 = w1) (fun _ i _ => 2 - (intOf i).toNat)
          case atStart => exact ⟨0, _, Nat.zero_le _, rfl, rfl, by rw [and_iff_left (fun j hj => absurd hj (Nat.not_lt_zero j))]; simpa using hr1.out, rfl⟩
          case round =>
            obtain ⟨q, r2, hq, rfl, rfl, hr2', hw2⟩ := hrel
            have hr2 := Lib.hid hr2'
            clear hr2'
            replace hw2 := hw2.symm
            subst hw2
            by_cases hqk : q < 2
            · have hcq := CA.out q (by omega)
              obtain ⟨Y, hY⟩ : ∃ Y, L3 x y z q = Y := ⟨_, rfl⟩
              rw [hY] at hcq
              cases r2
              · go_wp2_with fail
                refine ⟨⟨q + 1, false, by omega, by go_num, rfl, ⟨fun h => absurd h (by simp), fun h => ?_⟩, trivial⟩, by simp [intOf]; omega⟩
                exact hr2.out.2 ⟨h.1, fun j hj => h.2 j (by omega)⟩
              · obtain ⟨⟨hO, hX0, hX1⟩, hj2⟩ := hr2.out.1 rfl
                have hYr := (hO.2 q hqk).1
                rw [hY] at hYr
                have hnn := hO.1
                have HO := Lib.hid hO
                have HJ := Lib.hid hj2
                clear hO hj2 hr2 hr1
                rcases (by omega : n = 0 ∨ (n ≠ 0 ∧ n ≤ z - Y) ∨ (n ≠ 0 ∧ ¬ n ≤ z - Y ∧ n ≤ Y - z) ∨ (n ≠ 0 ∧ ¬ n ≤ z - Y ∧ ¬ n ≤ Y - z)) with e0 | ⟨e0, e1⟩ | ⟨e0, e1, e2⟩ | ⟨e0, e1, e2⟩
                · have hz : (n == 0) = true := by simpa using e0
                  go_wp2_with fail
                  refine ⟨⟨q + 1, true, by omega, by go_num, rfl, ⟨fun _ => ⟨⟨HO.out, hX0, hX1⟩, fun j hj => .inl e0⟩, fun _ => rfl⟩, trivial⟩, by simp [intOf]; omega⟩
                · have hz : (n == 0) = false := by simpa using e0
                  go_wp2_with fail
                  refine ⟨⟨q + 1, true, by omega, by go_num, rfl, ⟨fun _ => ⟨⟨HO.out, hX0, hX1⟩, fun j hj => ?_⟩, fun _ => rfl⟩, trivial⟩, by simp [intOf]; omega⟩
                  rcases Nat.lt_or_ge j q with h | h
                  · exact HJ.out j h
                  · obtain rfl : j = q := by omega
                    rw [hY]; exact .inr (.inl e1)
                · have hz : (n == 0) = false := by simpa using e0
                  go_wp2_with fail
                  refine ⟨⟨q + 1, true, by omega, by go_num, rfl, ⟨fun _ => ⟨⟨HO.out, hX0, hX1⟩, fun j hj => ?_⟩, fun _ => rfl⟩, trivial⟩, by simp [intOf]; omega⟩
                  rcases Nat.lt_or_ge j q with h | h
                  · exact HJ.out j h
                  · obtain rfl : j = q := by omega
                    rw [hY]; exact .inr (.inr e2)
                · have hz : (n == 0) = false := by simpa using e0
                  go_wp2_with fail
                  refine ⟨⟨q + 1, false, by omega, by go_num, rfl, ⟨fun h => absurd h (by simp), fun h => ?_⟩, trivial⟩, by simp [intOf]; omega⟩
                  have h3 := h.2 q (by omega)
                  rw [hY] at h3
                  omega
            · have hge : 2 ≤ q := by omega
              go_wp2_with fail
              refine ⟨⟨2 + 1, r2, by omega, by go_num, rfl, ?_, trivial⟩, by simp [intOf]⟩
              have hE : q = 2 := by omega
              have hr3 := hr2.out
              rw [hE] at hr3
              rw [hr3, Ut.Ok_succ n (L3 x y z) 2, L3_2, and_assoc]
        · have hO := hr.1 rfl
          have hnn := hO.1
          by_cases a0 : 0 ≤ z
          · by_cases a1 : z ≤ 30 - n
            · have hr1 := Lib.hid (show (true = true) ↔ (Ut.Ok n (L3 x y z) 2 ∧ (0 ≤ z ∧ z ≤ 30 - n)) from ⟨fun _ => ⟨hO, a0, a1⟩, fun _ => rfl⟩)
              clear hr hO
              go_wp2_with fail
              go_loopw [7, 47] (fun b i w2 => ∃ (q : Nat) (r2 : Bool), q ≤ 2 ∧ i = .int .i64 q ∧ b = .bool r2 ∧ (r2 = true ↔ (Ut.Ok n (L3 x y z) 2 ∧ (0 ≤ z ∧ z ≤ 30 - n)) ∧ ∀ j, j < q → n = 0 ∨ n ≤ z - L3 x y z j ∨ n ≤ L3 x y z j - z) ∧ w2 = w1) (fun _ i _ => 2 - (intOf i).toNat)
              case atStart => exact ⟨0, _, Nat.zero_le _, rfl, rfl, by rw [and_iff_left (fun j hj => absurd hj (Nat.not_lt_zero j))]; simpa using hr1.out, rfl⟩
              case round =>
                obtain ⟨q, r2, hq, rfl, rfl, hr2', hw2⟩ := hrel
                have hr2 := Lib.hid hr2'
                clear hr2'
                replace hw2 := hw2.symm
                subst hw2
                by_cases hqk : q < 2
                · have hcq := CA.out q (by omega)
                  obtain ⟨Y, hY⟩ : ∃ Y, L3 x y z q = Y := ⟨_, rfl⟩
                  rw [hY] at hcq
                  cases r2
                  · go_wp2_with fail
                    refine ⟨⟨q + 1, false, by omega, by go_num, rfl, ⟨fun h => absurd h (by simp), fun h => ?_⟩, trivial⟩, by simp [intOf]; omega⟩
                    exact hr2.out.2 ⟨h.1, fun j hj => h.2 j (by omega)⟩
                  · obtain ⟨⟨hO, hX0, hX1⟩, hj2⟩ := hr2.out.1 rfl
                    have hYr := (hO.2 q hqk).1
                    rw [hY] at hYr
                    have hnn := hO.1
                    have HO := Lib.hid hO
                    have HJ := Lib.hid hj2
                    clear hO hj2 hr2 hr1
                    rcases (by omega : n = 0 ∨ (n ≠ 0 ∧ n ≤ z - Y) ∨ (n ≠ 0 ∧ ¬ n ≤ z - Y ∧ n ≤ Y - z) ∨ (n ≠ 0 ∧ ¬ n ≤ z - Y ∧ ¬ n ≤ Y - z)) with e0 | ⟨e0, e1⟩ | ⟨e0, e1, e2⟩ | ⟨e0, e1, e2⟩
                    · have hz : (n == 0) = true := by simpa using e0
                      go_wp2_with fail
                      refine ⟨⟨q + 1, true, by omega, by go_num, rfl, ⟨fun _ => ⟨⟨HO.out, hX0, hX1⟩, fun j hj => .inl e0⟩, fun _ => rfl⟩, trivial⟩, by simp [intOf]; omega⟩
                    · have hz : (n == 0) = false := by simpa using e0
                      go_wp2_with fail
                      refine ⟨⟨q + 1, true, by omega, by go_num, rfl, ⟨fun _ => ⟨⟨HO.out, hX0, hX1⟩, fun j hj => ?_⟩, fun _ => rfl⟩, trivial⟩, by simp [intOf]; omega⟩
                      rcases Nat.lt_or_ge j q with h | h
                      · exact HJ.out j h
                      · obtain rfl : j = q := by omega
                        rw [hY]; exact .inr (.inl e1)
                    · have hz : (n == 0) = false := by simpa using e0
                      go_wp2_with fail
                      refine ⟨⟨q + 1, true, by omega, by go_num, rfl, ⟨fun _ => ⟨⟨HO.out, hX0, hX1⟩, fun j hj => ?_⟩, fun _ => rfl⟩, trivial⟩, by simp [intOf]; omega⟩
                      rcases Nat.lt_or_ge j q with h | h
                      · exact HJ.out j h
                      · obtain rfl : j = q := by omega
                        rw [hY]; exact .inr (.inr e2)
                    · have hz : (n == 0) = false := by simpa using e0
                      go_wp2_with fail
                      refine ⟨⟨q + 1, false, by omega, by go_num, rfl, ⟨fun h => absurd h (by simp), fun h => ?_⟩, trivial⟩, by simp [intOf]; omega⟩
                      have h3 := h.2 q (by omega)
                      rw [hY] at h3
                      omega
                · have hge : 2 ≤ q := by omega
                  go_wp2_with fail
                  refine ⟨⟨2 + 1, r2, by omega, by go_num, rfl, ?_, trivial⟩, by simp [intOf]⟩
                  have hE : q = 2 := by omega
                  have hr3 := hr2.out
                  rw [hE] at hr3
                  rw [hr3, Ut.Ok_succ n (L3 x y z) 2, L3_2, and_assoc]
            · have hr1 := Lib.hid (show (false = true) ↔ (Ut.Ok n (L3 x y z) 2 ∧ (0 ≤ z ∧ z ≤ 30 - n)) from ⟨fun h => absurd h (by simp), fun h => absurd h.2.2 a1⟩)
              clear hr hO
              go_wp2_with fail
              go_loopw [7, 47] (fun b i w2 => ∃ (q : Nat) (r2 : Bool), q ≤ 2 ∧ i = .int .i64 q ∧ b = .bool r2 ∧ (r2 = true ↔ (Ut.Ok n (L3 x y z) 2 ∧ (0 ≤ z ∧ z ≤ 30 - n)) ∧ ∀ j, j < q → n = 0 ∨ n ≤ z - L3 x y z j ∨ n ≤ L3 x y z j - z) ∧ w2 = w1) (fun _ i _ => 2 - (intOf i).toNat)
              case atStart => exact ⟨0, _, Nat.zero_le _, rfl, rfl, by rw [and_iff_left (fun j hj => absurd hj (Nat.not_lt_zero j))]; simpa using hr1.out, rfl⟩
              case round =>
                obtain ⟨q, r2, hq, rfl, rfl, hr2', hw2⟩ := hrel
                have hr2 := Lib.hid hr2'
                clear hr2'
                replace hw2 := hw2.symm
                subst hw2
                by_cases hqk : q < 2
                · have hcq := CA.out q (by omega)
                  obtain ⟨Y, hY⟩ : ∃ Y, L3 x y z q = Y := ⟨_, rfl⟩
                  rw [hY] at hcq
                  cases r2
                  · go_wp2_with fail
                    refine ⟨⟨q + 1, false, by omega, by go_num, rfl, ⟨fun h => absurd h (by simp), fun h => ?_⟩, trivial⟩, by simp [intOf]; omega⟩
                    exact hr2.out.2 ⟨h.1, fun j hj => h.2 j (by omega)⟩
                  · obtain ⟨⟨hO, hX0, hX1⟩, hj2⟩ := hr2.out.1 rfl
                    have hYr := (hO.2 q hqk).1
                    rw [hY] at hYr
                    have hnn := hO.1
                    have HO := Lib.hid hO
                    have HJ := Lib.hid hj2
                    clear hO hj2 hr2 hr1
                    omega
                · have hge : 2 ≤ q := by omega
                  go_wp2_with fail
                  refine ⟨⟨2 + 1, r2, by omega, by go_num, rfl, ?_, trivial⟩, by simp [intOf]⟩
                  have hE : q = 2 := by omega
                  have hr3 := hr2.out
                  rw [hE] at hr3
                  rw [hr3, Ut.Ok_succ n (L3 x y z) 2, L3_2, and_assoc]
          · have hr1 := Lib.hid (show (false = true) ↔ (Ut.Ok n (L3 x y z) 2 ∧ (0 ≤ z ∧ z ≤ 30 - n)) from ⟨fun h => absurd h (by simp), fun h => absurd h.2.1 a0⟩)
            clear hr hO
            go_wp2_with fail
            go_loopw [7, 47] (fun b i w2 => ∃ (q : Nat) (r2 : Bool), q ≤ 2 ∧ i = .int .i64 q ∧ b = .bool r2 ∧ (r2 = true ↔ (Ut.Ok n (L3 x y z) 2 ∧ (0 ≤ z ∧ z ≤ 30 - n)) ∧ ∀ j, j < q → n = 0 ∨ n ≤ z - L3 x y z j ∨ n ≤ L3 x y z j - z) ∧ w2 = w1) (fun _ i _ => 2 - (intOf i).toNat)
            case atStart => exact ⟨0, _, Nat.zero_le _, rfl, rfl, by rw [and_iff_left (fun j hj => absurd hj (Nat.not_lt_zero j))]; simpa using hr1.out, rfl⟩
            case round =>
              obtain ⟨q, r2, hq, rfl, rfl, hr2', hw2⟩ := hrel
              have hr2 := Lib.hid hr2'
              clear hr2'
              replace hw2 := hw2.symm
              subst hw2
              by_cases hqk : q < 2
              · have hcq := CA.out q (by omega)
                obtain ⟨Y, hY⟩ : ∃ Y, L3 x y z q = Y := ⟨_, rfl⟩
                rw [hY] at hcq
                cases r2
                · go_wp2_with fail
                  refine ⟨⟨q + 1, false, by omega, by go_num, rfl, ⟨fun h => absurd h (by simp), fun h => ?_⟩, trivial⟩, by simp [intOf]; omega⟩
                  exact hr2.out.2 ⟨h.1, fun j hj => h.2 j (by omega)⟩
                · obtain ⟨⟨hO, hX0, hX1⟩, hj2⟩ := hr2.out.1 rfl
                  have hYr := (hO.2 q hqk).1
                  rw [hY] at hYr
                  have hnn := hO.1
                  have HO := Lib.hid hO
                  have HJ := Lib.hid hj2
                  clear hO hj2 hr2 hr1
                  omega
              · have hge : 2 ≤ q := by omega
                go_wp2_with fail
                refine ⟨⟨2 + 1, r2, by omega, by go_num, rfl, ?_, trivial⟩, by simp [intOf]⟩
                have hE : q = 2 := by omega
                have hr3 := hr2.out
                rw [hE] at hr3
                rw [hr3, Ut.Ok_succ n (L3 x y z) 2, L3_2, and_assoc]
      · have hm1 := HA.out.most
        have HM1 := Lib.hid hm1
        have hold1 := foot_new hm1 (S1.out.low z0 LOW.out)
        clear hm1
        have N1 := Lib.hid (show ¬ AF p g F1 w.heap.size from fun hf => by
          have h1 := (S1.out.foot w.heap.size (by omega)).1 hf
          have h2 := LOW.out _ h1
          omega)
        cases r
        · have HL := Lib.hid (show ¬ (0 ≤ n ∧ n ≤ 4096 ∧ Lanes 30 n (L3 x y z) 3) from fun h => absurd (hr.2 ((Ut.Ok_lanes _ _).2 h)) (by simp))
          clear hr
          go_wp2_with fail
          go_region_held3 (fun w' => w'.cell? ⟨w.heap.size, 0, none⟩ = some (.int .i64 x) ∧ w'.cell? ⟨w.heap.size, 1, none⟩ = some (.int .i64 y) ∧ w'.cell? ⟨w.heap.size, 2, none⟩ = some (.int .i64 z)) ((simp [go_sem, ↓IntWalk.iteOmega, *]; done)) (first | (go_at_call 28; refine (Of_any _ _).mono ?_; rintro e w1 ⟨rfl, hb⟩; have hcf := bcell hb; (try simp only [World.size_alloc, World.size_setCell, drew_size] at hcf); have hz := hb.size; (try simp only [World.size_alloc, World.size_setCell, World.size_drew] at hz); have hbh := Lib.hid hb; clear hb; obtain ⟨hc, hf⟩ := hcf) | (go_at_call 27; with_reducible refine' Calls.mono (Decode_f ?_ _ _ _ _ _ ?_ HL.out) ?_; rotate_left 5; (next => (repeat' (first | with_reducible exact HA.out | with_reducible refine' Ar.drewN ?_ _ | with_reducible refine' Ar.drew ?_ | with_reducible refine' Ar.farE ?_ ?_ _ | with_reducible refine' Ar.alloc ?_ _ | with_reducible refine' Ar.below ?_ (by assumption))); (try (all_goals (simp [*, ↓IntWalk.iteOmega]; first | done | fail))); (first | done | fail)); (next => decide); rintro e w5 ⟨rfl, hb⟩; have hcf := bcell hb; (try simp only [World.size_alloc, World.size_setCell, drew_size] at hcf); have hz := hb.size; (try simp only [World.size_alloc, World.size_setCell, World.size_drew] at hz); have hbh := Lib.hid hb; clear hb; obtain ⟨hc, hf⟩ := hcf))
          all_goals go_wp2_with (first | (go_at_call 14; with_reducible refine' Calls.mono (ALog_any ?_) ?_; rotate_left 6; (next => (repeat' (first | with_reducible exact HA.out | with_reducible refine' Ar.drewN ?_ _ | with_reducible refine' Ar.drew ?_ | with_reducible refine' Ar.farE ?_ ?_ _ | with_reducible refine' Ar.alloc ?_ _ | with_reducible refine' Ar.below ?_ (by assumption))); (try (all_goals (simp [*, ↓IntWalk.iteOmega]; first | done | fail))); (first | done | fail)); rintro e w6 ⟨rfl, hw⟩; replace hw := hw.symm; subst hw) | (go_at_call 15; with_reducible refine' Calls.mono (Len_any _ _ _ _ (Ar.lg ?_)) ?_; rotate_left 6; (next => (repeat' (first | with_reducible exact HA.out | with_reducible refine' Ar.drewN ?_ _ | with_reducible refine' Ar.drew ?_ | with_reducible refine' Ar.farE ?_ ?_ _ | with_reducible refine' Ar.alloc ?_ _ | with_reducible refine' Ar.below ?_ (by assumption))); (try (all_goals (simp [*, ↓IntWalk.iteOmega]; first | done | fail))); (first | done | fail)); rintro e w6 ⟨rfl, hw⟩; subst hw))
          all_goals
            go_ret
            refine ⟨rfl, ?_⟩
            have hm := HM1.out
            have hB : Below w.heap.size w w0 := by (repeat' (first | with_reducible exact Below.refl _ _ | with_reducible refine bl_drewN ?_ _ | with_reducible refine bl_drew ?_ | refine bl_set (by (first | omega | (simp; done) | (simp; omega))) ?_ _ | refine bl_alloc (by (first | omega | (simp; done) | (simp; omega))) ?_ _ | refine bl_then (by assumption) ?_ (by (first | omega | (simp; done) | (simp; omega))) | refine Step.bl (by assumption) (by assumption) (by (first | omega | (simp; done) | (simp; omega))) (by (first | omega | (simp; done) | (simp; omega))) ?_))
            refine Step.below (B := w.heap.size) (w0 := w) (F := AF p g F0) (F' := AF p g F1) (w := w0) ?_ hB hB.size (fun i hi => ?_)
            · refine Step.trans S1.out ?_
              (repeat' (first | exact Step.refl (by assumption) | refine Step.set_ (by (first | omega | (simp; done) | (simp; omega))) ?_ _ | refine Step.alloc ?_ _ | refine Step.drewN ?_ _ | refine Step.drew ?_ | refine Step.then_ (by assumption) ?_ | refine Step.thenB (by assumption) ?_))
            · have := LOW.out i hi
              omega
        · have HL := Lib.hid ((Ut.Ok_lanes _ _).1 (hr.1 rfl))
          clear hr
          go_wp2_with fail
          go_region_held3 (fun w' => w'.cell? ⟨w.heap.size, 0, none⟩ = some (.int .i64 x) ∧ w'.cell? ⟨w.heap.size, 1, none⟩ = some (.int .i64 y) ∧ w'.cell? ⟨w.heap.size, 2, none⟩ = some (.int .i64 z)) ((simp [go_sem, ↓IntWalk.iteOmega, *]; done)) (first | (go_at_call 28; refine (Of_any _ _).mono ?_; rintro e w1 ⟨rfl, hb⟩; have hcf := bcell hb; (try simp only [World.size_alloc, World.size_setCell, drew_size] at hcf); have hz := hb.size; (try simp only [World.size_alloc, World.size_setCell, World.size_drew] at hz); have hbh := Lib.hid hb; clear hb; obtain ⟨hc, hf⟩ := hcf) | (go_at_call 27; with_reducible refine' Calls.mono (Decode_w ?_ _ _ _ _ _ ?_ HL.out.1 HL.out.2.1 HL.out.2.2) ?_; rotate_left 5; (next => (repeat' (first | with_reducible exact HA.out | with_reducible refine' Ar.drewN ?_ _ | with_reducible refine' Ar.drew ?_ | with_reducible refine' Ar.farE ?_ ?_ _ | with_reducible refine' Ar.alloc ?_ _ | with_reducible refine' Ar.below ?_ (by assumption))); (try (all_goals (simp [*, ↓IntWalk.iteOmega]; first | done | fail))); (first | done | fail)); (next => decide); rintro e w5 ⟨ans, V2, E2, F2, rfl, hA1, hs1⟩; have hz := hs1.size; (try simp only [World.size_alloc, World.size_setCell, World.size_drew] at hz); have k0 : w5.cell? ⟨w.heap.size, 0, none⟩ = some (.int .i64 x) := (old_cell (o := 0) hs1 (b := w.heap.size) (by first | omega | (simp; omega)) N1.out).trans (by simp [go_sem, ↓IntWalk.iteOmega, *]; first | done | fail); have k1 : w5.cell? ⟨w.heap.size, 1, none⟩ = some (.int .i64 y) := (old_cell (o := 1) hs1 (b := w.heap.size) (by first | omega | (simp; omega)) N1.out).trans (by simp [go_sem, ↓IntWalk.iteOmega, *]; first | done | fail); have k2 : w5.cell? ⟨w.heap.size, 2, none⟩ = some (.int .i64 z) := (old_cell (o := 2) hs1 (b := w.heap.size) (by first | omega | (simp; omega)) N1.out).trans (by simp [go_sem, ↓IntWalk.iteOmega, *]; first | done | fail); obtain ⟨hc, hf, -⟩ := hs1.rules; (try simp only [World.size_alloc, World.size_setCell, drew_size] at hc hf); have hst := Lib.hid hs1; have HA := Lib.hid hA1; clear hA1 hs1))
          all_goals go_wp2_with (first | (go_at_call 14; with_reducible refine' Calls.mono (ALog_any ?_) ?_; rotate_left 6; (next => (repeat' (first | with_reducible exact HA.out | with_reducible refine' Ar.drewN ?_ _ | with_reducible refine' Ar.drew ?_ | with_reducible refine' Ar.farE ?_ ?_ _ | with_reducible refine' Ar.alloc ?_ _ | with_reducible refine' Ar.below ?_ (by assumption))); (try (all_goals (simp [*, ↓IntWalk.iteOmega]; first | done | fail))); (first | done | fail)); rintro e w6 ⟨rfl, hw⟩; replace hw := hw.symm; subst hw) | (go_at_call 15; with_reducible refine' Calls.mono (Len_any _ _ _ _ (Ar.lg ?_)) ?_; rotate_left 6; (next => (repeat' (first | with_reducible exact HA.out | with_reducible refine' Ar.drewN ?_ _ | with_reducible refine' Ar.drew ?_ | with_reducible refine' Ar.farE ?_ ?_ _ | with_reducible refine' Ar.alloc ?_ _ | with_reducible refine' Ar.below ?_ (by assumption))); (try (all_goals (simp [*, ↓IntWalk.iteOmega]; first | done | fail))); (first | done | fail)); rintro e w6 ⟨rfl, hw⟩; subst hw))
          all_goals
            go_ret
            refine ⟨rfl, ?_⟩
            have hm := HM1.out
            have hB : Below w.heap.size w w0 := by (repeat' (first | with_reducible exact Below.refl _ _ | with_reducible refine bl_drewN ?_ _ | with_reducible refine bl_drew ?_ | refine bl_set (by (first | omega | (simp; done) | (simp; omega))) ?_ _ | refine bl_alloc (by (first | omega | (simp; done) | (simp; omega))) ?_ _ | refine bl_then (by assumption) ?_ (by (first | omega | (simp; done) | (simp; omega))) | refine Step.bl (by assumption) (by assumption) (by (first | omega | (simp; done) | (simp; omega))) (by (first | omega | (simp; done) | (simp; omega))) ?_))
            refine Step.below (B := w.heap.size) (w0 := w) (F := AF p g F0) (F' := AF p g F2) (w := w0) ?_ hB hB.size (fun i hi => ?_)
            · refine Step.trans S1.out ?_
              (repeat' (first | exact Step.refl (by assumption) | refine Step.set_ (by (first | omega | (simp; done) | (simp; omega))) ?_ _ | refine Step.alloc ?_ _ | refine Step.drewN ?_ _ | refine Step.drew ?_ | refine Step.then_ (by assumption) ?_ | refine Step.thenB (by assumption) ?_))
            · have := LOW.out i hi
              omega
  all_goals
    go_enter Try.func7, Try.ntmps7
    go_wp2_with (first | (go_at_call 29; refine (awake09_any _).mono ?_; rintro e wq ⟨rfl, hb⟩; have hcf_wq := bcell hb; (try simp only [World.size_alloc, World.size_setCell, drew_size] at hcf_wq); have hz_wq := hb.size; (try simp only [World.size_alloc, World.size_setCell, World.size_drew] at hz_wq); have hbh_wq := Lib.hid hb; clear hb; obtain ⟨hc_wq, hf_wq⟩ := hcf_wq) | (go_at_call 24; with_reducible refine (ANew_any 30 30 (by decide) _).mono ?_; rintro e w0 ⟨p, g, lp, F0, rfl, hA, hlow, hb⟩; have H0 := Lib.hid hA; have LOW := Lib.hid hlow; have B0 := Lib.hid hb; have z0 := hb.size; have HM0 := Lib.hid hA.most; clear hA hlow hb) | (go_at_call 25; with_reducible refine (ATake_j H0.out (by decide) 30 (by decide) (by rw [List.length_replicate]; decide)).mono ?_; rintro e w1 ⟨rfl, F1, hA1, hs1⟩; have HA := Lib.hid (norm_take hA1); have S1 := Lib.hid hs1; have z1 := hs1.size; have CA := Lib.hid (arr_kept B0.out S1.out LOW.out (arr_below hbh_wq.out (arr_new w x y z _)) trivial); have n0 := CA.out 0 (by decide); have n1 := CA.out 1 (by decide); have n2 := CA.out 2 (by decide); simp only [L3_0, L3_1, L3_2] at n0 n1 n2; clear hA1 hs1) | (go_at_call 14; with_reducible refine (ALog_any HA.out).mono ?_; rintro e w6 ⟨rfl, hw⟩; replace hw := hw.symm; subst hw) | (go_at_call 15; with_reducible refine (Len_any _ F1 lp _ HA.out.lg).mono ?_; rintro e w6 ⟨rfl, hw⟩; subst hw))
    go_loopw [7, 29] (fun b i wr => ∃ k : Nat, k ≤ 3 ∧ i = .int .i64 k ∧ b = .bool false ∧ wr = w1) (fun _ i _ => 3 - (intOf i).toNat)
    case atStart => exact ⟨0, Nat.zero_le _, rfl, by first | (simp; done) | (simp; omega), rfl⟩
    case round =>
      obtain ⟨k, hk, rfl, rfl, hwr⟩ := hrel
      replace hwr := hwr.symm
      subst hwr
      rcases (by omega : k = 0 ∨ k = 1 ∨ k = 2 ∨ k = 3) with rfl | rfl | rfl | rfl
      · go_wp2_with fail
        go_loopw [7, 47] (fun b i w2 => ∃ q : Nat, q ≤ 0 ∧ i = .int .i64 q ∧ b = .bool false ∧ w2 = w1) (fun _ i _ => 0 - (intOf i).toNat)
        case atStart => exact ⟨0, Nat.zero_le _, rfl, rfl, rfl⟩
        case round =>
          obtain ⟨q, hq, rfl, rfl, hw2⟩ := hrel
          replace hw2 := hw2.symm
          subst hw2
          by_cases hqk : q < 0
          · exact absurd hqk (Nat.not_lt_zero q)
          · have hge : 0 ≤ q := by omega
            go_wp2_with fail
            exact ⟨⟨1, by omega, by go_num, rfl, trivial⟩, by simp [intOf]⟩
      · go_wp2_with fail
        go_loopw [7, 47] (fun b i w2 => ∃ q : Nat, q ≤ 1 ∧ i = .int .i64 q ∧ b = .bool false ∧ w2 = w1) (fun _ i _ => 1 - (intOf i).toNat)
        case atStart => exact ⟨0, Nat.zero_le _, rfl, rfl, rfl⟩
        case round =>
          obtain ⟨q, hq, rfl, rfl, hw2⟩ := hrel
          replace hw2 := hw2.symm
          subst hw2
          by_cases hqk : q < 1
          · have hcq := CA.out q (by omega)
            obtain ⟨Y, hY⟩ : ∃ Y, L3 x y z q = Y := ⟨_, rfl⟩
            rw [hY] at hcq
            go_wp2_with fail
            exact ⟨⟨q + 1, by omega, by go_num, rfl, trivial⟩, by simp [intOf]; omega⟩
          · have hge : 1 ≤ q := by omega
            go_wp2_with fail
            exact ⟨⟨2, by omega, by go_num, rfl, trivial⟩, by simp [intOf]⟩
      · go_wp2_with fail
        go_loopw [7, 47] (fun b i w2 => ∃ q : Nat, q ≤ 2 ∧ i = .int .i64 q ∧ b = .bool false ∧ w2 = w1) (fun _ i _ => 2 - (intOf i).toNat)
        case atStart => exact ⟨0, Nat.zero_le _, rfl, rfl, rfl⟩
        case round =>
          obtain ⟨q, hq, rfl, rfl, hw2⟩ := hrel
          replace hw2 := hw2.symm
          subst hw2
          by_cases hqk : q < 2
          · have hcq := CA.out q (by omega)
            obtain ⟨Y, hY⟩ : ∃ Y, L3 x y z q = Y := ⟨_, rfl⟩
            rw [hY] at hcq
            go_wp2_with fail
            exact ⟨⟨q + 1, by omega, by go_num, rfl, trivial⟩, by simp [intOf]; omega⟩
          · have hge : 2 ≤ q := by omega
            go_wp2_with fail
            exact ⟨⟨3, by omega, by go_num, rfl, trivial⟩, by simp [intOf]⟩
      · have hm1 := HA.out.most
        have HM1 := Lib.hid hm1
        have hold1 := foot_new hm1 (S1.out.low z0 LOW.out)
        clear hm1
        have N1 := Lib.hid (show ¬ AF p g F1 w.heap.size from fun hf => by
          have h1 := (S1.out.foot w.heap.size (by omega)).1 hf
          have h2 := LOW.out _ h1
          omega)
        have HL := Lib.hid (show ¬ (0 ≤ n ∧ n ≤ 4096 ∧ Lanes 30 n (L3 x y z) 3) from fun h => by
          have := ((Ut.Ok_lanes _ _).2 h).1
          omega)
        go_wp2_with fail
        go_region_held3 (fun w' => w'.cell? ⟨w.heap.size, 0, none⟩ = some (.int .i64 x) ∧ w'.cell? ⟨w.heap.size, 1, none⟩ = some (.int .i64 y) ∧ w'.cell? ⟨w.heap.size, 2, none⟩ = some (.int .i64 z)) ((simp [go_sem, ↓IntWalk.iteOmega, *]; done)) (first | (go_at_call 28; refine (Of_any _ _).mono ?_; rintro e w1 ⟨rfl, hb⟩; have hcf := bcell hb; (try simp only [World.size_alloc, World.size_setCell, drew_size] at hcf); have hz := hb.size; (try simp only [World.size_alloc, World.size_setCell, World.size_drew] at hz); have hbh := Lib.hid hb; clear hb; obtain ⟨hc, hf⟩ := hcf) | (go_at_call 27; with_reducible refine' Calls.mono (Decode_f ?_ _ _ _ _ _ ?_ HL.out) ?_; rotate_left 5; (next => (repeat' (first | with_reducible exact HA.out | with_reducible refine' Ar.drewN ?_ _ | with_reducible refine' Ar.drew ?_ | with_reducible refine' Ar.farE ?_ ?_ _ | with_reducible refine' Ar.alloc ?_ _ | with_reducible refine' Ar.below ?_ (by assumption))); (try (all_goals (simp [*, ↓IntWalk.iteOmega]; first | done | fail))); (first | done | fail)); (next => decide); rintro e w5 ⟨rfl, hb⟩; have hcf := bcell hb; (try simp only [World.size_alloc, World.size_setCell, drew_size] at hcf); have hz := hb.size; (try simp only [World.size_alloc, World.size_setCell, World.size_drew] at hz); have hbh := Lib.hid hb; clear hb; obtain ⟨hc, hf⟩ := hcf))
        all_goals go_wp2_with (first | (go_at_call 14; with_reducible refine' Calls.mono (ALog_any ?_) ?_; rotate_left 6; (next => (repeat' (first | with_reducible exact HA.out | with_reducible refine' Ar.drewN ?_ _ | with_reducible refine' Ar.drew ?_ | with_reducible refine' Ar.farE ?_ ?_ _ | with_reducible refine' Ar.alloc ?_ _ | with_reducible refine' Ar.below ?_ (by assumption))); (try (all_goals (simp [*, ↓IntWalk.iteOmega]; first | done | fail))); (first | done | fail)); rintro e w6 ⟨rfl, hw⟩; replace hw := hw.symm; subst hw) | (go_at_call 15; with_reducible refine' Calls.mono (Len_any _ _ _ _ (Ar.lg ?_)) ?_; rotate_left 6; (next => (repeat' (first | with_reducible exact HA.out | with_reducible refine' Ar.drewN ?_ _ | with_reducible refine' Ar.drew ?_ | with_reducible refine' Ar.farE ?_ ?_ _ | with_reducible refine' Ar.alloc ?_ _ | with_reducible refine' Ar.below ?_ (by assumption))); (try (all_goals (simp [*, ↓IntWalk.iteOmega]; first | done | fail))); (first | done | fail)); rintro e w6 ⟨rfl, hw⟩; subst hw))
        all_goals
          go_ret
          refine ⟨rfl, ?_⟩
          have hm := HM1.out
          have hB : Below w.heap.size w w0 := by (repeat' (first | with_reducible exact Below.refl _ _ | with_reducible refine bl_drewN ?_ _ | with_reducible refine bl_drew ?_ | refine bl_set (by (first | omega | (simp; done) | (simp; omega))) ?_ _ | refine bl_alloc (by (first | omega | (simp; done) | (simp; omega))) ?_ _ | refine bl_then (by assumption) ?_ (by (first | omega | (simp; done) | (simp; omega))) | refine Step.bl (by assumption) (by assumption) (by (first | omega | (simp; done) | (simp; omega))) (by (first | omega | (simp; done) | (simp; omega))) ?_))
          refine Step.below (B := w.heap.size) (w0 := w) (F := AF p g F0) (F' := AF p g F1) (w := w0) ?_ hB hB.size (fun i hi => ?_)
          · refine Step.trans S1.out ?_
            (repeat' (first | exact Step.refl (by assumption) | refine Step.set_ (by (first | omega | (simp; done) | (simp; omega))) ?_ _ | refine Step.alloc ?_ _ | refine Step.drewN ?_ _ | refine Step.drew ?_ | refine Step.then_ (by assumption) ?_ | refine Step.thenB (by assumption) ?_))
          · have := LOW.out i hi
            omega
end Go.Proofs.Ytjoehhojhfgooaa
