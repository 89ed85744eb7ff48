/- sabretachelaw04.lay. No condition. -/
import Derived.Test.YtjoehhojhfgooaaPk5
import Derived.Test.YtjoehhojhfgooaaTab
import Derived.Test.YtjoehhojhfgooaaUtT
import Derived.Test.YtjoehhojhfgooaaUtQ
namespace Go.Proofs.Ytjoehhojhfgooaa
open Go.RowKit
set_option linter.unusedSimpArgs false
set_option linter.unusedVariables false
attribute [local go_sem] IntKind.wrap_u32' signed_u32 max_u32
attribute [local go_sem ↓] Go.wp_at_zero Go.wp_at_succ
attribute [local go_sem] Calm.C
attribute [local go_sem low] Calm.al_cell Calm.al_frozen
/-- The words that are laid: kept ones, then lanes, T of them. -/
def lyw (n : Nat) (kf : Nat → Int) (wd : Nat → Nat → Int) (T r : Nat) : Int := if r < n then kf r else if r < T then wd (r % n) (r / n - 1) else 0
theorem putw_at (ws : List Int) (f : Nat → Int) : ∀ k, k ≤ ws.length → ∀ i, (putw ws 0 f k).getD i 0 = if i < k then f i else ws.getD i 0
  | 0, _, i => by rw [putw_zero, if_neg (Nat.not_lt_zero i)]
  | k + 1, hk, i => by
    have ih := putw_at ws f k (by omega) i
    rw [putw_succ, Ut.set_get _ _ _ _ (by rw [putw_len]; omega), Nat.zero_add, ih]
    by_cases h : i = k
    · subst h
      rw [if_pos rfl, if_pos (Nat.lt_succ_self _)]
    · rw [if_neg h]
      by_cases h2 : i < k
      · rw [if_pos h2, if_pos (by omega)]
      · rw [if_neg h2, if_neg (by omega)]
theorem lyw_first (n : Nat) (kf : Nat → Int) (wd : Nat → Nat → Int) (r : Nat) : lyw n kf wd n r = if r < n then kf r else 0 := by
  unfold lyw
  by_cases h : r < n
  · rw [if_pos h, if_pos h]
  · rw [if_neg h, if_neg h, if_neg h]
theorem lyw_next (n k i : Nat) (kf : Nat → Int) (wd : Nat → Nat → Int) (hi : i < n) (r : Nat) : lyw n kf wd (n * (k + 1) + i + 1) r = if r = n * (k + 1) + i then wd i k else lyw n kf wd (n * (k + 1) + i) r := by
  have h1 : n ≤ n * (k + 1) := Nat.le_mul_of_pos_right n (Nat.succ_pos k)
  have h2 : (n * (k + 1) + i) % n = i := by rw [Nat.mul_add_mod, Nat.mod_eq_of_lt hi]
  have h3 : (n * (k + 1) + i) / n = k + 1 := by rw [Nat.mul_add_div (by omega), Nat.div_eq_of_lt hi, Nat.add_zero]
  unfold lyw
  by_cases h : r = n * (k + 1) + i
  · subst h
    rw [if_neg (by omega), if_pos (by omega), if_pos rfl, h2, h3, Nat.add_sub_cancel]
  · rw [if_neg h]
    split
    · rfl
    · by_cases h4 : r < n * (k + 1) + i
      · rw [if_pos h4, if_pos (by omega)]
      · rw [if_neg h4, if_neg (by omega)]
theorem i64s_succ (L : Nat → Int) (k : Nat) : i64s L (k + 1) = i64s L k ++ [.int .i64 (L k)] := by
  unfold i64s
  rw [List.range_succ, List.map_append]
  rfl
theorem i64s_nil (L : Nat → Int) : i64s L 0 = [] := rfl
theorem APut_e {w : World} {p g lp : Nat} {FL : Nat → Prop} {ws : List Int} {top : Nat} {evs : List Ev} (h : Ar w p g lp FL ws top evs) (he : evs.length < 1099511627775) (a : Int) (i : Nat) (ha : a = i) (v : Int) (b c : Nat) (hat : i < top) (hb : b < w.heap.size) (hnb : ¬ AF p g FL b) (hc : w.cell? ⟨b, 0, none⟩ = some (.int .u32 v)) :
    Calls Try.prog 26 #[.pointer (some ⟨p, 0, none⟩), .int .i64 a, .slice (some ⟨b, 0, none⟩) 1 c] w fun e w' => e = .returned (.bool true) ∧ ∃ FL', Ar w' p g lp FL' (ws.set i v) top (evs ++ [⟨2, (i : Int), 0⟩]) ∧ Step (AF p g FL) (AF p g FL') w w' := by
  subst ha
  exact APut_1 h he i v b c hat hb hnb hc
attribute [local irreducible] putw stEvs lyw wdr i64s
set_option maxRecDepth 10000 in
set_option maxHeartbeats 3200000 in
theorem lay04_any {w : World} {A : Option Addr} {n c : Nat} {kf : Nat → Int} (hK : Rd w A n kf) (hn : n ≤ 100) {LA : Option Addr} {nl cl : Nat} {R : Nat → Nat} {f : Nat → Nat → Int} {B off : Nat} {Ai : Nat → Option Addr} {ci : Nat → Nat} (hL : Rowz w LA nl R f B off Ai ci) (hR : ∀ i, i < nl → R i ≤ 9223372036854775807) (W : Nat) (hW : W ≤ 10) :
    Calls Try.prog 38 #[.slice A n c, .slice LA nl cl, .int .i64 W] w fun e w' => ∃ p g lp F ws LB cB, e = .returned (.tuple #[.pointer (some ⟨p, 0, none⟩), .slice LB W cB]) ∧ Ar w' p g lp F ws (n * (W + 1)) ([⟨4, 0, ((n * (W + 1) : Nat) : Int)⟩] ++ stEvs 0 (n * (W + 1))) ∧ ws.length = n * (W + 2) ∧
      (∀ r, ws.getD r 0 = lyw n kf (wdr nl R f) (n * (W + 1)) r) ∧ Iti w' (AF p g F) LB W (fun k => ((n * (k + 1) : Nat) : Int)) ∧ (∀ i, AF p g F i → w.heap.size ≤ i) ∧ Below w.heap.size w w' := by
  have HK := Lib.hid hK
  have HLL := Lib.hid hL
  have HRR := Lib.hid hR
  clear hK hL hR
  obtain ⟨i0, hi, hz0, hz1, hz2⟩ := info_parts Try.infoInt
  obtain ⟨Z, hZ⟩ : ∃ Z, n * (W + 1) = Z := ⟨_, rfl⟩
  obtain ⟨Y, hY⟩ : ∃ Y, n * (W + 2) = Y := ⟨_, rfl⟩
  have hYZ : Y ≤ Z + n ∧ Z + n ≤ Y := by
    have : n * (W + 2) = n * (W + 1) + n := Nat.mul_succ _ _
    omega
  have hYb : Y ≤ 100 * 12 := by rw [← hY]; exact Nat.mul_le_mul hn (by omega)
  have hnZ : n ≤ Z := by rw [← hZ]; exact Nat.le_mul_of_pos_right n (Nat.succ_pos W)
  have hZi : (n : Int) * ((W : Int) + 1) = (Z : Int) := by rw [← hZ]; simp
  have hYi : (n : Int) * ((W : Int) + 2) = (Y : Int) := by rw [← hY]; simp
  have HN := Lib.hid (show (if (4194304 : Int) < (if (Y : Int) < 0 then 0 else (Y : Int)) then 4194304 else (if (Y : Int) < 0 then 0 else (Y : Int))) = (Y : Int) by rw [if_neg (by omega), if_neg (by omega)])
  have HZ := Lib.hid hZ
  rw [hZ, hY]
  clear hY hZ
  go_enter Try.func38, Try.ntmps38
  go_wp2_with (go_at_call 24; with_reducible refine (ANew_any (Y : Int) Y HN.out _).mono ?_; rintro e w0 ⟨p, g, lp, F0, rfl, hA, hlow, hb⟩; have H0 := Lib.hid hA; have LOW := Lib.hid hlow; have B0 := Lib.hid hb; have z0 := hb.size; clear hA hlow hb)
  go_wp2_with (go_at_call 25; with_reducible refine (ATake_j H0.out (by decide) _ (by omega) (by rw [List.length_replicate]; omega)).mono ?_; rintro e w1 ⟨rfl, F1, hA1, hs1⟩; have H1 := Lib.hid hA1; have S1 := Lib.hid hs1; have z1 := hs1.size; clear hA1 hs1)
  have H1 : Hid (Ar w1 p g lp F1 (List.replicate Y 0) Z [⟨4, 0, (Z : Int)⟩]) := Lib.hid (by have h := H1.out; rwa [Nat.zero_add, Int.toNat_natCast] at h)
  have B1 : Hid (Below w.heap.size w w1) := Lib.hid (S1.out.below B0.out B0.out.size LOW.out)
  have L1 : Hid (∀ i, AF p g F1 i → w.heap.size ≤ i) := Lib.hid (S1.out.low B0.out.size LOW.out)
  have HK1 : Hid (0 < n → ∃ b o, A = some ⟨b, o, none⟩ ∧ b < w1.heap.size ∧ ¬ AF p g F1 b ∧ ∀ j, j < n → w1.cell? ⟨b, o + j, none⟩ = some (.int .u32 (kf j))) := Lib.hid (fun h0 => by
    obtain ⟨b, o, e, hb, hc⟩ := HK.out h0
    exact ⟨b, o, e, Nat.lt_of_lt_of_le hb B1.out.size, fun hf => by have := L1.out b hf; omega, fun j hj => (B1.out.cell (p := ⟨b, o + j, none⟩) hb).trans (hc j hj)⟩)
  with_reducible refine (APut_00 H1.out n c A kf (by omega) (by simp only [List.length_cons, List.length_nil]; omega) HK1.out).mono ?_
  rintro e w2 ⟨rfl, F2, hA2, hs2⟩
  have B2 : Hid (Below w.heap.size w w2) := Lib.hid (hs2.below B1.out B1.out.size L1.out)
  have L2 : Hid (∀ i, AF p g F2 i → w.heap.size ≤ i) := Lib.hid (hs2.low B1.out.size L1.out)
  have H2 := Lib.hid hA2
  obtain ⟨W2, hW2⟩ : ∃ W2, putw (List.replicate Y 0) 0 kf n = W2 := ⟨_, rfl⟩
  have HW2 := Lib.hid (show ∀ r, W2.getD r 0 = lyw n kf (wdr nl R f) n r from fun r => by
    rw [← hW2, putw_at _ _ _ (by rw [List.length_replicate]; omega), lyw_first]
    by_cases h : r < n
    · rw [if_pos h, if_pos h]
    · rw [if_neg h, if_neg h, List.getD_eq_getElem?_getD, List.getElem?_replicate]
      split <;> rfl)
  have hW2l : W2.length = Y := by rw [← hW2, putw_len, List.length_replicate]
  rw [hW2] at H2
  have z2 := hs2.size
  clear hA2 hs2 hW2 H1 H0 HK1 B0 LOW S1 HN
  go_wp2_with fail
  go_loopw [10, 30] (fun a10 i wr => ∃ (k : Nat) (F : Nat → Prop) (V : List Int) (v : Value), k ≤ W ∧ i = .int .i64 k ∧ a10 = v ∧ Ar wr p g lp F V Z ([⟨4, 0, (Z : Int)⟩] ++ stEvs 0 (n * (k + 1))) ∧ V.length = Y ∧ (∀ r, V.getD r 0 = lyw n kf (wdr nl R f) (n * (k + 1)) r) ∧
    wr.ownsRow w.heap.size 3 1 v k (i64s (fun k => ((n * (k + 1) : Nat) : Int)) k) ∧ (∀ b, v.ownBlock = some b → ¬ AF p g F b) ∧ (∀ i, AF p g F i → w.heap.size ≤ i) ∧ Below w.heap.size w wr) (fun _ i _ => W - (intOf i).toNat)
  case atStart =>
    refine ⟨0, F2, W2, _, Nat.zero_le _, rfl, rfl, ?_, hW2l, ?_, ?_, fun b hb => by simp [Value.ownBlock] at hb, L2.out, B2.out⟩
    · have h2 := H2.out
      simpa using h2
    · simpa using HW2.out
    · rw [i64s_nil]
      exact World.ownsRow_nil _ _ _ _
  case round =>
    obtain ⟨k, F, V, v, hk, rfl, rfl, hA, hVl, hV, hO, hvb, hlow, hB⟩ := hrel
    have HA := Lib.hid hA
    have HV := Lib.hid hV
    have HO := Lib.hid hO
    have HVB := Lib.hid hvb
    have HLOW := Lib.hid hlow
    have HB := Lib.hid hB
    have zr := hB.size
    clear hA hV hO hvb hlow hB
    by_cases hkW : k < W
    · obtain ⟨T, hT⟩ : ∃ T, n * (k + 1) = T := ⟨_, rfl⟩
      have hTi : (n : Int) * ((k : Int) + 1) = (T : Int) := by rw [← hT]; simp
      have hTZ : T + n ≤ Z := by
        rw [← hT, ← HZ.out, ← Nat.mul_succ]
        exact Nat.mul_le_mul_left n (by omega)
      rw [hT] at HA HV
      have HT := Lib.hid hT
      clear hT
      go_wp2_with (first
        | (at_builtin; refine wpList_append_lies _ (by rfl) _ _ 62 (by rfl) w.heap.size 3 i0 _ 1 8 Try.underlying62 hi hz0 hz1 hz2 (by rfl) (by decide) _ k (i64s (fun k => ((n * (k + 1) : Nat) : Int)) k) (by rfl) (HO.out.alloc _) ⟨wr.heap.size, 0, none⟩ 1 1 [.int .i64 T] (by rfl) (by rfl) (World.news_of_block (heap_alloc_new _ _)) (by simp [Value.oneCell']) (by decide) (by simp only [maxLen]; omega) (by omega) (by simp; omega) (wr.heap.size + 1) (by simp) ?_; intro gg cap w4 hown1 hg1 hat1 hlt1; have HO4 := Lib.hid hown1; have G4 := Lib.hid hg1; have AT4 := Lib.hid hat1; clear hg1 hown1 hat1))
      have zg := G4.out.size
      rw [World.size_alloc] at zg
      have hgg : ¬ AF p g F gg := by
        rcases AT4.out with h | h
        · exact HVB.out gg h
        · subst h
          exact fun hf => by have := HA.out.most _ hf; omega
      have HA4 := Lib.hid ((HA.out.alloc (.cells #[.int .i64 (T : Int)] 3)).grown G4.out (fun b hb => HVB.out b hb))
      have B4 : Hid (Below w.heap.size w w4) := Lib.hid (bl_grown G4 (own_base HO.out) (by simp; omega) (HB.out.alloc zr _))
      clear AT4 HA HO HVB G4
      go_loopw [41] (fun i wr => ∃ (j : Nat) (F' : Nat → Prop) (V' : List Int), j ≤ n ∧ i = .int .i64 j ∧ Ar wr p g lp F' V' Z ([⟨4, 0, (Z : Int)⟩] ++ stEvs 0 (T + j)) ∧ V'.length = Y ∧ (∀ r, V'.getD r 0 = lyw n kf (wdr nl R f) (T + j) r) ∧ Step (AF p g F) (AF p g F') w4 wr) (fun i _ => n - (intOf i).toNat)
      case atStart => exact ⟨0, F, V, Nat.zero_le _, rfl, HA4.out, hVl, HV.out, HA4.out.step0⟩
      case round =>
        rename World => wi
        obtain ⟨j, F', V', hj, rfl, hA, hVl', hV', hS⟩ := hrel
        have HA' := Lib.hid hA
        have HV' := Lib.hid hV'
        have HS := Lib.hid hS
        have zi := hS.size
        have BI : Hid (Below w.heap.size w wi) := Lib.hid (hS.below B4.out B4.out.size HLOW.out)
        clear hA hV' hS HA4
        by_cases hjn : j < n
        · have hsl := stEvs_len 0 (T + j)
          obtain ⟨x, hx⟩ : ∃ x, wdr nl R f j k = x := ⟨_, rfl⟩
          have HXX := Lib.hid hx
          clear hx
          go_wp2_with (go_at_call 41; with_reducible refine (word04_any (HLL.out.below BI) HRR.out j k (by omega) (by omega)).mono ?_; rintro e w5 ⟨rfl, hw5⟩; rw [HXX.out]; replace hw5 := hw5.symm; subst hw5)
          with_reducible refine (APut_e (HA'.out.alloc _) (by rw [List.length_append, hsl]; simp only [List.length_cons, List.length_nil]; omega) _ (T + j) (by omega) x wi.heap.size 1 (by omega) (by simp) (fun hf => absurd (HA'.out.most _ hf) (Nat.lt_irrefl _)) (new_cell _ _ _)).mono ?_
          rintro e w6 ⟨rfl, F6, hA6, hs6⟩
          have HA6 := Lib.hid hA6
          have S6 := Lib.hid ((HS.out.alloc (.cells #[.int .u32 x] 30)).trans hs6)
          clear hA6 hs6
          go_wp2_with fail
          refine ⟨⟨j + 1, F6, V'.set (T + j) x, by omega, by go_num, ?_, ?_, ?_, S6.out⟩, by simp [intOf]; omega⟩
          · have h := HA6.out
            rw [List.append_assoc] at h
            rw [← Nat.add_assoc, stEvs_succ, Nat.zero_add]
            exact h
          · rw [List.length_set]; exact hVl'
          · intro r
            rw [Ut.set_get _ _ _ _ (by omega), HV'.out r, ← Nat.add_assoc, ← HT.out, lyw_next n k j _ _ hjn, HXX.out]
        · obtain rfl : j = n := by omega
          have HO5 := Lib.hid (own_step HS.out HO4.out (fun b hb => by
            obtain rfl : gg = b := by simpa [Value.ownBlock] using hb
            exact hgg))
          have LI := Lib.hid (HS.out.low B4.out.size HLOW.out)
          have ngg : ¬ AF p g F' gg := fun hf => hgg ((HS.out.foot _ hlt1).1 hf)
          go_wp2_with fail
          refine ⟨⟨k + 1, F', V', _, by omega, by go_num, rfl, ?_, hVl', ?_, ?_, ?_, LI.out, BI.out⟩, by simp [intOf]; omega⟩
          · rw [Nat.mul_succ, HT.out]; exact HA'.out
          · rw [Nat.mul_succ, HT.out]; exact HV'.out
          · rw [i64s_succ, HT.out]; exact HO5.out
          · intro b hb
            obtain rfl : gg = b := by simpa [Value.ownBlock] using hb
            exact ngg
    · obtain rfl : k = W := by omega
      obtain ⟨A8, c8, rfl⟩ := own_slice HO.out
      go_wp2_with fail
      refine ret_two (x := .pointer (some ⟨p, 0, none⟩)) (y := .slice A8 k c8) rfl rfl rfl rfl ⟨p, g, lp, F, V, A8, c8, rfl, ?_, hVl, ?_, ?_, HLOW.out, HB.out⟩
      · rw [← HZ.out]
        have h := HA.out
        rwa [← HZ.out] at h
      · rw [← HZ.out]
        exact HV.out
      · intro h0
        obtain ⟨gg, rfl, h1, h2, h3, h4⟩ := own_i64 HO.out h0
        exact ⟨gg, 0, rfl, h2, HVB.out gg rfl, fun j hj => by rw [Nat.zero_add]; exact h4 j hj⟩
end Go.Proofs.Ytjoehhojhfgooaa
