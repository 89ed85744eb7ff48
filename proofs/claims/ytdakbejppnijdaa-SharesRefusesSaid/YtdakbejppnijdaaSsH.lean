/- SharesRefuses: the law's call. No condition. -/
import Derived.Test.YtdakbejppnijdaaSsG
import Derived.Test.YtdakbejppnijdaaArN
import Derived.Test.YtdakbejppnijdaaHeld
namespace Go.Proofs.Ytdakbejppnijdaa
open Go.RowKit
set_option linter.unusedSimpArgs false
set_option linter.unusedVariables false
attribute [local go_sem] IntKind.wrap_u32' signed_u32 max_u32
attribute [local go_sem ↓] Go.wp_at_zero Go.wp_at_succ
attribute [local go_sem] Calm.C
attribute [local go_sem low] Calm.al_cell Calm.al_frozen
theorem mk_more (n : Nat) (hn : n ≤ 255) : ∃ mk : World → World, ∀ w : World, (Instr.makeSlice 47 (.int .u8 n) (.int .u8 n)).run Try.prog w = .ok (.slice (some ⟨w.heap.size, 0, none⟩) n n) (mk w) ∧
    Below w.heap.size w (mk w) ∧ w.heap.size < (mk w).heap.size ∧ (∀ c, c < n → (mk w).cell? ⟨w.heap.size, c, none⟩ = some (.int .u8 0)) := by
  obtain ⟨i0, hi, hz0, hz1, hz2⟩ := info_parts Try.infoU8j
  have h : ∀ w : World, ∃ w', (Instr.makeSlice 47 (.int .u8 n) (.int .u8 n)).run Try.prog w = .ok (.slice (some ⟨w.heap.size, 0, none⟩) n n) w' ∧ Below w.heap.size w w' ∧ w.heap.size < w'.heap.size ∧ (∀ c, c < n → w'.cell? ⟨w.heap.size, c, none⟩ = some (.int .u8 0)) := fun w => by
    obtain ⟨w', hr, r1, r2⟩ := run_make_full (P := Try.prog) w w.heap.size 47 5 i0 _ 1 Try.underlying47 hi hz0 hz1 .u8 .u8 n (by rw [hz2]; omega) (by simp only [maxLen]; omega) (Nat.le_refl _)
    rw [Nat.mul_one, show Value.cells (.int .u8 0) = #[.int .u8 0] from rfl, toList_madeCells_one] at r1
    refine ⟨w', hr, (Below.refl w.heap.size w).grown r2 (Nat.le_refl _) (fun k hk => by cases hk), own_lt r1 _ rfl, fun c hc => ?_⟩
    have := r1.cellAt c (by omega)
    rw [this, List.getElem?_replicate, if_pos hc]
  exact ⟨fun w => (h w).choose, fun w => (h w).choose_spec⟩
theorem wp_gen {P : Program} {c : Code} {Q : Exit → Act → World → Prop} {a : Act} (w : World) (h : ∀ W, W = w → Code.wp P c Q a W) : Code.wp P c Q a w := h w rfl
set_option maxRecDepth 100000 in
set_option maxHeartbeats 8000000 in
theorem SharesRefuses_any (w : World) (a0 a1 n0 n1 n2 : Int) (hn0 : -9223372036854775808 ≤ n0 ∧ n0 ≤ 9223372036854775807) (hn1 : -9223372036854775808 ≤ n1 ∧ n1 ≤ 9223372036854775807) (hn2 : -9223372036854775808 ≤ n2 ∧ n2 ≤ 9223372036854775807) (x : Nat) (hx : x < 256) :
    Calls Try.prog 4 #[.agg #[.int .i64 a0, .int .i64 a1], .agg #[.int .i64 n0, .int .i64 n1, .int .i64 n2], .int .u8 x] w fun e w' => e = .returned (.bool true) ∧ Below w.heap.size w w' := by
  go_enter Try.func4, Try.ntmps4
  go_wp2_with (first
    | (first | (go_at_call 26; refine (awake42_any _).mono ?_; rintro e wq ⟨rfl, hb⟩; have hcf_wq := bcell hb; (try simp only [World.size_alloc, World.size_setCell, drew_size] at hcf_wq); have hz_wq := hb.size; (try simp only [World.size_alloc, World.size_setCell, World.size_drew] at hz_wq); have hbh_wq := Lib.hid hb; clear hb; obtain ⟨hc_wq, hf_wq⟩ := hcf_wq))
    | (go_at_call 27; refine (ANew_any 40 40 (by decide) _).mono ?_; rintro e wn1 ⟨p, g, lp, F0, rfl, hA0, hlow, hb⟩; have HAr := Lib.hid hA0; have HLOW := Lib.hid hlow; have B2 := Lib.hid hb; have z2 := hb.size; clear hb hA0 hlow)
    | (go_at_call 28; refine (ATake_t HAr.out (by simp) 40 (by simp)).mono ?_; rintro e wt ⟨rfl, F1, hA1, hs1⟩; have HAt := Lib.hid hA1; have ST1 := Lib.hid hs1; have z3 := hs1.size; clear hA1 hs1)
    | (go_at_call 15; refine (ALog_any HAt.out).mono ?_; rintro e w1 ⟨rfl, hw1⟩; replace hw1 := hw1.symm; subst hw1)
    | (go_at_call 16; refine (Len_any _ _ _ _ HAt.out.lg).mono ?_; rintro e w1 ⟨rfl, hw1⟩; subst hw1))
  have hG0 : Below w.heap.size w ((w.alloc (.cells #[.int .i64 a0, .int .i64 a1] 41)).alloc (.cells #[.int .i64 n0, .int .i64 n1, .int .i64 n2] 42)) := bl_alloc (by simp) (bl_alloc (Nat.le_refl _) (Below.refl _ _) _) _
  have g0 := (Blk.new w 41 #[.int .i64 a0, .int .i64 a1]).alloc (.cells #[.int .i64 n0, .int .i64 n1, .int .i64 n2] 42)
  have g1 := Blk.newAt (w := w.alloc (.cells #[.int .i64 a0, .int .i64 a1] 41)) (g := w.heap.size + 1) (t := 42) (cs := #[.int .i64 n0, .int .i64 n1, .int .i64 n2]) (by simp)
  have hzq : w.heap.size + 1 < wq.heap.size := by
    have := hz_wq
    omega
  have k0 := Lib.hid ((g0.belowH hbh_wq (by simp; omega)).below B2.out (by omega))
  have k1 := Lib.hid ((g1.belowH hbh_wq (by simp)).below B2.out (by omega))
  have hn0 : ¬ AF p g F0 w.heap.size := fun hf => by have := HLOW.out _ hf; omega
  have hn1 : ¬ AF p g F0 (w.heap.size + 1) := fun hf => by have := HLOW.out _ hf; omega
  have m0 := Lib.hid (ST1.out.blk k0.out hn0)
  have m1 := Lib.hid (ST1.out.blk k1.out hn1)
  have BT : Hid (Below w.heap.size w wt) := Lib.hid (ST1.out.below (bl_then B2 (bl_then hbh_wq hG0 (by simp; omega)) (by omega)) (by omega) (fun i hi => by have := HLOW.out i hi; omega))
  have LW := Lib.hid (ST1.out.low (B := w.heap.size + 2) (by omega) (fun i hi => by have := HLOW.out i hi; omega))
  clear hG0 g0 g1 k0 k1 hn0 hn1 hbh_wq B2 ST1 HLOW HAr hc_wq hf_wq
  have s0 : ∀ q : Ext (Below wt.heap.size wt), q.w.cell? ⟨w.heap.size + 1, 0, none⟩ = some (.int .i64 n0) := Ext.rd (m1.out.cell 0)
  have s1 : ∀ q : Ext (Below wt.heap.size wt), q.w.cell? ⟨w.heap.size + 1, 1, none⟩ = some (.int .i64 n1) := Ext.rd (m1.out.cell 1)
  have s2 : ∀ q : Ext (Below wt.heap.size wt), q.w.cell? ⟨w.heap.size + 1, 2, none⟩ = some (.int .i64 n2) := Ext.rd (m1.out.cell 2)
  haveI hnn : Nonempty (Ext (Below wt.heap.size wt)) := ⟨⟨wt.drew, below_start _⟩⟩
  refine wp_region_calm (S := Below wt.heap.size wt) (by kernel_rfl) (by kernel_rfl) (below_start _) ?_
  repeat (go_big_quiet_step (fail))
  refine wpQuiet_nil ?_
  rintro _ ⟨q1, rfl⟩
  have hb1 := Lib.hid q1.h
  generalize q1.w = W2 at *
  clear hnn s0 s1 s2
  have hz2 := hb1.out.size
  have m2 := Lib.hid (m0.out.belowH hb1 (by omega))
  have HA2 := Lib.hid (HAt.out.below hb1)
  have BT2 := Lib.hid (bl_then hb1 BT.out (by omega))
  obtain ⟨M, hM⟩ : ∃ M, x % 61 = M := ⟨_, rfl⟩
  have hMI : (x : Int).tmod 61 = (M : Int) := by rw [Int.tmod_eq_emod_of_nonneg (by omega)]; omega
  have hMb : M < 61 := by omega
  obtain ⟨S, hS⟩ : ∃ S, n0 * n1 = S := ⟨_, rfl⟩
  obtain ⟨Q, hQ⟩ : ∃ Q, n0 * (n2 - 1) = Q := ⟨_, rfl⟩
  obtain ⟨mk, HMK0⟩ := mk_more M (by omega)
  have hmk : ∀ w, (Instr.makeSlice 47 (.int .u8 M) (.int .u8 M)).run Try.prog w = .ok (.slice (some ⟨w.heap.size, 0, none⟩) M M) (mk w) := fun w => (HMK0 w).1
  have HMK := Lib.hid HMK0
  clear HMK0 HAt BT m1
  have c0 := m2.out.cell 0
  have c1 := m2.out.cell 1
  simp only [List.getElem?_toArray, List.getElem?_cons_zero, List.getElem?_cons_succ] at c0 c1
  have HSA : Hid (∀ w', Below W2.heap.size W2 w' → w'.cell? ⟨w.heap.size, 0, none⟩ = some (.int .i64 a0) ∧ w'.cell? ⟨w.heap.size, 1, none⟩ = some (.int .i64 a1) ∧ Below W2.heap.size W2 w') := Lib.hid (fun w' h => ⟨(h.cell (p := ⟨w.heap.size, 0, none⟩) (show w.heap.size < W2.heap.size by omega)).trans c0, (h.cell (p := ⟨w.heap.size, 1, none⟩) (show w.heap.size < W2.heap.size by omega)).trans c1, h⟩)
  have hcase : (¬ (1 ≤ n0 ∧ n0 ≤ 40 ∧ 1 ≤ n1 ∧ n1 ≤ 40 ∧ 1 ≤ n2 ∧ n2 ≤ n1)) ∨ ((1 ≤ n0 ∧ n0 ≤ 40 ∧ 1 ≤ n1 ∧ n1 ≤ 40 ∧ 1 ≤ n2 ∧ n2 ≤ n1) ∧ (1 ≤ S ∧ S ≤ 1600 ∧ n0 ≤ S ∧ 0 ≤ Q ∧ Q ≤ 1600)) := by
    by_cases h : 1 ≤ n0 ∧ n0 ≤ 40 ∧ 1 ≤ n1 ∧ n1 ≤ 40 ∧ 1 ≤ n2 ∧ n2 ≤ n1
    · obtain ⟨h1, h2, h3, h4, h5, h6⟩ := h
      have e1 := Int.mul_le_mul_of_nonneg_left h3 (show (0 : Int) ≤ n0 by omega)
      have e2 := Int.mul_le_mul h2 h4 (by omega) (by decide)
      have e3 := Int.mul_nonneg (show (0 : Int) ≤ n0 by omega) (show (0 : Int) ≤ n2 - 1 by omega)
      have e4 := Int.mul_le_mul h2 (show n2 - 1 ≤ 40 by omega) (by omega) (by decide)
      refine .inr ⟨⟨h1, h2, h3, h4, h5, h6⟩, ?_⟩
      rw [hS] at e1 e2
      rw [hQ] at e3 e4
      omega
    · exact .inl h
  rcases hcase with hno | hyes
  · have HNO := Lib.hid (show ¬ Ss.Ok 40 M a0 n0 n1 n2 a1 from fun h => hno ((Ss.ok_iff _ _ _ _ _ _).2 h).1)
    have h6 : n0 < 1 ∨ (1 ≤ n0 ∧ 40 < n0) ∨ (1 ≤ n0 ∧ n0 ≤ 40 ∧ n1 < 1) ∨ (1 ≤ n0 ∧ n0 ≤ 40 ∧ 1 ≤ n1 ∧ 40 < n1) ∨ (1 ≤ n0 ∧ n0 ≤ 40 ∧ 1 ≤ n1 ∧ n1 ≤ 40 ∧ n2 < 1) ∨ (1 ≤ n0 ∧ n0 ≤ 40 ∧ 1 ≤ n1 ∧ n1 ≤ 40 ∧ 1 ≤ n2 ∧ n1 < n2) := by omega
    clear hno hS hQ
    rcases h6 with h6 | h6 | h6 | h6 | h6 | h6
    all_goals
      first | have := decide_eq_true (show 1 ≤ n0 by omega) | have := decide_eq_false (show ¬ (1 ≤ n0) by omega) | skip
      first | have := decide_eq_true (show n0 ≤ 40 by omega) | have := decide_eq_false (show ¬ (n0 ≤ 40) by omega) | skip
      first | have := decide_eq_true (show 1 ≤ n1 by omega) | have := decide_eq_false (show ¬ (1 ≤ n1) by omega) | skip
      first | have := decide_eq_true (show n1 ≤ 40 by omega) | have := decide_eq_false (show ¬ (n1 ≤ 40) by omega) | skip
      first | have := decide_eq_true (show 1 ≤ n2 by omega) | have := decide_eq_false (show ¬ (1 ≤ n2) by omega) | skip
      first | have := decide_eq_true (show n2 ≤ n1 by omega) | have := decide_eq_false (show ¬ (n2 ≤ n1) by omega) | skip
      go_wp2_with fail
      go_region_held3 (fun w' => w'.cell? ⟨w.heap.size, 0, none⟩ = some (.int .i64 a0) ∧ w'.cell? ⟨w.heap.size, 1, none⟩ = some (.int .i64 a1) ∧ Below W2.heap.size W2 w') ((refine HSA.out _ ?_; first | exact below_start _ | assumption | (refine below_thru ?_ (HMK.out _).2.1; first | exact below_start _ | assumption))) (first
        | (go_at_call 29; refine (sSplit_no (HA2.out.below (Lib.hid (below_thru (below_start _) (HMK.out _).2.1))) _ _ _ (by omega) _ _ _ _ _ HNO.out).mono ?_; rintro e w1 ⟨rfl, hw1⟩; replace hw1 := hw1.symm; subst hw1))
      have HB3 : Hid (Below W2.heap.size W2 (mk W2.drew)) := Lib.hid (below_thru (below_start _) (HMK.out _).2.1)
      generalize mk W2.drew = W3 at *
      have HA3 := Lib.hid (HA2.out.below HB3)
      have BT3 := Lib.hid (bl_then HB3 BT2.out (by omega))
      clear HMK hmk HA2 HB3 BT2 HSA m2 c0 c1 HNO
      go_wp2_with (first
        | (go_at_call 15; with_reducible refine (ALog_any HA3.out).mono ?_; rintro e w1 ⟨rfl, hw1⟩; replace hw1 := hw1.symm; subst hw1)
        | (go_at_call 16; with_reducible refine (Len_any _ _ _ _ HA3.out.lg).mono ?_; rintro e w1 ⟨rfl, hw1⟩; replace hw1 := hw1.symm; subst hw1)
        | (go_at_call 30; with_reducible refine (sNeed_a _).mono ?_; rintro e w1 ⟨rfl, hw1⟩; replace hw1 := hw1.symm; subst hw1)
        | (go_at_call 30; with_reducible refine (sNeed_b _).mono ?_; rintro e w1 ⟨rfl, hw1⟩; replace hw1 := hw1.symm; subst hw1))
      go_ret
      exact ⟨rfl, BT3.out⟩
  · obtain ⟨⟨g1, g2, g3, g4, g5, g6⟩, g7, g8, g9, g10, g11⟩ := hyes
    by_cases hok : S ≤ 40 ∧ Q ≤ (M : Int) ∧ (0 ≤ a0 ∧ a0 ≤ 40 - n0) ∧ (0 ≤ a1 ∧ a1 ≤ 40 - S) ∧ (a0 - a1 ≥ S ∨ a1 - a0 ≥ n0)
    · have HOK := Lib.hid ((Ss.ok_iff M a0 a1 n0 n1 n2).1 ⟨⟨g1, g2, g3, g4, g5, g6⟩, by omega, by omega, hok.2.2.1, by rw [hS]; exact hok.2.2.2.1, by rw [hS]; exact hok.2.2.2.2⟩)
      obtain ⟨k1, k2, ⟨k3, k4⟩, ⟨k5, k6⟩, k7⟩ := hok
      have HB3 : Hid (Below W2.heap.size W2 (mk W2.drew)) := Lib.hid (below_thru (below_start _) (HMK.out _).2.1)
      have HCL : Hid (Sj.Cl .u8 (mk W2.drew) (some ⟨W2.drew.heap.size, 0, none⟩) M (fun _ => 0)) := Lib.hid fun _ => ⟨W2.drew.heap.size, 0, rfl, (HMK.out _).2.2.1, fun i hi => by rw [Nat.zero_add]; exact (HMK.out _).2.2.2 i hi⟩
      have HA3 := Lib.hid (HA2.out.below HB3)
      have hnaf : ∀ x : Addr, some (⟨W2.drew.heap.size, 0, none⟩ : Addr) = some x → ¬ AF p g F1 x.block := fun x hx hf => by
        obtain rfl := Option.some.inj hx
        exact Nat.lt_irrefl _ (HA2.out.most _ hf)
      have m3 := Lib.hid (m2.out.belowH HB3 (by omega))
      have HSP : Hid (Calls Try.prog 29 #[.pointer (some ⟨p, 0, none⟩), .int .i64 a0, .int .i64 n0, .int .i64 n1, .int .i64 n2, .slice (some ⟨W2.drew.heap.size, 0, none⟩) M M, .int .i64 a1] (mk W2.drew) fun e w' => e = .returned (.bool true) ∧ (w'.cell? ⟨w.heap.size, 0, none⟩ = some (.int .i64 a0) ∧ w'.cell? ⟨w.heap.size, 1, none⟩ = some (.int .i64 a1)) ∧ Below w.heap.size w w') := by
        clear HSA c0 c1 hmk HOK
        have m4 : Hid (∀ F' w', Step (AF p g F1) (AF p g F') (mk W2.drew) w' → w'.cell? ⟨w.heap.size, 0, none⟩ = some (.int .i64 a0) ∧ w'.cell? ⟨w.heap.size, 1, none⟩ = some (.int .i64 a1)) := Lib.hid (fun F' w' hs => by
          have hb := hs.blk m3.out (fun hf => by have := LW.out _ hf; omega)
          exact ⟨hb.cell 0, hb.cell 1⟩)
        clear m0 m2 m3
        obtain ⟨N0, rfl⟩ : ∃ k : Nat, n0 = k := ⟨n0.toNat, by omega⟩
        obtain ⟨N1, rfl⟩ : ∃ k : Nat, n1 = k := ⟨n1.toNat, by omega⟩
        obtain ⟨L, rfl⟩ : ∃ k : Nat, n2 = (k : Int) + 1 := ⟨(n2 - 1).toNat, by omega⟩
        obtain ⟨A0, rfl⟩ : ∃ k : Nat, a0 = k := ⟨a0.toNat, by omega⟩
        obtain ⟨A1, rfl⟩ : ∃ k : Nat, a1 = k := ⟨a1.toNat, by omega⟩
        have q1 : ((N0 * L : Nat) : Int) = Q := by rw [← hQ, show (L : Int) + 1 - 1 = (L : Int) by omega]; simp
        have q2 : ((N1 * N0 : Nat) : Int) = S := by rw [← hS, Int.mul_comm]; simp
        refine Lib.hid ((sSplit_t HA3.out (by simp) HCL.out (fun _ => by decide) (by omega) M hnaf A0 N0 N1 L A1 (by omega) (by omega) (by omega) (by omega) (by omega) (Nat.le_refl _) (by omega) (by omega) (by omega)).mono ?_)
        rintro e w' ⟨rfl, FL', E, hA', hE, hst⟩
        exact ⟨rfl, m4.out _ _ hst, hst.below (bl_then HB3 BT2.out (by omega)) (by have := HB3.out.size; omega) (fun i hi => by have := LW.out _ hi; omega)⟩
      clear HCL HA3 HB3 hnaf m3 HA2 m2 LW BT2 HOK
      rcases (by omega : S ≤ a0 - a1 ∨ (a0 - a1 < S ∧ n0 ≤ a1 - a0)) with h6 | h6
      all_goals
        clear k7
        first | have := decide_eq_true (show 1 ≤ n0 by omega) | have := decide_eq_false (show ¬ (1 ≤ n0) by omega) | skip
        first | have := decide_eq_true (show n0 ≤ 40 by omega) | have := decide_eq_false (show ¬ (n0 ≤ 40) by omega) | skip
        first | have := decide_eq_true (show 1 ≤ n1 by omega) | have := decide_eq_false (show ¬ (1 ≤ n1) by omega) | skip
        first | have := decide_eq_true (show n1 ≤ 40 by omega) | have := decide_eq_false (show ¬ (n1 ≤ 40) by omega) | skip
        first | have := decide_eq_true (show 1 ≤ n2 by omega) | have := decide_eq_false (show ¬ (1 ≤ n2) by omega) | skip
        first | have := decide_eq_true (show n2 ≤ n1 by omega) | have := decide_eq_false (show ¬ (n2 ≤ n1) by omega) | skip
        first | have := decide_eq_true (show S ≤ 40 by omega) | have := decide_eq_false (show ¬ (S ≤ 40) by omega) | skip
        first | have := decide_eq_true (show Q ≤ (M : Int) by omega) | have := decide_eq_false (show ¬ (Q ≤ (M : Int)) by omega) | skip
        first | have := decide_eq_true (show 0 ≤ a0 by omega) | have := decide_eq_false (show ¬ (0 ≤ a0) by omega) | skip
        first | have := decide_eq_true (show a0 ≤ 40 - n0 by omega) | have := decide_eq_false (show ¬ (a0 ≤ 40 - n0) by omega) | skip
        first | have := decide_eq_true (show 0 ≤ a1 by omega) | have := decide_eq_false (show ¬ (0 ≤ a1) by omega) | skip
        first | have := decide_eq_true (show a1 ≤ 40 - S by omega) | have := decide_eq_false (show ¬ (a1 ≤ 40 - S) by omega) | skip
        first | have := decide_eq_true (show S ≤ a0 - a1 by omega) | have := decide_eq_false (show ¬ (S ≤ a0 - a1) by omega) | skip
        first | have := decide_eq_true (show n0 ≤ a1 - a0 by omega) | have := decide_eq_false (show ¬ (n0 ≤ a1 - a0) by omega) | skip
        go_wp2_with fail
        go_region_held3 (fun w' => w'.cell? ⟨w.heap.size, 0, none⟩ = some (.int .i64 a0) ∧ w'.cell? ⟨w.heap.size, 1, none⟩ = some (.int .i64 a1)) ((first | exact HCC.out | (refine (fun h => ⟨h.1, h.2.1⟩) (HSA.out _ ?_); first | exact below_start _ | assumption | (refine below_thru ?_ (HMK.out _).2.1; first | exact below_start _ | assumption)))) (first
          | (go_at_call 29; refine HSP.out.mono ?_; rintro e w1 ⟨rfl, hcc, hb⟩; have HCC := Lib.hid hcc; have BT3 := Lib.hid hb; clear hb hcc))
        clear HMK hmk HSA HSP c0 c1
        go_wp2_with (first
          | (go_at_call 30; with_reducible refine (sNeed_a _).mono ?_; rintro e w1 ⟨rfl, hw1⟩; replace hw1 := hw1.symm; subst hw1)
          | (go_at_call 30; with_reducible refine (sNeed_b _).mono ?_; rintro e w1 ⟨rfl, hw1⟩; replace hw1 := hw1.symm; subst hw1))
        go_ret
        exact ⟨rfl, BT3.out⟩
    · have HNO := Lib.hid (show ¬ Ss.Ok 40 M a0 n0 n1 n2 a1 from fun h => hok (by
        have h2 := (Ss.ok_iff _ _ _ _ _ _).2 h
        unfold Ss.OkL at h2
        rw [hS, hQ] at h2
        exact h2.2))
      have h6 : 40 < S ∨ (S ≤ 40 ∧ (M : Int) < Q) ∨ (S ≤ 40 ∧ Q ≤ (M : Int) ∧ a0 < 0) ∨ (S ≤ 40 ∧ Q ≤ (M : Int) ∧ 0 ≤ a0 ∧ 40 - n0 < a0) ∨ (S ≤ 40 ∧ Q ≤ (M : Int) ∧ 0 ≤ a0 ∧ a0 ≤ 40 - n0 ∧ a1 < 0) ∨ (S ≤ 40 ∧ Q ≤ (M : Int) ∧ 0 ≤ a0 ∧ a0 ≤ 40 - n0 ∧ 0 ≤ a1 ∧ 40 - S < a1) ∨ (S ≤ 40 ∧ Q ≤ (M : Int) ∧ 0 ≤ a0 ∧ a0 ≤ 40 - n0 ∧ 0 ≤ a1 ∧ a1 ≤ 40 - S ∧ a0 - a1 < S ∧ a1 - a0 < n0) := by omega
      clear hok
      rcases h6 with h6 | h6 | h6 | h6 | h6 | h6 | h6
      all_goals
        first | have := decide_eq_true (show 1 ≤ n0 by omega) | have := decide_eq_false (show ¬ (1 ≤ n0) by omega) | skip
        first | have := decide_eq_true (show n0 ≤ 40 by omega) | have := decide_eq_false (show ¬ (n0 ≤ 40) by omega) | skip
        first | have := decide_eq_true (show 1 ≤ n1 by omega) | have := decide_eq_false (show ¬ (1 ≤ n1) by omega) | skip
        first | have := decide_eq_true (show n1 ≤ 40 by omega) | have := decide_eq_false (show ¬ (n1 ≤ 40) by omega) | skip
        first | have := decide_eq_true (show 1 ≤ n2 by omega) | have := decide_eq_false (show ¬ (1 ≤ n2) by omega) | skip
        first | have := decide_eq_true (show n2 ≤ n1 by omega) | have := decide_eq_false (show ¬ (n2 ≤ n1) by omega) | skip
        first | have := decide_eq_true (show S ≤ 40 by omega) | have := decide_eq_false (show ¬ (S ≤ 40) by omega) | skip
        first | have := decide_eq_true (show Q ≤ (M : Int) by omega) | have := decide_eq_false (show ¬ (Q ≤ (M : Int)) by omega) | skip
        first | have := decide_eq_true (show 0 ≤ a0 by omega) | have := decide_eq_false (show ¬ (0 ≤ a0) by omega) | skip
        first | have := decide_eq_true (show a0 ≤ 40 - n0 by omega) | have := decide_eq_false (show ¬ (a0 ≤ 40 - n0) by omega) | skip
        first | have := decide_eq_true (show 0 ≤ a1 by omega) | have := decide_eq_false (show ¬ (0 ≤ a1) by omega) | skip
        first | have := decide_eq_true (show a1 ≤ 40 - S by omega) | have := decide_eq_false (show ¬ (a1 ≤ 40 - S) by omega) | skip
        first | have := decide_eq_true (show S ≤ a0 - a1 by omega) | have := decide_eq_false (show ¬ (S ≤ a0 - a1) by omega) | skip
        first | have := decide_eq_true (show n0 ≤ a1 - a0 by omega) | have := decide_eq_false (show ¬ (n0 ≤ a1 - a0) by omega) | skip
        go_wp2_with fail
        go_region_held3 (fun w' => w'.cell? ⟨w.heap.size, 0, none⟩ = some (.int .i64 a0) ∧ w'.cell? ⟨w.heap.size, 1, none⟩ = some (.int .i64 a1) ∧ Below W2.heap.size W2 w') ((refine HSA.out _ ?_; first | exact below_start _ | assumption | (refine below_thru ?_ (HMK.out _).2.1; first | exact below_start _ | assumption))) (first
          | (go_at_call 29; refine (sSplit_no (HA2.out.below (Lib.hid (below_thru (below_start _) (HMK.out _).2.1))) _ _ _ (by omega) _ _ _ _ _ HNO.out).mono ?_; rintro e w1 ⟨rfl, hw1⟩; replace hw1 := hw1.symm; subst hw1))
        have HB3 : Hid (Below W2.heap.size W2 (mk W2.drew)) := Lib.hid (below_thru (below_start _) (HMK.out _).2.1)
        generalize mk W2.drew = W3 at *
        have HA3 := Lib.hid (HA2.out.below HB3)
        have BT3 := Lib.hid (bl_then HB3 BT2.out (by omega))
        clear HMK hmk HA2 HB3 BT2 HSA m2 c0 c1 HNO
        go_wp2_with (first
          | (go_at_call 15; with_reducible refine (ALog_any HA3.out).mono ?_; rintro e w1 ⟨rfl, hw1⟩; replace hw1 := hw1.symm; subst hw1)
          | (go_at_call 16; with_reducible refine (Len_any _ _ _ _ HA3.out.lg).mono ?_; rintro e w1 ⟨rfl, hw1⟩; replace hw1 := hw1.symm; subst hw1)
          | (go_at_call 30; with_reducible refine (sNeed_a _).mono ?_; rintro e w1 ⟨rfl, hw1⟩; replace hw1 := hw1.symm; subst hw1)
          | (go_at_call 30; with_reducible refine (sNeed_b _).mono ?_; rintro e w1 ⟨rfl, hw1⟩; replace hw1 := hw1.symm; subst hw1))
        go_ret
        exact ⟨rfl, BT3.out⟩
end Go.Proofs.Ytdakbejppnijdaa
