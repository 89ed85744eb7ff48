/- The document's Through, Rises, Bits. No condition. -/
import Derived.Test.YtflapbnbeipddaaSnA
import Derived.Test.YtflapbnbeipddaaCalm
namespace Go.Proofs.Ytflapbnbeipddaa
open Go.RowKit
set_option linter.unusedSimpArgs false
set_option linter.unusedVariables false
attribute [local go_sem] IntKind.wrap_u32' signed_u32 max_u32
attribute [local go_sem ↓] Go.wp_at_zero Go.wp_at_succ
attribute [local go_sem] Calm.C
attribute [local go_sem low] Calm.al_cell Calm.al_frozen
theorem own_none (w : World) (t : TypeId) : (w.alloc (.cells #[] t)).ownsRow w.heap.size t 1 (.slice (some ⟨w.heap.size, 0, none⟩) 0 0) 0 [] := ⟨rfl, .inr ⟨_, 0, #[], rfl, Nat.le_refl _, heap_alloc_new _ _, Nat.le_refl _, by decide, rfl, rfl⟩⟩
namespace Sn
def rises (f : Nat → Nat) : Nat → Bool
  | 0 => true
  | k + 1 => rises f k && (k == 0 || decide (f (k - 1) ≤ f k))
end Sn
set_option maxRecDepth 20000 in
set_option maxHeartbeats 2000000 in
theorem rises03_any {w : World} {A : Option Addr} {n : Nat} {f : Nat → Nat} (hA : Sn.Wd w A n f) (hup : ∀ i, i + 1 < n → f i ≤ f (i + 1)) (hn : n ≤ 9223372036854775807) (c : Nat) :
    Calls Try.prog 17 #[.slice A n c] w fun e w' => e = .returned (.bool true) ∧ Below w.heap.size w w' := by
  have HA := Lib.hid hA
  have HU := Lib.hid hup
  clear hA hup
  go_enter Try.func17, Try.ntmps17
  go_wp2
  go_loopw [3] (fun i wr => ∃ (j : Nat), (j + 1 ≤ n ∨ j = 0) ∧ i = .int .i64 ((j : Int) + 1) ∧ Below w.heap.size w wr) (fun i _ => n - (intOf i).toNat)
  case atStart => exact ⟨0, .inr rfl, rfl, Below.refl _ _⟩
  case round =>
    obtain ⟨j, hk, rfl, hB⟩ := hrel
    have HB := Lib.hid hB
    have hsz := hB.size
    by_cases hlt : j + 1 < n
    · obtain ⟨b, o, rfl, hb, hc⟩ := HA.out (by omega)
      have hx : wr.cell? ⟨b, o + j, none⟩ = some (.int .u32 (f j)) := (hB.cell (p := ⟨b, o + j, none⟩) hb).trans (hc j (by omega))
      have hy : wr.cell? ⟨b, o + (j + 1), none⟩ = some (.int .u32 (f (j + 1))) := (hB.cell (p := ⟨b, o + (j + 1), none⟩) hb).trans (hc (j + 1) hlt)
      have hle := HU.out j hlt
      have hjn : j < n := by omega
      have hs0 : ∀ m : Ext (Below wr.heap.size wr), m.w.cell? ⟨b, o + j, none⟩ = some (.int .u32 (f j)) := Ext.rd hx
      have hs1 : ∀ m : Ext (Below wr.heap.size wr), m.w.cell? ⟨b, o + (j + 1), none⟩ = some (.int .u32 (f (j + 1))) := Ext.rd hy
      have w1 : IntKind.i64.wrap ((j : Int) + 1 - 1) = j := by rw [IntKind.wrap_i64]; omega
      have w2 : ((j : Int) + 1).toNat = j + 1 := by omega
      generalize f j = x at *
      generalize f (j + 1) = y at *
      clear hB hc hx hy
      go_wp2
      haveI hne : Nonempty (Ext (Below wr.heap.size wr)) := ⟨⟨wr.drew, below_start _⟩⟩
      refine wp_region_calm (S := Below wr.heap.size wr) (by kernel_rfl) (by kernel_rfl) (below_start _) ?_
      repeat (go_big_quiet_step (fail))
      refine wpQuiet_nil ?_
      rintro _ ⟨m1, rfl⟩
      have hb1 := Lib.hid m1.h
      generalize m1.w = W at *
      clear hs0 hs1 hne
      have hzW := hb1.out.size
      go_wp2
      go_roundw
      case rel => exact ⟨j + 1, .inl (by omega), by go_num, by (repeat' (first | with_reducible exact Below.refl _ _ | with_reducible refine bl_drewN ?_ _ | with_reducible refine bl_drew ?_ | refine bl_set (by (first | omega | (simp; done) | (simp; omega))) ?_ _ | refine bl_alloc (by (first | omega | (simp; done) | (simp; omega))) ?_ _ | refine bl_then (by assumption) ?_ (by (first | omega | (simp; done) | (simp; omega))) | refine Step.bl (by assumption) (by assumption) (by (first | omega | (simp; done) | (simp; omega))) (by (first | omega | (simp; done) | (simp; omega))) ?_))⟩
      case measure => simp [intOf]; omega
    · have hge : (n : Int) ≤ j + 1 := by omega
      clear hB
      go_wp2
      go_ret
      exact ⟨rfl, HB.out⟩
theorem bitLen_64 (x : Nat) : Lib.bitLen x ≤ 64 := by
  have : ∀ f x, Lib.bitLenAux f x ≤ f := by
    intro f
    induction f with
    | zero => intro x; exact Nat.le_refl _
    | succ f ih =>
      intro x
      unfold Lib.bitLenAux
      split
      · omega
      · have := ih (x / 2)
        omega
  exact this 64 x
set_option maxRecDepth 20000 in
set_option maxHeartbeats 2000000 in
theorem bits03_any (N : Nat) (hN : N ≤ 4611686018427387904) (w : World) :
    Calls Try.prog 28 #[.int .i64 N] w fun e w' => e = .returned (.int .i64 (Lib.bitLen N)) ∧ Below w.heap.size w w' := by
  have hbl := bitLen_64 N
  go_enter Try.func28, Try.ntmps28
  go_wp2
  go_loopw [0, 3] (fun i b wr => ∃ (k m : Nat), m ≤ N ∧ i = .int .i64 m ∧ b = .int .i64 k ∧ k + Lib.bitLen m = Lib.bitLen N ∧ Below w.heap.size w wr) (fun i _ _ => (intOf i).toNat)
  case atStart => exact ⟨0, N, Nat.le_refl _, rfl, rfl, by omega, Below.refl _ _⟩
  case round =>
    obtain ⟨k, m, hm, rfl, rfl, hkm, hB⟩ := hrel
    have HB := Lib.hid hB
    have hsz := hB.size
    clear hB
    by_cases hlt : 0 < m
    · have hh := Lib.bitLen_half m (by omega) (by omega)
      have hdt : Int.tdiv (m : Int) 2 = ((m / 2 : Nat) : Int) := (Int.ofNat_tdiv m 2).symm
      generalize hq : m / 2 = q at *
      go_wp2
      go_roundw
      case rel => exact ⟨k + 1, q, by omega, by go_num, by go_num, by omega, by (repeat' (first | with_reducible exact Below.refl _ _ | with_reducible refine bl_drewN ?_ _ | with_reducible refine bl_drew ?_ | refine bl_set (by (first | omega | (simp; done) | (simp; omega))) ?_ _ | refine bl_alloc (by (first | omega | (simp; done) | (simp; omega))) ?_ _ | refine bl_then (by assumption) ?_ (by (first | omega | (simp; done) | (simp; omega))) | refine Step.bl (by assumption) (by assumption) (by (first | omega | (simp; done) | (simp; omega))) (by (first | omega | (simp; done) | (simp; omega))) ?_))⟩
      case measure => simp [intOf]; omega
    · have h0 : m = 0 := by omega
      have hz : Lib.bitLen 0 = 0 := rfl
      have hk : k = Lib.bitLen N := by rw [h0, hz] at hkm; omega
      have HK := Lib.hid hk
      clear hk
      go_wp2
      go_ret
      exact ⟨congrArg (fun x : Nat => Ending.returned (.int .i64 x)) HK.out, HB.out⟩
set_option maxRecDepth 20000 in
set_option maxHeartbeats 2000000 in
theorem through03_any {w : World} {A P : Option Addr} {n m : Nat} {f : Nat → Nat} {X Y : Nat → Int} (hA : Sn.Wd w A n f) (hP : Sn.Prw w P m X Y) (hn : n ≤ 1000000) (hm : m ≤ 9223372036854775806) (c d : Nat) :
    Calls Try.prog 16 #[.slice P m d, .slice A n c] w fun e w' => ∃ v, e = .returned v ∧ Sn.Mine w' w.heap.size v n (Sn.thr_ n f X Y m) ∧ Below w.heap.size w w' := by
  have HA := Lib.hid hA
  have HP := Lib.hid hP
  obtain ⟨i0, hi, hz0, hz1, hz2⟩ := info_parts Try.infoU32
  clear hA hP
  go_enter Try.func16, Try.ntmps16
  go_wp2_with (at_builtin; refine wpList_append_any _ (by rfl) _ _ 22 (by rfl) w.heap.size 29 i0 _ 1 4 Try.underlying22 hi hz0 hz1 hz2 (by rfl) (by decide) (.slice (some ⟨w.heap.size, 0, none⟩) 0 0) 0 [] (by rfl) (own_none w _) (w.heap.size + 1) A n c (Sn.wds f n) (by rfl) ((HA.out.below ((Below.refl _ w).alloc (Nat.le_refl _) _)).reads (by rw [World.size_alloc]; exact Nat.le_refl _)) (Sn.wds_one f n) (by simp only [maxLen]; omega) (by omega) (by simp) ?_; intro v1 w1 hown1 hg1 hat1; rw [Nat.zero_add, List.nil_append] at hown1; have G1 := Lib.hid hg1; have D1 := Lib.hid (Sn.Mine.of_own hown1); have B1 := Lib.hid (bl_grown G1 (fun k hk => by simp [Value.ownBlock] at hk; omega) (by simp) ((Below.refl w.heap.size w).alloc (Nat.le_refl _) (.cells #[] 29))); clear hg1 hown1 hat1)
  obtain ⟨A1, c1, rfl, -⟩ := D1.out
  have hs1 := B1.out.size
  go_loopw [6] (fun i wr => ∃ (k : Nat), k ≤ m ∧ i = .int .i64 k ∧ Sn.Mine wr w.heap.size (.slice A1 n c1) n (Sn.thr_ n f X Y k) ∧ Below w.heap.size w wr) (fun i _ => m - (intOf i).toNat)
  case atStart => exact ⟨0, Nat.zero_le _, rfl, D1.out, B1.out⟩
  case round =>
    obtain ⟨k, hk, rfl, hM, hB⟩ := hrel
    have HB := Lib.hid hB
    have hsz := hB.size
    have HM := Lib.hid hM
    clear D1 B1 hM
    by_cases hlt : k < m
    · obtain ⟨b, o, rfl, hb, hc⟩ := HP.out (by omega)
      have hx : wr.cell? ⟨b, o + k * 2, none⟩ = some (.int .i64 (X k)) := (hB.cell (p := ⟨b, o + k * 2, none⟩) hb).trans (hc k hlt).1
      have hy : wr.cell? ⟨b, o + k * 2 + 1, none⟩ = some (.int .i64 (Y k)) := (hB.cell (p := ⟨b, o + k * 2 + 1, none⟩) hb).trans (hc k hlt).2
      have hsu := Sn.thr_succ n f X Y k
      generalize X k = x at hx hsu
      generalize Y k = y at hy hsu
      clear hB hc
      by_cases hok : 0 ≤ x ∧ x < y ∧ y < (n : Int)
      · obtain ⟨h0, h1, h2⟩ := hok
        obtain ⟨a, rfl⟩ := Int.eq_ofNat_of_zero_le h0
        obtain ⟨p, rfl⟩ := Int.eq_ofNat_of_zero_le (Int.le_of_lt (Int.lt_of_le_of_lt h0 h1))
        have h1' : a < p := by omega
        have h2' : p < n := by omega
        have h3' : a < n := by omega
        rw [Sn.exg_yes n _ a p h1' h2'] at hsu
        obtain ⟨A2, c2, e2, hM2⟩ := HM.out
        cases e2
        obtain ⟨g, rfl, hBg, hlg, hcg⟩ := hM2 (by omega)
        obtain ⟨ha, hfa⟩ := hcg a (by omega)
        obtain ⟨hp, hfp⟩ := hcg p h2'
        have HC := Lib.hid hcg
        have HSU := Lib.hid hsu
        clear hcg hM2 HM hsu h0 h1 h2
        obtain ⟨U, hU⟩ : ∃ U, Sn.thr_ n f X Y k = U := ⟨_, rfl⟩
        rw [hU] at HC HSU ha hp
        clear hU
        have HAX : Hid (U a = U a) := Lib.hid rfl
        obtain ⟨x, hx0⟩ : ∃ x, U a = x := ⟨_, rfl⟩
        obtain ⟨y, hy0⟩ : ∃ y, U p = y := ⟨_, rfl⟩
        rw [hx0] at ha
        rw [hy0] at hp
        have HX := Lib.hid hx0
        have HY := Lib.hid hy0
        have hs0 : ∀ q : Ext (Below wr.heap.size wr), q.w.cell? ⟨g, a, none⟩ = some (.int .u32 x) := Ext.rd ha
        have hs1 : ∀ q : Ext (Below wr.heap.size wr), q.w.cell? ⟨g, p, none⟩ = some (.int .u32 y) := Ext.rd hp
        clear hx0 hy0 HAX
        by_cases hgt : y < x
        all_goals
          have hgd : decide ((y : Int) < x) = decide (y < x) := by simp
          go_wp2
          haveI hne : Nonempty (Ext (Below wr.heap.size wr)) := ⟨⟨wr.drew, below_start _⟩⟩
          refine wp_region_calm (S := Below wr.heap.size wr) (by kernel_rfl) (by kernel_rfl) (below_start _) ?_
          repeat (go_big_quiet_step (fail))
          refine wpQuiet_nil ?_
          rintro _ ⟨m1, rfl⟩
          have hb1 := Lib.hid m1.h
          have ha1 := hs0 m1
          have hp1 := hs1 m1
          have hfa1 := (m1.h.frozen (p := ⟨g, a, none⟩) hlg).trans hfa
          have hfp1 := (m1.h.frozen (p := ⟨g, p, none⟩) hlg).trans hfp
          generalize m1.w = W at *
          clear hs0 hs1 hne
          have hzW := hb1.out.size
          go_wp2
          go_roundw
          case rel =>
            refine ⟨k + 1, by omega, by go_num, ?_, by (repeat' (first | with_reducible exact Below.refl _ _ | with_reducible refine bl_drewN ?_ _ | with_reducible refine bl_drew ?_ | refine bl_set (by (first | omega | (simp; done) | (simp; omega))) ?_ _ | refine bl_alloc (by (first | omega | (simp; done) | (simp; omega))) ?_ _ | refine bl_then (by assumption) ?_ (by (first | omega | (simp; done) | (simp; omega))) | refine Step.bl (by assumption) (by assumption) (by (first | omega | (simp; done) | (simp; omega))) (by (first | omega | (simp; done) | (simp; omega))) ?_))⟩
            rw [HSU.out]
            first
              | refine Sn.Mine.two hBg (Nat.lt_of_lt_of_le hlg hzW) (fun i hi => ⟨(hb1.out.cell (p := ⟨g, i, none⟩) hlg).trans (HC.out i hi).1, (hb1.out.frozen (p := ⟨g, i, none⟩) hlg).trans (HC.out i hi).2⟩) h3' h2' (by omega) _ _ fun i hi => ?_
              | refine Sn.Mine.same hBg (Nat.lt_of_lt_of_le hlg hzW) (fun i hi => ⟨(hb1.out.cell (p := ⟨g, i, none⟩) hlg).trans (HC.out i hi).1, (hb1.out.frozen (p := ⟨g, i, none⟩) hlg).trans (HC.out i hi).2⟩) fun i hi => ?_
            all_goals
              unfold Sn.ex
              dsimp only
              rw [HX.out, HY.out]
              split
              · first | omega | (subst_vars; omega)
              · split <;> first | rfl | omega | (subst_vars; omega)
          case measure => simp [intOf]; omega
      · rcases (show x < 0 ∨ (0 ≤ x ∧ y < (n : Int) ∧ y ≤ x) ∨ (0 ≤ x ∧ (n : Int) ≤ y) by omega) with hn1 | ⟨hn1, hn2, hn3⟩ | ⟨hn1, hn3⟩
        all_goals
          rw [Sn.exg_no n _ x y (by omega)] at hsu
          have HSU := Lib.hid hsu
          clear hsu hok
          go_wp2
          go_roundw
          case rel =>
            refine ⟨k + 1, by omega, by go_num, ?_, HB.out⟩
            rw [HSU.out]
            exact HM.out
          case measure => simp [intOf]; omega
    · have hge : m ≤ k := by omega
      have hkm : k = m := by omega
      clear hB
      go_wp2
      go_ret
      subst hkm
      exact ⟨_, rfl, HM.out, HB.out⟩
end Go.Proofs.Ytflapbnbeipddaa
