/- SortnetApplies: the law's call, for every pairs and words. No condition. -/
import Derived.Test.YtflapbnbeipddaaSnW
namespace Go.Proofs.Ytflapbnbeipddaa
open Go.RowKit
set_option linter.unusedSimpArgs false
set_option linter.unusedVariables false
attribute [local go_sem] IntKind.wrap_u32' signed_u32 max_u32
attribute [local go_sem ↓] Go.wp_at_zero Go.wp_at_succ
theorem Sn.Wd.at_ {w W : World} {A : Option Addr} {n : Nat} {f : Nat → Nat} (h : Sn.Wd w A n f) (hb : Below w.heap.size w W) (k : Nat) (hk : k < n) : ∃ b o, A = some ⟨b, o, none⟩ ∧ ∀ q : Ext (Below W.heap.size W), q.w.cell? ⟨b, o + k, none⟩ = some (.int .u32 (f k)) := by
  obtain ⟨b, o, e, hl, hc⟩ := h (by omega)
  exact ⟨b, o, e, Ext.rd ((hb.cell (p := ⟨b, o + k, none⟩) hl).trans (hc k hk))⟩
set_option maxRecDepth 20000 in
set_option maxHeartbeats 2000000 in
theorem SortnetApplies_any {w : World} {A P : Option Addr} {n m : Nat} {f : Nat → Nat} {X Y : Nat → Int} (hA : Sn.Wd w A n f) (hP : Sn.Prw w P m X Y) (hn : n ≤ 9223372036854775807) (hm : m ≤ 9223372036854775807) (c d : Nat) :
    Calls Try.prog 4 #[.slice P m d, .slice A n c] w fun e w' => e = .returned (.bool true) ∧ Below w.heap.size w w' := by
  have HA := Lib.hid hA
  have HP := Lib.hid hP
  obtain ⟨i0, hi, hz0, hz1, hz2⟩ := info_parts Try.infoU32
  clear hA hP
  rcases (show 60 < m ∨ (m ≤ 60 ∧ 60 < n) ∨ (m ≤ 60 ∧ n ≤ 60) by omega) with h60 | ⟨h60, h61⟩ | ⟨h60, h61⟩
  · go_enter Try.func4, Try.ntmps4
    go_wp2_with (go_at_call 13; refine (awake03_any _).mono ?_; rintro e w1 ⟨rfl, hb⟩; have B1 := Lib.hid hb; clear hb)
    go_ret
    exact ⟨rfl, B1.out⟩
  · go_enter Try.func4, Try.ntmps4
    go_wp2_with (go_at_call 13; refine (awake03_any _).mono ?_; rintro e w1 ⟨rfl, hb⟩; have B1 := Lib.hid hb; clear hb)
    go_ret
    exact ⟨rfl, B1.out⟩
  · go_enter Try.func4, Try.ntmps4
    go_wp2_with (first
      | (go_at_call 13; refine (awake03_any _).mono ?_; rintro e w1 ⟨rfl, hb⟩; have B1 := Lib.hid hb; have hs1 := hb.size; clear hb)
      | (at_builtin; refine wpList_append_any _ (by rfl) _ _ 22 (by rfl) w1.heap.size 29 i0 _ 1 4 Try.underlying22 hi hz0 hz1 hz2 (by rfl) (by decide) (.slice (some ⟨w1.heap.size, 0, none⟩) 0 0) 0 [] (by rfl) (own_none w1 _) (w1.heap.size + 1) A n c (Sn.wds f n) (by rfl) ((HA.out.below (bl_alloc hs1 B1.out _)).reads (by rw [World.size_alloc]; exact Nat.le_refl _)) (Sn.wds_one f n) (by simp only [maxLen]; omega) (by omega) (by simp) ?_; intro v2 w2 hown2 hg2 hat2; rw [Nat.zero_add, List.nil_append] at hown2; have G2 := Lib.hid hg2; have D2 := Lib.hid (Sn.Mine.of_own hown2); have B2 := Lib.hid (bl_grown G2 (fun k hk => by simp [Value.ownBlock] at hk; omega) (by simp; omega) (bl_alloc hs1 B1.out (.cells #[] 29))); have hs2 := B2.out.size; clear hg2 hown2 hat2; obtain ⟨A2, c2, rfl, -⟩ := D2.out)
      | (go_at_call 15; refine (snApply_any (HA.out.below B2.out) (HP.out.below B2.out) (by omega) (by omega) _ _).mono ?_; rintro e w3 ⟨v, rfl, hmine, hb3⟩; have B3 := Lib.hid hb3; have D3 := Lib.hid hmine; have hs3 := hb3.size; clear hb3 hmine; obtain ⟨A3, c3, rfl, -⟩ := D3.out)
      | (go_at_call 16; refine (through03_any (D2.out.wd.below B3.out) (HP.out.below (bl_then B3 B2.out hs2)) (by omega) (by omega) _ _).mono ?_; rintro e w4 ⟨v, rfl, hmine, hb4⟩; have B4 := Lib.hid hb4; have D4 := Lib.hid hmine; have hs4 := hb4.size; clear hb4 hmine; obtain ⟨A4, c4, rfl, -⟩ := D4.out))
    have Bw : Hid (Below w.heap.size w w4) := Lib.hid (bl_then B4 (bl_then B3 B2.out hs2) (by omega))
    have HA4 : Hid (Sn.Wd w4 A n f) := Lib.hid (HA.out.below Bw.out)
    have HD2 : Hid (Sn.Wd w4 A2 n f) := Lib.hid ((D2.out.wd.below B3.out).below B4.out)
    have HD3 := Lib.hid (D3.out.wd.below B4.out)
    have HD4 := Lib.hid D4.out.wd
    clear HA HP B1 B2 B3 B4 D2 D3 D4 G2
    generalize Sn.thr_ n f X Y m = F at *
    go_loopw [35, 8] (fun i j wr => ∃ (k : Nat), k ≤ n ∧ i = .int .i64 k ∧ Below w4.heap.size w4 wr) (fun i _ _ => n - (intOf i).toNat)
    case atStart => exact ⟨0, Nat.zero_le _, rfl, Below.refl _ _⟩
    case round =>
      obtain ⟨k, hk, rfl, hB⟩ := hrel
      have HB := Lib.hid hB
      have hsz := hB.size
      by_cases hlt : k < n
      · obtain ⟨b0, o0, rfl, c0⟩ := HA4.out.at_ hB k hlt
        obtain ⟨b2, o2, rfl, c2'⟩ := HD2.out.at_ hB k hlt
        obtain ⟨b3, o3, rfl, c3'⟩ := HD3.out.at_ hB k hlt
        obtain ⟨b4, o4, rfl, c4'⟩ := HD4.out.at_ hB k hlt
        generalize F k = x at *
        generalize f k = y at *
        clear hB
        go_wp2
        haveI hne : Nonempty (Ext (Below wr.heap.size wr)) := ⟨⟨wr.drew, below_start _⟩⟩
        refine wp_region_calm (S := Below wr.heap.size wr) (by kernel_rfl) (by kernel_rfl) (below_start _) ?_
        repeat (go_big_quiet_step (fail))
        refine wpQuiet_nil ?_
        rintro _ ⟨m1, rfl⟩
        have hb1 := Lib.hid m1.h
        generalize m1.w = W at *
        clear c0 c2' c3' c4' hne
        have hzW := hb1.out.size
        go_wp2
        go_roundw
        case rel => exact ⟨k + 1, by omega, by go_num, bl_then hb1 HB.out hsz⟩
        case measure => simp [intOf]; omega
      · have hge : n ≤ k := by omega
        clear hB
        go_wp2
        go_ret
        exact ⟨rfl, Bw.out.trans (HB.out.mono Bw.out.size)⟩
end Go.Proofs.Ytflapbnbeipddaa
