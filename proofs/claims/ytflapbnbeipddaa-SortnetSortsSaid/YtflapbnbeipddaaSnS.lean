/- SortnetSorts: the law's call, for every words. No condition. -/
import Derived.Test.YtflapbnbeipddaaSnL
namespace Go.Proofs.Ytflapbnbeipddaa
open Go.RowKit
set_option linter.unusedSimpArgs false
set_option linter.unusedVariables false
attribute [local go_sem] IntKind.wrap_u32' signed_u32 max_u32
attribute [local go_sem ↓] Go.wp_at_zero Go.wp_at_succ
namespace Sn
theorem net_in_nets (n : Nat) : ∀ q ∈ nets (n : Int), q.1 < q.2 ∧ q.2 < n := by
  intro q hq
  unfold nets at hq
  split at hq
  · cases hq
  · exact net_in n _ _ q hq
theorem getD_mem (l : List (Nat × Nat)) (k : Nat) (h : k < l.length) : l.getD k (0, 0) ∈ l := by
  rw [List.getD_eq_getElem?_getD, List.getElem?_eq_getElem h]
  exact List.getElem_mem _
theorem thr_run (n : Nat) (f : Nat → Nat) (l : List (Nat × Nat)) (hl : ∀ q ∈ l, q.1 < q.2 ∧ q.2 < n) : ∀ k, k ≤ l.length → thr_ n f (fst_ l) (snd_ l) k = run f (l.take k)
  | 0, _ => by simp [thr_, run]
  | k + 1, hk => by
    have h := hl _ (getD_mem l k (by omega))
    have e1 : l.take (k + 1) = l.take k ++ [l.getD k (0, 0)] := by
      rw [List.take_succ_eq_append_getElem (by omega), List.getD_eq_getElem?_getD, List.getElem?_eq_getElem (by omega)]
      rfl
    rw [thr_succ, thr_run n f l hl k (by omega), e1]
    unfold run
    rw [List.foldl_append]
    exact exg_yes n _ _ _ h.1 h.2
theorem thr_nets (n : Nat) (f : Nat → Nat) : thr_ n f (fst_ (nets (n : Int))) (snd_ (nets (n : Int))) (nets (n : Int)).length = run f (nets (n : Int)) := by
  rw [thr_run n f _ (net_in_nets n) _ (Nat.le_refl _), List.take_length]
theorem sorted (n : Nat) (hn : n ≤ 200) (f : Nat → Nat) (i : Nat) (h : i + 1 < n) : run f (nets (n : Int)) i ≤ run f (nets (n : Int)) (i + 1) := by
  obtain ⟨B, P, _, h2, _, _, _, _, _, h8⟩ := net_facts n (by omega) (by omega)
  rw [h2]
  exact net_sorts n B h8 f i (i + 1) (by omega) h
/-- How often x is there, less how often it is here. -/
def dif (f g : Nat → Nat) (x : Nat) : Nat → Int
  | 0 => 0
  | k + 1 => dif f g x k + (if f k = x then 1 else 0) - (if g k = x then 1 else 0)
theorem dif_cnt (f g : Nat → Nat) (x : Nat) : ∀ k, dif f g x k = (cnt f x k : Int) - cnt g x k
  | 0 => rfl
  | k + 1 => by
    unfold dif cnt
    rw [dif_cnt f g x k]
    split <;> split <;> omega
theorem dif_lim (f g : Nat → Nat) (x : Nat) : ∀ k : Nat, -(k : Int) ≤ dif f g x k ∧ dif f g x k ≤ k
  | 0 => by simp [dif]
  | k + 1 => by
    have := dif_lim f g x k
    unfold dif
    split <;> split <;> omega
theorem dif_zero (n : Nat) (f : Nat → Nat) (x : Nat) : dif f (run f (nets (n : Int))) x n = 0 := by
  rw [dif_cnt, cnt_run n x _ _ (net_in_nets n)]
  omega
end Sn
set_option maxRecDepth 20000 in
set_option maxHeartbeats 4000000 in
theorem SortnetSorts_any {w : World} {A : Option Addr} {n : Nat} {f : Nat → Nat} (hA : Sn.Wd w A n f) (hn : n ≤ 9223372036854775807) (c : Nat) :
    Calls Try.prog 3 #[.slice A n c] w fun e w' => e = .returned (.bool true) ∧ Below w.heap.size w w' := by
  have HA := Lib.hid hA
  clear hA
  rcases (show 200 < n ∨ n ≤ 200 by omega) with h60 | h60
  · go_enter Try.func3, Try.ntmps3
    go_wp2_with (go_at_call 13; refine (awake03_any _).mono ?_; rintro e w1 ⟨rfl, hb⟩; have B1 := Lib.hid hb; clear hb)
    go_ret
    exact ⟨rfl, B1.out⟩
  · have HPc := Lib.hid (fun w => snPairs1_any (n : Int) w)
    have HT := Lib.hid (Sn.thr_nets n f)
    have HI := Lib.hid (Sn.net_in_nets n)
    have HS := Lib.hid (Sn.sorted n h60 f)
    have HZ := Lib.hid (Sn.dif_zero n f)
    have hlim := Sn.nets_le (n : Int)
    generalize Sn.nets (n : Int) = L at *
    obtain ⟨F, hF⟩ : ∃ F, Sn.run f L = F := ⟨_, rfl⟩
    rw [hF] at HT HS HZ
    clear hF
    obtain ⟨M, hM⟩ : ∃ M, L.length = M := ⟨_, rfl⟩
    rw [hM] at HPc HT hlim
    have HM := Lib.hid hM
    clear hM
    go_enter Try.func3, Try.ntmps3
    go_wp2_with (first
      | (go_at_call 13; refine (awake03_any _).mono ?_; rintro e w1 ⟨rfl, hb⟩; have B1 := Lib.hid hb; have hs1 := hb.size; clear hb)
      | (go_at_call 14; refine (HPc.out _).mono ?_; rintro e w2 ⟨v, rfl, hown, hb⟩; have B2 := Lib.hid hb; have hs2 := hb.size; clear hb; obtain ⟨Ap, cp, rfl, hp⟩ := Sn.prw_own (l := L) (by rw [HM.out]; exact hown); rw [HM.out] at hp; have HP := Lib.hid hp; clear hown hp; rw [HM.out]))
    have Bw : Hid (Below w.heap.size w w2) := Lib.hid (bl_then B2 B1.out hs1)
    have HA2 : Hid (Sn.Wd w2 A n f) := Lib.hid (HA.out.below Bw.out)
    clear HA B1 B2 HPc
    go_loopw [21] (fun i wr => ∃ (k : Nat), k ≤ M ∧ i = .int .i64 k ∧ Below w2.heap.size w2 wr) (fun i _ => M - (intOf i).toNat)
    case atStart => exact ⟨0, Nat.zero_le _, rfl, Below.refl _ _⟩
    case round =>
      obtain ⟨k, hk, rfl, hB⟩ := hrel
      have HB := Lib.hid hB
      have hsz := hB.size
      by_cases hlt : k < M
      · obtain ⟨b, o, rfl, hb, hc⟩ := HP.out (by omega)
        have hx : wr.cell? ⟨b, o + k * 2, none⟩ = some (.int .i64 (Sn.fst_ L k)) := (hB.cell (p := ⟨b, o + k * 2, none⟩) hb).trans (hc k hlt).1
        have hy : wr.cell? ⟨b, o + k * 2 + 1, none⟩ = some (.int .i64 (Sn.snd_ L k)) := (hB.cell (p := ⟨b, o + k * 2 + 1, none⟩) hb).trans (hc k hlt).2
        have hq := HI.out _ (Sn.getD_mem L k (by rw [HM.out]; exact hlt))
        unfold Sn.fst_ at hx
        unfold Sn.snd_ at hy
        generalize (L.getD k (0, 0)).1 = x at *
        generalize (L.getD k (0, 0)).2 = y at *
        obtain ⟨hq1, hq2⟩ := hq
        have g1 : ¬ y ≤ x := by omega
        have g2 : ¬ n ≤ y := by omega
        clear hB hc
        go_wp2
        go_roundw
        case rel => exact ⟨k + 1, by omega, by go_num, by (repeat' (first | with_reducible exact Below.refl _ _ | with_reducible refine bl_drewN ?_ _ | with_reducible refine bl_drew ?_ | refine bl_set (by (first | omega | (simp; done) | (simp; omega))) ?_ _ | refine bl_alloc (by (first | omega | (simp; done) | (simp; omega))) ?_ _ | refine bl_then (by assumption) ?_ (by (first | omega | (simp; done) | (simp; omega))) | refine Step.bl (by assumption) (by assumption) (by (first | omega | (simp; done) | (simp; omega))) (by (first | omega | (simp; done) | (simp; omega))) ?_))⟩
        case measure => simp [intOf]; omega
      · have hge : M ≤ k := by omega
        clear hB
        go_wp2_with (first
          | (go_at_call 15; refine (snApply_any (HA2.out.below HB.out) (HP.out.below HB.out) (by omega) (by omega) _ _).mono ?_; rintro e w3 ⟨v, rfl, hmine, hb3⟩; rw [HT.out] at hmine; have B3 := Lib.hid hb3; have D3 := Lib.hid hmine; have hs3 := hb3.size; clear hb3 hmine; obtain ⟨A3, c3, rfl, -⟩ := D3.out)
          | (go_at_call 16; refine (through03_any (HA2.out.below (bl_then B3 HB.out hsz)) (HP.out.below (bl_then B3 HB.out hsz)) (by omega) (by omega) _ _).mono ?_; rintro e w4 ⟨v, rfl, hmine, hb4⟩; rw [HT.out] at hmine; have B4 := Lib.hid hb4; have D4 := Lib.hid hmine; have hs4 := hb4.size; clear hb4 hmine; obtain ⟨A4, c4, rfl, -⟩ := D4.out)
          | (go_at_call 17; refine (rises03_any D4.out.wd HS.out (by omega) _).mono ?_; rintro e w5 ⟨rfl, hb5⟩; have B5 := Lib.hid hb5; have hs5 := hb5.size; clear hb5))
        have B25 : Hid (Below w2.heap.size w2 w5) := Lib.hid (bl_then B5 (bl_then B4 (bl_then B3 HB.out hsz) (by omega)) (by omega))
        have HAf : Hid (Sn.Wd w5 A n f) := Lib.hid (HA2.out.below B25.out)
        have HD3 : Hid (Sn.Wd w5 A3 n F) := Lib.hid ((D3.out.wd.below B4.out).below B5.out)
        have HD4 : Hid (Sn.Wd w5 A4 n F) := Lib.hid (D4.out.wd.below B5.out)
        have B05 : Hid (Below w.heap.size w w5) := Lib.hid (Bw.out.trans (B25.out.mono Bw.out.size))
        clear HA2 HP HT HI HS D3 D4 B3 B4 B5 HB Bw B25 HM
        go_loopw [68, 8, 9] (fun i i8 i9 wr => ∃ (k : Nat), k ≤ n ∧ i = .int .i64 k ∧ Below w5.heap.size w5 wr) (fun i _ _ _ => n - (intOf i).toNat)
        case atStart => exact ⟨0, Nat.zero_le _, rfl, Below.refl _ _⟩
        case round =>
          obtain ⟨k, hk, rfl, hB⟩ := hrel
          have HB := Lib.hid hB
          have hsz := hB.size
          by_cases hlt : k < n
          · obtain ⟨b3, o3, rfl, c3'⟩ := HD3.out.at_ hB k hlt
            obtain ⟨b4, o4, rfl, c4'⟩ := HD4.out.at_ hB k hlt
            obtain ⟨X, hX⟩ : ∃ X, F k = X := ⟨_, rfl⟩
            rw [hX] at c3' c4'
            have HX := Lib.hid hX
            clear hB hX
            go_wp2
            haveI hne : Nonempty (Ext (Below wr.heap.size wr)) := ⟨⟨wr.drew, below_start _⟩⟩
            refine wp_region_calm (S := Below wr.heap.size wr) (by kernel_rfl) (by kernel_rfl) (below_start _) ?_
            repeat (go_big_quiet_step (fail))
            refine wpQuiet_nil ?_
            rintro _ ⟨m1, rfl⟩
            have hb1 := Lib.hid m1.h
            generalize m1.w = W1 at *
            clear hne
            clear c3' c4'
            have hz1 := hb1.out.size
            have HB1 : Hid (Below w5.heap.size w5 W1) := Lib.hid (bl_then hb1 HB.out hsz)
            clear HB hb1
            go_wp2
            go_loopw [82, 10, 9] (fun i i10 z wq => ∃ (j : Nat), j ≤ n ∧ i = .int .i64 j ∧ z = .int .i64 (Sn.dif f F X j) ∧ Below w5.heap.size w5 wq) (fun i _ _ _ => n - (intOf i).toNat)
            case atStart => exact ⟨0, Nat.zero_le _, rfl, rfl, HB1.out⟩
            case round =>
              obtain ⟨j, hj, rfl, rfl, hB⟩ := hrel
              have HB := Lib.hid hB
              have hsz' := hB.size
              have hd1 := Sn.dif_lim f F X j
              by_cases hlt' : j < n
              · obtain ⟨b0, o0, rfl, c0⟩ := HAf.out.at_ hB j hlt'
                obtain ⟨b3', o3', e3, c3⟩ := HD3.out.at_ hB j hlt'
                cases e3
                obtain ⟨b3'', o3'', e3, c3k⟩ := HD3.out.at_ hB k hlt
                cases e3
                rw [HX.out] at c3k
                have hds : Sn.dif f F X (j + 1) = Sn.dif f F X j + (if f j = X then 1 else 0) - (if F j = X then 1 else 0) := rfl
                have hd2 := Sn.dif_lim f F X (j + 1)
                have HDS := Lib.hid hds
                clear hds hB
                generalize Sn.dif f F X j = D at *
                obtain ⟨D2, hD2⟩ : ∃ D2, Sn.dif f F X (j + 1) = D2 := ⟨_, rfl⟩
                have HDS := Lib.hid (HDS.out)
                rw [hD2] at HDS hd2
                have HD2 := Lib.hid hD2
                clear hD2
                generalize f j = y at *
                generalize F j = z at *
                by_cases hy : y = X
                all_goals
                  by_cases hz : z = X
                  all_goals
                    have HDS2 := HDS.out
                    simp only [hy, hz, if_true, if_false] at HDS2
                    first | (have hyn : ¬ (y : Int) = X := by omega) | skip
                    first | (have hzn : ¬ (z : Int) = X := by omega) | skip
                    go_wp2
                    haveI hne : Nonempty (Ext (Below wr.heap.size wr)) := ⟨⟨wr.drew, below_start _⟩⟩
                    refine wp_region_calm (S := Below wr.heap.size wr) (by kernel_rfl) (by kernel_rfl) (below_start _) ?_
                    repeat (go_big_quiet_step (fail))
                    refine wpQuiet_nil ?_
                    rintro _ ⟨m2, rfl⟩
                    have hb2 := Lib.hid m2.h
                    have e3 := c3 m2
                    have ek := c3k m2
                    generalize m2.w = W2 at *
                    clear hne
                    have hz2 := hb2.out.size
                    have s3 : ∀ q : Ext (Below W2.heap.size W2), q.w.cell? ⟨b3, o3 + j, none⟩ = some (.int .u32 z) := Ext.rd e3
                    have sk : ∀ q : Ext (Below W2.heap.size W2), q.w.cell? ⟨b3, o3 + k, none⟩ = some (.int .u32 X) := Ext.rd ek
                    clear c0 c3 c3k e3 ek
                    go_wp2
                    haveI hne : Nonempty (Ext (Below W2.heap.size W2)) := ⟨⟨W2.drew, below_start _⟩⟩
                    refine wp_region_calm (S := Below W2.heap.size W2) (by kernel_rfl) (by kernel_rfl) (below_start _) ?_
                    repeat (go_big_quiet_step (fail))
                    refine wpQuiet_nil ?_
                    rintro _ ⟨m3, rfl⟩
                    have hb3 := Lib.hid m3.h
                    generalize m3.w = W3 at *
                    clear hne
                    have hz3 := hb3.out.size
                    clear s3 sk
                    go_wp2
                    go_roundw
                    case rel => exact ⟨j + 1, by omega, by go_num, by (rw [HD2.out]; go_num), bl_then hb3 (bl_then hb2 HB.out hsz') (by omega)⟩
                    case measure => simp [intOf]; omega
              · have hge : n ≤ j := by omega
                have hjn : j = n := by omega
                have hz0 := HZ.out X
                rw [← hjn] at hz0
                rw [hz0]
                clear hB
                go_wp2
                go_roundw
                case rel => exact ⟨k + 1, by omega, by go_num, HB.out⟩
                case measure => simp [intOf]; omega
          · have hge : n ≤ k := by omega
            clear hB
            go_wp2
            go_ret
            exact ⟨rfl, B05.out.trans (HB.out.mono B05.out.size)⟩
end Go.Proofs.Ytflapbnbeipddaa
