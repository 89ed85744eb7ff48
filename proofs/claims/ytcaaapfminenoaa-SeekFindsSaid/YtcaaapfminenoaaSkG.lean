/- What a table says of a word: the document's rows. No condition. -/
import Derived.Test.YtcaaapfminenoaaSkF
namespace Go.Proofs.Ytcaaapfminenoaa
open Go.RowKit
set_option linter.unusedSimpArgs false
set_option linter.unusedVariables false
attribute [local go_sem] IntKind.wrap_u32' signed_u32 max_u32
attribute [local go_sem ↓] Go.wp_at_zero Go.wp_at_succ
attribute [local go_sem] Calm.C
attribute [local go_sem low] Calm.al_cell Calm.al_frozen
attribute [local irreducible] Sk.ro Sk.rf Sk.wid
theorem Try.infoU32F : (Try.prog.info? 22).map (fun i => (i.zero, i.size, i.bytes)) = some (some (.int .u32 0), 1, 4) := by kernel_rfl
set_option maxRecDepth 20000 in
set_option maxHeartbeats 4000000 in
theorem rFind_any (w : World) (KA RA : Option Addr) (nk kc n rc : Nat) (K : Nat → Nat → Int) (R : Nat → Nat) (f : Nat → Nat → Int) (hK : Tab w KA nk 1 K) (B off : Nat) (Ai : Nat → Option Addr) (ci : Nat → Nat) (h : Rowz w RA n R f B off Ai ci) (hnk : nk ≤ 1000) (hn : n ≤ 1000)
    (hW : Sk.wid n R ≤ 1000) (key : Int) :
    Calls Try.prog 50 #[.agg #[.slice KA nk kc, .slice RA n rc], .int .u32 key] w fun e w' => ∃ S cap, e = .returned (.tuple #[.slice S (Sk.wid n R) cap, .bool (Sk.rf key (fun i => K i 0) nk)]) ∧
      (0 < Sk.wid n R → ∃ g, S = some ⟨g, 0, none⟩ ∧ g < w'.heap.size ∧ ∀ c, c < Sk.wid n R → w'.cell? ⟨g, c, none⟩ = some (.int .u32 (Sk.ro key (fun i => K i 0) n R f nk c))) ∧ Below w.heap.size w w' := by
  obtain ⟨KB, koff, hA⟩ := hK.at
  have HA := Lib.hid hA
  have HR := Lib.hid h
  obtain ⟨W, hWW⟩ : ∃ W, Sk.wid n R = W := ⟨_, rfl⟩
  rw [hWW] at hW
  rw [hWW]
  obtain ⟨i0, hi, hz0, hz1, hz2⟩ := info_parts Try.infoU32F
  clear hA hK
  by_cases hn0 : n = 0
  · subst hn0
    have hW00 : W = 0 := by rw [← hWW]; unfold Sk.wid; rw [if_pos rfl]
    subst hW00
    clear h HR
    go_enter Try.func50, Try.ntmps50
    go_wp2_with fail
    go_loopw [7, 8] (fun a7 i wr => ∃ k : Nat, k ≤ nk ∧ i = .int .i64 k ∧ a7 = .bool (Sk.rf key (fun i => K i 0) k) ∧ wr.cell? ⟨w.heap.size, 0, none⟩ = some (.slice KA nk kc) ∧ w.heap.size < wr.heap.size ∧ Below w.heap.size w wr) (fun _ i _ => nk - (intOf i).toNat)
    case atStart =>
      refine ⟨0, by omega, rfl, by rw [Sk.rf_zero], ?_, ?_, ?_⟩
      · simp [go_sem, ↓IntWalk.iteOmega, *]
      · simp
      · (repeat' (first | exact Below.refl _ _ | refine bl_set (by (first | omega | (simp; done) | (simp; omega))) ?_ _ | refine bl_alloc (by (first | omega | (simp; done) | (simp; omega))) ?_ _ | refine bl_drewN ?_ _ | refine bl_drew ?_ | refine bl_then (by assumption) ?_ (by (first | omega | (simp; done) | (simp; omega))) | refine Step.bl (by assumption) (by assumption) (by (first | omega | (simp; done) | (simp; omega))) (by (first | omega | (simp; done) | (simp; omega))) ?_))
    case round =>
      obtain ⟨k, hk, rfl, rfl, hc1, hlt, hW0⟩ := hrel
      have hWs := hW0.size
      by_cases hkm : k < nk
      · obtain ⟨rfl, hB, hcell⟩ := HA.out (by omega)
        have g0 : wr.cell? ⟨KB, koff + k, none⟩ = some (.int .u32 (K k 0)) := (hW0.cell (p := ⟨KB, koff + k, none⟩) hB).trans (by simpa using hcell k 0 hkm (by decide))
        have hd1 := Lib.hid (Sk.rf_succ key (fun i => K i 0) k)
        have HW := Lib.hid hW0
        clear hW0 hcell
        cases h1 : (K k 0 == key)
        · have h2 : (K k 0 != key) = true := by simp [bne, h1]
          have e1 : Sk.rf key (fun i => K i 0) (k + 1) = Sk.rf key (fun i => K i 0) k := by rw [hd1.out, if_neg (by rw [h1]; decide)]
          have E1 := Lib.hid e1
          clear e1
          go_wp2_with fail
          refine ⟨⟨k + 1, by omega, by go_num, by rw [E1.out], hc1, hlt, HW.out⟩, by simp [intOf]; omega⟩
        · have h2 : (K k 0 != key) = false := by simp [bne, h1]
          have e1 : Sk.rf key (fun i => K i 0) (k + 1) = true := by rw [hd1.out, if_pos h1]
          have E1 := Lib.hid e1
          clear e1
          go_wp2_with fail
          go_loopw [9] (fun j ws => j = .int .i64 0 ∧ ws = wr) (fun _ _ => 0)
          case atStart => exact ⟨rfl, rfl⟩
          case round =>
            obtain ⟨rfl, rfl⟩ := hrel
            go_wp2_with fail
            refine ⟨⟨k + 1, by omega, by go_num, by rw [E1.out], hc1, hlt, HW.out⟩, by simp [intOf]; omega⟩
      · have hge : nk ≤ k := by omega
        have hE := Lib.hid (show k = nk by omega)
        go_wp2_with fail
        refine ret_tmp2 (x := .slice none 0 0) (y := .bool (Sk.rf key (fun i => K i 0) k)) rfl rfl rfl rfl ?_
        exact ⟨none, 0, by rw [hE.out], fun h => absurd h (Nat.lt_irrefl 0), hW0⟩
  obtain ⟨rfl, hRB0⟩ := h.at_ (by omega)
  have g1 := h.cell 0 (by omega)
  rw [Nat.add_zero] at g1
  have hWR : R 0 = W := by rw [← hWW]; unfold Sk.wid; rw [if_neg hn0]
  rw [hWR] at g1
  clear h
  go_enter Try.func50, Try.ntmps50
  go_wp2_with (refine wpList_make_full _ (by rfl) _ _ 36 (by rfl) w.heap.size 22 i0 _ 1 Try.underlying36 hi hz0 hz1 .i64 .i64 _ _ W (by rfl) (by rfl) (by rfl) (by rfl) (by rw [hz2]; omega) (by simp only [maxLen]; omega) (by simp) ?_; intro wm hown hgr; obtain ⟨hm1, hm2, hm3, hm4⟩ := own_made hown; have hbm := bl_none hgr; have hcf_m := bcell hbm; have hz_m := hbm.size; (try simp only [World.size_alloc, World.size_setCell, World.size_drew] at hz_m hcf_m); have hbh_m := Lib.hid hbm; clear hbm hown hgr; obtain ⟨hc_m, hf_m⟩ := hcf_m)
  obtain ⟨g, hg⟩ : ∃ g, w.heap.size + 1 = g := ⟨_, rfl⟩
  simp only [World.size_alloc, hg] at hm1 hm2 hm3 hm4
  simp only [World.size_alloc, hg]
  go_loopw [7, 8] (fun a7 i wr => ∃ k : Nat, k ≤ nk ∧ i = .int .i64 k ∧ a7 = .bool (Sk.rf key (fun i => K i 0) k) ∧ wr.cell? ⟨w.heap.size, 0, none⟩ = some (.slice KA nk kc) ∧ wr.cell? ⟨w.heap.size, 1, none⟩ = some (.slice (some ⟨B, off, none⟩) n rc) ∧
      (∀ c, c < W → wr.cell? ⟨g, c, none⟩ = some (.int .u32 (Sk.ro key (fun i => K i 0) n R f k c))) ∧ (0 < W → ∀ j, wr.frozen? ⟨g, j, none⟩ = false) ∧ (0 < W → g < wr.heap.size) ∧ w.heap.size < wr.heap.size ∧ Below w.heap.size w wr) (fun _ i _ => nk - (intOf i).toNat)
  case atStart =>
    refine ⟨0, by omega, rfl, by rw [Sk.rf_zero], ?_, ?_, ?_, fun _ => hm4, fun _ => hm2, by omega, ?_⟩
    · simp [go_sem, ↓IntWalk.iteOmega, *]
    · simp [go_sem, ↓IntWalk.iteOmega, *]
    · intro c hc; rw [Sk.ro_zero]; exact hm3 c hc
    · have hm5 := hbh_m
      (repeat' (first | exact Below.refl _ _ | refine bl_set (by (first | omega | (simp; done) | (simp; omega))) ?_ _ | refine bl_alloc (by (first | omega | (simp; done) | (simp; omega))) ?_ _ | refine bl_drewN ?_ _ | refine bl_drew ?_ | refine bl_then (by assumption) ?_ (by (first | omega | (simp; done) | (simp; omega))) | refine Step.bl (by assumption) (by assumption) (by (first | omega | (simp; done) | (simp; omega))) (by (first | omega | (simp; done) | (simp; omega))) ?_))
  case round =>
    obtain ⟨k, hk, rfl, rfl, hc1, hc2, hc3, hf1, hgl, hlt, hW0⟩ := hrel
    have hWs := hW0.size
    by_cases hkm : k < nk
    · obtain ⟨rfl, hB, hcell⟩ := HA.out (by omega)
      have g0 : wr.cell? ⟨KB, koff + k, none⟩ = some (.int .u32 (K k 0)) := (hW0.cell (p := ⟨KB, koff + k, none⟩) hB).trans (by simpa using hcell k 0 hkm (by decide))
      have hd1 := Lib.hid (Sk.rf_succ key (fun i => K i 0) k)
      have hd2 := Lib.hid (Sk.ro_succ key (fun i => K i 0) n R f k)
      have HW := Lib.hid hW0
      clear hW0 hcell
      cases h1 : (K k 0 == key)
      · have h2 : (K k 0 != key) = true := by simp [bne, h1]
        have e1 : Sk.rf key (fun i => K i 0) (k + 1) = Sk.rf key (fun i => K i 0) k := by rw [hd1.out, if_neg (by rw [h1]; decide)]
        have e2 : ∀ c, Sk.ro key (fun i => K i 0) n R f (k + 1) c = Sk.ro key (fun i => K i 0) n R f k c := fun c => by rw [hd2.out c, if_neg (fun h => by rw [h1] at h; exact Bool.false_ne_true h.1)]
        have E1 := Lib.hid e1
        have E2 := Lib.hid e2
        clear e1 e2
        go_wp2_with fail
        refine ⟨⟨k + 1, by omega, by go_num, by rw [E1.out], hc1, hc2, fun c hc => by rw [E2.out c]; exact hc3 c hc, hf1, hgl, hlt, HW.out⟩, by simp [intOf]; omega⟩
      · have h2 : (K k 0 != key) = false := by simp [bne, h1]
        have e1 : Sk.rf key (fun i => K i 0) (k + 1) = true := by rw [hd1.out, if_pos h1]
        have E1 := Lib.hid e1
        have H1 := Lib.hid h1
        clear e1
        go_wp2_with fail
        go_loopw [9] (fun j ws => ∃ q : Nat, q ≤ W ∧ j = .int .i64 q ∧ ws.cell? ⟨w.heap.size, 0, none⟩ = some (.slice (some ⟨KB, koff, none⟩) nk kc) ∧ ws.cell? ⟨w.heap.size, 1, none⟩ = some (.slice (some ⟨B, off, none⟩) n rc) ∧
            (∀ c, c < W → ws.cell? ⟨g, c, none⟩ = some (.int .u32 (if c < q then Sk.ro key (fun i => K i 0) n R f (k + 1) c else Sk.ro key (fun i => K i 0) n R f k c))) ∧ (0 < W → ∀ j, ws.frozen? ⟨g, j, none⟩ = false) ∧ (0 < W → g < ws.heap.size) ∧ w.heap.size < ws.heap.size ∧ Below w.heap.size w ws) (fun j _ => W - (intOf j).toNat)
        case atStart =>
          exact ⟨0, by omega, rfl, hc1, hc2, fun c hc => by rw [if_neg (by omega)]; exact hc3 c hc, hf1, hgl, hlt, HW.out⟩
        case round =>
          obtain ⟨q, hq, rfl, d1, d2, d3, d4, d5, d6, d7⟩ := hrel
          clear hc1 hc2 hc3 hf1 hgl hlt HW hWs g0
          have hds := d7.size
          by_cases hqW : q < W
          · skip
            have d4 := d4 (by omega)
            have d5 := d5 (by omega)
            have e1 := d3 q hqW
            rw [if_neg (Nat.lt_irrefl q)] at e1
            have D3 := Lib.hid d3
            have D7 := Lib.hid d7
            clear d3
            by_cases hqk : k < n ∧ q < R k
            · have hd3 := hd2.out q
              rw [if_pos ⟨h1, hqk⟩] at hd3
              have Hd3 := Lib.hid hd3
              obtain ⟨_, hRB⟩ := (HR.out.lift d7).at_ (by omega)
              obtain ⟨b', o', hAi, hlt', hrow⟩ := (HR.out.lift d7).row k hqk.1 (by omega)
              have e0 := hrow q hqk.2
              have g1 := (HR.out.lift d7).cell k hqk.1
              rw [hAi] at g1
              obtain ⟨r, hr⟩ : ∃ r, R k = r := ⟨_, rfl⟩
              obtain ⟨hq1, hq2⟩ := hqk
              rw [hr] at g1 hq2
              clear hrow hd3 d7
              go_wp2_with fail
              (refine Calm.go 16 (by kernel_rfl) (by kernel_rfl) (by kernel_rfl) ?_; intro w0 hw0; have hr := Calm.rule hw0; simp only [Calm.heads, Calm.isAlloc]; haveI hnon : Nonempty (Ext (Below w0.heap.size w0)) := ⟨⟨w0, Below.refl _ _⟩⟩; (repeat (go_big_quiet_step (first | (go_at_call 16; exact Ext.calm below_calm (Of_any _ _))))); refine wpQuiet_nil ?_; clear hnon hr hw0; clear w0; (repeat refine Calm.n_skip rfl ?_); refine Calm.n_zero ?_; intro WB hbB hsB; simp only [List.drop_succ_cons, List.drop_zero]; obtain ⟨hcB, hfB⟩ := bcell hbB; (try simp only [World.size_alloc, World.size_setCell, World.size_drew] at hcB hfB); have hzB := hbB.size; have hbhB := Lib.hid hbB; clear hsB hbB; (try simp only [World.size_alloc, World.size_setCell, World.size_drew] at hzB))
              go_wp2_with fail
              refine ⟨⟨q + 1, by omega, by go_num, ?_, ?_, ?_, ?_, ?_, ?_, ?_⟩, by simp [intOf]; omega⟩
              case refine_3 =>
                intro c hc
                by_cases hcq : c = q
                · subst hcq
                  rw [if_pos (Nat.lt_succ_self _), Hd3.out]
                  simp [go_sem, ↓IntWalk.iteOmega, *]
                  rfl
                · have e2 := D3.out c hc
                  rcases Nat.lt_or_ge c q with hcl | hcl
                  · rw [if_pos hcl] at e2
                    rw [if_pos (by omega), ← e2]
                    clear e1 e2
                    simp [go_sem, ↓IntWalk.iteOmega, *]
                  · rw [if_neg (by omega)] at e2
                    rw [if_neg (by omega), ← e2]
                    clear e1 e2
                    simp [go_sem, ↓IntWalk.iteOmega, *]
              case refine_4 => intro _ j; simp [go_sem, ↓IntWalk.iteOmega, *]
              case refine_5 => intro _; simp; omega
              case refine_6 => simp; omega
              case refine_7 =>
                have HW' := D7.out
                (repeat' (first | exact Below.refl _ _ | refine bl_set (by (first | omega | (simp; done) | (simp; omega))) ?_ _ | refine bl_alloc (by (first | omega | (simp; done) | (simp; omega))) ?_ _ | refine bl_drewN ?_ _ | refine bl_drew ?_ | refine bl_then (by assumption) ?_ (by (first | omega | (simp; done) | (simp; omega))) | refine Step.bl (by assumption) (by assumption) (by (first | omega | (simp; done) | (simp; omega))) (by (first | omega | (simp; done) | (simp; omega))) ?_))
              all_goals (simp [go_sem, ↓IntWalk.iteOmega, *]; done)
            · have hd3 := hd2.out q
              rw [if_neg (fun h => hqk h.2)] at hd3
              have Hd3 := Lib.hid hd3
              clear hd3
              by_cases hkn : k < n
              · obtain ⟨_, hRB⟩ := (HR.out.lift d7).at_ (by omega)
                have g1 := (HR.out.lift d7).cell k hkn
                obtain ⟨r, hr⟩ : ∃ r, R k = r := ⟨_, rfl⟩
                have hq2 : r ≤ q := by omega
                rw [hr] at g1
                clear hqk d7
                go_wp2_with fail
                refine ⟨⟨q + 1, by omega, by go_num, d1, d2, ?_, fun _ => d4, fun _ => d5, d6, D7.out⟩, by simp [intOf]; omega⟩
                intro c hc
                have e2 := D3.out c hc
                rcases (by omega : c < q ∨ c = q ∨ q < c) with hcl | rfl | hcl
                · rw [if_pos hcl] at e2
                  rw [if_pos (by omega)]
                  exact e2
                · rw [if_pos (Nat.lt_succ_self _), Hd3.out]
                  exact e1
                · rw [if_neg (by omega)] at e2
                  rw [if_neg (by omega)]
                  exact e2
              · clear hqk d7
                go_wp2_with fail
                refine ⟨⟨q + 1, by omega, by go_num, d1, d2, ?_, fun _ => d4, fun _ => d5, d6, D7.out⟩, by simp [intOf]; omega⟩
                intro c hc
                have e2 := D3.out c hc
                rcases (by omega : c < q ∨ c = q ∨ q < c) with hcl | rfl | hcl
                · rw [if_pos hcl] at e2
                  rw [if_pos (by omega)]
                  exact e2
                · rw [if_pos (Nat.lt_succ_self _), Hd3.out]
                  exact e1
                · rw [if_neg (by omega)] at e2
                  rw [if_neg (by omega)]
                  exact e2
          · have hge : W ≤ q := by omega
            go_wp2_with fail
            refine ⟨⟨k + 1, by omega, by go_num, by rw [E1.out], d1, d2, fun c hc => ?_, d4, d5, d6, d7⟩, by simp [intOf]; omega⟩
            have e2 := d3 c hc
            rw [if_pos (by omega)] at e2
            exact e2
    · have hge : nk ≤ k := by omega
      have hE := Lib.hid (show k = nk by omega)
      go_wp2_with fail
      refine ret_tmp2 (x := .slice (some ⟨g, 0, none⟩) W W) (y := .bool (Sk.rf key (fun i => K i 0) k)) rfl rfl rfl rfl ?_
      refine ⟨_, _, by rw [hE.out], fun hW1 => ⟨g, rfl, hgl hW1, fun c hc => by rw [← hE.out]; exact hc3 c hc⟩, hW0⟩
end Go.Proofs.Ytcaaapfminenoaa
