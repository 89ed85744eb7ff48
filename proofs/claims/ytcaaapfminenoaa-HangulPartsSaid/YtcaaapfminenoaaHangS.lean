/- HangulParts: the law's call. No condition. -/
import Derived.Test.YtcaaapfminenoaaHangQ
import Derived.Test.YtcaaapfminenoaaHangR
namespace Go.Proofs.Ytcaaapfminenoaa
open Go.RowKit
set_option linter.unusedSimpArgs false
set_option linter.unusedVariables false
attribute [local go_sem] IntKind.wrap_u32' signed_u32 max_u32
attribute [local go_sem ↓] Go.wp_at_zero Go.wp_at_succ
attribute [local go_sem] Calm.C
attribute [local go_sem low] Calm.al_cell Calm.al_frozen
attribute [local irreducible] Hg.dx Hg.dq Hg.tsum Hg.times Hg.Part Hg.l Hg.v Hg.t Hg.is Hg.join Hg.ok
set_option maxRecDepth 20000 in
set_option maxHeartbeats 4000000 in
theorem HangulParts_any (p n : Nat) (hp : p < 4294967296) (hn : n < 65536) (w : World) : Calls Try.prog 13 #[.int .u32 p, .int .u16 n] w fun e w' => e = .returned (.bool true) ∧ Below w.heap.size w w' := by
  have q1 : ((44032 : Int) + (n : Int) % 11172) % 4294967296 = 44032 + (n : Int) % 11172 := by omega
  have q2 : ((n : Int) % 4294967296) = (n : Int) := by omega
  go_enter Try.func13, Try.ntmps13
  go_wp2_with (first | (go_at_call 54; refine (awake11_any _).mono ?_; rintro e w1 ⟨rfl, hb⟩; have hcf := bcell hb; (try simp only [World.size_alloc, World.size_setCell, World.size_drew] at hcf); have hz := hb.size; (try simp only [World.size_alloc, World.size_setCell, World.size_drew] at hz); have hbh := Lib.hid hb; clear hb; obtain ⟨hc, hf⟩ := hcf))
  obtain ⟨B0, hB0⟩ : ∃ B0, w1.heap.size = B0 := ⟨_, rfl⟩
  have hB0w : w.heap.size ≤ B0 := by omega
  rw [hB0]
  go_loopw [23] (fun i wr => ∃ k : Nat, k ≤ 2 ∧ i = .int .i64 k ∧ wr.cell? ⟨B0, 0, none⟩ = some (.int .u32 p) ∧ wr.cell? ⟨B0, 1, none⟩ = some (.int .u32 (44032 + (n : Int) % 11172)) ∧ B0 < wr.heap.size ∧ Below w.heap.size w wr) (fun i _ => 2 - (intOf i).toNat)
  case atStart =>
    subst hB0
    refine ⟨0, by omega, rfl, ?_, ?_, ?_, ?_⟩
    all_goals first | (simp [go_sem]; done) | (repeat' (first | exact Below.refl _ _ | refine bl_set (by (first | omega | (simp; done) | (simp; omega))) ?_ _ | refine bl_alloc (by (first | omega | (simp; done) | (simp; omega))) ?_ _ | refine bl_drewN ?_ _ | refine bl_drew ?_ | refine bl_then (by assumption) ?_ (by (first | omega | (simp; done) | (simp; omega))) | refine Step.bl (by assumption) (by assumption) (by (first | omega | (simp; done) | (simp; omega))) (by (first | omega | (simp; done) | (simp; omega))) ?_))
  case round =>
    obtain ⟨k, hk, rfl, hc1, hc2, hlt, hW⟩ := hrel
    have hWs := hW.size
    have HW := Lib.hid hW
    clear hW hc hf hbh
    by_cases hk2 : k < 2
    · obtain ⟨x, hx, hcx⟩ : ∃ x : Nat, x < 4294967296 ∧ wr.cell? ⟨B0, k, none⟩ = some (.int .u32 x) := by
        rcases (by omega : k = 0 ∨ k = 1) with rfl | rfl
        · exact ⟨p, hp, hc1⟩
        · exact ⟨44032 + n % 11172, by omega, by simpa using hc2⟩
      by_cases hs : Hg.Syl x
      · have F1 := Lib.hid ((Hg.l_nat x hx).trans (if_pos hs))
        have F2 := Lib.hid ((Hg.v_nat x hx).trans (if_pos hs))
        have F4 := Lib.hid (show Hg.is x = 4294967295 by rw [Hg.is_nat x hx]; simp [hs, Ct.Mask])
        have HS : Hid (44032 ≤ (x : Int) ∧ (x : Int) ≤ 55203) := by show _ ∧ _; unfold Hg.Syl at hs; omega
        have G1 : Hid (Hg.l x = 4352 + ((x : Int) - 44032) / 588) := by show _ = _; rw [F1.out]; have := HS.out; omega
        have G2 : Hid (Hg.v x = 4449 + ((x : Int) - 44032) % 588 / 28) := by show _ = _; rw [F2.out]; have := HS.out; omega
        have F3 := Lib.hid (Hg.t_nat x hx)
        have J1 := Lib.hid (Hg.back_int x hx hs).1
        have J2 := Lib.hid (Hg.back_int x hx hs).2
        have J3 : Hid (((x : Int) == (x : Int)) = true) := by show _ = _; simp
        obtain ⟨i0, hi, hz0, hz1, hz2⟩ := info_parts Try.infoU32
        by_cases ht : ((x : Int) - 44032) % 28 = 0
        · have HT := Lib.hid ht
          have G3 : Hid (Hg.t x = 0) := by show _ = _; rw [F3.out]; rw [if_neg]; omega
          clear ht
          go_wp2_with (first | (go_at_call 16; refine (Of_any _ _).mono ?_; rintro e w1 ⟨rfl, hb⟩; have hcf := bcell hb; have hz := hb.size; (try simp only [World.size_alloc, World.size_setCell, World.size_drew] at hz); have hbh := Lib.hid hb; clear hb; obtain ⟨hc, hf⟩ := hcf) | first | (go_at_call 65; refine (hParts_any _ _).mono ?_; rintro e wp ⟨rfl, hb⟩; have hcf_wp := bcell hb; (try simp only [World.size_alloc, World.size_setCell, World.size_drew] at hcf_wp); have hz_wp := hb.size; (try simp only [World.size_alloc, World.size_setCell, World.size_drew] at hz_wp); have hbh_wp := Lib.hid hb; clear hb; obtain ⟨hc_wp, hf_wp⟩ := hcf_wp) | (go_at_call 66; refine (rIs_t _ HS.out.1 HS.out.2 _).mono ?_; rintro e w1 ⟨rfl, rfl⟩) | (go_at_call 67; refine (rParts2_any _ HS.out.1 HS.out.2 HT.out _).mono ?_; rintro e wq ⟨g, cap, rfl, hown, hb⟩; have HO := Lib.hid hown; clear hown; have hcf_q := bcell hb; (try simp only [World.size_alloc, World.size_setCell, World.size_drew] at hcf_q); have hz_q := hb.size; (try simp only [World.size_alloc, World.size_setCell, World.size_drew] at hz_q); have hbh_q := Lib.hid hb; clear hb; obtain ⟨hc_q, hf_q⟩ := hcf_q) | (at_builtin; refine wpList_append_lies _ (by rfl) _ _ 36 (by rfl) _ 22 i0 _ 1 4 Try.underlying36 hi hz0 hz1 hz2 (by rfl) (by decide) _ 2 _ (by rfl) (HO.out.alloc _) ⟨wq.heap.size, 0, none⟩ 1 1 [.int .u32 0] (by rfl) (by rfl) (World.news_of_block (heap_alloc_new _ _)) (by simp [Value.oneCell']) (by decide) (by simp only [maxLen]; omega) (by omega) (by simp; omega) (wq.heap.size + 1) (by simp) ?_; intro g2 cap2 w2 hown1 hg1 hat1 hlt1; have hO2 := Lib.hid hown1; have hG2 := Lib.hid hg1; clear hown1 hg1 hat1))
          have hbase := own_base HO.out g rfl
          have hat : ∀ b o : Nat, b < wq.heap.size → b ≠ g → w2.cell? ⟨b, o, none⟩ = wq.cell? ⟨b, o, none⟩ := fun b o hb hne => by
            refine (World.cell?_of_block (w := wq.alloc _) (a := ⟨b, o, none⟩) (hG2.out.block b (by simp; omega) (fun h => hne (by simpa [Value.ownBlock] using h)))).trans ?_
            exact World.cell?_of_block (w := wq) (a := ⟨b, o, none⟩) (Below.heap_alloc wq _ b hb)
          have hb1 : wp.heap.size + 1 + 1 ≤ g := by simpa using hbase
          have c0 : w2.cell? ⟨wp.heap.size, 0, none⟩ = some (.int .u32 (Hg.l x)) := (hat _ _ (by omega) (by omega)).trans (by simp [go_sem, ↓IntWalk.iteOmega, *])
          have c1 : w2.cell? ⟨wp.heap.size, 1, none⟩ = some (.int .u32 (Hg.v x)) := (hat _ _ (by omega) (by omega)).trans (by simp [go_sem, ↓IntWalk.iteOmega, *])
          have c2 : w2.cell? ⟨wp.heap.size, 2, none⟩ = some (.int .u32 (Hg.t x)) := (hat _ _ (by omega) (by omega)).trans (by simp [go_sem, ↓IntWalk.iteOmega, *])
          have c3 : w2.cell? ⟨wp.heap.size + 1, 0, none⟩ = some (.int .u32 (Hg.is x)) := (hat _ _ (by omega) (by omega)).trans (by simp [go_sem, ↓IntWalk.iteOmega, *])
          have d0 := hO2.out.cellAt 0 (by decide)
          have d1 := hO2.out.cellAt 1 (by decide)
          have d2 := hO2.out.cellAt 2 (by decide)
          have hs0 := Ext.rd c0
          have hs1 := Ext.rd c1
          have hs2 := Ext.rd c2
          have hs3 := Ext.rd c3
          have hs4 := Ext.rd d0
          have hs5 := Ext.rd d1
          have hs6 := Ext.rd d2
          haveI hnon : Nonempty (Ext (Below w2.heap.size w2)) := ⟨⟨w2.drew, below_start _⟩⟩
          refine wp_region_calm (S := Below w2.heap.size w2) (by kernel_rfl) (by kernel_rfl) (below_start _) ?_
          repeat (go_big_quiet_step (first | (go_at_call 57; (refine Ext.calm below_calm (is11_true _ _ _ ?_)); (first | with_reducible exact G1.out | with_reducible exact G2.out | with_reducible exact G3.out | with_reducible exact F4.out))))
          refine wpQuiet_nil ?_
          rintro _ ⟨n1, rfl⟩
          have hb1n := Lib.hid n1.h
          have e0 := hs0 n1
          have e1 := hs1 n1
          have e2 := hs2 n1
          have hz1 := n1.h.size
          have hBW : Hid (Below w.heap.size w w2) := Lib.hid (bl_grown hG2 (fun q hq => Nat.le_trans (by simp; omega) (own_base HO.out q hq)) (by simp; omega) (by (repeat' (first | exact Below.refl _ _ | refine bl_set (by (first | omega | (simp; done) | (simp; omega))) ?_ _ | refine bl_alloc (by (first | omega | (simp; done) | (simp; omega))) ?_ _ | refine bl_drewN ?_ _ | refine bl_drew ?_ | refine bl_then (by assumption) ?_ (by (first | omega | (simp; done) | (simp; omega))) | refine Step.bl (by assumption) (by assumption) (by (first | omega | (simp; done) | (simp; omega))) (by (first | omega | (simp; done) | (simp; omega))) ?_))))
          have hg2z := hG2.out.size
          simp only [World.size_alloc] at hg2z
          have hbnd : wp.heap.size + 2 ≤ w2.heap.size := by omega
          have f1 : w2.cell? ⟨B0, 0, none⟩ = some (.int .u32 p) := (hat _ _ (by omega) (by omega)).trans (by simp [go_sem, ↓IntWalk.iteOmega, *])
          have f2 : w2.cell? ⟨B0, 1, none⟩ = some (.int .u32 (44032 + (n : Int) % 11172)) := (hat _ _ (by omega) (by omega)).trans (by simp [go_sem, ↓IntWalk.iteOmega, *])
          have f1n := Ext.rd f1 n1
          have f2n := Ext.rd f2 n1
          clear hs0 hs1 hs2 hs3 hs4 hs5 hs6 c0 c1 c2 c3 d0 d1 d2
          go_wp2_with (first | first | (go_at_call 55; refine (hJoin_any _ _ _).mono ?_; rintro e wj ⟨rfl, hb⟩; have hcf_wj := bcell hb; (try simp only [World.size_alloc, World.size_setCell, World.size_drew] at hcf_wj); have hz_wj := hb.size; (try simp only [World.size_alloc, World.size_setCell, World.size_drew] at hz_wj); have hbh_wj := Lib.hid hb; clear hb; obtain ⟨hc_wj, hf_wj⟩ := hcf_wj) | first | (go_at_call 31; refine (Sel_any _ _ _ _).mono ?_; rintro e w1 ⟨rfl, hb⟩; have hcf := bcell hb; (try simp only [World.size_alloc, World.size_setCell, World.size_drew] at hcf); have hz := hb.size; (try simp only [World.size_alloc, World.size_setCell, World.size_drew] at hz); have hbh := Lib.hid hb; clear hb; obtain ⟨hc, hf⟩ := hcf) | (go_at_call 57; refine' Calls.mono (is11_true _ _ _ ?_) ?_; (next => ((first | with_reducible exact J1.out | with_reducible exact J2.out | (rw [J2.out, J3.out])))); rintro e w1 ⟨rfl, hb⟩; have hcf := bcell hb; (try simp only [World.size_alloc, World.size_setCell, World.size_drew] at hcf); have hz := hb.size; (try simp only [World.size_alloc, World.size_setCell, World.size_drew] at hz); have hbh := Lib.hid hb; clear hb; obtain ⟨hc, hf⟩ := hcf))
          go_roundw
          case rel =>
            refine ⟨k + 1, by omega, by go_num, ?_, ?_, ?_, ?_⟩
            all_goals first | (simp [go_sem, ↓IntWalk.iteOmega, *]; done) | omega | (repeat' (first | exact Below.refl _ _ | refine bl_set (by (first | omega | (simp; done) | (simp; omega))) ?_ _ | refine bl_alloc (by (first | omega | (simp; done) | (simp; omega))) ?_ _ | refine bl_drewN ?_ _ | refine bl_drew ?_ | refine bl_then (by assumption) ?_ (by (first | omega | (simp; done) | (simp; omega))) | refine Step.bl (by assumption) (by assumption) (by (first | omega | (simp; done) | (simp; omega))) (by (first | omega | (simp; done) | (simp; omega))) ?_))
          case measure => simp [intOf]; omega
        · have HT := Lib.hid ht
          have G3 : Hid (Hg.t x = 4519 + ((x : Int) - 44032) % 28) := by show _ = _; rw [F3.out]; have h0 := HS.out; rw [if_pos ⟨hs, by omega⟩]; omega
          clear ht
          go_wp2_with (first | (go_at_call 16; refine (Of_any _ _).mono ?_; rintro e w1 ⟨rfl, hb⟩; have hcf := bcell hb; have hz := hb.size; (try simp only [World.size_alloc, World.size_setCell, World.size_drew] at hz); have hbh := Lib.hid hb; clear hb; obtain ⟨hc, hf⟩ := hcf) | first | (go_at_call 65; refine (hParts_any _ _).mono ?_; rintro e wp ⟨rfl, hb⟩; have hcf_wp := bcell hb; (try simp only [World.size_alloc, World.size_setCell, World.size_drew] at hcf_wp); have hz_wp := hb.size; (try simp only [World.size_alloc, World.size_setCell, World.size_drew] at hz_wp); have hbh_wp := Lib.hid hb; clear hb; obtain ⟨hc_wp, hf_wp⟩ := hcf_wp) | (go_at_call 66; refine (rIs_t _ HS.out.1 HS.out.2 _).mono ?_; rintro e w1 ⟨rfl, rfl⟩) | (go_at_call 67; refine (rParts3_any _ HS.out.1 HS.out.2 HT.out _).mono ?_; rintro e wq ⟨g, cap, rfl, hown, hb⟩; have HO := Lib.hid hown; clear hown; have hcf_q := bcell hb; (try simp only [World.size_alloc, World.size_setCell, World.size_drew] at hcf_q); have hz_q := hb.size; (try simp only [World.size_alloc, World.size_setCell, World.size_drew] at hz_q); have hbh_q := Lib.hid hb; clear hb; obtain ⟨hc_q, hf_q⟩ := hcf_q) | (at_builtin; refine wpList_append_lies _ (by rfl) _ _ 36 (by rfl) _ 22 i0 _ 1 4 Try.underlying36 hi hz0 hz1 hz2 (by rfl) (by decide) _ 3 _ (by rfl) (HO.out.alloc _) ⟨wq.heap.size, 0, none⟩ 1 1 [.int .u32 0] (by rfl) (by rfl) (World.news_of_block (heap_alloc_new _ _)) (by simp [Value.oneCell']) (by decide) (by simp only [maxLen]; omega) (by omega) (by simp; omega) (wq.heap.size + 1) (by simp) ?_; intro g2 cap2 w2 hown1 hg1 hat1 hlt1; have hO2 := Lib.hid hown1; have hG2 := Lib.hid hg1; clear hown1 hg1 hat1))
          have hbase := own_base HO.out g rfl
          have hat : ∀ b o : Nat, b < wq.heap.size → b ≠ g → w2.cell? ⟨b, o, none⟩ = wq.cell? ⟨b, o, none⟩ := fun b o hb hne => by
            refine (World.cell?_of_block (w := wq.alloc _) (a := ⟨b, o, none⟩) (hG2.out.block b (by simp; omega) (fun h => hne (by simpa [Value.ownBlock] using h)))).trans ?_
            exact World.cell?_of_block (w := wq) (a := ⟨b, o, none⟩) (Below.heap_alloc wq _ b hb)
          have hb1 : wp.heap.size + 1 + 1 ≤ g := by simpa using hbase
          have c0 : w2.cell? ⟨wp.heap.size, 0, none⟩ = some (.int .u32 (Hg.l x)) := (hat _ _ (by omega) (by omega)).trans (by simp [go_sem, ↓IntWalk.iteOmega, *])
          have c1 : w2.cell? ⟨wp.heap.size, 1, none⟩ = some (.int .u32 (Hg.v x)) := (hat _ _ (by omega) (by omega)).trans (by simp [go_sem, ↓IntWalk.iteOmega, *])
          have c2 : w2.cell? ⟨wp.heap.size, 2, none⟩ = some (.int .u32 (Hg.t x)) := (hat _ _ (by omega) (by omega)).trans (by simp [go_sem, ↓IntWalk.iteOmega, *])
          have c3 : w2.cell? ⟨wp.heap.size + 1, 0, none⟩ = some (.int .u32 (Hg.is x)) := (hat _ _ (by omega) (by omega)).trans (by simp [go_sem, ↓IntWalk.iteOmega, *])
          have d0 := hO2.out.cellAt 0 (by decide)
          have d1 := hO2.out.cellAt 1 (by decide)
          have d2 := hO2.out.cellAt 2 (by decide)
          have hs0 := Ext.rd c0
          have hs1 := Ext.rd c1
          have hs2 := Ext.rd c2
          have hs3 := Ext.rd c3
          have hs4 := Ext.rd d0
          have hs5 := Ext.rd d1
          have hs6 := Ext.rd d2
          haveI hnon : Nonempty (Ext (Below w2.heap.size w2)) := ⟨⟨w2.drew, below_start _⟩⟩
          refine wp_region_calm (S := Below w2.heap.size w2) (by kernel_rfl) (by kernel_rfl) (below_start _) ?_
          repeat (go_big_quiet_step (first | (go_at_call 57; (refine Ext.calm below_calm (is11_true _ _ _ ?_)); (first | with_reducible exact G1.out | with_reducible exact G2.out | with_reducible exact G3.out | with_reducible exact F4.out))))
          refine wpQuiet_nil ?_
          rintro _ ⟨n1, rfl⟩
          have hb1n := Lib.hid n1.h
          have e0 := hs0 n1
          have e1 := hs1 n1
          have e2 := hs2 n1
          have hz1 := n1.h.size
          have hBW : Hid (Below w.heap.size w w2) := Lib.hid (bl_grown hG2 (fun q hq => Nat.le_trans (by simp; omega) (own_base HO.out q hq)) (by simp; omega) (by (repeat' (first | exact Below.refl _ _ | refine bl_set (by (first | omega | (simp; done) | (simp; omega))) ?_ _ | refine bl_alloc (by (first | omega | (simp; done) | (simp; omega))) ?_ _ | refine bl_drewN ?_ _ | refine bl_drew ?_ | refine bl_then (by assumption) ?_ (by (first | omega | (simp; done) | (simp; omega))) | refine Step.bl (by assumption) (by assumption) (by (first | omega | (simp; done) | (simp; omega))) (by (first | omega | (simp; done) | (simp; omega))) ?_))))
          have hg2z := hG2.out.size
          simp only [World.size_alloc] at hg2z
          have hbnd : wp.heap.size + 2 ≤ w2.heap.size := by omega
          have f1 : w2.cell? ⟨B0, 0, none⟩ = some (.int .u32 p) := (hat _ _ (by omega) (by omega)).trans (by simp [go_sem, ↓IntWalk.iteOmega, *])
          have f2 : w2.cell? ⟨B0, 1, none⟩ = some (.int .u32 (44032 + (n : Int) % 11172)) := (hat _ _ (by omega) (by omega)).trans (by simp [go_sem, ↓IntWalk.iteOmega, *])
          have f1n := Ext.rd f1 n1
          have f2n := Ext.rd f2 n1
          clear hs0 hs1 hs2 hs3 hs4 hs5 hs6 c0 c1 c2 c3 d0 d1 d2
          go_wp2_with (first | first | (go_at_call 55; refine (hJoin_any _ _ _).mono ?_; rintro e wj ⟨rfl, hb⟩; have hcf_wj := bcell hb; (try simp only [World.size_alloc, World.size_setCell, World.size_drew] at hcf_wj); have hz_wj := hb.size; (try simp only [World.size_alloc, World.size_setCell, World.size_drew] at hz_wj); have hbh_wj := Lib.hid hb; clear hb; obtain ⟨hc_wj, hf_wj⟩ := hcf_wj) | first | (go_at_call 31; refine (Sel_any _ _ _ _).mono ?_; rintro e w1 ⟨rfl, hb⟩; have hcf := bcell hb; (try simp only [World.size_alloc, World.size_setCell, World.size_drew] at hcf); have hz := hb.size; (try simp only [World.size_alloc, World.size_setCell, World.size_drew] at hz); have hbh := Lib.hid hb; clear hb; obtain ⟨hc, hf⟩ := hcf) | (go_at_call 57; refine' Calls.mono (is11_true _ _ _ ?_) ?_; (next => ((first | with_reducible exact J1.out | with_reducible exact J2.out | (rw [J2.out, J3.out])))); rintro e w1 ⟨rfl, hb⟩; have hcf := bcell hb; (try simp only [World.size_alloc, World.size_setCell, World.size_drew] at hcf); have hz := hb.size; (try simp only [World.size_alloc, World.size_setCell, World.size_drew] at hz); have hbh := Lib.hid hb; clear hb; obtain ⟨hc, hf⟩ := hcf))
          go_roundw
          case rel =>
            refine ⟨k + 1, by omega, by go_num, ?_, ?_, ?_, ?_⟩
            all_goals first | (simp [go_sem, ↓IntWalk.iteOmega, *]; done) | omega | (repeat' (first | exact Below.refl _ _ | refine bl_set (by (first | omega | (simp; done) | (simp; omega))) ?_ _ | refine bl_alloc (by (first | omega | (simp; done) | (simp; omega))) ?_ _ | refine bl_drewN ?_ _ | refine bl_drew ?_ | refine bl_then (by assumption) ?_ (by (first | omega | (simp; done) | (simp; omega))) | refine Step.bl (by assumption) (by assumption) (by (first | omega | (simp; done) | (simp; omega))) (by (first | omega | (simp; done) | (simp; omega))) ?_))
          case measure => simp [intOf]; omega
      · have F1 := Lib.hid ((Hg.l_nat x hx).trans (if_neg hs))
        have F2 := Lib.hid ((Hg.v_nat x hx).trans (if_neg hs))
        have F3 := Lib.hid ((Hg.t_nat x hx).trans (if_neg (fun h => hs h.1)))
        have F4 := Lib.hid (show Hg.is x = 0 by rw [Hg.is_nat x hx]; simp [hs, Ct.Mask])
        have hs' : (x : Int) < 44032 ∨ 55203 < (x : Int) := by unfold Hg.Syl at hs; omega
        have HS := Lib.hid hs'
        clear hs hs'
        go_wp2_with (first | (go_at_call 16; refine (Of_any _ _).mono ?_; rintro e w1 ⟨rfl, hb⟩; have hcf := bcell hb; (try simp only [World.size_alloc, World.size_setCell, World.size_drew] at hcf); have hz := hb.size; (try simp only [World.size_alloc, World.size_setCell, World.size_drew] at hz); have hbh := Lib.hid hb; clear hb; obtain ⟨hc, hf⟩ := hcf) | (go_at_call 65; refine (hParts_any _ _).mono ?_; rintro e w1 ⟨rfl, hb⟩; have hcf := bcell hb; (try simp only [World.size_alloc, World.size_setCell, World.size_drew] at hcf); have hz := hb.size; (try simp only [World.size_alloc, World.size_setCell, World.size_drew] at hz); have hbh := Lib.hid hb; clear hb; obtain ⟨hc, hf⟩ := hcf) | (go_at_call 57; refine' Calls.mono (is11_true _ _ _ ?_) ?_; (next => ((first | with_reducible exact F1.out | with_reducible exact F2.out | with_reducible exact F3.out | with_reducible exact F4.out))); rintro e w1 ⟨rfl, hb⟩; have hcf := bcell hb; (try simp only [World.size_alloc, World.size_setCell, World.size_drew] at hcf); have hz := hb.size; (try simp only [World.size_alloc, World.size_setCell, World.size_drew] at hz); have hbh := Lib.hid hb; clear hb; obtain ⟨hc, hf⟩ := hcf) | (go_at_call 66; refine (rIs_f _ HS.out _).mono ?_; rintro e w1 ⟨rfl, rfl⟩))
        go_roundw
        case rel =>
          refine ⟨k + 1, by omega, by go_num, ?_, ?_, ?_, ?_⟩
          all_goals first | (simp [go_sem, ↓IntWalk.iteOmega, *]; done) | omega | (repeat' (first | exact Below.refl _ _ | refine bl_set (by (first | omega | (simp; done) | (simp; omega))) ?_ _ | refine bl_alloc (by (first | omega | (simp; done) | (simp; omega))) ?_ _ | refine bl_drewN ?_ _ | refine bl_drew ?_ | refine bl_then (by assumption) ?_ (by (first | omega | (simp; done) | (simp; omega))) | refine Step.bl (by assumption) (by assumption) (by (first | omega | (simp; done) | (simp; omega))) (by (first | omega | (simp; done) | (simp; omega))) ?_))
        case measure => simp [intOf]; omega
    · go_wp2_with fail
      go_ret
      exact ⟨rfl, HW.out⟩
end Go.Proofs.Ytcaaapfminenoaa
