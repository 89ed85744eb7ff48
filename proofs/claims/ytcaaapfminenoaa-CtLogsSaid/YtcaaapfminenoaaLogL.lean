/- CtLogs: the law's call. No condition. -/
import Derived.Test.YtcaaapfminenoaaLogS
import Derived.Test.YtcaaapfminenoaaCalm
import Derived.Deep.RegionHeldLaw
import Derived.Deep.DrawnRows
namespace Go.Proofs.Ytcaaapfminenoaa
open Go.RowKit
set_option linter.unusedSimpArgs false
set_option linter.unusedVariables false
attribute [local go_sem] IntKind.wrap_u32' signed_u32 max_u32
attribute [local go_sem ↓] Go.wp_at_zero Go.wp_at_succ
attribute [local go_sem] Calm.C
attribute [local go_sem low] Calm.al_cell Calm.al_frozen
theorem count_eq (n : Int) : Ct.count n = (if 4294967295 < (if n < 0 then 0 else n) then 4294967295 else (if n < 0 then 0 else n)) := by
  unfold Ct.count
  by_cases h : n < 0
  · rw [if_pos h, if_pos h]; rfl
  · rw [if_neg h, if_neg h]
theorem relv_nil : relv [] = [] := rfl
theorem note0 {K At N V : Nat → Int} {k : Nat} (h : K k % 5 = 0) : noteEv K At N V k = ⟨1, At k, 0⟩ := by unfold noteEv; rw [if_pos h]
theorem note1 {K At N V : Nat → Int} {k : Nat} (h : K k % 5 = 1) : noteEv K At N V k = ⟨2, At k, 0⟩ := by unfold noteEv; rw [if_neg (by omega), if_pos h]
theorem note2 {K At N V : Nat → Int} {k : Nat} (h : K k % 5 = 2) : noteEv K At N V k = ⟨4, At k, Ct.count (N k)⟩ := by unfold noteEv; rw [if_neg (by omega), if_neg (by omega), if_pos h]
theorem note3 {K At N V : Nat → Int} {k : Nat} (h : K k % 5 = 3) : noteEv K At N V k = ⟨5, At k, Ct.count (N k)⟩ := by unfold noteEv; rw [if_neg (by omega), if_neg (by omega), if_neg (by omega), if_pos h]
theorem note4 {K At N V : Nat → Int} {k : Nat} (h : K k % 5 = 4) : noteEv K At N V k = ⟨3, 0, V k⟩ := by unfold noteEv; rw [if_neg (by omega), if_neg (by omega), if_neg (by omega), if_neg (by omega)]
attribute [local irreducible] noteEv noteEvs relv Ct.count
set_option maxRecDepth 20000 in
set_option maxHeartbeats 8000000 in
theorem CtLogs_any (w : World) (A : Option Addr) (n c : Nat) (K At N V : Nat → Int) (hA : 0 < n → ∃ b off, A = some ⟨b, off, none⟩ ∧ b < w.heap.size ∧ ∀ i, i < n → w.cell? ⟨b, off + i * 4, none⟩ = some (.int .u8 (K i)) ∧ w.cell? ⟨b, off + i * 4 + 1, none⟩ = some (.int .i64 (At i)) ∧ w.cell? ⟨b, off + i * 4 + 2, none⟩ = some (.int .i64 (N i)) ∧ w.cell? ⟨b, off + i * 4 + 3, none⟩ = some (.int .u32 (V i)))
    (hn : n ≤ 9223372036854775807) (hK : ∀ i, 0 ≤ K i ∧ K i < 256) (hN : ∀ i, -9223372036854775808 ≤ N i ∧ N i ≤ 9223372036854775807) (hV : ∀ i, 0 ≤ V i ∧ V i < 4294967296) :
    Calls Try.prog 8 #[.slice A n c] w fun e w' => e = .returned (.bool true) ∧ Below w.heap.size w w' := by
  by_cases h100 : 100 < n
  · clear hA
    go_enter Try.func8, Try.ntmps8
    go_wp2_with (first | (go_at_call 15; refine (awake01_any _).mono ?_; rintro e w1 ⟨rfl, hb⟩; have hcf := bcell hb; (try simp only [World.size_alloc, World.size_setCell, World.size_drew] at hcf); have hz := hb.size; (try simp only [World.size_alloc, World.size_setCell, World.size_drew] at hz); have hbh := Lib.hid hb; clear hb; obtain ⟨hc, hf⟩ := hcf))
    go_ret
    refine ⟨rfl, ?_⟩
    (repeat' (first | exact Below.refl _ _ | refine bl_set (by (first | omega | (simp; done) | (simp; omega))) ?_ _ | refine bl_alloc (by (first | omega | (simp; done) | (simp; omega))) ?_ _ | refine bl_drewN ?_ _ | refine bl_drew ?_ | refine bl_then (by assumption) ?_ (by (first | omega | (simp; done) | (simp; omega))) | refine Step.bl (by assumption) (by assumption) (by (first | omega | (simp; done) | (simp; omega))) (by (first | omega | (simp; done) | (simp; omega))) ?_))
  have HA := Lib.hid hA
  have HK := Lib.hid hK
  have HN := Lib.hid hN
  have HV := Lib.hid hV
  obtain ⟨i4, hi4, hz40, hz41, hz42⟩ := info_parts Try.infoEvent
  obtain ⟨i5, hi5, hz50, hz51, hz52⟩ := info_parts Try.infoU32L
  clear hA hK hN hV
  go_enter Try.func8, Try.ntmps8
  go_wp2_with (first | (go_at_call 15; refine (awake01_any _).mono ?_; rintro e w1 ⟨rfl, hb⟩; have hcf := bcell hb; (try simp only [World.size_alloc, World.size_setCell, World.size_drew] at hcf); have hz := hb.size; (try simp only [World.size_alloc, World.size_setCell, World.size_drew] at hz); have hbh := Lib.hid hb; clear hb; obtain ⟨hc, hf⟩ := hcf) | (go_at_call 38; refine (NewLog_any _).mono ?_; rintro e w2 ⟨p, F0, rfl, hL0, hlow0, hb2⟩; have HL0 := Lib.hid hL0; have HLow0 := Lib.hid hlow0; have HB2 := Lib.hid hb2; clear hL0 hlow0 hb2))
  have hB0 : Hid (Below w.heap.size w w2) := Lib.hid (bl_then HB2 hbh.out hz)
  have hz2 := HB2.out.size
  clear hc hf
  go_loopw [4, 5, 24] (fun s4 s5 i wr => ∃ (k : Nat) (v4 v5 : Value) (F : Nat → Prop), k ≤ n ∧ i = .int .i64 k ∧ s4 = v4 ∧ s5 = v5 ∧ St w wr F p (noteEvs K At N V k) k (noteEvs K At N V k) v4 (relv (noteEvs K At N V k)).length (relv (noteEvs K At N V k)) v5) (fun _ _ i _ => n - (intOf i).toNat)
  case atStart =>
    refine ⟨0, _, _, F0, Nat.zero_le _, rfl, rfl, rfl, ?_⟩
    rw [noteEvs_zero, relv_nil]
    exact ⟨HL0.out, fun i hi => Nat.le_trans hz (HLow0.out i hi), World.ownsRow_nil _ _ _ _, World.ownsRow_nil _ _ _ _, fun b hb => by (cases hb), fun b hb => by (cases hb), hB0.out⟩
  case round =>
    obtain ⟨k, v4, v5, F, hk, rfl, h4, h5, hSt⟩ := hrel
    replace h4 := h4.symm
    replace h5 := h5.symm
    subst h4
    subst h5
    have hWs := hSt.bl.size
    have hS := Lib.hid hSt
    by_cases hkn : k < n
    · obtain ⟨B, off, rfl, hB, hcell⟩ := HA.out (by omega)
      have g0 : wr.cell? ⟨B, off + k * 4, none⟩ = some (.int .u8 (K k)) := (hSt.bl.cell (p := ⟨B, off + k * 4, none⟩) hB).trans (hcell k hkn).1
      have g1 : wr.cell? ⟨B, off + k * 4 + 1, none⟩ = some (.int .i64 (At k)) := (hSt.bl.cell (p := ⟨B, off + k * 4 + 1, none⟩) hB).trans (hcell k hkn).2.1
      have g2 : wr.cell? ⟨B, off + k * 4 + 2, none⟩ = some (.int .i64 (N k)) := (hSt.bl.cell (p := ⟨B, off + k * 4 + 2, none⟩) hB).trans (hcell k hkn).2.2.1
      have g3 : wr.cell? ⟨B, off + k * 4 + 3, none⟩ = some (.int .u32 (V k)) := (hSt.bl.cell (p := ⟨B, off + k * 4 + 3, none⟩) hB).trans (hcell k hkn).2.2.2
      obtain ⟨q1, q2⟩ := HK.out k
      obtain ⟨q3, q4⟩ := HN.out k
      obtain ⟨q5, q6⟩ := HV.out k
      obtain ⟨M, hM⟩ : ∃ M, (if N k < 0 then (0 : Int) else N k) = M := ⟨_, rfl⟩
      obtain ⟨C, hC⟩ : ∃ C, (if 4294967295 < M then (4294967295 : Int) else M) = C := ⟨_, rfl⟩
      have hM0 : 0 ≤ M := by rw [← hM]; split <;> omega
      have hC3 : C % 4294967296 = C := by
        have : 0 ≤ C ∧ C ≤ 4294967295 := by rw [← hC]; split <;> omega
        omega
      have HCNT := Lib.hid (show Ct.count (N k) = C by rw [count_eq, hM, hC])
      clear hcell hSt hbh hz
      rcases (by omega : K k % 5 = 0 ∨ K k % 5 = 1 ∨ K k % 5 = 2 ∨ K k % 5 = 3 ∨ K k % 5 = 4) with hr | hr | hr | hr | hr
      · go_wp2_with (first | (go_at_call 39; refine (LLoad_any _ F p _ (At k) (hS.out.alloc _).lg (by rw [noteEvs_len]; omega)).mono ?_; rintro e wl ⟨rfl, F1, hL1, hs1⟩; have HL1 := Lib.hid hL1; have HS1 := Lib.hid hs1; have hzl := hs1.size; (try simp only [World.size_alloc, World.size_setCell, World.size_drew] at hzl); have hSl := Lib.hid ((hS.out.alloc _).step hs1 hL1); have b0 : wl.cell? ⟨wr.heap.size, 0, none⟩ = some (.int .u8 (K k)) := (World.cell?_of_block (a := ⟨wr.heap.size, 0, none⟩) (hs1.keep wr.heap.size (by simp) (fun hf => Nat.lt_irrefl _ (hS.out.lg.most _ hf)))).trans (by simp [go_sem]); have b1 : wl.cell? ⟨wr.heap.size, 1, none⟩ = some (.int .i64 (At k)) := (World.cell?_of_block (a := ⟨wr.heap.size, 1, none⟩) (hs1.keep wr.heap.size (by simp) (fun hf => Nat.lt_irrefl _ (hS.out.lg.most _ hf)))).trans (by simp [go_sem]); clear hL1 hs1) | (at_builtin; refine wpList_append_lies _ (by rfl) _ _ 49 (by rfl) w.heap.size 54 i4 _ 3 24 Try.underlying49 hi4 hz40 hz41 hz42 (by rfl) (by decide) _ k (evCells (noteEvs K At N V k)) (by rfl) (hSl.out.alloc _).o4 ⟨wl.heap.size, 0, none⟩ 1 1 [.int .i64 1, .int .i64 (At k), .int .u32 0] (by rfl) (by rfl) (World.news_of_block (heap_alloc_new _ _)) (by simp [Value.oneCell']) (by decide) (by simp only [maxLen]; omega) (by omega) (by simp; omega) (wl.heap.size + 1) (by simp) ?_; intro ga capa wa hown1 hg1 hat1 hlt1; have hOa := Lib.hid hown1; have hGa := Lib.hid hg1; have hTa := Lib.hid hat1; clear hown1 hg1 hat1))
        refine ⟨⟨k + 1, _, _, F1, by omega, by go_num, rfl, rfl, ?_⟩, by simp [intOf]; omega⟩
        have hev : noteEv K At N V k = ⟨1, At k, 0⟩ := by rw [note0 hr]
        have hX := (hSl.out.alloc (.cells #[.int .i64 1, .int .i64 (At k), .int .u32 0] 54)).app4 (e := ⟨1, At k, 0⟩) hOa.out hGa.out hTa.out (by simp)
        rw [noteEvs_succ, hev, relv_snoc, if_neg (show ¬ ((1 : Int) = 3) by decide)]
        exact hX
      · go_wp2_with (first | (go_at_call 40; refine (LStore_any _ F p _ (At k) (hS.out.alloc _).lg (by rw [noteEvs_len]; omega)).mono ?_; rintro e wl ⟨rfl, F1, hL1, hs1⟩; have HL1 := Lib.hid hL1; have HS1 := Lib.hid hs1; have hzl := hs1.size; (try simp only [World.size_alloc, World.size_setCell, World.size_drew] at hzl); have hSl := Lib.hid ((hS.out.alloc _).step hs1 hL1); have b0 : wl.cell? ⟨wr.heap.size, 0, none⟩ = some (.int .u8 (K k)) := (World.cell?_of_block (a := ⟨wr.heap.size, 0, none⟩) (hs1.keep wr.heap.size (by simp) (fun hf => Nat.lt_irrefl _ (hS.out.lg.most _ hf)))).trans (by simp [go_sem]); have b1 : wl.cell? ⟨wr.heap.size, 1, none⟩ = some (.int .i64 (At k)) := (World.cell?_of_block (a := ⟨wr.heap.size, 1, none⟩) (hs1.keep wr.heap.size (by simp) (fun hf => Nat.lt_irrefl _ (hS.out.lg.most _ hf)))).trans (by simp [go_sem]); clear hL1 hs1) | (at_builtin; refine wpList_append_lies _ (by rfl) _ _ 49 (by rfl) w.heap.size 54 i4 _ 3 24 Try.underlying49 hi4 hz40 hz41 hz42 (by rfl) (by decide) _ k (evCells (noteEvs K At N V k)) (by rfl) (hSl.out.alloc _).o4 ⟨wl.heap.size, 0, none⟩ 1 1 [.int .i64 2, .int .i64 (At k), .int .u32 0] (by rfl) (by rfl) (World.news_of_block (heap_alloc_new _ _)) (by simp [Value.oneCell']) (by decide) (by simp only [maxLen]; omega) (by omega) (by simp; omega) (wl.heap.size + 1) (by simp) ?_; intro ga capa wa hown1 hg1 hat1 hlt1; have hOa := Lib.hid hown1; have hGa := Lib.hid hg1; have hTa := Lib.hid hat1; clear hown1 hg1 hat1))
        refine ⟨⟨k + 1, _, _, F1, by omega, by go_num, rfl, rfl, ?_⟩, by simp [intOf]; omega⟩
        have hev : noteEv K At N V k = ⟨2, At k, 0⟩ := by rw [note1 hr]
        have hX := (hSl.out.alloc (.cells #[.int .i64 2, .int .i64 (At k), .int .u32 0] 54)).app4 (e := ⟨2, At k, 0⟩) hOa.out hGa.out hTa.out (by simp)
        rw [noteEvs_succ, hev, relv_snoc, if_neg (show ¬ ((2 : Int) = 3) by decide)]
        exact hX
      · go_wp2_with (first | (go_at_call 41; refine (LTake_any _ F p _ (At k) (N k) (hS.out.alloc _).lg (by rw [noteEvs_len]; omega) q3 q4).mono ?_; rintro e wl ⟨rfl, F1, hL1, hs1⟩; have HL1 := Lib.hid hL1; have HS1 := Lib.hid hs1; have hzl := hs1.size; (try simp only [World.size_alloc, World.size_setCell, World.size_drew] at hzl); have hSl := Lib.hid ((hS.out.alloc _).step hs1 hL1); have b0 : wl.cell? ⟨wr.heap.size, 0, none⟩ = some (.int .u8 (K k)) := (World.cell?_of_block (a := ⟨wr.heap.size, 0, none⟩) (hs1.keep wr.heap.size (by simp) (fun hf => Nat.lt_irrefl _ (hS.out.lg.most _ hf)))).trans (by simp [go_sem]); have b1 : wl.cell? ⟨wr.heap.size, 1, none⟩ = some (.int .i64 (At k)) := (World.cell?_of_block (a := ⟨wr.heap.size, 1, none⟩) (hs1.keep wr.heap.size (by simp) (fun hf => Nat.lt_irrefl _ (hS.out.lg.most _ hf)))).trans (by simp [go_sem]); clear hL1 hs1) | (at_builtin; refine wpList_append_lies _ (by rfl) _ _ 49 (by rfl) w.heap.size 54 i4 _ 3 24 Try.underlying49 hi4 hz40 hz41 hz42 (by rfl) (by decide) _ k (evCells (noteEvs K At N V k)) (by rfl) (hSl.out.alloc _).o4 ⟨wl.heap.size, 0, none⟩ 1 1 [.int .i64 4, .int .i64 (At k), .int .u32 C] (by rfl) (by rfl) (World.news_of_block (heap_alloc_new _ _)) (by simp [Value.oneCell']) (by decide) (by simp only [maxLen]; omega) (by omega) (by simp; omega) (wl.heap.size + 1) (by simp) ?_; intro ga capa wa hown1 hg1 hat1 hlt1; have hOa := Lib.hid hown1; have hGa := Lib.hid hg1; have hTa := Lib.hid hat1; clear hown1 hg1 hat1))
        refine ⟨⟨k + 1, _, _, F1, by omega, by go_num, rfl, rfl, ?_⟩, by simp [intOf]; omega⟩
        have hev : noteEv K At N V k = ⟨4, At k, C⟩ := by rw [note2 hr]; rw [HCNT.out]
        have hX := (hSl.out.alloc (.cells #[.int .i64 4, .int .i64 (At k), .int .u32 C] 54)).app4 (e := ⟨4, At k, C⟩) hOa.out hGa.out hTa.out (by simp)
        rw [HCNT.out] at hX
        rw [noteEvs_succ, hev, relv_snoc, if_neg (show ¬ ((4 : Int) = 3) by decide)]
        exact hX
      · go_wp2_with (first | (go_at_call 42; refine (LGive_any _ F p _ (At k) (N k) (hS.out.alloc _).lg (by rw [noteEvs_len]; omega) q3 q4).mono ?_; rintro e wl ⟨rfl, F1, hL1, hs1⟩; have HL1 := Lib.hid hL1; have HS1 := Lib.hid hs1; have hzl := hs1.size; (try simp only [World.size_alloc, World.size_setCell, World.size_drew] at hzl); have hSl := Lib.hid ((hS.out.alloc _).step hs1 hL1); have b0 : wl.cell? ⟨wr.heap.size, 0, none⟩ = some (.int .u8 (K k)) := (World.cell?_of_block (a := ⟨wr.heap.size, 0, none⟩) (hs1.keep wr.heap.size (by simp) (fun hf => Nat.lt_irrefl _ (hS.out.lg.most _ hf)))).trans (by simp [go_sem]); have b1 : wl.cell? ⟨wr.heap.size, 1, none⟩ = some (.int .i64 (At k)) := (World.cell?_of_block (a := ⟨wr.heap.size, 1, none⟩) (hs1.keep wr.heap.size (by simp) (fun hf => Nat.lt_irrefl _ (hS.out.lg.most _ hf)))).trans (by simp [go_sem]); clear hL1 hs1) | (at_builtin; refine wpList_append_lies _ (by rfl) _ _ 49 (by rfl) w.heap.size 54 i4 _ 3 24 Try.underlying49 hi4 hz40 hz41 hz42 (by rfl) (by decide) _ k (evCells (noteEvs K At N V k)) (by rfl) (hSl.out.alloc _).o4 ⟨wl.heap.size, 0, none⟩ 1 1 [.int .i64 5, .int .i64 (At k), .int .u32 C] (by rfl) (by rfl) (World.news_of_block (heap_alloc_new _ _)) (by simp [Value.oneCell']) (by decide) (by simp only [maxLen]; omega) (by omega) (by simp; omega) (wl.heap.size + 1) (by simp) ?_; intro ga capa wa hown1 hg1 hat1 hlt1; have hOa := Lib.hid hown1; have hGa := Lib.hid hg1; have hTa := Lib.hid hat1; clear hown1 hg1 hat1))
        refine ⟨⟨k + 1, _, _, F1, by omega, by go_num, rfl, rfl, ?_⟩, by simp [intOf]; omega⟩
        have hev : noteEv K At N V k = ⟨5, At k, C⟩ := by rw [note3 hr]; rw [HCNT.out]
        have hX := (hSl.out.alloc (.cells #[.int .i64 5, .int .i64 (At k), .int .u32 C] 54)).app4 (e := ⟨5, At k, C⟩) hOa.out hGa.out hTa.out (by simp)
        rw [HCNT.out] at hX
        rw [noteEvs_succ, hev, relv_snoc, if_neg (show ¬ ((5 : Int) = 3) by decide)]
        exact hX
      · have hrl := relv_len (noteEvs K At N V k)
        rw [noteEvs_len] at hrl
        have hnF : ¬ F wr.heap.size := fun hf => Nat.lt_irrefl _ (hS.out.lg.most _ hf)
        have HNF := Lib.hid hnF
        clear hnF
        go_wp2_with fail
        go_region_held3 (fun w' => w'.cell? ⟨wr.heap.size, 3, none⟩ = some (.int .u32 (V k)) ∧ wr.heap.size < w'.heap.size) ((first | (refine ⟨?_, ?_⟩ <;> first | (simp [go_sem, ↓IntWalk.iteOmega, *]; done) | omega | (simp; omega)) | (simp [go_sem, ↓IntWalk.iteOmega, *]; done) | omega | (simp; omega))) (first | first | (go_at_call 16; refine (Of_any _ _).mono ?_; rintro e w1 ⟨rfl, hb⟩; have hcf := bcell hb; (try simp only [World.size_alloc, World.size_setCell, World.size_drew] at hcf); have hz := hb.size; (try simp only [World.size_alloc, World.size_setCell, World.size_drew] at hz); have hbh := Lib.hid hb; clear hb; obtain ⟨hc, hf⟩ := hcf) | (go_at_call 43; refine (Release_st (w0 := w) (F := F) (l := (noteEvs K At N V k)) (n4 := k) (e4 := (noteEvs K At N V k)) (v4 := v4) (n5 := (relv (noteEvs K At N V k)).length) (t5 := relv (noteEvs K At N V k)) (v5 := v5) (by (repeat' (first | exact hS.out | refine St.alloc ?_ _ | refine St.drewN ?_ _ | refine St.drew ?_ | refine St.belowH ?_ (by assumption)))) (by rw [noteEvs_len]; omega) _).mono ?_; rintro e w3 ⟨rfl, F1, hS3', hk3, hz3⟩; have hS3 := Lib.hid hS3'; (try simp only [World.size_alloc, World.size_setCell, World.size_drew] at hz3); have c33 : w3.cell? ⟨wr.heap.size, 3, none⟩ = some (.int .u32 (V k)) := (hk3 wr.heap.size 3 (by first | omega | (simp; omega)) HNF.out).trans (by simp [go_sem, ↓IntWalk.iteOmega, *]); clear hS3' hk3))
        all_goals
          have hz33 : wr.heap.size < w3.heap.size := by omega
          go_wp2_with fail
          go_region_held_law (fun w' => w'.cell? ⟨wr.heap.size, 3, none⟩ = some (.int .u32 (V k)) ∧ wr.heap.size < w'.heap.size) (first | (refine ⟨?_, ?_⟩ <;> first | assumption | (simp [go_sem, ↓IntWalk.iteOmega, *]; done) | omega | (simp; omega)) | assumption | (simp [go_sem, ↓IntWalk.iteOmega, *]; done) | omega | (simp; omega)) ((first | (refine step_append_lies _ (by rfl) _ _ 49 (by rfl) w.heap.size 54 i4 _ 3 24 Try.underlying49 hi4 hz40 hz41 hz42 (by rfl) (by decide) _ k (evCells (noteEvs K At N V k)) (by rfl) (St.o4 (F := F1) (p := p) (l := (noteEvs K At N V k) ++ [⟨3, 0, V k⟩]) (n5 := (relv (noteEvs K At N V k)).length) (t5 := relv (noteEvs K At N V k)) (v5 := v5) (by (repeat' (first | exact hS3.out | refine St.alloc ?_ _ | refine St.drewN ?_ _ | refine St.drew ?_ | refine St.belowH ?_ (by assumption))))) _ 1 1 [.int .i64 3, .int .i64 0, .int .u32 (V k)] (by rfl) (by rfl) (by first | exact World.news_of_block (heap_alloc_new _ _) | exact World.news_of_block (alloc2_new1 _ _ _) | exact World.news_of_block (alloc2_old1 _ _ _) | exact World.news_of_block ((HG1.out.block _ (by first | omega | (simp; done) | (simp; omega)) (fun h => by (have h9 := own_lt hS.out.o4 _ h.symm; first | omega | (simp at h9; omega)))).trans (by first | exact heap_alloc_new _ _ | exact alloc2_new1 _ _ _ | exact alloc2_old1 _ _ _))) (by simp [Value.oneCell']) (by decide) (by simp only [maxLen]; omega) (by omega) (by simp; omega) _ rfl ?_; intro ga capa wa hown1 hg1 hat1 hlt1; have hS4 := Lib.hid (St.app4 (e := ⟨3, 0, V k⟩) (w0 := w) (F := F1) (p := p) (l := (noteEvs K At N V k) ++ [⟨3, 0, V k⟩]) (n5 := (relv (noteEvs K At N V k)).length) (t5 := relv (noteEvs K At N V k)) (v5 := v5) (by (repeat' (first | exact hS3.out | refine St.alloc ?_ _ | refine St.drewN ?_ _ | refine St.drew ?_ | refine St.belowH ?_ (by assumption)))) hown1 hg1 hat1 rfl); have hza := hg1.size; (try simp only [World.size_alloc, World.size_setCell, World.size_drew] at hza); have hz34 : wr.heap.size < wa.heap.size := Nat.lt_of_lt_of_le (by first | assumption | omega | (simp; omega)) hg1.size; have c34 : wa.cell? ⟨wr.heap.size, 3, none⟩ = some (.int .u32 (V k)) := World.grownBy.cell hg1 (by first | assumption | (simp [go_sem, ↓IntWalk.iteOmega, *]; done)) (fun h => Nat.lt_irrefl _ (own_lt hS.out.o4 _ h.symm)); have HG1 := Lib.hid hg1; clear hown1 hg1 hat1) | (refine step_append_lies _ (by rfl) _ _ 36 (by rfl) w.heap.size 22 i5 _ 1 4 Try.underlying36 hi5 hz50 hz51 hz52 (by rfl) (by decide) _ (relv (noteEvs K At N V k)).length (u32s (relv (noteEvs K At N V k))) (by rfl) (St.o5 (F := F1) (p := p) (l := (noteEvs K At N V k) ++ [⟨3, 0, V k⟩]) (n4 := k + 1) (e4 := (noteEvs K At N V k) ++ [⟨3, 0, V k⟩]) (v4 := .slice (some ⟨ga, 0, none⟩) (k + 1) capa) (by (repeat' (first | exact hS4.out | refine St.alloc ?_ _ | refine St.drewN ?_ _ | refine St.drew ?_ | refine St.belowH ?_ (by assumption))))) _ 1 1 [.int .u32 (V k)] (by rfl) (by rfl) (by first | exact World.news_of_block (heap_alloc_new _ _) | exact World.news_of_block (alloc2_new1 _ _ _) | exact World.news_of_block (alloc2_old1 _ _ _) | exact World.news_of_block ((HG1.out.block _ (by first | omega | (simp; done) | (simp; omega)) (fun h => by (have h9 := own_lt hS.out.o4 _ h.symm; first | omega | (simp at h9; omega)))).trans (by first | exact heap_alloc_new _ _ | exact alloc2_new1 _ _ _ | exact alloc2_old1 _ _ _))) (by simp [Value.oneCell']) (by decide) (by simp only [maxLen]; omega) (by omega) (by first | omega | (simp; omega)) _ rfl ?_; intro gb capb wb hown1 hg1 hat1 hlt1; have hS5 := Lib.hid (St.app5 (x := V k) (w0 := w) (F := F1) (p := p) (l := (noteEvs K At N V k) ++ [⟨3, 0, V k⟩]) (n4 := k + 1) (e4 := (noteEvs K At N V k) ++ [⟨3, 0, V k⟩]) (v4 := .slice (some ⟨ga, 0, none⟩) (k + 1) capa) (by (repeat' (first | exact hS4.out | refine St.alloc ?_ _ | refine St.drewN ?_ _ | refine St.drew ?_ | refine St.belowH ?_ (by assumption)))) hown1 hg1 hat1 rfl); have hzb := hg1.size; (try simp only [World.size_alloc, World.size_setCell, World.size_drew] at hzb); have c35 : wb.cell? ⟨wr.heap.size, 3, none⟩ = some (.int .u32 (V k)) := World.grownBy.cell hg1 (by first | assumption | (simp [go_sem, ↓IntWalk.iteOmega, *]; done)) (fun h => Nat.lt_irrefl _ (own_lt hS.out.o5 _ h.symm)); have hz35 : wr.heap.size < wb.heap.size := Nat.lt_of_lt_of_le (by first | assumption | omega | (simp; omega)) hg1.size; clear hown1 hg1 hat1)))
        all_goals (go_wp2_with fail)
        all_goals
          refine ⟨⟨k + 1, _, _, F1, by omega, by go_num, rfl, rfl, ?_⟩, by simp [intOf]; omega⟩
          rw [noteEvs_succ, note4 hr, relv_snoc, if_pos rfl, List.length_append]
          exact hS5.out
    · have hkn' : k = n := by omega
      have hEl := noteEvs_len K At N V n
      have hS0 := hS.out
      rw [hkn'] at hS0
      obtain ⟨E, hE⟩ : ∃ E, noteEvs K At N V n = E := ⟨_, rfl⟩
      rw [hE] at hS0 hEl
      have HKN := Lib.hid hkn'
      have hS := Lib.hid hS0
      have hrl := relv_len E
      obtain ⟨A4, c4, rfl⟩ := own_slice hS.out.o4
      obtain ⟨A5, c5, rfl⟩ := own_slice hS.out.o5
      clear hkn' hE hSt hS0 hbh hz
      go_wp2_with (first | (go_at_call 44; refine (Events_any _ F p E (by exact hS.out.lg) (by omega)).mono ?_; rintro e w9 ⟨v9, rfl, hown, hb⟩; obtain ⟨A9, c9, rfl⟩ := own_slice hown; have HO9 := Lib.hid hown; have hS9 := Lib.hid (hS.out.below hb); have HB9 := Lib.hid hb; clear hown hb) | (go_at_call 45; refine (Blind_any _ F p E (by exact hS9.out.lg) (by omega)).mono ?_; rintro e w10 ⟨v10, rfl, hown, hb⟩; obtain ⟨A10, c10, rfl⟩ := own_slice hown; have HO10 := Lib.hid hown; have hS10 := Lib.hid (hS9.out.below hb); have HB10 := Lib.hid hb; have HO910 := Lib.hid (pw_own HO9.out HB10); clear hown hb) | (go_at_call 46; refine (Released_any _ F p E (by exact hS10.out.lg) (by omega)).mono ?_; rintro e w11 ⟨v11, rfl, hown, hb⟩; obtain ⟨A11, c11, rfl⟩ := own_slice hown; have HO11 := Lib.hid hown; have hS11 := Lib.hid (hS10.out.below hb); have HB11 := Lib.hid hb; clear hown hb) | (go_at_call 47; refine (Len_any _ F p E (by exact hS11.out.lg)).mono ?_; rintro e w12 ⟨rfl, rfl⟩))
      have h9 := (pw_own HO910.out HB11).1
      have HO9b := Lib.hid (pw_own HO910.out HB11)
      have HO10b := Lib.hid (pw_own HO10.out HB11)
      have hBW := Lib.hid hS11.out.bl
      have hzW := hBW.out.size
      clear h9
      go_loopw [146] (fun i ws => ∃ q : Nat, q ≤ n ∧ i = .int .i64 q ∧ Below w11.heap.size w11 ws) (fun i _ => n - (intOf i).toNat)
      case atStart => exact ⟨0, Nat.zero_le _, rfl, Below.refl _ _⟩
      case round =>
        obtain ⟨q, hq, rfl, hB1⟩ := hrel
        have hzs := hB1.size
        have HB1 := Lib.hid hB1
        clear hB1
        by_cases hqn : q < n
        · obtain ⟨g4, rfl, hg4, x0, x1, x2⟩ := own_ev hS11.out.o4 hEl hqn
          obtain ⟨g9, rfl, hg9, y0, y1, y2⟩ := own_ev HO9b.out rfl (q := q) (by omega)
          obtain ⟨g10, rfl, hg10, z0, z1, z2⟩ := own_ev HO10b.out (by rw [blind, List.length_map]) (q := q) (by omega)
          rw [blind_at E q (by omega)] at z0 z1 z2
          obtain ⟨e, he⟩ : ∃ e, E.getD q evDef = e := ⟨_, rfl⟩
          rw [he] at x0 x1 x2 y0 y1 y2 z0 z1 z2
          have X0 := (HB1.out.cell (p := ⟨g4, q * 3, none⟩) hg4).trans x0
          have X1 := (HB1.out.cell (p := ⟨g4, q * 3 + 1, none⟩) hg4).trans x1
          have X2 := (HB1.out.cell (p := ⟨g4, q * 3 + 2, none⟩) hg4).trans x2
          have Y0 := (HB1.out.cell (p := ⟨g9, q * 3, none⟩) hg9).trans y0
          have Y1 := (HB1.out.cell (p := ⟨g9, q * 3 + 1, none⟩) hg9).trans y1
          have Y2 := (HB1.out.cell (p := ⟨g9, q * 3 + 2, none⟩) hg9).trans y2
          have Z0 := (HB1.out.cell (p := ⟨g10, q * 3, none⟩) hg10).trans z0
          have Z1 := (HB1.out.cell (p := ⟨g10, q * 3 + 1, none⟩) hg10).trans z1
          have Z2 := (HB1.out.cell (p := ⟨g10, q * 3 + 2, none⟩) hg10).trans z2
          have hg4' : g4 < wr.heap.size := by omega
          have hg9' : g9 < wr.heap.size := by omega
          have hg10' : g10 < wr.heap.size := by omega
          clear x0 x1 x2 y0 y1 y2 z0 z1 z2
          by_cases h3 : e.k = 3
          · rw [blind1, if_pos h3] at Z0 Z1 Z2
            dsimp only at Z0 Z1 Z2
            rw [h3] at X0 Y0 Z0
            clear h3
            go_wp2_with fail
            go_region_held3 (fun w' => w'.cell? ⟨g9, q * 3, none⟩ = some (.int .i64 3) ∧ w'.cell? ⟨g9, q * 3 + 1, none⟩ = some (.int .i64 e.i) ∧ w'.cell? ⟨g9, q * 3 + 2, none⟩ = some (.int .u32 e.v) ∧ w'.cell? ⟨wr.heap.size, 0, none⟩ = some (.int .i64 3) ∧ w'.cell? ⟨wr.heap.size, 1, none⟩ = some (.int .i64 e.i) ∧ w'.cell? ⟨wr.heap.size, 2, none⟩ = some (.int .u32 e.v)) ((simp [go_sem, ↓IntWalk.iteOmega, *]; done)) (fail)
            all_goals (go_wp2_with fail)
            all_goals go_region_held3 (fun w' => w'.cell? ⟨g10, q * 3, none⟩ = some (.int .i64 3) ∧ w'.cell? ⟨g10, q * 3 + 1, none⟩ = some (.int .i64 e.i) ∧ w'.cell? ⟨g10, q * 3 + 2, none⟩ = some (.int .u32 0) ∧ w'.cell? ⟨wr.heap.size, 0, none⟩ = some (.int .i64 3) ∧ w'.cell? ⟨wr.heap.size, 1, none⟩ = some (.int .i64 e.i) ∧ w'.cell? ⟨wr.heap.size, 2, none⟩ = some (.int .u32 0)) ((simp [go_sem, ↓IntWalk.iteOmega, *]; done)) (fail)
            all_goals (go_wp2_with fail)
            all_goals
              refine ⟨⟨q + 1, by omega, by go_num, ?_⟩, by simp [intOf]; omega⟩
              have HB' := HB1.out
              (repeat' (first | exact Below.refl _ _ | refine bl_set (by (first | omega | (simp; done) | (simp; omega))) ?_ _ | refine bl_alloc (by (first | omega | (simp; done) | (simp; omega))) ?_ _ | refine bl_drewN ?_ _ | refine bl_drew ?_ | refine bl_then (by assumption) ?_ (by (first | omega | (simp; done) | (simp; omega))) | refine Step.bl (by assumption) (by assumption) (by (first | omega | (simp; done) | (simp; omega))) (by (first | omega | (simp; done) | (simp; omega))) ?_))
          · rw [blind1, if_neg h3] at Z0 Z1 Z2
            have h3' : (e.k == 3) = false := by simpa using h3
            go_wp2_with fail
            go_region_held3 (fun w' => w'.cell? ⟨g9, q * 3, none⟩ = some (.int .i64 e.k) ∧ w'.cell? ⟨g9, q * 3 + 1, none⟩ = some (.int .i64 e.i) ∧ w'.cell? ⟨g9, q * 3 + 2, none⟩ = some (.int .u32 e.v) ∧ w'.cell? ⟨wr.heap.size, 0, none⟩ = some (.int .i64 e.k) ∧ w'.cell? ⟨wr.heap.size, 1, none⟩ = some (.int .i64 e.i) ∧ w'.cell? ⟨wr.heap.size, 2, none⟩ = some (.int .u32 e.v)) ((simp [go_sem, ↓IntWalk.iteOmega, *]; done)) (fail)
            all_goals (go_wp2_with fail)
            all_goals go_region_held3 (fun w' => w'.cell? ⟨g10, q * 3, none⟩ = some (.int .i64 e.k) ∧ w'.cell? ⟨g10, q * 3 + 1, none⟩ = some (.int .i64 e.i) ∧ w'.cell? ⟨g10, q * 3 + 2, none⟩ = some (.int .u32 e.v) ∧ w'.cell? ⟨wr.heap.size, 0, none⟩ = some (.int .i64 e.k) ∧ w'.cell? ⟨wr.heap.size, 1, none⟩ = some (.int .i64 e.i) ∧ w'.cell? ⟨wr.heap.size, 2, none⟩ = some (.int .u32 e.v)) ((simp [go_sem, ↓IntWalk.iteOmega, *]; done)) (fail)
            all_goals (go_wp2_with fail)
            all_goals
              refine ⟨⟨q + 1, by omega, by go_num, ?_⟩, by simp [intOf]; omega⟩
              have HB' := HB1.out
              (repeat' (first | exact Below.refl _ _ | refine bl_set (by (first | omega | (simp; done) | (simp; omega))) ?_ _ | refine bl_alloc (by (first | omega | (simp; done) | (simp; omega))) ?_ _ | refine bl_drewN ?_ _ | refine bl_drew ?_ | refine bl_then (by assumption) ?_ (by (first | omega | (simp; done) | (simp; omega))) | refine Step.bl (by assumption) (by assumption) (by (first | omega | (simp; done) | (simp; omega))) (by (first | omega | (simp; done) | (simp; omega))) ?_))
        · have hge : n ≤ q := by omega
          go_wp2_with fail
          obtain ⟨m, hm⟩ : ∃ m, (relv E).length = m := ⟨_, rfl⟩
          have HM := Lib.hid hm
          have hm100 : m ≤ 100 := by omega
          rw [hm]
          clear hm hrl
          go_loopw [170] (fun i ws => ∃ q : Nat, q ≤ m ∧ i = .int .i64 q ∧ Below w11.heap.size w11 ws) (fun i _ => m - (intOf i).toNat)
          case atStart => exact ⟨0, Nat.zero_le _, rfl, HB1.out⟩
          case round =>
            obtain ⟨r, hr, rfl, hB2⟩ := hrel
            have HB2 := Lib.hid hB2
            have hzs2 := hB2.size
            clear hB2
            by_cases hrm : r < m
            · obtain ⟨g5, rfl, hg5, x0⟩ := own_word hS11.out.o5 (q := r) (by rw [HM.out]; exact hrm)
              obtain ⟨g11, rfl, hg11, y0⟩ := own_word HO11.out (q := r) (by rw [HM.out]; exact hrm)
              obtain ⟨v, hv⟩ : ∃ v, (relv E).getD r 0 = v := ⟨_, rfl⟩
              rw [hv] at x0 y0
              have X0 := (HB2.out.cell (p := ⟨g5, r, none⟩) hg5).trans x0
              have Y0 := (HB2.out.cell (p := ⟨g11, r, none⟩) hg11).trans y0
              clear x0 y0 hv
              go_wp2_with fail
              exact ⟨⟨r + 1, by omega, by go_num, HB2.out⟩, by simp [intOf]; omega⟩
            · have hge : m ≤ r := by omega
              go_wp2_with fail
              go_ret
              exact ⟨rfl, bl_then HB2 hBW.out hzW⟩
end Go.Proofs.Ytcaaapfminenoaa
