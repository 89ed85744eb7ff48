/- The law of scan: ScanCarries. No condition. -/
import Derived.Test.YtdakbejppnijdaaSaU
namespace Go.Proofs.Ytdakbejppnijdaa
open Go.RowKit
set_option linter.unusedSimpArgs false
set_option linter.unusedVariables false
attribute [local go_sem] IntKind.wrap_u32' signed_u32 max_u32
attribute [local go_sem ↓] Go.wp_at_zero Go.wp_at_succ
attribute [local go_sem] Calm.C
attribute [local go_sem low] Calm.al_cell Calm.al_frozen
theorem rEndF {w : World} {A B : Option Addr} {n : Nat} {f h : Nat → Nat} (hA : Sj.Cl .u32 w A n f) (hB : Sj.Cl .u32 w B n h) (hh : ∀ i, h i < 4294967296) (hn : n ≤ 1000) (c d : Nat) :
    Calls Try.prog 38 #[.slice A n c, .slice B n d, .bool false] w fun e w' => e = .returned (.tuple #[.int .u32 (Sa.ev1 f h n : Nat), .bool (Sa.an h n)]) ∧ w' = w := rEnd05_any hA hB hh hn c d false
theorem rEndT {w : World} {A B : Option Addr} {n : Nat} {f h : Nat → Nat} (hA : Sj.Cl .u32 w A n f) (hB : Sj.Cl .u32 w B n h) (hh : ∀ i, h i < 4294967296) (hn : n ≤ 1000) (c d : Nat) :
    Calls Try.prog 38 #[.slice A n c, .slice B n d, .bool true] w fun e w' => e = .returned (.tuple #[.int .u32 (Sa.lv f h n : Nat), .bool (Sa.an h n)]) ∧ w' = w := rEnd05_any hA hB hh hn c d true
theorem Sa.two_n (n : Nat) : Sa.Two (n + n) ((0 : Nat) : Int) (n : Int) (n : Int) := by
  unfold Sa.Two
  omega
theorem saFirst_l {w : World} {p g lp : Nat} {FL : Nat → Prop} {n : Nat} {f h : Nat → Nat} {evs : List Ev} (ha : Ar w p g lp FL (Sa.la n n f h) (n + n) evs) (hf : ∀ i, f i < 4294967296) (hh : ∀ i, h i < 4294967296) (he : evs.length < 900000000000) :
    Calls Try.prog 36 #[.pointer (some ⟨p, 0, none⟩), .int .i64 0, .int .i64 n, .int .i64 n] w fun e w' => e = .returned (.tuple #[.agg #[.int .u32 (Sa.ev1 f h n : Nat)], .agg #[.int .u32 (Ct.Mask (Sa.an h n))], .bool true]) ∧ ∃ FL' E', Ar w' p g lp FL' (Sa.la n n f h) (n + n) E' ∧ E'.length = evs.length + 2 * n ∧ Step (AF p g FL) (AF p g FL') w w' := by
  have hs := saFirst_t ha he 0 n n (Sa.two_n n)
  rw [Sa.mt_first f h n hf hh] at hs
  refine hs.mono ?_
  rintro e w' ⟨rfl, FL', hA, hst⟩
  exact ⟨rfl, FL', _, hA, by rw [List.length_append, Sa.em_len, Sa.ds_len], hst⟩
theorem saLast_l {w : World} {p g lp : Nat} {FL : Nat → Prop} {n : Nat} {f h : Nat → Nat} {evs : List Ev} (ha : Ar w p g lp FL (Sa.la n n f h) (n + n) evs) (hf : ∀ i, f i < 4294967296) (hh : ∀ i, h i < 4294967296) (he : evs.length < 900000000000) :
    Calls Try.prog 37 #[.pointer (some ⟨p, 0, none⟩), .int .i64 0, .int .i64 n, .int .i64 n] w fun e w' => e = .returned (.tuple #[.agg #[.int .u32 (Sa.lv f h n : Nat)], .agg #[.int .u32 (Ct.Mask (Sa.an h n))], .bool true]) ∧ ∃ FL' E', Ar w' p g lp FL' (Sa.la n n f h) (n + n) E' ∧ E'.length = evs.length + 2 * n ∧ Step (AF p g FL) (AF p g FL') w w' := by
  have hs := saLast_t ha he 0 n n (Sa.two_n n)
  rw [Sa.mt_last f h n hf hh n (Nat.le_refl n)] at hs
  refine hs.mono ?_
  rintro e w' ⟨rfl, FL', hA, hst⟩
  exact ⟨rfl, FL', _, hA, by rw [List.length_append, Sa.em_len, Sa.us_len], hst⟩
theorem saCarry_l {w : World} {p g lp : Nat} {FL : Nat → Prop} {n : Nat} {f h : Nat → Nat} {evs : List Ev} (ha : Ar w p g lp FL (Sa.la n n f h) (n + n) evs) (hf : ∀ i, f i < 4294967296) (hh : ∀ i, h i < 4294967296) (he : evs.length < 900000000000) :
    Calls Try.prog 41 #[.pointer (some ⟨p, 0, none⟩), .int .i64 0, .int .i64 n, .int .i64 n] w fun e w' => e = .returned (.bool true) ∧ ∃ FL' ws' E', Ar w' p g lp FL' ws' (n + n) E' ∧ E'.length = evs.length + 3 * n ∧ (∀ j, j < n → ws'.getD (0 + j) 0 = (Sa.lv f h (j + 1) : Nat)) ∧ (∀ j, j < n → ws'.getD (n + j) 0 = (h j : Nat)) ∧ Step (AF p g FL) (AF p g FL') w w' := by
  have hk := Sa.fl_carry f h n hf hh
  refine (saCarry_t ha he 0 n n (Sa.two_n n)).mono ?_
  rintro e w' ⟨rfl, FL', hA, hst⟩
  exact ⟨rfl, FL', _, _, hA, by rw [List.length_append, Sa.ef_len, Sa.us_len], hk.1, hk.2, hst⟩
theorem saBack_l {w : World} {p g lp : Nat} {FL : Nat → Prop} {n : Nat} {f h : Nat → Nat} {evs : List Ev} (ha : Ar w p g lp FL (Sa.la n n f h) (n + n) evs) (hf : ∀ i, f i < 4294967296) (hh : ∀ i, h i < 4294967296) (he : evs.length < 900000000000) :
    Calls Try.prog 40 #[.pointer (some ⟨p, 0, none⟩), .int .i64 0, .int .i64 n, .int .i64 n] w fun e w' => e = .returned (.bool true) ∧ ∃ FL' ws' E', Ar w' p g lp FL' ws' (n + n) E' ∧ E'.length = evs.length + 3 * n ∧ (∀ j, j < n → ws'.getD (0 + j) 0 = (Sa.bw f h n (n - j) : Nat)) ∧ (∀ j, j < n → ws'.getD (n + j) 0 = (h j : Nat)) ∧ Step (AF p g FL) (AF p g FL') w w' := by
  have hk := Sa.fl_back f h n hf hh
  refine (saBack_t ha he 0 n n (Sa.two_n n)).mono ?_
  rintro e w' ⟨rfl, FL', hA, hst⟩
  exact ⟨rfl, FL', _, _, hA, by rw [List.length_append, Sa.ef_len, Sa.ds_len], hk.1, hk.2, hst⟩
attribute [local irreducible] putw stEvs shEvs Sa.la Sa.lv Sa.ev1 Sa.an Sa.bw Sa.od wcells Sa.mt Sa.fl Sa.em Sa.ef Ct.Mask
set_option maxRecDepth 100000 in
set_option maxHeartbeats 8000000 in
theorem ScanCarries_false {w : World} {A B : Option Addr} {n : Nat} {f h : Nat → Nat} (hA : Sj.Cl .u32 w A n f) (hB : Sj.Cl .u32 w B n h) (hf : ∀ i, f i < 4294967296) (hh : ∀ i, h i < 4294967296) (h60 : n ≤ 60) (c d : Nat) :
    Calls Try.prog 6 #[.slice A n c, .slice B n d, .bool false] w fun e w' => e = .returned (.bool true) ∧ Below w.heap.size w w' := by
  have hd1 := decide_eq_false (show ¬ (60 : Int) < (n : Int) by omega)
  have hEq1 : (1 + (n : Int) + (n : Int) + 2 * (n : Int) + 2 * (n : Int) - (1 + (n : Int) + (n : Int))) = 4 * n := by omega
  have hEq2 : (1 + (n : Int) + (n : Int) + 2 * (n : Int) + 2 * (n : Int) + 3 * (n : Int) - (1 + (n : Int) + (n : Int) + 2 * (n : Int) + 2 * (n : Int))) = 3 * n := by omega
  have HA := Lib.hid hA
  have HB := Lib.hid hB
  have HF := Lib.hid hf
  have HH := Lib.hid hh
  clear hA hB hf hh
  go_enter Try.func6, Try.ntmps6
  go_wp2_with (first
    | (first | (go_at_call 13; refine (awake05_any _).mono ?_; rintro e wq ⟨rfl, hb⟩; have hcf_wq := bcell hb; (try simp only [World.size_alloc, World.size_setCell, drew_size] at hcf_wq); have hz_wq := hb.size; (try simp only [World.size_alloc, World.size_setCell, World.size_drew] at hz_wq); have hbh_wq := Lib.hid hb; clear hb; obtain ⟨hc_wq, hf_wq⟩ := hcf_wq))
    | (go_at_call 14; with_reducible refine (saLay_e (HA.out.below (Nat.le_refl _) hbh_wq.out) (HB.out.below (Nat.le_refl _) hbh_wq.out) (by omega) (by omega) c d).mono ?_; rintro e wl ⟨p, q, lp, F0, E0, rfl, hA0, hE0, hlow, hb⟩; have HL0 := Lib.hid hA0; have LOW := Lib.hid hlow; have BL := Lib.hid hb; have zl := hb.size; clear hA0 hlow hb)
    | (go_at_call 15; with_reducible refine (ALog_any HL0.out).mono ?_; rintro e w1 ⟨rfl, hw1⟩; subst hw1)
    | (go_at_call 16; with_reducible refine (Len_any _ _ _ _ HL0.out.lg).mono ?_; rintro e w1 ⟨rfl, hw1⟩; subst hw1))
  have z1 : w.heap.size ≤ w1.heap.size := Nat.le_trans hz_wq zl
  have B1 := Lib.hid (bl_then BL hbh_wq.out hz_wq)
  have L1 := Lib.hid (fun i hi => Nat.le_trans hz_wq (LOW.out i hi))
  clear hc_wq hf_wq BL LOW hbh_wq
  refine (saFirst_l HL0.out HF.out HH.out (by omega)).mono ?_
  rintro e w2 ⟨rfl, F2, E2, hA2, hE2, hs2⟩
  have H2 := Lib.hid hA2
  have B2 := Lib.hid (hs2.below B1.out z1 L1.out)
  have L2 := Lib.hid (hs2.low (B := w.heap.size) z1 L1.out)
  have z2 : w.heap.size ≤ w2.heap.size := B2.out.size
  clear hA2 hs2 HL0 B1 L1
  go_wp2_with fail
  refine (saLast_l ((H2.out.alloc _).alloc _) HF.out HH.out (by omega)).mono ?_
  rintro e w3 ⟨rfl, F3, E3, hA3, hE3, hs3⟩
  have m0 : ¬ AF p q F2 w2.heap.size := fun hf => Nat.lt_irrefl _ (H2.out.most _ hf)
  have m1 : ¬ AF p q F2 (w2.heap.size + 1) := fun hf => by have := H2.out.most _ hf; omega
  have c10 := (old_cell (o := 0) hs3 (b := w2.heap.size) (by simp only [World.size_alloc]; omega) m0).trans ((((Blk.new w2 32 #[.int .u32 (Sa.ev1 f h n : Nat)]).alloc (.cells #[.int .u32 (Ct.Mask (Sa.an h n))] 32))).cell 0)
  have c11 := (old_cell (o := 0) hs3 (b := w2.heap.size + 1) (by simp only [World.size_alloc]; omega) m1).trans ((Blk.newAt (w := w2.alloc (.cells #[.int .u32 (Sa.ev1 f h n : Nat)] 32)) (g := w2.heap.size + 1) (t := 32) (cs := #[.int .u32 (Ct.Mask (Sa.an h n))]) (by simp)).cell 0)
  have H3 := Lib.hid hA3
  have B3 := Lib.hid (hs3.below (bl_alloc (by simp only [World.size_alloc]; omega) (bl_alloc z2 B2.out _) _) (by simp only [World.size_alloc]; omega) L2.out)
  have L3 := Lib.hid (hs3.low (B := w.heap.size) (by simp only [World.size_alloc]; omega) L2.out)
  have z3 : w.heap.size ≤ w3.heap.size := B3.out.size
  have z23 := hs3.size
  simp only [World.size_alloc] at z23
  obtain ⟨G1, hG1⟩ : ∃ G1, w2.heap.size = G1 := ⟨_, rfl⟩
  rw [hG1] at c10 c11 z23 ⊢
  clear hA3 hs3 H2 B2 L2 m0 m1 hG1
  go_wp2_with fail
  refine calls_gen _ ?_
  intro W4 hW4
  obtain ⟨G2, hG2⟩ : ∃ G2, w3.heap.size = G2 := ⟨_, rfl⟩
  have c13 : W4.cell? ⟨G2, 0, none⟩ = some (.int .u32 (Sa.lv f h n : Nat)) := by rw [hW4, ← hG2]; exact ((Blk.new w3 _ _).alloc _).cell 0
  have c14 : W4.cell? ⟨G2 + 1, 0, none⟩ = some (.int .u32 (Ct.Mask (Sa.an h n))) := by rw [hW4, ← hG2]; exact (Blk.newAt (by simp)).cell 0
  have B34 : Below w3.heap.size w3 W4 := by
    rw [hW4]
    (repeat' (first | with_reducible exact Below.refl _ _ | with_reducible refine bl_drewN ?_ _ | with_reducible refine bl_drew ?_ | refine bl_set (by (first | omega | (simp; done) | (simp; omega))) ?_ _ | refine bl_alloc (by (first | omega | (simp; done) | (simp; omega))) ?_ _ | refine bl_then (by assumption) ?_ (by (first | omega | (simp; done) | (simp; omega))) | refine Step.bl (by assumption) (by assumption) (by (first | omega | (simp; done) | (simp; omega))) (by (first | omega | (simp; done) | (simp; omega))) ?_))
  have z34 : W4.heap.size = G2 + 1 + 1 := by rw [hW4, ← hG2]; simp
  clear hW4
  have H4 := Lib.hid (H3.out.below (Lib.hid B34))
  have B4 := Lib.hid (bl_then (Lib.hid B34) B3.out z3)
  replace c10 := (B34.cell (p := ⟨G1, 0, none⟩) (show G1 < w3.heap.size by omega)).trans c10
  replace c11 := (B34.cell (p := ⟨G1 + 1, 0, none⟩) (show G1 + 1 < w3.heap.size by omega)).trans c11
  have y10 : G1 < W4.heap.size := by omega
  have y11 : G1 + 1 < W4.heap.size := by omega
  have y13 : G2 < W4.heap.size := by omega
  have y14 : G2 + 1 < W4.heap.size := by omega
  rw [hG2]
  clear H3 B3 B34 z34 hG2 z23
  go_wp2_with (first
    | (go_at_call 15; with_reducible refine (ALog_any H4.out).mono ?_; rintro e w5 ⟨rfl, hw1⟩; subst hw1)
    | (go_at_call 16; with_reducible refine (Len_any _ _ _ _ H4.out.lg).mono ?_; rintro e w5 ⟨rfl, hw1⟩; subst hw1)
    | (go_at_call 38; with_reducible refine (rEndF (HA.out.below (Nat.le_refl _) B4.out) (HB.out.below (Nat.le_refl _) B4.out) HH.out (by omega) c d).mono ?_; rintro e w5 ⟨rfl, hw1⟩; subst hw1)
    | (go_at_call 38; with_reducible refine (rEndT (HA.out.below (Nat.le_refl _) B4.out) (HB.out.below (Nat.le_refl _) B4.out) HH.out (by omega) c d).mono ?_; rintro e w5 ⟨rfl, hw1⟩; subst hw1)
    | (go_at_call 39; with_reducible refine (rAll05_any _ _).mono ?_; rintro e w5 ⟨rfl, hw1⟩; subst hw1)
    | (go_at_call 23; with_reducible refine (told05_any _ _).mono ?_; rintro e w5 ⟨rfl, hb⟩; have hz := hb.size; replace H4 := Lib.hid (H4.out.below (Lib.hid hb)); replace B4 := Lib.hid (bl_then (Lib.hid hb) B4.out B4.out.size); replace c10 := (hb.cell (p := ⟨G1, 0, none⟩) y10).trans c10; replace c11 := (hb.cell (p := ⟨G1 + 1, 0, none⟩) y11).trans c11; replace c13 := (hb.cell (p := ⟨G2, 0, none⟩) y13).trans c13; replace c14 := (hb.cell (p := ⟨G2 + 1, 0, none⟩) y14).trans c14; replace y10 := Nat.lt_of_lt_of_le y10 hz; replace y11 := Nat.lt_of_lt_of_le y11 hz; replace y13 := Nat.lt_of_lt_of_le y13 hz; replace y14 := Nat.lt_of_lt_of_le y14 hz; clear hb hz))
  refine (saCarry_l H4.out HF.out HH.out (by omega)).mono ?_
  rintro e W6 ⟨rfl, F6, ws6, E6, hA6, hE6, hg6, hh6, hs6⟩
  have H6 := Lib.hid hA6
  have B6 := Lib.hid (hs6.below B4.out B4.out.size L3.out)
  have L6 := Lib.hid (hs6.low (B := w.heap.size) B4.out.size L3.out)
  have G6 := Lib.hid hg6
  have Q6 := Lib.hid hh6
  clear hA6 hs6 hg6 hh6 H4 B4 c10 c11 c13 c14 y10 y11 y13 y14
  go_wp2_with (first
    | (go_at_call 15; with_reducible refine (ALog_any H6.out).mono ?_; rintro e w5 ⟨rfl, hw1⟩; subst hw1)
    | (go_at_call 16; with_reducible refine (Len_any _ _ _ _ H6.out.lg).mono ?_; rintro e w5 ⟨rfl, hw1⟩; subst hw1))
  refine (AShow_t H6.out 0 n (by omega) (by omega)).mono ?_
  rintro e W7 ⟨go, F7, rfl, hgl, hcs, hgn, hA7, hs7⟩
  have S7 := Lib.hid (Sa.wd_show (n := n) (a := 0) hgl hcs)
  have H7 := Lib.hid hA7
  have B7 := Lib.hid (hs7.below B6.out B6.out.size L6.out)
  have L7 := Lib.hid (hs7.low (B := w.heap.size) B6.out.size L6.out)
  clear hgl hcs hgn hA7 hs7 H6 B6 L6
  go_wp2_with fail
  refine (rCarry05_any (HA.out.below (Nat.le_refl _) B7.out) (HB.out.below (Nat.le_refl _) B7.out) HH.out (by omega) c d _).mono ?_
  rintro e W8 ⟨L, rfl, hBk, hLl, hLg, hb8⟩
  have S8 := Lib.hid (S7.out.below (Nat.le_refl _) hb8)
  have K8 := Lib.hid (Sa.wd_blk (n := n) (v := fun j => ((Sa.lv f h (j + 1) : Nat) : Int)) hBk hLl hLg)
  have H8 := Lib.hid (H7.out.below (Lib.hid hb8))
  have B8 := Lib.hid (bl_then (Lib.hid hb8) B7.out B7.out.size)
  obtain ⟨G7, hG7⟩ : ∃ G7, W7.heap.size = G7 := ⟨_, rfl⟩
  rw [hG7] at K8 ⊢
  have hsame := Lib.hid (saSame_any S8.out K8.out (fun j hj => G6.out j hj) (by omega) n n)
  clear hBk hLl hLg hb8 S7 H7 B7 hG7 S8 K8
  go_wp2_with fail
  refine hsame.out.mono ?_
  rintro e W9 ⟨rfl, hb9⟩
  have H9 := Lib.hid (H8.out.below (Lib.hid hb9))
  have B9 := Lib.hid (bl_then (Lib.hid hb9) B8.out B8.out.size)
  clear hb9 H8 B8 hsame
  go_wp2_with fail
  refine (AShow_t H9.out n n (by omega) (by rw [List.length_append, shEvs_len]; omega)).mono ?_
  rintro e W10 ⟨go2, F10, rfl, hgl, hcs, hgn, hA10, hs10⟩
  have S10 := Lib.hid (Sa.wd_show (n := n) (a := n) hgl hcs)
  have B10 := Lib.hid (hs10.below B9.out B9.out.size L7.out)
  have hsame2 := Lib.hid (saSame_any S10.out (Sa.Wd.cl (HB.out.below (Nat.le_refl _) B10.out)) (fun j hj => Q6.out j hj) (by omega) n d)
  clear hgl hcs hgn hA10 hs10 S10
  go_wp2_with fail
  refine hsame2.out.mono ?_
  rintro e W11 ⟨rfl, hb11⟩
  have B11 := Lib.hid (bl_then (Lib.hid hb11) B10.out B10.out.size)
  clear hb11
  go_wp2_with fail
  go_ret
  exact ⟨rfl, B11.out⟩
set_option maxRecDepth 100000 in
set_option maxHeartbeats 8000000 in
theorem ScanCarries_true {w : World} {A B : Option Addr} {n : Nat} {f h : Nat → Nat} (hA : Sj.Cl .u32 w A n f) (hB : Sj.Cl .u32 w B n h) (hf : ∀ i, f i < 4294967296) (hh : ∀ i, h i < 4294967296) (h60 : n ≤ 60) (c d : Nat) :
    Calls Try.prog 6 #[.slice A n c, .slice B n d, .bool true] w fun e w' => e = .returned (.bool true) ∧ Below w.heap.size w w' := by
  have hd1 := decide_eq_false (show ¬ (60 : Int) < (n : Int) by omega)
  have hEq1 : (1 + (n : Int) + (n : Int) + 2 * (n : Int) + 2 * (n : Int) - (1 + (n : Int) + (n : Int))) = 4 * n := by omega
  have hEq2 : (1 + (n : Int) + (n : Int) + 2 * (n : Int) + 2 * (n : Int) + 3 * (n : Int) - (1 + (n : Int) + (n : Int) + 2 * (n : Int) + 2 * (n : Int))) = 3 * n := by omega
  have HA := Lib.hid hA
  have HB := Lib.hid hB
  have HF := Lib.hid hf
  have HH := Lib.hid hh
  clear hA hB hf hh
  go_enter Try.func6, Try.ntmps6
  go_wp2_with (first
    | (first | (go_at_call 13; refine (awake05_any _).mono ?_; rintro e wq ⟨rfl, hb⟩; have hcf_wq := bcell hb; (try simp only [World.size_alloc, World.size_setCell, drew_size] at hcf_wq); have hz_wq := hb.size; (try simp only [World.size_alloc, World.size_setCell, World.size_drew] at hz_wq); have hbh_wq := Lib.hid hb; clear hb; obtain ⟨hc_wq, hf_wq⟩ := hcf_wq))
    | (go_at_call 14; with_reducible refine (saLay_e (HA.out.below (Nat.le_refl _) hbh_wq.out) (HB.out.below (Nat.le_refl _) hbh_wq.out) (by omega) (by omega) c d).mono ?_; rintro e wl ⟨p, q, lp, F0, E0, rfl, hA0, hE0, hlow, hb⟩; have HL0 := Lib.hid hA0; have LOW := Lib.hid hlow; have BL := Lib.hid hb; have zl := hb.size; clear hA0 hlow hb)
    | (go_at_call 15; with_reducible refine (ALog_any HL0.out).mono ?_; rintro e w1 ⟨rfl, hw1⟩; subst hw1)
    | (go_at_call 16; with_reducible refine (Len_any _ _ _ _ HL0.out.lg).mono ?_; rintro e w1 ⟨rfl, hw1⟩; subst hw1))
  have z1 : w.heap.size ≤ w1.heap.size := Nat.le_trans hz_wq zl
  have B1 := Lib.hid (bl_then BL hbh_wq.out hz_wq)
  have L1 := Lib.hid (fun i hi => Nat.le_trans hz_wq (LOW.out i hi))
  clear hc_wq hf_wq BL LOW hbh_wq
  refine (saFirst_l HL0.out HF.out HH.out (by omega)).mono ?_
  rintro e w2 ⟨rfl, F2, E2, hA2, hE2, hs2⟩
  have H2 := Lib.hid hA2
  have B2 := Lib.hid (hs2.below B1.out z1 L1.out)
  have L2 := Lib.hid (hs2.low (B := w.heap.size) z1 L1.out)
  have z2 : w.heap.size ≤ w2.heap.size := B2.out.size
  clear hA2 hs2 HL0 B1 L1
  go_wp2_with fail
  refine (saLast_l ((H2.out.alloc _).alloc _) HF.out HH.out (by omega)).mono ?_
  rintro e w3 ⟨rfl, F3, E3, hA3, hE3, hs3⟩
  have m0 : ¬ AF p q F2 w2.heap.size := fun hf => Nat.lt_irrefl _ (H2.out.most _ hf)
  have m1 : ¬ AF p q F2 (w2.heap.size + 1) := fun hf => by have := H2.out.most _ hf; omega
  have c10 := (old_cell (o := 0) hs3 (b := w2.heap.size) (by simp only [World.size_alloc]; omega) m0).trans ((((Blk.new w2 32 #[.int .u32 (Sa.ev1 f h n : Nat)]).alloc (.cells #[.int .u32 (Ct.Mask (Sa.an h n))] 32))).cell 0)
  have c11 := (old_cell (o := 0) hs3 (b := w2.heap.size + 1) (by simp only [World.size_alloc]; omega) m1).trans ((Blk.newAt (w := w2.alloc (.cells #[.int .u32 (Sa.ev1 f h n : Nat)] 32)) (g := w2.heap.size + 1) (t := 32) (cs := #[.int .u32 (Ct.Mask (Sa.an h n))]) (by simp)).cell 0)
  have H3 := Lib.hid hA3
  have B3 := Lib.hid (hs3.below (bl_alloc (by simp only [World.size_alloc]; omega) (bl_alloc z2 B2.out _) _) (by simp only [World.size_alloc]; omega) L2.out)
  have L3 := Lib.hid (hs3.low (B := w.heap.size) (by simp only [World.size_alloc]; omega) L2.out)
  have z3 : w.heap.size ≤ w3.heap.size := B3.out.size
  have z23 := hs3.size
  simp only [World.size_alloc] at z23
  obtain ⟨G1, hG1⟩ : ∃ G1, w2.heap.size = G1 := ⟨_, rfl⟩
  rw [hG1] at c10 c11 z23 ⊢
  clear hA3 hs3 H2 B2 L2 m0 m1 hG1
  go_wp2_with fail
  refine calls_gen _ ?_
  intro W4 hW4
  obtain ⟨G2, hG2⟩ : ∃ G2, w3.heap.size = G2 := ⟨_, rfl⟩
  have c13 : W4.cell? ⟨G2, 0, none⟩ = some (.int .u32 (Sa.lv f h n : Nat)) := by rw [hW4, ← hG2]; exact ((Blk.new w3 _ _).alloc _).cell 0
  have c14 : W4.cell? ⟨G2 + 1, 0, none⟩ = some (.int .u32 (Ct.Mask (Sa.an h n))) := by rw [hW4, ← hG2]; exact (Blk.newAt (by simp)).cell 0
  have B34 : Below w3.heap.size w3 W4 := by
    rw [hW4]
    (repeat' (first | with_reducible exact Below.refl _ _ | with_reducible refine bl_drewN ?_ _ | with_reducible refine bl_drew ?_ | refine bl_set (by (first | omega | (simp; done) | (simp; omega))) ?_ _ | refine bl_alloc (by (first | omega | (simp; done) | (simp; omega))) ?_ _ | refine bl_then (by assumption) ?_ (by (first | omega | (simp; done) | (simp; omega))) | refine Step.bl (by assumption) (by assumption) (by (first | omega | (simp; done) | (simp; omega))) (by (first | omega | (simp; done) | (simp; omega))) ?_))
  have z34 : W4.heap.size = G2 + 1 + 1 := by rw [hW4, ← hG2]; simp
  clear hW4
  have H4 := Lib.hid (H3.out.below (Lib.hid B34))
  have B4 := Lib.hid (bl_then (Lib.hid B34) B3.out z3)
  replace c10 := (B34.cell (p := ⟨G1, 0, none⟩) (show G1 < w3.heap.size by omega)).trans c10
  replace c11 := (B34.cell (p := ⟨G1 + 1, 0, none⟩) (show G1 + 1 < w3.heap.size by omega)).trans c11
  have y10 : G1 < W4.heap.size := by omega
  have y11 : G1 + 1 < W4.heap.size := by omega
  have y13 : G2 < W4.heap.size := by omega
  have y14 : G2 + 1 < W4.heap.size := by omega
  rw [hG2]
  clear H3 B3 B34 z34 hG2 z23
  go_wp2_with (first
    | (go_at_call 15; with_reducible refine (ALog_any H4.out).mono ?_; rintro e w5 ⟨rfl, hw1⟩; subst hw1)
    | (go_at_call 16; with_reducible refine (Len_any _ _ _ _ H4.out.lg).mono ?_; rintro e w5 ⟨rfl, hw1⟩; subst hw1)
    | (go_at_call 38; with_reducible refine (rEndF (HA.out.below (Nat.le_refl _) B4.out) (HB.out.below (Nat.le_refl _) B4.out) HH.out (by omega) c d).mono ?_; rintro e w5 ⟨rfl, hw1⟩; subst hw1)
    | (go_at_call 38; with_reducible refine (rEndT (HA.out.below (Nat.le_refl _) B4.out) (HB.out.below (Nat.le_refl _) B4.out) HH.out (by omega) c d).mono ?_; rintro e w5 ⟨rfl, hw1⟩; subst hw1)
    | (go_at_call 39; with_reducible refine (rAll05_any _ _).mono ?_; rintro e w5 ⟨rfl, hw1⟩; subst hw1)
    | (go_at_call 23; with_reducible refine (told05_any _ _).mono ?_; rintro e w5 ⟨rfl, hb⟩; have hz := hb.size; replace H4 := Lib.hid (H4.out.below (Lib.hid hb)); replace B4 := Lib.hid (bl_then (Lib.hid hb) B4.out B4.out.size); replace c10 := (hb.cell (p := ⟨G1, 0, none⟩) y10).trans c10; replace c11 := (hb.cell (p := ⟨G1 + 1, 0, none⟩) y11).trans c11; replace c13 := (hb.cell (p := ⟨G2, 0, none⟩) y13).trans c13; replace c14 := (hb.cell (p := ⟨G2 + 1, 0, none⟩) y14).trans c14; replace y10 := Nat.lt_of_lt_of_le y10 hz; replace y11 := Nat.lt_of_lt_of_le y11 hz; replace y13 := Nat.lt_of_lt_of_le y13 hz; replace y14 := Nat.lt_of_lt_of_le y14 hz; clear hb hz))
  refine (saBack_l H4.out HF.out HH.out (by omega)).mono ?_
  rintro e W6 ⟨rfl, F6, ws6, E6, hA6, hE6, hg6, hh6, hs6⟩
  have H6 := Lib.hid hA6
  have B6 := Lib.hid (hs6.below B4.out B4.out.size L3.out)
  have L6 := Lib.hid (hs6.low (B := w.heap.size) B4.out.size L3.out)
  have G6 := Lib.hid hg6
  have Q6 := Lib.hid hh6
  clear hA6 hs6 hg6 hh6 H4 B4 c10 c11 c13 c14 y10 y11 y13 y14
  go_wp2_with (first
    | (go_at_call 15; with_reducible refine (ALog_any H6.out).mono ?_; rintro e w5 ⟨rfl, hw1⟩; subst hw1)
    | (go_at_call 16; with_reducible refine (Len_any _ _ _ _ H6.out.lg).mono ?_; rintro e w5 ⟨rfl, hw1⟩; subst hw1))
  refine (AShow_t H6.out 0 n (by omega) (by omega)).mono ?_
  rintro e W7 ⟨go, F7, rfl, hgl, hcs, hgn, hA7, hs7⟩
  have S7 := Lib.hid (Sa.wd_show (n := n) (a := 0) hgl hcs)
  have H7 := Lib.hid hA7
  have B7 := Lib.hid (hs7.below B6.out B6.out.size L6.out)
  have L7 := Lib.hid (hs7.low (B := w.heap.size) B6.out.size L6.out)
  clear hgl hcs hgn hA7 hs7 H6 B6 L6
  go_wp2_with fail
  refine (rCarry05_any (HA.out.below (Nat.le_refl _) B7.out) (HB.out.below (Nat.le_refl _) B7.out) HH.out (by omega) c d _).mono ?_
  rintro e W8 ⟨L, rfl, hBk, hLl, hLg, hb8⟩
  have S8 := Lib.hid (S7.out.below (Nat.le_refl _) hb8)
  have K8 := Lib.hid (Sa.wd_blk (n := n) (v := fun j => ((Sa.bw f h n (n - j) : Nat) : Int)) hBk hLl hLg)
  have H8 := Lib.hid (H7.out.below (Lib.hid hb8))
  have B8 := Lib.hid (bl_then (Lib.hid hb8) B7.out B7.out.size)
  obtain ⟨G7, hG7⟩ : ∃ G7, W7.heap.size = G7 := ⟨_, rfl⟩
  rw [hG7] at K8 ⊢
  have hsame := Lib.hid (saSame_any S8.out K8.out (fun j hj => G6.out j hj) (by omega) n n)
  clear hBk hLl hLg hb8 S7 H7 B7 hG7 S8 K8
  go_wp2_with fail
  refine hsame.out.mono ?_
  rintro e W9 ⟨rfl, hb9⟩
  have H9 := Lib.hid (H8.out.below (Lib.hid hb9))
  have B9 := Lib.hid (bl_then (Lib.hid hb9) B8.out B8.out.size)
  clear hb9 H8 B8 hsame
  go_wp2_with fail
  refine (AShow_t H9.out n n (by omega) (by rw [List.length_append, shEvs_len]; omega)).mono ?_
  rintro e W10 ⟨go2, F10, rfl, hgl, hcs, hgn, hA10, hs10⟩
  have S10 := Lib.hid (Sa.wd_show (n := n) (a := n) hgl hcs)
  have B10 := Lib.hid (hs10.below B9.out B9.out.size L7.out)
  have hsame2 := Lib.hid (saSame_any S10.out (Sa.Wd.cl (HB.out.below (Nat.le_refl _) B10.out)) (fun j hj => Q6.out j hj) (by omega) n d)
  clear hgl hcs hgn hA10 hs10 S10
  go_wp2_with fail
  refine hsame2.out.mono ?_
  rintro e W11 ⟨rfl, hb11⟩
  have B11 := Lib.hid (bl_then (Lib.hid hb11) B10.out B10.out.size)
  clear hb11
  go_wp2_with fail
  go_ret
  exact ⟨rfl, B11.out⟩
set_option maxRecDepth 20000 in
set_option maxHeartbeats 2000000 in
theorem ScanCarries_any {w : World} {A B : Option Addr} {n m : Nat} {f h : Nat → Nat} (hA : Sj.Cl .u32 w A n f) (hB : Sj.Cl .u32 w B m h) (hf : ∀ i, f i < 4294967296) (hh : ∀ i, h i < 4294967296) (hn : n ≤ 9223372036854775807) (hm : m ≤ 9223372036854775807) (c d : Nat) (b : Bool) :
    Calls Try.prog 6 #[.slice A n c, .slice B m d, .bool b] w fun e w' => e = .returned (.bool true) ∧ Below w.heap.size w w' := by
  rcases (by omega : 60 < n ∨ (n ≤ 60 ∧ m ≠ n) ∨ (n ≤ 60 ∧ m = n)) with h6 | ⟨h6, h7⟩ | ⟨h6, rfl⟩
  · have hd1 := decide_eq_true (show (60 : Int) < (n : Int) by omega)
    clear hA hf hB hh
    go_enter Try.func6, Try.ntmps6
    go_wp2_with (first | (go_at_call 13; refine (awake05_any _).mono ?_; rintro e w1 ⟨rfl, hb⟩; have hcf := bcell hb; (try simp only [World.size_alloc, World.size_setCell, drew_size] at hcf); have hz := hb.size; (try simp only [World.size_alloc, World.size_setCell, World.size_drew] at hz); have hbh := Lib.hid hb; clear hb; obtain ⟨hc, hf⟩ := hcf))
    go_ret
    refine ⟨rfl, ?_⟩
    (repeat' (first | with_reducible exact Below.refl _ _ | with_reducible refine bl_drewN ?_ _ | with_reducible refine bl_drew ?_ | refine bl_set (by (first | omega | (simp; done) | (simp; omega))) ?_ _ | refine bl_alloc (by (first | omega | (simp; done) | (simp; omega))) ?_ _ | refine bl_then (by assumption) ?_ (by (first | omega | (simp; done) | (simp; omega))) | refine Step.bl (by assumption) (by assumption) (by (first | omega | (simp; done) | (simp; omega))) (by (first | omega | (simp; done) | (simp; omega))) ?_))
  · have hd1 := decide_eq_false (show ¬ (60 : Int) < (n : Int) by omega)
    have hne : ((m : Int) != (n : Int)) = true := by simp; omega
    clear hA hf hB hh
    go_enter Try.func6, Try.ntmps6
    go_wp2_with (first | (go_at_call 13; refine (awake05_any _).mono ?_; rintro e w1 ⟨rfl, hb⟩; have hcf := bcell hb; (try simp only [World.size_alloc, World.size_setCell, drew_size] at hcf); have hz := hb.size; (try simp only [World.size_alloc, World.size_setCell, World.size_drew] at hz); have hbh := Lib.hid hb; clear hb; obtain ⟨hc, hf⟩ := hcf))
    go_ret
    refine ⟨rfl, ?_⟩
    (repeat' (first | with_reducible exact Below.refl _ _ | with_reducible refine bl_drewN ?_ _ | with_reducible refine bl_drew ?_ | refine bl_set (by (first | omega | (simp; done) | (simp; omega))) ?_ _ | refine bl_alloc (by (first | omega | (simp; done) | (simp; omega))) ?_ _ | refine bl_then (by assumption) ?_ (by (first | omega | (simp; done) | (simp; omega))) | refine Step.bl (by assumption) (by assumption) (by (first | omega | (simp; done) | (simp; omega))) (by (first | omega | (simp; done) | (simp; omega))) ?_))
  · cases b
    · exact ScanCarries_false hA hB hf hh h6 c d
    · exact ScanCarries_true hA hB hf hh h6 c d
end Go.Proofs.Ytdakbejppnijdaa
