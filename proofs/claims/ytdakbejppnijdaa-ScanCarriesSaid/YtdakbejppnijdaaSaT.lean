/- The law of scan: ScanRuns. No condition. -/
import Derived.Test.YtdakbejppnijdaaSaR
namespace Go.Proofs.Ytdakbejppnijdaa
open Go.RowKit
set_option linter.unusedSimpArgs false
set_option linter.unusedVariables false
attribute [local go_sem] IntKind.wrap_u32' signed_u32 max_u32
attribute [local go_sem ↓] Go.wp_at_zero Go.wp_at_succ
attribute [local go_sem] Calm.C
attribute [local go_sem low] Calm.al_cell Calm.al_frozen
theorem saLay_e {w : World} {A B : Option Addr} {n m : Nat} {f g : Nat → Nat} (hA : Sj.Cl .u32 w A n f) (hB : Sj.Cl .u32 w B m g) (hn : n ≤ 1000) (hm : m ≤ 1000) (c d : Nat) :
    Calls Try.prog 14 #[.slice A n c, .slice B m d] w fun e w' => ∃ p q lp F E, e = .returned (.pointer (some ⟨p, 0, none⟩)) ∧ Ar w' p q lp F (Sa.la n m f g) (n + m) E ∧ E.length = 1 + n + m ∧ (∀ i, AF p q F i → w.heap.size ≤ i) ∧ Below w.heap.size w w' :=
  (saLay_any hA hB hn hm c d).mono fun e w' ⟨p, q, lp, F, h1, h2, h3, h4⟩ => ⟨p, q, lp, F, _, h1, h2, by rw [List.length_append, List.length_append, stEvs_len, stEvs_len]; rfl, h3, h4⟩
theorem saSums_l {w : World} {p g lp : Nat} {FL : Nat → Prop} {n : Nat} {f g0 : Nat → Nat} {evs : List Ev} (h : Ar w p g lp FL (Sa.la n 0 f g0) (n + 0) evs) (hf : ∀ i, f i < 4294967296) (he : evs.length < 900000000000) :
    Calls Try.prog 18 #[.pointer (some ⟨p, 0, none⟩), .int .i64 0, .int .i64 n] w fun e w' => e = .returned (.tuple #[.agg #[.int .u32 (Sa.ad f n : Nat)], .bool true]) ∧ ∃ FL' ws' E', Ar w' p g lp FL' ws' (n + 0) E' ∧ E'.length = evs.length + 2 * n ∧ (∀ j, j < n → ws'.getD j 0 = (Sa.ad f (j + 1) : Nat)) ∧ Step (AF p g FL) (AF p g FL') w w' := by
  have hk := Sa.kind0 n f g0
  have hs := saSums_t h he 0 n (by omega)
  rw [hk.1] at hs
  refine hs.mono ?_
  rintro e w' ⟨rfl, FL', hA, hst⟩
  exact ⟨rfl, FL', _, _, hA, by rw [List.length_append, Sa.ev_len, Sa.us_len], hk.2, hst⟩
theorem saBefore_l {w : World} {p g lp : Nat} {FL : Nat → Prop} {n : Nat} {f g0 : Nat → Nat} {evs : List Ev} (h : Ar w p g lp FL (Sa.la n 0 f g0) (n + 0) evs) (hf : ∀ i, f i < 4294967296) (he : evs.length < 900000000000) :
    Calls Try.prog 19 #[.pointer (some ⟨p, 0, none⟩), .int .i64 0, .int .i64 n] w fun e w' => e = .returned (.tuple #[.agg #[.int .u32 (Sa.ad f n : Nat)], .bool true]) ∧ ∃ FL' ws' E', Ar w' p g lp FL' ws' (n + 0) E' ∧ E'.length = evs.length + 2 * n ∧ (∀ j, j < n → ws'.getD j 0 = (Sa.ad f j : Nat)) ∧ Step (AF p g FL) (AF p g FL') w w' := by
  have hk := Sa.kind1 n f g0
  have hs := saBefore_t h he 0 n (by omega)
  rw [hk.1] at hs
  refine hs.mono ?_
  rintro e w' ⟨rfl, FL', hA, hst⟩
  exact ⟨rfl, FL', _, _, hA, by rw [List.length_append, Sa.ev_len, Sa.us_len], hk.2, hst⟩
theorem saOrs_l {w : World} {p g lp : Nat} {FL : Nat → Prop} {n : Nat} {f g0 : Nat → Nat} {evs : List Ev} (h : Ar w p g lp FL (Sa.la n 0 f g0) (n + 0) evs) (hf : ∀ i, f i < 4294967296) (he : evs.length < 900000000000) :
    Calls Try.prog 20 #[.pointer (some ⟨p, 0, none⟩), .int .i64 0, .int .i64 n] w fun e w' => e = .returned (.tuple #[.agg #[.int .u32 (Sa.oru f 0 n : Nat)], .bool true]) ∧ ∃ FL' ws' E', Ar w' p g lp FL' ws' (n + 0) E' ∧ E'.length = evs.length + 2 * n ∧ (∀ j, j < n → ws'.getD j 0 = (Sa.oru f 0 (j + 1) : Nat)) ∧ Step (AF p g FL) (AF p g FL') w w' := by
  have hk := Sa.kind2 n f g0 hf
  have hs := saOrs_t h he 0 n (by omega)
  rw [hk.1] at hs
  refine hs.mono ?_
  rintro e w' ⟨rfl, FL', hA, hst⟩
  exact ⟨rfl, FL', _, _, hA, by rw [List.length_append, Sa.ev_len, Sa.us_len], hk.2, hst⟩
theorem saBehind_l {w : World} {p g lp : Nat} {FL : Nat → Prop} {n : Nat} {f g0 : Nat → Nat} {evs : List Ev} (h : Ar w p g lp FL (Sa.la n 0 f g0) (n + 0) evs) (hf : ∀ i, f i < 4294967296) (he : evs.length < 900000000000) :
    Calls Try.prog 22 #[.pointer (some ⟨p, 0, none⟩), .int .i64 0, .int .i64 n] w fun e w' => e = .returned (.tuple #[.agg #[.int .u32 (Sa.oru f 0 n : Nat)], .bool true]) ∧ ∃ FL' ws' E', Ar w' p g lp FL' ws' (n + 0) E' ∧ E'.length = evs.length + 2 * n ∧ (∀ j, j < n → ws'.getD j 0 = (Sa.oru f j (n - j) : Nat)) ∧ Step (AF p g FL) (AF p g FL') w w' := by
  have hk := Sa.kind3 n f g0 hf
  have hs := saBehind_t h he 0 n (by omega)
  rw [hk.1] at hs
  refine hs.mono ?_
  rintro e w' ⟨rfl, FL', hA, hst⟩
  exact ⟨rfl, FL', _, _, hA, by rw [List.length_append, Sa.ev_len, Sa.ds_len], hk.2, hst⟩
theorem calls_gen {P : Program} {f : FuncId} {args : Array Value} {R : Ending → World → Prop} (w : World) (h : ∀ W, W = w → Calls P f args W R) : Calls P f args w R := h w rfl
theorem Sa.wd_blk {W : World} {g n : Nat} {L : List Int} {v : Nat → Int} (h : Blk W g 30 (wcells L)) (hl : L.length = n) (hv : ∀ j, j < n → L.getD j 0 = v j) : Sa.Wd W (some ⟨g, 0, none⟩) n v := fun _ => ⟨g, 0, rfl, h.lt, fun i hi => by rw [Nat.zero_add, h.cell i, wcells_get L i (by omega), hv i hi]⟩
theorem Sa.wd_show {W : World} {g n a : Nat} {ws : List Int} (hg : g < W.heap.size) (h : ∀ c, c < n → W.cell? ⟨g, c, none⟩ = some (.int .u32 (ws.getD (a + c) 0))) : Sa.Wd W (some ⟨g, 0, none⟩) n (fun j => ws.getD (a + j) 0) := fun _ => ⟨g, 0, rfl, hg, fun i hi => by rw [Nat.zero_add]; exact h i hi⟩
attribute [local irreducible] putw stEvs shEvs Sa.la Sa.st Sa.ev Sa.ad Sa.oru wcells
set_option maxRecDepth 100000 in
set_option maxHeartbeats 8000000 in
theorem ScanRuns_k0 {w : World} {A : Option Addr} {n : Nat} {f : Nat → Nat} (hA : Sj.Cl .u32 w A n f) (hf : ∀ i, f i < 4294967296) (h100 : n ≤ 100) (c x : Nat) (hx : x < 256) (h4 : x % 4 = 0) :
    Calls Try.prog 3 #[.slice A n c, .int .u8 x] w fun e w' => e = .returned (.bool true) ∧ Below w.heap.size w w' := by
  have hd1 := decide_eq_false (show ¬ (100 : Int) < (n : Int) by omega)
  have hK1 : (x : Int).tmod 4 = 0 := by rw [Int.tmod_eq_emod_of_nonneg (by omega)]; omega
  have hEq : (1 + (n : Int) + 2 * (n : Int) - (1 + (n : Int))) = 2 * n := by omega
  have HA := Lib.hid hA
  have HF := Lib.hid hf
  clear hA hf
  go_enter Try.func3, Try.ntmps3
  go_wp2_with (first
    | (first | (go_at_call 13; refine (awake05_any _).mono ?_; rintro e wq ⟨rfl, hb⟩; have hcf_wq := bcell hb; (try simp only [World.size_alloc, World.size_setCell, drew_size] at hcf_wq); have hz_wq := hb.size; (try simp only [World.size_alloc, World.size_setCell, World.size_drew] at hz_wq); have hbh_wq := Lib.hid hb; clear hb; obtain ⟨hc_wq, hf_wq⟩ := hcf_wq))
    | (go_at_call 14; with_reducible refine (saLay_e (HA.out.below (Nat.le_refl _) hbh_wq.out) (Sa.c0 _ (fun _ => 0)) (by omega) (by decide) c 0).mono ?_; rintro e wl ⟨p, q, lp, F0, E0, rfl, hA0, hE0, hlow, hb⟩; have HL0 := Lib.hid hA0; have LOW := Lib.hid hlow; have BL := Lib.hid hb; have zl := hb.size; clear hA0 hlow hb)
    | (go_at_call 15; with_reducible refine (ALog_any HL0.out).mono ?_; rintro e w1 ⟨rfl, hw1⟩; subst hw1)
    | (go_at_call 16; with_reducible refine (Len_any _ _ _ _ HL0.out.lg).mono ?_; rintro e w1 ⟨rfl, hw1⟩; subst hw1)
    | (go_at_call 17; with_reducible refine (rSums05_any ((HA.out.below (Nat.le_refl _) hbh_wq.out).below (Nat.le_refl _) ((BL.out.alloc (Nat.le_trans BL.out.size (Nat.le_refl _)) _))) HF.out (by omega) c _).mono ?_; rintro e wr ⟨L, rfl, hBk, hLl, hLg, hb⟩; have HBk := Lib.hid hBk; have HLl := Lib.hid hLl; have HLg := Lib.hid hLg; have BR := Lib.hid hb; have zr := hb.size; clear hBk hLl hLg hb))
  have z1 : w.heap.size ≤ w1.heap.size := Nat.le_trans hz_wq zl
  have b1 : Below w.heap.size w w1 := bl_then BL hbh_wq.out hz_wq
  have BT := Lib.hid (bl_then BR (bl_alloc z1 b1 (.cells #[.int .u32 0] 32)) (by simp; omega))
  have hm0 : ¬ AF p q F0 w1.heap.size := fun hf => Nat.lt_irrefl _ (HL0.out.most _ hf)
  have hm1 : ¬ AF p q F0 (w1.heap.size + 1) := fun hf => by have := HL0.out.most _ hf; omega
  have HR := Lib.hid ((HL0.out.alloc (.cells #[.int .u32 0] 32)).below BR)
  have c8 : wr.cell? ⟨w1.heap.size, 0, none⟩ = some (.int .u32 0) := (BR.out.cell (p := ⟨w1.heap.size, 0, none⟩) (by simp)).trans ((Blk.new w1 _ _).cell 0)
  have f8 : wr.frozen? ⟨w1.heap.size, 0, none⟩ = false := (BR.out.frozen (p := ⟨w1.heap.size, 0, none⟩) (by simp)).trans ((Blk.new w1 _ _).frozen 0)
  have LW0 := Lib.hid (fun i hi => Nat.le_trans hz_wq (LOW.out i hi))
  have HBk' : Hid (Blk wr (w1.heap.size + 1) 30 (wcells L)) := Lib.hid (by have h := HBk.out; rwa [World.size_alloc] at h)
  rw [World.size_alloc] at zr
  have zG1 := HBk'.out.lt
  obtain ⟨G, hG⟩ : ∃ G, w1.heap.size = G := ⟨_, rfl⟩
  rw [hG] at c8 f8 HBk' hm0 hm1 zr z1 zG1 ⊢
  clear hc_wq hf_wq BL BR HBk b1 HL0 hG LOW
  refine (saSums_l HR.out HF.out (by omega)).mono ?_
  rintro e ws ⟨rfl, F1, ws1, E1, hA1, hE1, hg1, hs1⟩
  have d8 := (old_cell (o := 0) hs1 (b := G) (by omega) hm0).trans c8
  have e8 := (old_frozen (o := 0) hs1 (b := G) (by omega) hm0).trans f8
  have HS1 := Lib.hid hA1
  have HG1 := Lib.hid hg1
  have n0 := af_old hs1 (b := G) (by omega) hm0
  have n1 := af_old hs1 (b := G + 1) (by omega) hm1
  have HK1 := Lib.hid (hs1.blk HBk'.out hm1)
  have BS := Lib.hid (hs1.below BT.out BT.out.size LW0.out)
  have LS := Lib.hid (hs1.low (B := w.heap.size) BT.out.size LW0.out)
  have zs := hs1.size
  clear hA1 hg1 hs1 c8 f8 HR BT HBk' hm0 hm1 LW0
  go_wp2_with fail
  refine calls_gen _ ?_
  intro W2 hW2
  have c2 : W2.cell? ⟨G, 0, none⟩ = some (.int .u32 (Sa.ad f n : Nat)) := by rw [hW2]; exact World.cell?_setCell_same' _ _ _ (by rw [d8]; rfl)
  have H2 := Lib.hid (show Ar W2 p q lp F1 ws1 (n + 0) E1 by rw [hW2]; exact HS1.out.far n0 _)
  have B2 := Lib.hid (show Below w.heap.size w W2 by rw [hW2]; exact bl_set z1 BS.out _)
  have K2 := Lib.hid (show Blk W2 (G + 1) 30 (wcells L) by rw [hW2]; exact HK1.out.far (p := ⟨G, 0, none⟩) (by show G + 1 ≠ G; omega) _)
  have zk := K2.out.lt
  clear hW2 d8 e8 HS1 BS HK1
  have K3 := Lib.hid (Sa.wd_blk (n := n) (v := fun j => ((Sa.ad f (j + 1) : Nat) : Int)) K2.out HLl.out (fun j hj => by
    have h := HLg.out j hj
    first | rw [if_pos trivial] at h | rw [if_neg not_false] at h | rw [if_neg Bool.false_ne_true] at h
    exact h))
  refine (told05_any _ _).mono ?_
  rintro e W4 ⟨rfl, hb4⟩
  have K4 := Lib.hid (K2.out.below hb4 K2.out.lt)
  have H4 := Lib.hid (H2.out.below (Lib.hid hb4))
  have B4 := Lib.hid (bl_then (Lib.hid hb4) B2.out B2.out.size)
  have z4 := hb4.size
  have HV : Hid (∀ j, j < n → L.getD j 0 = ((Sa.ad f (j + 1) : Nat) : Int)) := Lib.hid (fun j hj => by
    have h := HLg.out j hj
    first | rw [if_pos trivial] at h | rw [if_neg not_false] at h | rw [if_neg Bool.false_ne_true] at h
    exact h)
  clear hb4 c2 K3
  go_wp2_with (first
    | (go_at_call 15; with_reducible refine (ALog_any H4.out).mono ?_; rintro e w5 ⟨rfl, hw1⟩; replace hw1 := hw1.symm; subst hw1)
    | (go_at_call 16; with_reducible refine (Len_any _ _ _ _ H4.out.lg).mono ?_; rintro e w5 ⟨rfl, hw1⟩; replace hw1 := hw1.symm; subst hw1))
  refine (AShow_t H4.out 0 n (by omega) (by omega)).mono ?_
  rintro e W6 ⟨go, F6, rfl, hgl, hcs, hgn, hA6, hs6⟩
  have K6 := Lib.hid (hs6.blk K4.out n1)
  have B6 := Lib.hid (hs6.below B4.out B4.out.size LS.out)
  have HS6 := Lib.hid (Sa.wd_show (n := n) (a := 0) hgl hcs)
  have HW6 := Lib.hid (Sa.wd_blk (n := n) (v := fun j => ((Sa.ad f (j + 1) : Nat) : Int)) K6.out HLl.out HV.out)
  clear hcs hA6 hs6 hgn
  have HQ : ∀ j, j < n → ws1.getD (0 + j) 0 = ((Sa.ad f (j + 1) : Nat) : Int) := fun j hj => by rw [Nat.zero_add]; exact HG1.out j hj
  have hsame := Lib.hid (saSame_any HS6.out HW6.out HQ (by omega) n n)
  clear HQ HS6 HW6
  go_wp2_with fail
  refine hsame.out.mono ?_
  rintro e W7 ⟨rfl, hb7⟩
  have B7 := Lib.hid (bl_then (Lib.hid hb7) B6.out B6.out.size)
  clear hb7
  go_wp2_with fail
  go_ret
  exact ⟨rfl, B7.out⟩
set_option maxRecDepth 100000 in
set_option maxHeartbeats 8000000 in
theorem ScanRuns_k1 {w : World} {A : Option Addr} {n : Nat} {f : Nat → Nat} (hA : Sj.Cl .u32 w A n f) (hf : ∀ i, f i < 4294967296) (h100 : n ≤ 100) (c x : Nat) (hx : x < 256) (h4 : x % 4 = 1) :
    Calls Try.prog 3 #[.slice A n c, .int .u8 x] w fun e w' => e = .returned (.bool true) ∧ Below w.heap.size w w' := by
  have hd1 := decide_eq_false (show ¬ (100 : Int) < (n : Int) by omega)
  have hK1 : (x : Int).tmod 4 = 1 := by rw [Int.tmod_eq_emod_of_nonneg (by omega)]; omega
  have hEq : (1 + (n : Int) + 2 * (n : Int) - (1 + (n : Int))) = 2 * n := by omega
  have HA := Lib.hid hA
  have HF := Lib.hid hf
  clear hA hf
  go_enter Try.func3, Try.ntmps3
  go_wp2_with (first
    | (first | (go_at_call 13; refine (awake05_any _).mono ?_; rintro e wq ⟨rfl, hb⟩; have hcf_wq := bcell hb; (try simp only [World.size_alloc, World.size_setCell, drew_size] at hcf_wq); have hz_wq := hb.size; (try simp only [World.size_alloc, World.size_setCell, World.size_drew] at hz_wq); have hbh_wq := Lib.hid hb; clear hb; obtain ⟨hc_wq, hf_wq⟩ := hcf_wq))
    | (go_at_call 14; with_reducible refine (saLay_e (HA.out.below (Nat.le_refl _) hbh_wq.out) (Sa.c0 _ (fun _ => 0)) (by omega) (by decide) c 0).mono ?_; rintro e wl ⟨p, q, lp, F0, E0, rfl, hA0, hE0, hlow, hb⟩; have HL0 := Lib.hid hA0; have LOW := Lib.hid hlow; have BL := Lib.hid hb; have zl := hb.size; clear hA0 hlow hb)
    | (go_at_call 15; with_reducible refine (ALog_any HL0.out).mono ?_; rintro e w1 ⟨rfl, hw1⟩; subst hw1)
    | (go_at_call 16; with_reducible refine (Len_any _ _ _ _ HL0.out.lg).mono ?_; rintro e w1 ⟨rfl, hw1⟩; subst hw1)
    | (go_at_call 17; with_reducible refine (rSums05_any ((HA.out.below (Nat.le_refl _) hbh_wq.out).below (Nat.le_refl _) ((BL.out.alloc (Nat.le_trans BL.out.size (Nat.le_refl _)) _))) HF.out (by omega) c _).mono ?_; rintro e wr ⟨L, rfl, hBk, hLl, hLg, hb⟩; have HBk := Lib.hid hBk; have HLl := Lib.hid hLl; have HLg := Lib.hid hLg; have BR := Lib.hid hb; have zr := hb.size; clear hBk hLl hLg hb))
  have z1 : w.heap.size ≤ w1.heap.size := Nat.le_trans hz_wq zl
  have b1 : Below w.heap.size w w1 := bl_then BL hbh_wq.out hz_wq
  have BT := Lib.hid (bl_then BR (bl_alloc z1 b1 (.cells #[.int .u32 0] 32)) (by simp; omega))
  have hm0 : ¬ AF p q F0 w1.heap.size := fun hf => Nat.lt_irrefl _ (HL0.out.most _ hf)
  have hm1 : ¬ AF p q F0 (w1.heap.size + 1) := fun hf => by have := HL0.out.most _ hf; omega
  have HR := Lib.hid ((HL0.out.alloc (.cells #[.int .u32 0] 32)).below BR)
  have c8 : wr.cell? ⟨w1.heap.size, 0, none⟩ = some (.int .u32 0) := (BR.out.cell (p := ⟨w1.heap.size, 0, none⟩) (by simp)).trans ((Blk.new w1 _ _).cell 0)
  have f8 : wr.frozen? ⟨w1.heap.size, 0, none⟩ = false := (BR.out.frozen (p := ⟨w1.heap.size, 0, none⟩) (by simp)).trans ((Blk.new w1 _ _).frozen 0)
  have LW0 := Lib.hid (fun i hi => Nat.le_trans hz_wq (LOW.out i hi))
  have HBk' : Hid (Blk wr (w1.heap.size + 1) 30 (wcells L)) := Lib.hid (by have h := HBk.out; rwa [World.size_alloc] at h)
  rw [World.size_alloc] at zr
  have zG1 := HBk'.out.lt
  obtain ⟨G, hG⟩ : ∃ G, w1.heap.size = G := ⟨_, rfl⟩
  rw [hG] at c8 f8 HBk' hm0 hm1 zr z1 zG1 ⊢
  clear hc_wq hf_wq BL BR HBk b1 HL0 hG LOW
  refine (saBefore_l HR.out HF.out (by omega)).mono ?_
  rintro e ws ⟨rfl, F1, ws1, E1, hA1, hE1, hg1, hs1⟩
  have d8 := (old_cell (o := 0) hs1 (b := G) (by omega) hm0).trans c8
  have e8 := (old_frozen (o := 0) hs1 (b := G) (by omega) hm0).trans f8
  have HS1 := Lib.hid hA1
  have HG1 := Lib.hid hg1
  have n0 := af_old hs1 (b := G) (by omega) hm0
  have n1 := af_old hs1 (b := G + 1) (by omega) hm1
  have HK1 := Lib.hid (hs1.blk HBk'.out hm1)
  have BS := Lib.hid (hs1.below BT.out BT.out.size LW0.out)
  have LS := Lib.hid (hs1.low (B := w.heap.size) BT.out.size LW0.out)
  have zs := hs1.size
  clear hA1 hg1 hs1 c8 f8 HR BT HBk' hm0 hm1 LW0
  go_wp2_with fail
  refine calls_gen _ ?_
  intro W2 hW2
  have c2 : W2.cell? ⟨G, 0, none⟩ = some (.int .u32 (Sa.ad f n : Nat)) := by rw [hW2]; exact World.cell?_setCell_same' _ _ _ (by rw [d8]; rfl)
  have H2 := Lib.hid (show Ar W2 p q lp F1 ws1 (n + 0) E1 by rw [hW2]; exact HS1.out.far n0 _)
  have B2 := Lib.hid (show Below w.heap.size w W2 by rw [hW2]; exact bl_set z1 BS.out _)
  have K2 := Lib.hid (show Blk W2 (G + 1) 30 (wcells L) by rw [hW2]; exact HK1.out.far (p := ⟨G, 0, none⟩) (by show G + 1 ≠ G; omega) _)
  have zk := K2.out.lt
  clear hW2 d8 e8 HS1 BS HK1
  have K3 := Lib.hid (Sa.wd_blk (n := n) (v := fun j => ((Sa.ad f j : Nat) : Int)) K2.out HLl.out (fun j hj => by
    have h := HLg.out j hj
    first | rw [if_pos trivial] at h | rw [if_neg not_false] at h | rw [if_neg Bool.false_ne_true] at h
    exact h))
  refine (told05_any _ _).mono ?_
  rintro e W4 ⟨rfl, hb4⟩
  have K4 := Lib.hid (K2.out.below hb4 K2.out.lt)
  have H4 := Lib.hid (H2.out.below (Lib.hid hb4))
  have B4 := Lib.hid (bl_then (Lib.hid hb4) B2.out B2.out.size)
  have z4 := hb4.size
  have HV : Hid (∀ j, j < n → L.getD j 0 = ((Sa.ad f j : Nat) : Int)) := Lib.hid (fun j hj => by
    have h := HLg.out j hj
    first | rw [if_pos trivial] at h | rw [if_neg not_false] at h | rw [if_neg Bool.false_ne_true] at h
    exact h)
  clear hb4 c2 K3
  go_wp2_with (first
    | (go_at_call 15; with_reducible refine (ALog_any H4.out).mono ?_; rintro e w5 ⟨rfl, hw1⟩; replace hw1 := hw1.symm; subst hw1)
    | (go_at_call 16; with_reducible refine (Len_any _ _ _ _ H4.out.lg).mono ?_; rintro e w5 ⟨rfl, hw1⟩; replace hw1 := hw1.symm; subst hw1))
  refine (AShow_t H4.out 0 n (by omega) (by omega)).mono ?_
  rintro e W6 ⟨go, F6, rfl, hgl, hcs, hgn, hA6, hs6⟩
  have K6 := Lib.hid (hs6.blk K4.out n1)
  have B6 := Lib.hid (hs6.below B4.out B4.out.size LS.out)
  have HS6 := Lib.hid (Sa.wd_show (n := n) (a := 0) hgl hcs)
  have HW6 := Lib.hid (Sa.wd_blk (n := n) (v := fun j => ((Sa.ad f j : Nat) : Int)) K6.out HLl.out HV.out)
  clear hcs hA6 hs6 hgn
  have HQ : ∀ j, j < n → ws1.getD (0 + j) 0 = ((Sa.ad f j : Nat) : Int) := fun j hj => by rw [Nat.zero_add]; exact HG1.out j hj
  have hsame := Lib.hid (saSame_any HS6.out HW6.out HQ (by omega) n n)
  clear HQ HS6 HW6
  go_wp2_with fail
  refine hsame.out.mono ?_
  rintro e W7 ⟨rfl, hb7⟩
  have B7 := Lib.hid (bl_then (Lib.hid hb7) B6.out B6.out.size)
  clear hb7
  go_wp2_with fail
  go_ret
  exact ⟨rfl, B7.out⟩
set_option maxRecDepth 100000 in
set_option maxHeartbeats 8000000 in
theorem ScanRuns_k2 {w : World} {A : Option Addr} {n : Nat} {f : Nat → Nat} (hA : Sj.Cl .u32 w A n f) (hf : ∀ i, f i < 4294967296) (h100 : n ≤ 100) (c x : Nat) (hx : x < 256) (h4 : x % 4 = 2) :
    Calls Try.prog 3 #[.slice A n c, .int .u8 x] w fun e w' => e = .returned (.bool true) ∧ Below w.heap.size w w' := by
  have hd1 := decide_eq_false (show ¬ (100 : Int) < (n : Int) by omega)
  have hK1 : (x : Int).tmod 4 = 2 := by rw [Int.tmod_eq_emod_of_nonneg (by omega)]; omega
  have hEq : (1 + (n : Int) + 2 * (n : Int) - (1 + (n : Int))) = 2 * n := by omega
  have HA := Lib.hid hA
  have HF := Lib.hid hf
  clear hA hf
  go_enter Try.func3, Try.ntmps3
  go_wp2_with (first
    | (first | (go_at_call 13; refine (awake05_any _).mono ?_; rintro e wq ⟨rfl, hb⟩; have hcf_wq := bcell hb; (try simp only [World.size_alloc, World.size_setCell, drew_size] at hcf_wq); have hz_wq := hb.size; (try simp only [World.size_alloc, World.size_setCell, World.size_drew] at hz_wq); have hbh_wq := Lib.hid hb; clear hb; obtain ⟨hc_wq, hf_wq⟩ := hcf_wq))
    | (go_at_call 14; with_reducible refine (saLay_e (HA.out.below (Nat.le_refl _) hbh_wq.out) (Sa.c0 _ (fun _ => 0)) (by omega) (by decide) c 0).mono ?_; rintro e wl ⟨p, q, lp, F0, E0, rfl, hA0, hE0, hlow, hb⟩; have HL0 := Lib.hid hA0; have LOW := Lib.hid hlow; have BL := Lib.hid hb; have zl := hb.size; clear hA0 hlow hb)
    | (go_at_call 15; with_reducible refine (ALog_any HL0.out).mono ?_; rintro e w1 ⟨rfl, hw1⟩; subst hw1)
    | (go_at_call 16; with_reducible refine (Len_any _ _ _ _ HL0.out.lg).mono ?_; rintro e w1 ⟨rfl, hw1⟩; subst hw1)
    | (go_at_call 17; with_reducible refine (rSums05_any ((HA.out.below (Nat.le_refl _) hbh_wq.out).below (Nat.le_refl _) ((BL.out.alloc (Nat.le_trans BL.out.size (Nat.le_refl _)) _))) HF.out (by omega) c _).mono ?_; rintro e wr ⟨L, rfl, hBk, hLl, hLg, hb⟩; have HBk := Lib.hid hBk; have HLl := Lib.hid hLl; have HLg := Lib.hid hLg; have BR := Lib.hid hb; have zr := hb.size; clear hBk hLl hLg hb))
  have z1 : w.heap.size ≤ w1.heap.size := Nat.le_trans hz_wq zl
  have b1 : Below w.heap.size w w1 := bl_then BL hbh_wq.out hz_wq
  have BT := Lib.hid (bl_then BR (bl_alloc z1 b1 (.cells #[.int .u32 0] 32)) (by simp; omega))
  have hm0 : ¬ AF p q F0 w1.heap.size := fun hf => Nat.lt_irrefl _ (HL0.out.most _ hf)
  have hm1 : ¬ AF p q F0 (w1.heap.size + 1) := fun hf => by have := HL0.out.most _ hf; omega
  have HR := Lib.hid ((HL0.out.alloc (.cells #[.int .u32 0] 32)).below BR)
  have c8 : wr.cell? ⟨w1.heap.size, 0, none⟩ = some (.int .u32 0) := (BR.out.cell (p := ⟨w1.heap.size, 0, none⟩) (by simp)).trans ((Blk.new w1 _ _).cell 0)
  have f8 : wr.frozen? ⟨w1.heap.size, 0, none⟩ = false := (BR.out.frozen (p := ⟨w1.heap.size, 0, none⟩) (by simp)).trans ((Blk.new w1 _ _).frozen 0)
  have LW0 := Lib.hid (fun i hi => Nat.le_trans hz_wq (LOW.out i hi))
  have HBk' : Hid (Blk wr (w1.heap.size + 1) 30 (wcells L)) := Lib.hid (by have h := HBk.out; rwa [World.size_alloc] at h)
  rw [World.size_alloc] at zr
  have zG1 := HBk'.out.lt
  obtain ⟨G, hG⟩ : ∃ G, w1.heap.size = G := ⟨_, rfl⟩
  rw [hG] at c8 f8 HBk' hm0 hm1 zr z1 zG1 ⊢
  clear hc_wq hf_wq BL BR HBk b1 HL0 hG LOW
  refine (saOrs_l HR.out HF.out (by omega)).mono ?_
  rintro e ws ⟨rfl, F1, ws1, E1, hA1, hE1, hg1, hs1⟩
  have d8 := (old_cell (o := 0) hs1 (b := G) (by omega) hm0).trans c8
  have e8 := (old_frozen (o := 0) hs1 (b := G) (by omega) hm0).trans f8
  have HS1 := Lib.hid hA1
  have HG1 := Lib.hid hg1
  have n0 := af_old hs1 (b := G) (by omega) hm0
  have n1 := af_old hs1 (b := G + 1) (by omega) hm1
  have HK1 := Lib.hid (hs1.blk HBk'.out hm1)
  have BS := Lib.hid (hs1.below BT.out BT.out.size LW0.out)
  have LS := Lib.hid (hs1.low (B := w.heap.size) BT.out.size LW0.out)
  have zs := hs1.size
  clear hA1 hg1 hs1 c8 f8 HR BT HBk' hm0 hm1 LW0
  go_wp2_with fail
  refine calls_gen _ ?_
  intro W2 hW2
  have c2 : W2.cell? ⟨G, 0, none⟩ = some (.int .u32 (Sa.oru f 0 n : Nat)) := by rw [hW2]; exact World.cell?_setCell_same' _ _ _ (by rw [d8]; rfl)
  have H2 := Lib.hid (show Ar W2 p q lp F1 ws1 (n + 0) E1 by rw [hW2]; exact HS1.out.far n0 _)
  have B2 := Lib.hid (show Below w.heap.size w W2 by rw [hW2]; exact bl_set z1 BS.out _)
  have K2 := Lib.hid (show Blk W2 (G + 1) 30 (wcells L) by rw [hW2]; exact HK1.out.far (p := ⟨G, 0, none⟩) (by show G + 1 ≠ G; omega) _)
  have zk := K2.out.lt
  clear hW2 d8 e8 HS1 BS HK1
  refine (rOrs05_any (HA.out.below (Nat.le_refl _) B2.out) HF.out (by omega) c _).mono ?_
  rintro e W3 ⟨L2, rfl, hBk2, hLl2, hLg2, hb3⟩
  have c3 := (hb3.cell (p := ⟨G, 0, none⟩) (show G < W2.heap.size by omega)).trans c2
  have H3 := Lib.hid (H2.out.below (Lib.hid hb3))
  have B3 := Lib.hid (bl_then (Lib.hid hb3) B2.out B2.out.size)
  have K3 := Lib.hid hBk2
  have HLl2 := Lib.hid hLl2
  have HLg2 := Lib.hid hLg2
  have n2 : ¬ AF p q F1 W2.heap.size := fun hf => Nat.lt_irrefl _ (H2.out.most _ hf)
  have z3 : W2.heap.size < W3.heap.size := hBk2.lt
  clear hBk2 hLl2 hLg2 hb3 c2 H2 B2 K2
  go_wp2_with fail
  refine (told05_any _ _).mono ?_
  rintro e W4 ⟨rfl, hb4⟩
  have K4 := Lib.hid (K3.out.below hb4 z3)
  have H4 := Lib.hid (H3.out.below (Lib.hid hb4))
  have B4 := Lib.hid (bl_then (Lib.hid hb4) B3.out B3.out.size)
  have z4 := hb4.size
  clear hb4 c3
  go_wp2_with (first
    | (go_at_call 15; with_reducible refine (ALog_any H4.out).mono ?_; rintro e w5 ⟨rfl, hw1⟩; replace hw1 := hw1.symm; subst hw1)
    | (go_at_call 16; with_reducible refine (Len_any _ _ _ _ H4.out.lg).mono ?_; rintro e w5 ⟨rfl, hw1⟩; replace hw1 := hw1.symm; subst hw1))
  refine (AShow_t H4.out 0 n (by omega) (by omega)).mono ?_
  rintro e W6 ⟨go, F6, rfl, hgl, hcs, hgn, hA6, hs6⟩
  have K6 := Lib.hid (hs6.blk K4.out n2)
  have B6 := Lib.hid (hs6.below B4.out B4.out.size LS.out)
  have HS6 := Lib.hid (Sa.wd_show (n := n) (a := 0) hgl hcs)
  have HW6 := Lib.hid (Sa.wd_blk (n := n) (v := fun j => ((Sa.oru f 0 (j + 1) : Nat) : Int)) K6.out HLl2.out (fun j hj => by have h := HLg2.out j hj; first | (rw [if_pos rfl] at h; exact h) | (rw [if_neg Bool.false_ne_true] at h; exact h) | (simpa using h)))
  clear hcs hA6 hs6 hgn
  have HQ : ∀ j, j < n → ws1.getD (0 + j) 0 = ((Sa.oru f 0 (j + 1) : Nat) : Int) := fun j hj => by rw [Nat.zero_add]; exact HG1.out j hj
  have hsame := Lib.hid (saSame_any HS6.out HW6.out HQ (by omega) n n)
  clear HQ HS6 HW6
  go_wp2_with fail
  refine hsame.out.mono ?_
  rintro e W7 ⟨rfl, hb7⟩
  have B7 := Lib.hid (bl_then (Lib.hid hb7) B6.out B6.out.size)
  clear hb7
  go_wp2_with fail
  go_ret
  exact ⟨rfl, B7.out⟩
set_option maxRecDepth 100000 in
set_option maxHeartbeats 8000000 in
theorem ScanRuns_k3 {w : World} {A : Option Addr} {n : Nat} {f : Nat → Nat} (hA : Sj.Cl .u32 w A n f) (hf : ∀ i, f i < 4294967296) (h100 : n ≤ 100) (c x : Nat) (hx : x < 256) (h4 : x % 4 = 3) :
    Calls Try.prog 3 #[.slice A n c, .int .u8 x] w fun e w' => e = .returned (.bool true) ∧ Below w.heap.size w w' := by
  have hd1 := decide_eq_false (show ¬ (100 : Int) < (n : Int) by omega)
  have hK1 : (x : Int).tmod 4 = 3 := by rw [Int.tmod_eq_emod_of_nonneg (by omega)]; omega
  have hEq : (1 + (n : Int) + 2 * (n : Int) - (1 + (n : Int))) = 2 * n := by omega
  have HA := Lib.hid hA
  have HF := Lib.hid hf
  clear hA hf
  go_enter Try.func3, Try.ntmps3
  go_wp2_with (first
    | (first | (go_at_call 13; refine (awake05_any _).mono ?_; rintro e wq ⟨rfl, hb⟩; have hcf_wq := bcell hb; (try simp only [World.size_alloc, World.size_setCell, drew_size] at hcf_wq); have hz_wq := hb.size; (try simp only [World.size_alloc, World.size_setCell, World.size_drew] at hz_wq); have hbh_wq := Lib.hid hb; clear hb; obtain ⟨hc_wq, hf_wq⟩ := hcf_wq))
    | (go_at_call 14; with_reducible refine (saLay_e (HA.out.below (Nat.le_refl _) hbh_wq.out) (Sa.c0 _ (fun _ => 0)) (by omega) (by decide) c 0).mono ?_; rintro e wl ⟨p, q, lp, F0, E0, rfl, hA0, hE0, hlow, hb⟩; have HL0 := Lib.hid hA0; have LOW := Lib.hid hlow; have BL := Lib.hid hb; have zl := hb.size; clear hA0 hlow hb)
    | (go_at_call 15; with_reducible refine (ALog_any HL0.out).mono ?_; rintro e w1 ⟨rfl, hw1⟩; subst hw1)
    | (go_at_call 16; with_reducible refine (Len_any _ _ _ _ HL0.out.lg).mono ?_; rintro e w1 ⟨rfl, hw1⟩; subst hw1)
    | (go_at_call 17; with_reducible refine (rSums05_any ((HA.out.below (Nat.le_refl _) hbh_wq.out).below (Nat.le_refl _) ((BL.out.alloc (Nat.le_trans BL.out.size (Nat.le_refl _)) _))) HF.out (by omega) c _).mono ?_; rintro e wr ⟨L, rfl, hBk, hLl, hLg, hb⟩; have HBk := Lib.hid hBk; have HLl := Lib.hid hLl; have HLg := Lib.hid hLg; have BR := Lib.hid hb; have zr := hb.size; clear hBk hLl hLg hb))
  have z1 : w.heap.size ≤ w1.heap.size := Nat.le_trans hz_wq zl
  have b1 : Below w.heap.size w w1 := bl_then BL hbh_wq.out hz_wq
  have BT := Lib.hid (bl_then BR (bl_alloc z1 b1 (.cells #[.int .u32 0] 32)) (by simp; omega))
  have hm0 : ¬ AF p q F0 w1.heap.size := fun hf => Nat.lt_irrefl _ (HL0.out.most _ hf)
  have hm1 : ¬ AF p q F0 (w1.heap.size + 1) := fun hf => by have := HL0.out.most _ hf; omega
  have HR := Lib.hid ((HL0.out.alloc (.cells #[.int .u32 0] 32)).below BR)
  have c8 : wr.cell? ⟨w1.heap.size, 0, none⟩ = some (.int .u32 0) := (BR.out.cell (p := ⟨w1.heap.size, 0, none⟩) (by simp)).trans ((Blk.new w1 _ _).cell 0)
  have f8 : wr.frozen? ⟨w1.heap.size, 0, none⟩ = false := (BR.out.frozen (p := ⟨w1.heap.size, 0, none⟩) (by simp)).trans ((Blk.new w1 _ _).frozen 0)
  have LW0 := Lib.hid (fun i hi => Nat.le_trans hz_wq (LOW.out i hi))
  have HBk' : Hid (Blk wr (w1.heap.size + 1) 30 (wcells L)) := Lib.hid (by have h := HBk.out; rwa [World.size_alloc] at h)
  rw [World.size_alloc] at zr
  have zG1 := HBk'.out.lt
  obtain ⟨G, hG⟩ : ∃ G, w1.heap.size = G := ⟨_, rfl⟩
  rw [hG] at c8 f8 HBk' hm0 hm1 zr z1 zG1 ⊢
  clear hc_wq hf_wq BL BR HBk b1 HL0 hG LOW
  refine (saBehind_l HR.out HF.out (by omega)).mono ?_
  rintro e ws ⟨rfl, F1, ws1, E1, hA1, hE1, hg1, hs1⟩
  have d8 := (old_cell (o := 0) hs1 (b := G) (by omega) hm0).trans c8
  have e8 := (old_frozen (o := 0) hs1 (b := G) (by omega) hm0).trans f8
  have HS1 := Lib.hid hA1
  have HG1 := Lib.hid hg1
  have n0 := af_old hs1 (b := G) (by omega) hm0
  have n1 := af_old hs1 (b := G + 1) (by omega) hm1
  have HK1 := Lib.hid (hs1.blk HBk'.out hm1)
  have BS := Lib.hid (hs1.below BT.out BT.out.size LW0.out)
  have LS := Lib.hid (hs1.low (B := w.heap.size) BT.out.size LW0.out)
  have zs := hs1.size
  clear hA1 hg1 hs1 c8 f8 HR BT HBk' hm0 hm1 LW0
  go_wp2_with fail
  refine calls_gen _ ?_
  intro W2 hW2
  have c2 : W2.cell? ⟨G, 0, none⟩ = some (.int .u32 (Sa.oru f 0 n : Nat)) := by rw [hW2]; exact World.cell?_setCell_same' _ _ _ (by rw [d8]; rfl)
  have H2 := Lib.hid (show Ar W2 p q lp F1 ws1 (n + 0) E1 by rw [hW2]; exact HS1.out.far n0 _)
  have B2 := Lib.hid (show Below w.heap.size w W2 by rw [hW2]; exact bl_set z1 BS.out _)
  have K2 := Lib.hid (show Blk W2 (G + 1) 30 (wcells L) by rw [hW2]; exact HK1.out.far (p := ⟨G, 0, none⟩) (by show G + 1 ≠ G; omega) _)
  have zk := K2.out.lt
  clear hW2 d8 e8 HS1 BS HK1
  refine (rOrs05_any (HA.out.below (Nat.le_refl _) B2.out) HF.out (by omega) c _).mono ?_
  rintro e W3 ⟨L2, rfl, hBk2, hLl2, hLg2, hb3⟩
  have c3 := (hb3.cell (p := ⟨G, 0, none⟩) (show G < W2.heap.size by omega)).trans c2
  have H3 := Lib.hid (H2.out.below (Lib.hid hb3))
  have B3 := Lib.hid (bl_then (Lib.hid hb3) B2.out B2.out.size)
  have K3 := Lib.hid hBk2
  have HLl2 := Lib.hid hLl2
  have HLg2 := Lib.hid hLg2
  have n2 : ¬ AF p q F1 W2.heap.size := fun hf => Nat.lt_irrefl _ (H2.out.most _ hf)
  have z3 : W2.heap.size < W3.heap.size := hBk2.lt
  clear hBk2 hLl2 hLg2 hb3 c2 H2 B2 K2
  go_wp2_with fail
  refine (told05_any _ _).mono ?_
  rintro e W4 ⟨rfl, hb4⟩
  have K4 := Lib.hid (K3.out.below hb4 z3)
  have H4 := Lib.hid (H3.out.below (Lib.hid hb4))
  have B4 := Lib.hid (bl_then (Lib.hid hb4) B3.out B3.out.size)
  have z4 := hb4.size
  clear hb4 c3
  go_wp2_with (first
    | (go_at_call 15; with_reducible refine (ALog_any H4.out).mono ?_; rintro e w5 ⟨rfl, hw1⟩; replace hw1 := hw1.symm; subst hw1)
    | (go_at_call 16; with_reducible refine (Len_any _ _ _ _ H4.out.lg).mono ?_; rintro e w5 ⟨rfl, hw1⟩; replace hw1 := hw1.symm; subst hw1))
  refine (AShow_t H4.out 0 n (by omega) (by omega)).mono ?_
  rintro e W6 ⟨go, F6, rfl, hgl, hcs, hgn, hA6, hs6⟩
  have K6 := Lib.hid (hs6.blk K4.out n2)
  have B6 := Lib.hid (hs6.below B4.out B4.out.size LS.out)
  have HS6 := Lib.hid (Sa.wd_show (n := n) (a := 0) hgl hcs)
  have HW6 := Lib.hid (Sa.wd_blk (n := n) (v := fun j => ((Sa.oru f j (n - j) : Nat) : Int)) K6.out HLl2.out (fun j hj => by have h := HLg2.out j hj; first | (rw [if_pos rfl] at h; exact h) | (rw [if_neg Bool.false_ne_true] at h; exact h) | (simpa using h)))
  clear hcs hA6 hs6 hgn
  have HQ : ∀ j, j < n → ws1.getD (0 + j) 0 = ((Sa.oru f j (n - j) : Nat) : Int) := fun j hj => by rw [Nat.zero_add]; exact HG1.out j hj
  have hsame := Lib.hid (saSame_any HS6.out HW6.out HQ (by omega) n n)
  clear HQ HS6 HW6
  go_wp2_with fail
  refine hsame.out.mono ?_
  rintro e W7 ⟨rfl, hb7⟩
  have B7 := Lib.hid (bl_then (Lib.hid hb7) B6.out B6.out.size)
  clear hb7
  go_wp2_with fail
  go_ret
  exact ⟨rfl, B7.out⟩
set_option maxRecDepth 20000 in
set_option maxHeartbeats 2000000 in
theorem ScanRuns_any {w : World} {A : Option Addr} {n : Nat} {f : Nat → Nat} (hA : Sj.Cl .u32 w A n f) (hf : ∀ i, f i < 4294967296) (hn : n ≤ 9223372036854775807) (c x : Nat) (hx : x < 256) :
    Calls Try.prog 3 #[.slice A n c, .int .u8 x] w fun e w' => e = .returned (.bool true) ∧ Below w.heap.size w w' := by
  by_cases h100 : n ≤ 100
  · rcases (by omega : x % 4 = 0 ∨ x % 4 = 1 ∨ x % 4 = 2 ∨ x % 4 = 3) with h4 | h4 | h4 | h4
    · exact ScanRuns_k0 hA hf h100 c x hx h4
    · exact ScanRuns_k1 hA hf h100 c x hx h4
    · exact ScanRuns_k2 hA hf h100 c x hx h4
    · exact ScanRuns_k3 hA hf h100 c x hx h4
  · have hd1 := decide_eq_true (show (100 : Int) < (n : Int) by omega)
    clear hA hf
    go_enter Try.func3, Try.ntmps3
    go_wp2_with (first | (go_at_call 13; refine (awake05_any _).mono ?_; rintro e w1 ⟨rfl, hb⟩; have hcf := bcell hb; (try simp only [World.size_alloc, World.size_setCell, drew_size] at hcf); have hz := hb.size; (try simp only [World.size_alloc, World.size_setCell, World.size_drew] at hz); have hbh := Lib.hid hb; clear hb; obtain ⟨hc, hf⟩ := hcf))
    go_ret
    refine ⟨rfl, ?_⟩
    (repeat' (first | with_reducible exact Below.refl _ _ | with_reducible refine bl_drewN ?_ _ | with_reducible refine bl_drew ?_ | refine bl_set (by (first | omega | (simp; done) | (simp; omega))) ?_ _ | refine bl_alloc (by (first | omega | (simp; done) | (simp; omega))) ?_ _ | refine bl_then (by assumption) ?_ (by (first | omega | (simp; done) | (simp; omega))) | refine Step.bl (by assumption) (by assumption) (by (first | omega | (simp; done) | (simp; omega))) (by (first | omega | (simp; done) | (simp; omega))) ?_))
end Go.Proofs.Ytdakbejppnijdaa
