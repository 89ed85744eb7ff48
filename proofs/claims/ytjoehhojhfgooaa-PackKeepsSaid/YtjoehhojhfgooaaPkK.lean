/- PackKeeps: the law's call. No condition. -/
import Derived.Test.YtjoehhojhfgooaaPkJ
import Derived.Test.YtjoehhojhfgooaaUtDc
namespace Go.Proofs.Ytjoehhojhfgooaa
open Go.RowKit
set_option linter.unusedSimpArgs false
set_option linter.unusedVariables false
attribute [local go_sem] IntKind.wrap_u32' signed_u32 max_u32
attribute [local go_sem ↓] Go.wp_at_zero Go.wp_at_succ
attribute [local go_sem] Calm.C
attribute [local go_sem low] Calm.al_cell Calm.al_frozen
theorem Iti.to {wa w' : World} {G G' G2 : Nat → Prop} {A : Option Addr} {m : Nat} {L : Nat → Int} (h : Iti wa G A m L) (hs : Step G G' wa w') (hd : ∀ i, G2 i → wa.heap.size ≤ i) : Iti w' G2 A m L := fun h0 => by
  obtain ⟨b, o, e, hl, hn, hc⟩ := h h0
  exact ⟨b, o, e, Nat.lt_of_lt_of_le hl hs.size, fun hg => by have := hd b hg; omega, fun j hj => (old_cell (o := o + j) hs hl hn).trans (hc j hj)⟩
theorem rowz_nil (w : World) : Rowz w none 0 (fun _ => 0) (fun _ _ => 0) 0 0 (fun _ => none) (fun _ => 0) :=
  ⟨fun h => absurd h (Nat.lt_irrefl 0), fun i hi => absurd hi (Nat.not_lt_zero i), fun i hi => absurd hi (Nat.not_lt_zero i), fun i hi => absurd hi (Nat.not_lt_zero i)⟩
theorem Pack_l {w : World} {p g lp : Nat} {FL : Nat → Prop} {ws : List Int} {n W Z : Nat} {evs : List Ev} (h : Ar w p g lp FL ws Z evs) (he : evs.length < 1000000000) (hZ : n * (W + 1) = Z) (hn : n ≤ 100) (hW : W ≤ 10) (A : Option Addr) (c : Nat) (hA : Iti w (AF p g FL) A W (fun k => ((n * (k + 1) : Nat) : Int))) (hl : ws.length = n * (W + 2)) :
    Calls Try.prog 37 #[.pointer (some ⟨p, 0, none⟩), .int .i64 0, .int .i64 n, .slice A W c] w fun e w' =>
      e = .returned (.tuple #[.agg #[.int .u32 (Pk.kept 0 n Z W (fun j => n * (j + 1)) ws)], .bool true]) ∧
        ∃ FL', Ar w' p g lp FL' (Pk.out 0 n Z W (fun j => n * (j + 1)) ws) Z (evs ++ Pk.evs 0 n Z W (fun j => n * (j + 1))) ∧ Step (AF p g FL) (AF p g FL') w w' := by
  subst hZ
  exact Pack_t h he 0 n A W c (fun k => ((n * (k + 1) : Nat) : Int)) hA (by omega) (by omega) (by omega) (Pk.lanes_mul n W) (by rw [hl, Nat.mul_succ n (W + 1)]; omega)
def wrds (g : Nat → Int) (m : Nat) : List Value := (List.range m).map fun i => .int .u32 (g i)
theorem wrds_zero (g : Nat → Int) : wrds g 0 = [] := rfl
theorem wrds_len (g : Nat → Int) (m : Nat) : (wrds g m).length = m := by simp [wrds]
theorem wrds_succ (g : Nat → Int) (m : Nat) : wrds g (m + 1) = wrds g m ++ [.int .u32 (g m)] := by
  unfold wrds
  rw [List.range_succ, List.map_append]
  rfl
theorem wrds_own {w : World} {base m c : Nat} {A : Option Addr} {g : Nat → Int} (h : w.ownsRow base 30 1 (.slice A m c) m (wrds g m)) (h0 : 0 < m) : ∃ b, A = some ⟨b, 0, none⟩ ∧ base ≤ b ∧ b < w.heap.size ∧ ∀ q, q < m → w.cell? ⟨b, q, none⟩ = some (.int .u32 (g q)) := by
  obtain ⟨b, cap, hv, hb, hl⟩ := h.form h0
  injection hv with h1 h2 h3
  subst h1
  refine ⟨b, rfl, hb, hl, fun q hq => (h.cellAt q (by omega)).trans ?_⟩
  unfold wrds
  rw [List.getElem?_map, List.getElem?_range hq]
  rfl
theorem wrds_cap {w : World} {base m c : Nat} {A : Option Addr} {g : Nat → Int} (h : w.ownsRow base 30 1 (.slice A m c) m (wrds g m)) : m ≤ c := by
  rcases h.2 with ⟨h0, h1⟩ | ⟨g, cap, cur, hv, h1, h2, h3⟩
  · omega
  · injection hv with e1 e2 e3
    subst e3
    exact h3.1
attribute [local irreducible] wrds Pk.out Pk.kept Pk.evs stEvs lyw wdr Pk.cs Pk.stp Pk.kc hdrs upd
set_option maxRecDepth 10000 in
set_option maxHeartbeats 6400000 in
theorem PackKeeps_any {w : World} {A : Option Addr} {n c : Nat} {K : Nat → Nat} (hK : Rd w A n (fun i => (K i : Int))) (hK32 : ∀ i, K i < 4294967296) (hn : n ≤ 9223372036854775807) {LA : Option Addr} {nl cl : Nat} {R : Nat → Nat} {f : Nat → Nat → Int} {B off : Nat} {Ai : Nat → Option Addr} {ci : Nat → Nat} (hL : Rowz w LA nl R f B off Ai ci) (hnl : nl ≤ 9223372036854775807) (hR : ∀ i, i < nl → R i ≤ 9223372036854775807)
    (hf : ∀ i k, 0 ≤ f i k ∧ f i k < 4294967296) (x : Nat) (hx : x < 256) :
    Calls Try.prog 10 #[.slice A n c, .slice LA nl cl, .int .u8 x] w fun e w' => e = .returned (.bool true) ∧ Below w.heap.size w w' := by
  obtain ⟨W, hW⟩ : ∃ W, x % 5 = W := ⟨_, rfl⟩
  have hW4 : W ≤ 4 := by omega
  have hxi : Int.tmod (x : Int) 5 = (W : Int) := by rw [Int.tmod_eq_emod_of_nonneg (by omega)]; omega
  clear hW
  rcases (by omega : 60 < n ∨ (n ≤ 60 ∧ 60 < nl) ∨ (n ≤ 60 ∧ nl ≤ 60)) with h60 | ⟨h60, h61⟩ | ⟨h60, h61⟩
  · clear hK hL
    go_enter Try.func10, Try.ntmps10
    go_wp2_with (first | (go_at_call 36; refine (awake04_any _).mono ?_; rintro e w1 ⟨rfl, hb⟩; have hcf := bcell hb; (try simp only [World.size_alloc, World.size_setCell, drew_size] at hcf); have hz := hb.size; (try simp only [World.size_alloc, World.size_setCell, World.size_drew] at hz); have hbh := Lib.hid hb; clear hb; obtain ⟨hc, hf⟩ := hcf))
    go_ret
    refine ⟨rfl, ?_⟩
    (repeat' (first | with_reducible exact Below.refl _ _ | with_reducible refine bl_drewN ?_ _ | with_reducible refine bl_drew ?_ | refine bl_set (by (first | omega | (simp; done) | (simp; omega))) ?_ _ | refine bl_alloc (by (first | omega | (simp; done) | (simp; omega))) ?_ _ | refine bl_then (by assumption) ?_ (by (first | omega | (simp; done) | (simp; omega))) | refine Step.bl (by assumption) (by assumption) (by (first | omega | (simp; done) | (simp; omega))) (by (first | omega | (simp; done) | (simp; omega))) ?_))
  · clear hK hL
    go_enter Try.func10, Try.ntmps10
    go_wp2_with (first | (go_at_call 36; refine (awake04_any _).mono ?_; rintro e w1 ⟨rfl, hb⟩; have hcf := bcell hb; (try simp only [World.size_alloc, World.size_setCell, drew_size] at hcf); have hz := hb.size; (try simp only [World.size_alloc, World.size_setCell, World.size_drew] at hz); have hbh := Lib.hid hb; clear hb; obtain ⟨hc, hf⟩ := hcf))
    go_ret
    refine ⟨rfl, ?_⟩
    (repeat' (first | with_reducible exact Below.refl _ _ | with_reducible refine bl_drewN ?_ _ | with_reducible refine bl_drew ?_ | refine bl_set (by (first | omega | (simp; done) | (simp; omega))) ?_ _ | refine bl_alloc (by (first | omega | (simp; done) | (simp; omega))) ?_ _ | refine bl_then (by assumption) ?_ (by (first | omega | (simp; done) | (simp; omega))) | refine Step.bl (by assumption) (by assumption) (by (first | omega | (simp; done) | (simp; omega))) (by (first | omega | (simp; done) | (simp; omega))) ?_))
  have HX := Lib.hid hK
  have HK32 := Lib.hid hK32
  have HLL := Lib.hid hL
  have HRR := Lib.hid hR
  have HF := Lib.hid hf
  clear hK hK32 hL hR hf
  obtain ⟨i1, hi1, hy0, hy1, hy2⟩ := info_parts Try.infoU32A
  obtain ⟨Z, hZ⟩ : ∃ Z, n * (W + 1) = Z := ⟨_, rfl⟩
  have hZb : Z ≤ 60 * 5 := by rw [← hZ]; exact Nat.mul_le_mul h60 (by omega)
  have hZi : (n : Int) * ((W : Int) + 1) = (Z : Int) := by rw [← hZ]; simp
  have HZ := Lib.hid hZ
  obtain ⟨EP, hEP⟩ : ∃ EP, Pk.evs 0 n Z W (fun j => n * (j + 1)) = EP := ⟨_, rfl⟩
  obtain ⟨CL, hCL⟩ : ∃ CL, EP.length = CL := ⟨_, rfl⟩
  have hCLb : CL ≤ 1000000 := by rw [← hCL, ← hEP]; exact pkEvs_len _ _ _ _ _ (by omega) (by omega)
  have HCL := Lib.hid (show n * (3 + 2 * W) + 1 + n + 1 + Pk.cs n W (Pk.stp n) = CL by rw [← hCL, ← hEP, Pk.evs_len])
  obtain ⟨E0, hE0⟩ : ∃ E0, [(⟨4, 0, (Z : Int)⟩ : Ev)] ++ stEvs 0 Z = E0 := ⟨_, rfl⟩
  have hE0l : E0.length = Z + 1 := by rw [← hE0, List.length_append, stEvs_len]; simp; omega
  have HEP := Lib.hid hEP
  have HE0 := Lib.hid hE0
  have HE0L := Lib.hid hE0l
  have HEPL := Lib.hid hCL
  clear hZ hEP hE0 hCL hE0l
  go_enter Try.func10, Try.ntmps10
  go_wp2_with (first
    | (first | (go_at_call 36; refine (awake04_any _).mono ?_; rintro e wq ⟨rfl, hb⟩; have hcf_wq := bcell hb; (try simp only [World.size_alloc, World.size_setCell, drew_size] at hcf_wq); have hz_wq := hb.size; (try simp only [World.size_alloc, World.size_setCell, World.size_drew] at hz_wq); have hbh_wq := Lib.hid hb; clear hb; obtain ⟨hc_wq, hf_wq⟩ := hcf_wq))
    | (go_at_call 38; with_reducible refine (lay04_any (HX.out.below hbh_wq.out) (by omega) (HLL.out.below hbh_wq) HRR.out W (by omega)).mono ?_; rintro e wa ⟨p, g, lp, F, ws, LB, cB, rfl, hA, hl, hget, hI, hlow, hb⟩; rw [HZ.out, HE0.out] at hA; have HA := Lib.hid hA; have HWS := Lib.hid (And.intro hl hget); have HI := Lib.hid hI; have LOW := Lib.hid hlow; have BA := Lib.hid (bl_then (Lib.hid hb) hbh_wq.out hbh_wq.out.size); have za := BA.out.size; clear hA hl hget hI hlow hb)
    | (refine wpList_make_full _ (by rfl) _ _ 22 (by rfl) wa.heap.size 30 i1 _ 1 Try.underlying22 hi1 hy0 hy1 .i64 .i64 _ _ n (by rfl) (by rfl) (by rfl) (by rfl) (by rw [hy2]; omega) (by simp only [maxLen]; omega) (by simp) ?_; intro wm hown hgr; obtain ⟨hm1, hm2, hm3, hm4⟩ := made_own hown; have hbm := none_bl hgr; have hz_m := hbm.size; have BM := Lib.hid hbm; have HM3 := Lib.hid hm3; clear hbm hown hgr hm3 hm4))
  have HRm : Hid (Rd wm (some ⟨wa.heap.size, 0, none⟩) n (fun _ => 0)) := Lib.hid (fun _ => ⟨wa.heap.size, 0, rfl, hm2, fun i hi => by rw [Nat.zero_add]; exact HM3.out i hi⟩)
  with_reducible refine (lay04_any HRm.out (by omega) (rowz_nil wm) (fun i hi => absurd hi (Nat.not_lt_zero i)) W (by omega)).mono ?_
  rintro e wb ⟨p2, g2, lp2, F2, ws2, LB2, cB2, rfl, hA, hl, hget, hI, hlow, hb⟩
  rw [HZ.out, HE0.out] at hA
  have HA2 := Lib.hid hA
  have HWS2 := Lib.hid hl
  have LOW2 := Lib.hid hlow
  have BB := Lib.hid (bl_then (Lib.hid hb) BM.out BM.out.size)
  have zb := BB.out.size
  clear hA hl hget hI hlow hb
  go_wp2_with (first
    | (go_at_call 14; with_reducible refine (ALog_any (HA.out.below BB)).mono ?_; rintro e w6 ⟨rfl, hw⟩; replace hw := hw.symm; subst hw)
    | (go_at_call 15; with_reducible refine (Len_any _ F lp E0 (HA.out.below BB).lg).mono ?_; rintro e w6 ⟨rfl, hw⟩; rw [HE0L.out]; subst hw))
  have LX := Lib.hid (show ∀ i, AF p g F i → w.heap.size ≤ i from fun i hi => Nat.le_trans hbh_wq.out.size (LOW.out i hi))
  have HAb := Lib.hid (HA.out.below BB)
  have SAB := Lib.hid (Step.of_below HA.out.most BB.out)
  have BWB := Lib.hid (bl_then BB BA.out za)
  have LY := Lib.hid (show ∀ i, AF p2 g2 F2 i → wa.heap.size ≤ i from fun i hi => Nat.le_trans hz_m (LOW2.out i hi))
  clear hc_wq hf_wq hbh_wq LOW LOW2 BM HM3 HRm hm2
  with_reducible refine (Pack_l HAb.out (by rw [HE0L.out]; omega) HZ.out (by omega) (by omega) LB cB (HI.out.step SAB.out) HWS.out.1).mono ?_
  rintro e w5 ⟨rfl, F5, hA5, hs5⟩
  obtain ⟨KP, hKP⟩ : ∃ KP, Pk.kept 0 n Z W (fun j => n * (j + 1)) ws = KP := ⟨_, rfl⟩
  obtain ⟨PO, hPO⟩ : ∃ PO, Pk.out 0 n Z W (fun j => n * (j + 1)) ws = PO := ⟨_, rfl⟩
  rw [hKP]
  rw [hPO, HEP.out] at hA5
  have HKP := Lib.hid hKP
  have HPO := Lib.hid hPO
  obtain ⟨W5, hW5⟩ : ∃ W5, w5.alloc (.cells #[.int .u32 KP] 32) = W5 := ⟨_, rfl⟩
  have HA5 := Lib.hid (show Ar W5 p g lp F5 PO Z (E0 ++ EP) by rw [← hW5]; exact hA5.alloc _)
  have S5 := Lib.hid (show Step (AF p g F) (AF p g F5) wb W5 by rw [← hW5]; exact hs5.alloc _)
  have c5 : W5.cell? ⟨w5.heap.size, 0, none⟩ = some (.int .u32 KP) := by rw [← hW5]; exact new_cell _ _ _
  have hz5 := hs5.size
  have hz5' : W5.heap.size = w5.heap.size + 1 := by rw [← hW5]; simp
  have n5 : ¬ AF p g F5 w5.heap.size := fun hf => absurd (hA5.most _ hf) (Nat.lt_irrefl _)
  have n52 : ¬ AF p2 g2 F2 w5.heap.size := fun hf => by have := HA2.out.most _ hf; omega
  have BA5 := Lib.hid (S5.out.below BWB.out BWB.out.size LX.out)
  have LX5 := Lib.hid (S5.out.low BWB.out.size LX.out)
  have HA25 := Lib.hid (HA2.out.beside S5.out (fun i h2 h1 => by have := LY.out i h2; have := HA.out.most i h1; omega))
  have HI5 := Lib.hid (Iti.to HI.out (SAB.out.trans S5.out) LY.out)
  have DIS := Lib.hid (show ∀ i, AF p g F5 i → ¬ AF p2 g2 F2 i from fun i h5 h2 => by
    have h1 := HA2.out.most i h2
    have h3 := (S5.out.foot i h1).1 h5
    have := LY.out i h2
    have := HA.out.most i h3
    omega)
  clear hKP hPO hA5 hs5
  go_wp2_with fail
  with_reducible refine (Pack_l HA25.out (by rw [HE0L.out]; omega) HZ.out (by omega) (by omega) LB cB HI5.out HWS2.out).mono ?_
  rintro e w6 ⟨rfl, F6, hA6, hs6⟩
  obtain ⟨KQ, hKQ⟩ : ∃ KQ, Pk.kept 0 n Z W (fun j => n * (j + 1)) ws2 = KQ := ⟨_, rfl⟩
  obtain ⟨PQ, hPQ⟩ : ∃ PQ, Pk.out 0 n Z W (fun j => n * (j + 1)) ws2 = PQ := ⟨_, rfl⟩
  rw [hKQ]
  rw [hPQ, HEP.out] at hA6
  obtain ⟨W6, hW6⟩ : ∃ W6, w6.alloc (.cells #[.int .u32 KQ] 32) = W6 := ⟨_, rfl⟩
  have HA6 := Lib.hid (show Ar W6 p2 g2 lp2 F6 PQ Z (E0 ++ EP) by rw [← hW6]; exact hA6.alloc _)
  have S6 := Lib.hid (show Step (AF p2 g2 F2) (AF p2 g2 F6) W5 W6 by rw [← hW6]; exact hs6.alloc _)
  have LYw := Lib.hid (show ∀ i, AF p2 g2 F2 i → w.heap.size ≤ i from fun i hi => Nat.le_trans za (LY.out i hi))
  have B6 := Lib.hid (S6.out.below BA5.out BA5.out.size LYw.out)
  have c6 : W6.cell? ⟨w5.heap.size, 0, none⟩ = some (.int .u32 KP) := (old_cell (o := 0) S6.out (by omega) n52).trans c5
  have HB6 := Lib.hid (HA5.out.beside S6.out DIS.out)
  have hz6 := S6.out.size
  obtain ⟨D5, hD5⟩ : ∃ D5, w5.heap.size = D5 := ⟨_, rfl⟩
  rw [hD5] at c6 n5 hz5' ⊢
  clear hKQ hPQ hA6 hs6 HA25 HI5 DIS S5 S6 BA5 LY LYw HA2 HA HAb SAB HI c5 n52 HWS2 hD5 hW5
  go_wp2_with fail
  have hEl : (E0 ++ EP).length = Z + 1 + CL := by rw [List.length_append, HE0L.out, HEPL.out]
  obtain ⟨E1, hE1⟩ : ∃ E1, E0 ++ EP = E1 := ⟨_, rfl⟩
  rw [hE1] at HA6 HB6 hEl
  have HEL := Lib.hid hEl
  have hbl : (blind E1).length < 1099511627776 := by rw [blind, List.length_map, hEl]; omega
  have hci : ((Z : Int) + 1 + (CL : Int)) - ((Z : Int) + 1) = CL := by omega
  clear hE1 hEl hW6
  with_reducible refine (same04_any HB6.out HA6.out rfl rfl hbl).mono ?_
  rintro e w7 ⟨rfl, hb⟩
  have B7 := Lib.hid hb
  have z7 := hb.size
  have c7 := (hb.cell (p := ⟨D5, 0, none⟩) (by show D5 < _; omega)).trans c6
  have HA7 := Lib.hid (HB6.out.below B7)
  clear hb c6
  go_wp2_with (first
    | (go_at_call 14; with_reducible refine (ALog_any HA7.out).mono ?_; rintro e w6 ⟨rfl, hw⟩; replace hw := hw.symm; subst hw)
    | (go_at_call 15; with_reducible refine (Len_any _ F5 lp E1 HA7.out.lg).mono ?_; rintro e w6 ⟨rfl, hw⟩; rw [HEL.out]; subst hw)
    | (go_at_call 40; with_reducible refine (pkCost_any n W (by omega) (by omega) _).mono ?_; rintro e w6 ⟨rfl, hw⟩; rw [HCL.out]; replace hw := hw.symm; subst hw)
    | (go_at_call 18; with_reducible refine (ATop_any HA7.out).mono ?_; rintro e w6 ⟨rfl, hw⟩; replace hw := hw.symm; subst hw))
  have B67 := Lib.hid (bl_then B7 B6.out B6.out.size)
  have z67 := B67.out.size
  have zlo : D5 < w7.heap.size := by omega
  clear HB6 HA6 hbl hci B7 B6 HA5 hz5' hz6 z7 HEPL HCL
  go_loopw [18, 105] (fun a18 i wr => ∃ (k : Nat) (v : Value) (As : Nat → Option Addr) (cs : Nat → Nat), k ≤ n ∧ i = .int .i64 k ∧ a18 = v ∧ Rws wr w7.heap.size w7.heap.size v k W (wdr nl R f) As cs ∧ Below w7.heap.size w7 wr) (fun _ i _ => n - (intOf i).toNat)
  case atStart => exact ⟨0, _, fun _ => none, fun _ => 0, Nat.zero_le _, rfl, rfl, Rws.nil _ _ _ _ _ _ _, Below.refl _ _⟩
  case round =>
    obtain ⟨k, v, As, cs, hk, rfl, rfl, hRr, hBr⟩ := hrel
    have HR := Lib.hid hRr
    have HB := Lib.hid hBr
    have zr := hBr.size
    clear hRr hBr
    by_cases hkn : k < n
    · have BWr := Lib.hid (bl_then HB B67.out z67)
      have zwr := BWr.out.size
      go_wp2_with fail
      go_loopw [20, 109] (fun a20 i wi => ∃ (j : Nat) (v' : Value), j ≤ W ∧ i = .int .i64 j ∧ a20 = v' ∧ wi.ownsRow wr.heap.size 30 1 v' j (wrds (wdr nl R f k) j) ∧ Below wr.heap.size wr wi) (fun _ i _ => W - (intOf i).toNat)
      case atStart => exact ⟨0, _, Nat.zero_le _, rfl, rfl, by rw [wrds_zero]; exact World.ownsRow_nil _ _ _ _, Below.refl _ _⟩
      case round =>
        rename World => wi
        obtain ⟨j, v', hj, rfl, rfl, hO, hBi⟩ := hrel
        have HO := Lib.hid hO
        have HBI := Lib.hid hBi
        have zi := hBi.size
        clear hO hBi
        by_cases hjW : j < W
        · have BWi := Lib.hid (bl_then HBI BWr.out zwr)
          go_wp2_with (first
            | (go_at_call 41; with_reducible refine (word04_any (HLL.out.below BWi) HRR.out k j (by omega) (by omega)).mono ?_; rintro e w5 ⟨rfl, hw5⟩; replace hw5 := hw5.symm; subst hw5)
            | (at_builtin; refine wpList_append_lies _ (by rfl) _ _ 22 (by rfl) wr.heap.size 30 i1 _ 1 4 Try.underlying22 hi1 hy0 hy1 hy2 (by rfl) (by decide) _ j (wrds (wdr nl R f k) j) (by rfl) (HO.out.alloc _) ⟨wi.heap.size, 0, none⟩ 1 1 [.int .u32 (wdr nl R f k j)] (by rfl) (by rfl) (World.news_of_block (heap_alloc_new _ _)) (by simp [Value.oneCell']) (by decide) (by simp only [maxLen]; omega) (by omega) (by simp; omega) (wi.heap.size + 1) (by simp) ?_; intro gg cap w4 hown1 hg1 hat1 hlt1; have HO4 := Lib.hid hown1; have G4 := Lib.hid hg1; clear hg1 hown1 hat1))
          refine ⟨⟨j + 1, _, by omega, by go_num, rfl, by rw [wrds_succ]; exact HO4.out, ?_⟩, by simp [intOf]; omega⟩
          exact bl_grown G4 (own_base HO.out) (by simp; omega) (HBI.out.alloc zi _)
        · obtain rfl : j = W := by omega
          obtain ⟨A20, c20, rfl⟩ := own_slice HO.out
          obtain ⟨i0, hi, hz0, hz1, hz2⟩ := info_parts Try.infoRow
          have HRi := Lib.hid (HR.out.below HBI.out)
          have BWi := Lib.hid (bl_then HBI HB.out zr)
          have zwi := BWi.out.size
          go_wp2_with (first
            | (at_builtin; refine wpList_append_lies _ (by rfl) _ _ 68 (by rfl) w7.heap.size 22 i0 _ 1 24 Try.underlying68 hi hz0 hz1 hz2 (by rfl) (by decide) _ k (hdrs j As cs k) (by rfl) (HRi.out.own.alloc _) ⟨wi.heap.size, 0, none⟩ 1 1 [.slice A20 j c20] (by rfl) (by rfl) (World.news_of_block (heap_alloc_new _ _)) (by simp [Value.oneCell']) (by decide) (by simp only [maxLen]; omega) (by omega) (by simp; omega) (wi.heap.size + 1) (by simp) ?_; intro gg cap w4 hown1 hg1 hat1 hlt1; have HO4 := Lib.hid hown1; have G4 := Lib.hid hg1; have AT4 := Lib.hid hat1; clear hg1 hown1 hat1))
          have P := Lib.hid (HRi.out.push (x := wdr nl R f k) (wrds_cap HO.out) (fun h0 => by
            obtain ⟨b', e, h1, h2, h3⟩ := wrds_own HO.out h0
            exact ⟨b', 0, e, h2, by omega, fun g he hbg => by have := own_lt HR.out.own g he; omega, fun q hq => by rw [Nat.zero_add]; exact h3 q hq⟩) HO4.out G4.out AT4.out)
          have BN := Lib.hid (bl_grown G4 (own_base HRi.out.own) (by simp; omega) (BWi.out.alloc zwi _))
          refine ⟨⟨k + 1, _, _, _, by omega, by go_num, rfl, P.out.congr (fun i hi q hq => ?_), BN.out⟩, by simp [intOf]; omega⟩
          by_cases hik : i = k
          · subst hik; rw [upd_at]
          · rw [upd_ne _ _ _ hik]
    · obtain rfl : k = n := by omega
      have BWr := Lib.hid (bl_then HB B67.out z67)
      obtain ⟨A18, c18, B18, rfl, hc18, hB18, hlo18, hRow18⟩ := HR.out.rowz
      have R18 := Lib.hid hRow18
      have LO18 := Lib.hid hlo18
      have HAr := Lib.hid (HA7.out.below HB)
      have cr := (HB.out.cell (p := ⟨D5, 0, none⟩) zlo).trans c7
      have zr' := BWr.out.size
      clear hRow18 hlo18 hB18
      go_wp2_with fail
      with_reducible refine (ref04_any (HX.out.below BWr.out) HK32.out (by omega) R18.out (by omega) LO18.out (by omega) (fun i => K i % 2 == 1) (fun _ => rfl)).mono ?_
      rintro e w8 ⟨v8, g8, As8, cs8, rfl, hR8, hg1, hg2, hb8⟩
      have HR8 := Lib.hid hR8
      have HG1 := Lib.hid hg1
      have HG2 := Lib.hid hg2
      have B8 := Lib.hid hb8
      clear hR8 hg1 hg2 hb8
      have hpl := Pk.keeps_plain k W (by omega) K HK32.out (wdr nl R f) (fun i q => by
        unfold wdr
        split
        · exact HF.out i q
        · omega) ws HWS.out.1 HWS.out.2 (fun i => K i % 2 == 1) (fun _ => rfl) g8 HG1.out HG2.out
      rw [HZ.out, HKP.out, HPO.out] at hpl
      obtain ⟨hp1, hp2, hp3⟩ := hpl
      have hkc := kc_le (fun i => K i % 2 == 1) k
      obtain ⟨KC, hKC⟩ : ∃ KC, Pk.kc (fun i => K i % 2 == 1) k = KC := ⟨_, rfl⟩
      rw [hKC] at hp1 hp2 hkc ⊢
      subst hp1
      have HP2 := Lib.hid hp2
      have HP3 := Lib.hid hp3
      have z8 := B8.out.size
      have HA8 := Lib.hid (HAr.out.below B8)
      have c8 := (B8.out.cell (p := ⟨D5, 0, none⟩) (by show D5 < _; omega)).trans cr
      have BW8 := Lib.hid (bl_then B8 BWr.out zr')
      have MOST := Lib.hid HA7.out.most
      clear hp2 hp3 hKC HG1 HG2 HAr cr c7 BWr R18 LO18 HB B67 HA7 HR HX HK32 HLL HRR HF HKP HPO HWS HEP
      obtain ⟨A8, c8', B8', rfl, hc8, hB8', hlo8, hRow8⟩ := HR8.out.rowz
      have hkcm : (KC : Int) % 4294967296 = (KC : Int) := by omega
      go_wp2_with (first | (go_at_call 43; refine (told04_any _ _).mono ?_; rintro e wt ⟨rfl, hb⟩; have hcf_wt := bcell hb; (try simp only [World.size_alloc, World.size_setCell, drew_size] at hcf_wt); have hz_wt := hb.size; (try simp only [World.size_alloc, World.size_setCell, World.size_drew] at hz_wt); have hbh_wt := Lib.hid hb; clear hb; obtain ⟨hc_wt, hf_wt⟩ := hcf_wt))
      have HROW := Lib.hid (hRow8.below hbh_wt)
      have HLO8 := Lib.hid hlo8
      have HBB := Lib.hid hB8'
      have HA9 := Lib.hid (HA8.out.below hbh_wt)
      have BW9 := Lib.hid (bl_then hbh_wt BW8.out BW8.out.size)
      have z9 := BW9.out.size
      have hz9 := hbh_wt.out.size
      have hEl := HEL.out
      clear hRow8 hlo8 hB8' hbh_wt hc_wt hf_wt hz_wt HA8 BW8 c8 HR8
      go_loopw [137] (fun i wr => ∃ (q : Nat) (F : Nat → Prop) (E : List Ev), q ≤ k ∧ i = .int .i64 q ∧ Ar wr p g lp F PO Z E ∧ E.length ≤ Z + 1 + CL + 20 * q ∧ Step (AF p g F5) (AF p g F) wt wr) (fun i _ => k - (intOf i).toNat)
      case atStart => exact ⟨0, F5, E1, Nat.zero_le _, rfl, HA9.out, by omega, HA9.out.step0⟩
      case round =>
        rename World => wx
        obtain ⟨q, FF, E, hq, rfl, hA, hE, hS⟩ := hrel
        have HA := Lib.hid hA
        have HS := Lib.hid hS
        clear hA hS HA9
        by_cases hqk : q < k
        · have hp2 := HP2.out q hqk
          have hqZ : q < Z := by rw [← HZ.out]; exact Nat.lt_of_lt_of_le hqk (Nat.le_mul_of_pos_right k (Nat.succ_pos W))
          obtain ⟨X, hX⟩ : ∃ X, PO.getD q 0 = X := ⟨_, rfl⟩
          rw [hX] at hp2
          have HXX := Lib.hid hX
          clear hX
          by_cases hqc : q < KC
          · rw [if_pos hqc] at hp2
            go_wp2_with (first
              | (go_at_call 22; with_reducible refine' Calls.mono (ARelease_e ?_ ?_ _ q ?_ ?_) ?_; rotate_left 6; (next => (repeat' (first | with_reducible exact HA.out | with_reducible refine' Ar.drewN ?_ _ | with_reducible refine' Ar.drew ?_ | with_reducible refine' Ar.farE ?_ ?_ _ | with_reducible refine' Ar.alloc ?_ _ | with_reducible refine' Ar.below ?_ (by assumption))); (try (all_goals (simp [*, ↓IntWalk.iteOmega]; first | done | fail))); (first | done | fail)); (next => omega); (next => omega); (next => omega); rintro e w1 ⟨rfl, F1, hA1, hs1⟩; rw [HXX.out]; obtain ⟨hc, hf, hn⟩ := hs1.rules; (try simp only [World.size_alloc, World.size_setCell, drew_size] at hc hf hn); have hz := hs1.size; (try simp only [World.size_alloc, World.size_setCell, World.size_drew] at hz); have hst := Lib.hid hs1; have HA := Lib.hid hA1; clear hA1 hs1))
            have S1 := Lib.hid (HS.out.trans hst.out)
            obtain ⟨E2, hE2⟩ : ∃ E2, E ++ [⟨1, (q : Int), 0⟩] ++ [⟨3, 0, PO.getD q 0⟩] = E2 := ⟨_, rfl⟩
            have hE2l : E2.length ≤ Z + 1 + CL + 20 * q + 2 := by rw [← hE2]; simp only [List.length_append, List.length_cons, List.length_nil]; omega
            rw [hE2] at HA
            clear hE2 hc hf hn hst
            obtain ⟨rfl, hBl⟩ := HROW.out.at_ (by omega)
            have hhd := HROW.out.cell q hqk
            have hrow := HROW.out.row q hqk
            rw [Nat.zero_add] at hhd
            have hBB := HBB.out (by omega)
            obtain ⟨a, ha⟩ : ∃ a, As8 q = a := ⟨_, rfl⟩
            obtain ⟨cq, hcq⟩ : ∃ cq, cs8 q = cq := ⟨_, rfl⟩
            rw [ha, hcq] at hhd
            rw [ha] at hrow
            have HROWq := Lib.hid hrow
            have HLOq := Lib.hid (show 0 < W → ∀ b o, a = some ⟨b, o, none⟩ → w7.heap.size ≤ b by rw [← ha]; exact HLO8.out q hqk)
            have hcapq := HROW.out.cap q hqk
            rw [hcq] at hcapq
            have HHD := Lib.hid hhd
            clear hrow hhd ha hcq
            go_loopw [149] (fun i wr => ∃ (j : Nat) (F : Nat → Prop) (E : List Ev), j ≤ W ∧ i = .int .i64 j ∧ Ar wr p g lp F PO Z E ∧ E.length ≤ Z + 1 + CL + 20 * q + 2 + 2 * j ∧ Step (AF p g F5) (AF p g F) wt wr) (fun i _ => W - (intOf i).toNat)
            case atStart => exact ⟨0, F1, E2, Nat.zero_le _, rfl, HA.out, by omega, S1.out⟩
            case round =>
              rename World => wi
              obtain ⟨j, FJ, EJ, hj, rfl, hAJ, hEJ, hSJ⟩ := hrel
              clear HA S1
              have HA := Lib.hid hAJ
              have SJ := Lib.hid hSJ
              have zi := hSJ.size
              by_cases hjW : j < W
              · have hp3 := HP3.out q hqk j hjW
                obtain ⟨T, hT⟩ : ∃ T, k * (j + 1) = T := ⟨_, rfl⟩
                have hTi : (k : Int) * ((j : Int) + 1) = (T : Int) := by rw [← hT]; simp
                have hTZ : T + k ≤ Z := by
                  rw [← hT, ← HZ.out, ← Nat.mul_succ]
                  exact Nat.mul_le_mul_left k (by omega)
                rw [hT] at hp3
                obtain ⟨Y, hY⟩ : ∃ Y, PO.getD (T + q) 0 = Y := ⟨_, rfl⟩
                have HYY := Lib.hid hY
                rw [hY] at hp3
                obtain ⟨b, o, rfl, hbl, hcs⟩ := HROWq.out (by omega)
                have hlob := HLOq.out (by omega) b o rfl
                have hcj := hcs j hjW
                rw [← hp3] at hcj
                have nB : ¬ AF p g F5 B8' := fun hf => by have := MOST.out _ hf; omega
                have nb : ¬ AF p g F5 b := fun hf => by have := MOST.out _ hf; omega
                have hh := (old_cell (o := q) hSJ hBl nB).trans HHD.out
                have hr := (old_cell (o := o + j) hSJ hbl nb).trans hcj
                have m1 : FX (AF p g FJ) B8' = False := eq_false (fun hf => nB ((hSJ.foot _ hBl).1 hf))
                have m2 : FX (AF p g FJ) b = False := eq_false (fun hf => nb ((hSJ.foot _ hbl).1 hf))
                have hn := foot_old hAJ.most
                have hw1 : IntKind.i64.wrap ((j : Int) + 1) = (j : Int) + 1 := IntWalk.i64_in _ (by omega)
                have hw2 : IntKind.i64.wrap ((k : Int) * ((j : Int) + 1)) = (T : Int) := by rw [hTi]; exact IntWalk.i64_in _ (by omega)
                have hw4 : IntKind.i64.wrap (T : Int) = (T : Int) := IntWalk.i64_in _ (by omega)
                have hw3 : IntKind.i64.wrap ((T : Int) + (q : Int)) = (T : Int) + q := IntWalk.i64_in _ (by omega)
                clear hAJ hSJ hcs hp3 hT hY hcj
                go_wp2_with fail
                go_region_held3 (fun w' => w'.cell? ⟨B8', q, none⟩ = some (.slice (some ⟨b, o, none⟩) W cq) ∧ w'.cell? ⟨b, o + j, none⟩ = some (.int .u32 Y)) ((simp [go_sem, ↓IntWalk.iteOmega, *]; done)) (first
                  | (go_at_call 22; with_reducible refine' Calls.mono (ARelease_e ?_ ?_ _ (T + q) ?_ ?_) ?_; rotate_left 6; (next => (repeat' (first | with_reducible exact HA.out | with_reducible refine' Ar.drewN ?_ _ | with_reducible refine' Ar.drew ?_ | with_reducible refine' Ar.farE ?_ ?_ _ | with_reducible refine' Ar.alloc ?_ _ | with_reducible refine' Ar.below ?_ (by assumption))); (try (all_goals (simp [*, ↓IntWalk.iteOmega]; first | done | fail))); (first | done | fail)); (next => omega); (next => (first | omega | (simp only [hw1, hw2, hw4, hw3]; omega) | fail)); (next => omega); rintro e w1 ⟨rfl, F1, hA1, hs1⟩; rw [HYY.out]; obtain ⟨hc, hf, hn⟩ := hs1.rules; (try simp only [World.size_alloc, World.size_setCell, drew_size] at hc hf hn); have hz := hs1.size; (try simp only [World.size_alloc, World.size_setCell, World.size_drew] at hz); have hst := Lib.hid hs1; have HA := Lib.hid hA1; clear hA1 hs1))
                all_goals (go_wp2_with fail)
                all_goals
                  refine ⟨⟨j + 1, F1, _, by omega, by go_num, by (repeat' (first | with_reducible exact HA.out | with_reducible refine' Ar.drewN ?_ _ | with_reducible refine' Ar.drew ?_ | with_reducible refine' Ar.farE ?_ ?_ _ | with_reducible refine' Ar.alloc ?_ _ | with_reducible refine' Ar.below ?_ (by assumption))); (try (all_goals (simp [*, ↓IntWalk.iteOmega]; first | done | fail))); (first | done | fail), ?_, ?_⟩, by simp [intOf]; omega⟩
                  · simp only [List.length_append, List.length_cons, List.length_nil]; omega
                  · exact (Step.drew SJ.out).trans hst.out
              · have hgeW : W ≤ j := by omega
                clear hAJ hSJ
                go_wp2_with fail
                exact ⟨⟨q + 1, FJ, EJ, by omega, by go_num, HA.out, by omega, SJ.out⟩, by simp [intOf]; omega⟩
          · rw [if_neg hqc] at hp2
            go_wp2_with (first
              | (go_at_call 22; with_reducible refine' Calls.mono (ARelease_e ?_ ?_ _ q ?_ ?_) ?_; rotate_left 6; (next => (repeat' (first | with_reducible exact HA.out | with_reducible refine' Ar.drewN ?_ _ | with_reducible refine' Ar.drew ?_ | with_reducible refine' Ar.farE ?_ ?_ _ | with_reducible refine' Ar.alloc ?_ _ | with_reducible refine' Ar.below ?_ (by assumption))); (try (all_goals (simp [*, ↓IntWalk.iteOmega]; first | done | fail))); (first | done | fail)); (next => omega); (next => omega); (next => omega); rintro e w1 ⟨rfl, F1, hA1, hs1⟩; rw [HXX.out]; obtain ⟨hc, hf, hn⟩ := hs1.rules; (try simp only [World.size_alloc, World.size_setCell, drew_size] at hc hf hn); have hz := hs1.size; (try simp only [World.size_alloc, World.size_setCell, World.size_drew] at hz); have hst := Lib.hid hs1; have HA := Lib.hid hA1; clear hA1 hs1))
            have S1 := Lib.hid (HS.out.trans hst.out)
            obtain ⟨E2, hE2⟩ : ∃ E2, E ++ [⟨1, (q : Int), 0⟩] ++ [⟨3, 0, PO.getD q 0⟩] = E2 := ⟨_, rfl⟩
            have hE2l : E2.length ≤ Z + 1 + CL + 20 * q + 2 := by rw [← hE2]; simp only [List.length_append, List.length_cons, List.length_nil]; omega
            rw [hE2] at HA
            clear hE2 hc hf hn hst
            obtain ⟨rfl, hBl⟩ := HROW.out.at_ (by omega)
            have hhd := HROW.out.cell q hqk
            have hrow := HROW.out.row q hqk
            rw [Nat.zero_add] at hhd
            have hBB := HBB.out (by omega)
            obtain ⟨a, ha⟩ : ∃ a, As8 q = a := ⟨_, rfl⟩
            obtain ⟨cq, hcq⟩ : ∃ cq, cs8 q = cq := ⟨_, rfl⟩
            rw [ha, hcq] at hhd
            rw [ha] at hrow
            have HROWq := Lib.hid hrow
            have HLOq := Lib.hid (show 0 < W → ∀ b o, a = some ⟨b, o, none⟩ → w7.heap.size ≤ b by rw [← ha]; exact HLO8.out q hqk)
            have hcapq := HROW.out.cap q hqk
            rw [hcq] at hcapq
            have HHD := Lib.hid hhd
            clear hrow hhd ha hcq
            go_loopw [149] (fun i wr => ∃ (j : Nat) (F : Nat → Prop) (E : List Ev), j ≤ W ∧ i = .int .i64 j ∧ Ar wr p g lp F PO Z E ∧ E.length ≤ Z + 1 + CL + 20 * q + 2 + 2 * j ∧ Step (AF p g F5) (AF p g F) wt wr) (fun i _ => W - (intOf i).toNat)
            case atStart => exact ⟨0, F1, E2, Nat.zero_le _, rfl, HA.out, by omega, S1.out⟩
            case round =>
              rename World => wi
              obtain ⟨j, FJ, EJ, hj, rfl, hAJ, hEJ, hSJ⟩ := hrel
              clear HA S1
              have HA := Lib.hid hAJ
              have SJ := Lib.hid hSJ
              have zi := hSJ.size
              by_cases hjW : j < W
              · have hp3 := HP3.out q hqk j hjW
                obtain ⟨T, hT⟩ : ∃ T, k * (j + 1) = T := ⟨_, rfl⟩
                have hTi : (k : Int) * ((j : Int) + 1) = (T : Int) := by rw [← hT]; simp
                have hTZ : T + k ≤ Z := by
                  rw [← hT, ← HZ.out, ← Nat.mul_succ]
                  exact Nat.mul_le_mul_left k (by omega)
                rw [hT] at hp3
                obtain ⟨Y, hY⟩ : ∃ Y, PO.getD (T + q) 0 = Y := ⟨_, rfl⟩
                have HYY := Lib.hid hY
                rw [hY] at hp3
                obtain ⟨b, o, rfl, hbl, hcs⟩ := HROWq.out (by omega)
                have hlob := HLOq.out (by omega) b o rfl
                have hcj := hcs j hjW
                rw [← hp3] at hcj
                have nB : ¬ AF p g F5 B8' := fun hf => by have := MOST.out _ hf; omega
                have nb : ¬ AF p g F5 b := fun hf => by have := MOST.out _ hf; omega
                have hh := (old_cell (o := q) hSJ hBl nB).trans HHD.out
                have hr := (old_cell (o := o + j) hSJ hbl nb).trans hcj
                have m1 : FX (AF p g FJ) B8' = False := eq_false (fun hf => nB ((hSJ.foot _ hBl).1 hf))
                have m2 : FX (AF p g FJ) b = False := eq_false (fun hf => nb ((hSJ.foot _ hbl).1 hf))
                have hn := foot_old hAJ.most
                have hw1 : IntKind.i64.wrap ((j : Int) + 1) = (j : Int) + 1 := IntWalk.i64_in _ (by omega)
                have hw2 : IntKind.i64.wrap ((k : Int) * ((j : Int) + 1)) = (T : Int) := by rw [hTi]; exact IntWalk.i64_in _ (by omega)
                have hw4 : IntKind.i64.wrap (T : Int) = (T : Int) := IntWalk.i64_in _ (by omega)
                have hw3 : IntKind.i64.wrap ((T : Int) + (q : Int)) = (T : Int) + q := IntWalk.i64_in _ (by omega)
                clear hAJ hSJ hcs hp3 hT hY hcj
                go_wp2_with fail
                go_region_held3 (fun w' => w'.cell? ⟨B8', q, none⟩ = some (.slice (some ⟨b, o, none⟩) W cq) ∧ w'.cell? ⟨b, o + j, none⟩ = some (.int .u32 Y)) ((simp [go_sem, ↓IntWalk.iteOmega, *]; done)) (first
                  | (go_at_call 22; with_reducible refine' Calls.mono (ARelease_e ?_ ?_ _ (T + q) ?_ ?_) ?_; rotate_left 6; (next => (repeat' (first | with_reducible exact HA.out | with_reducible refine' Ar.drewN ?_ _ | with_reducible refine' Ar.drew ?_ | with_reducible refine' Ar.farE ?_ ?_ _ | with_reducible refine' Ar.alloc ?_ _ | with_reducible refine' Ar.below ?_ (by assumption))); (try (all_goals (simp [*, ↓IntWalk.iteOmega]; first | done | fail))); (first | done | fail)); (next => omega); (next => (first | omega | (simp only [hw1, hw2, hw4, hw3]; omega) | fail)); (next => omega); rintro e w1 ⟨rfl, F1, hA1, hs1⟩; rw [HYY.out]; obtain ⟨hc, hf, hn⟩ := hs1.rules; (try simp only [World.size_alloc, World.size_setCell, drew_size] at hc hf hn); have hz := hs1.size; (try simp only [World.size_alloc, World.size_setCell, World.size_drew] at hz); have hst := Lib.hid hs1; have HA := Lib.hid hA1; clear hA1 hs1))
                all_goals (go_wp2_with fail)
                all_goals
                  refine ⟨⟨j + 1, F1, _, by omega, by go_num, by (repeat' (first | with_reducible exact HA.out | with_reducible refine' Ar.drewN ?_ _ | with_reducible refine' Ar.drew ?_ | with_reducible refine' Ar.farE ?_ ?_ _ | with_reducible refine' Ar.alloc ?_ _ | with_reducible refine' Ar.below ?_ (by assumption))); (try (all_goals (simp [*, ↓IntWalk.iteOmega]; first | done | fail))); (first | done | fail), ?_, ?_⟩, by simp [intOf]; omega⟩
                  · simp only [List.length_append, List.length_cons, List.length_nil]; omega
                  · exact (Step.drew SJ.out).trans hst.out
              · have hgeW : W ≤ j := by omega
                clear hAJ hSJ
                go_wp2_with fail
                exact ⟨⟨q + 1, FJ, EJ, by omega, by go_num, HA.out, by omega, SJ.out⟩, by simp [intOf]; omega⟩
        · have hge : k ≤ q := by omega
          go_wp2_with fail
          go_ret
          refine ⟨rfl, HS.out.below BW9.out BW9.out.size LX5.out⟩
end Go.Proofs.Ytjoehhojhfgooaa
