/- shares.weights; the document's Join. No condition. -/
import Derived.Test.YtdakbejppnijdaaSjA
import Derived.Laws.OwnMore
import Derived.OwnWalk
namespace Go.Proofs.Ytdakbejppnijdaa
open Go.RowKit
set_option linter.unusedSimpArgs false
set_option linter.unusedVariables false
attribute [local go_sem] IntKind.wrap_u32' signed_u32 max_u32
attribute [local go_sem ↓] Go.wp_at_zero Go.wp_at_succ
attribute [local go_sem] Calm.C
attribute [local go_sem low] Calm.al_cell Calm.al_frozen
theorem Try.infoU8j : (Try.prog.info? 5).map (fun i => (i.zero, i.size, i.bytes)) = some (some (.int .u8 0), 1, 1) := by kernel_rfl
namespace Sj
def wl (f : Nat → Nat) (n k : Nat) : List Value := (List.range n).map fun i => .int .u8 ((if i < k then wt f (f i) n else 0 : Nat) : Int)
theorem rg (n i : Nat) : (List.range n)[i]? = if i < n then some i else none := by
  by_cases h : i < n
  · rw [if_pos h, List.getElem?_range h]
  · rw [if_neg h]
    exact List.getElem?_eq_none (by simp; omega)
theorem wl_zero (f : Nat → Nat) (n : Nat) : wl f n 0 = List.replicate n (.int .u8 0) := by
  refine List.ext_getElem? fun i => ?_
  rw [wl, List.getElem?_map, rg, List.getElem?_replicate]
  split <;> simp
theorem wl_set (f : Nat → Nat) (n k : Nat) : (wl f n k).set k (.int .u8 (wt f (f k) n : Nat)) = wl f n (k + 1) := by
  refine List.ext_getElem? fun i => ?_
  rw [List.getElem?_set, wl, wl, List.getElem?_map, List.getElem?_map, rg]
  by_cases e : k = i
  · subst e
    by_cases h : k < n
    · simp [h]
    · simp [h]
  · rw [if_neg e]
    by_cases h : i < n
    · have : (i < k + 1) ↔ (i < k) := by omega
      simp [h, this]
    · simp [h]
theorem wl_at (f : Nat → Nat) (n i : Nat) (h : i < n) : (wl f n n)[i]? = some (.int .u8 (wt f (f i) n : Nat)) := by
  rw [wl, List.getElem?_map, rg, if_pos h]
  simp [h]
end Sj
theorem calm_eq {P : Program} {S : World → Prop} {f : FuncId} {args : Array Value} {v : Value} {n : Ext S}
    (h : Calls P f args n.w fun e w' => e = .returned v ∧ w' = n.w) : Calls P f args n.w fun e w'' => e = .returned v ∧ ∃ m : Ext S, w'' = m.w :=
  h.mono fun e w' ⟨he, hb⟩ => ⟨he, n, hb⟩
theorem u8_xor (a b : Nat) (ha : a < 256) (hb : b < 256) : bits .xor .u8 (a : Int) (b : Int) = ((a ^^^ b : Nat) : Int) := u8_xor_nat a b ha hb
attribute [local irreducible] Gf.T Gf.I Sj.wt Sj.up Sj.dn Sj.jn
set_option maxRecDepth 100000 in
set_option maxHeartbeats 4000000 in
theorem sWeights_any {w : World} {A : Option Addr} {n : Nat} {f : Nat → Nat} (hA : Sj.Cl .u8 w A n f) (hf : ∀ i, f i < 256) (hn : n ≤ 1000) (c : Nat) :
    Calls Try.prog 81 #[.slice A n c] w fun e w' => ∃ g, e = .returned (.slice (some ⟨g, 0, none⟩) n n) ∧ Sj.Cl .u8 w' (some ⟨g, 0, none⟩) n (fun k => Sj.wt f (f k) n) ∧ w.heap.size ≤ g ∧ Below w.heap.size w w' := by
  obtain ⟨i0, hi, hz0, hz1, hz2⟩ := info_parts Try.infoU8j
  have HA := Lib.hid hA
  clear hA
  go_enter Try.func81, Try.ntmps81
  go_wp2_with (refine wpList_make_full _ (by rfl) _ _ 47 (by rfl) w.heap.size 5 i0 _ 1 Try.underlying47 hi hz0 hz1 .i64 .i64 _ _ n (by rfl) (by rfl) (by rfl) (by rfl) (by rw [hz2]; omega) (by simp only [maxLen]; omega) (by omega) ?_; intro wm hown hgr; rw [Nat.mul_one, show Value.cells (.int .u8 0) = #[.int .u8 0] from rfl, toList_madeCells_one, ← Sj.wl_zero f n] at hown; have HO := Lib.hid hown; have hbm := Lib.hid ((Below.refl w.heap.size w).grown hgr (Nat.le_refl _) (fun k hk => by cases hk)); clear hown hgr)
  go_loopw [4, 5, 6, 8, 14] (fun a b d e' i wr => ∃ (j : Nat) (u1 u2 u3 u4 : Value), j ≤ n ∧ i = .int .i64 (j : Int) ∧ a = u1 ∧ b = u2 ∧ d = u3 ∧ e' = u4 ∧ wr.ownsRow w.heap.size 5 1 (.slice (some ⟨w.heap.size, 0, none⟩) n n) n (Sj.wl f n j) ∧ Below w.heap.size w wr) (fun _ _ _ _ i _ => n - (intOf i).toNat)
  case atStart => exact ⟨0, _, _, _, _, Nat.zero_le _, rfl, rfl, rfl, rfl, rfl, HO.out, hbm.out⟩
  case round =>
    obtain ⟨j, u1, u2, u3, u4, hj, rfl, rfl, rfl, rfl, rfl, hO, hB⟩ := hrel
    have HB := Lib.hid hB
    have HO2 := Lib.hid hO
    have hz := hB.size
    clear HO hbm
    by_cases hlt : j < n
    · obtain ⟨b, o, rfl, hb, hc⟩ := (HA.out.below (Nat.le_refl _) hB) (by omega)
      have hx := hc j hlt
      have hst := Lib.hid (hO.stored j (.int .u8 (Sj.wt f (f j) n : Nat)))
      rw [Sj.wl_set] at hst
      have ⟨y, hy⟩ : ∃ y, (Sj.wl f n j)[j]? = some y := ⟨_, List.getElem?_eq_getElem (by simp [Sj.wl]; omega)⟩
      have hcc := (hO.cellAt j (by omega)).trans hy
      have hfz := hO.frozenAt j
      have HC := Lib.hid hc
      have hX256 := hf j
      have HF := Lib.hid hf
      clear hO hB hc hy
      obtain ⟨X, hX⟩ : ∃ X, f j = X := ⟨_, rfl⟩
      rw [hX] at hx hX256 hst
      clear hX
      go_wp2_with fail
      go_loopw [6, 8, 21] (fun d e' i wk => ∃ (q : Nat) (u : Value), q ≤ n ∧ i = .int .i64 (q : Int) ∧ d = .int .u8 (Sj.wt f X q : Nat) ∧ e' = u ∧ wk = wr) (fun _ _ i _ => n - (intOf i).toNat)
      case atStart => exact ⟨0, _, Nat.zero_le _, rfl, by unfold Sj.wt; rfl, rfl, rfl⟩
      case round =>
        obtain ⟨q, u, hq, rfl, rfl, rfl, rfl⟩ := hrel
        by_cases hqn : q < n
        · have hy := HC.out q hqn
          have hws := Lib.hid (Sj.wt_succ f X q)
          have hW := Sj.wt_lt f X q
          have hYY := HF.out q
          generalize Sj.wt f X q = W at *
          obtain ⟨Y, hY⟩ : ∃ Y, f q = Y := ⟨_, rfl⟩
          rw [hY] at hy hws hYY
          clear hY
          have hxor := u8_xor X Y hX256 hYY
          have hxl := Gf.xor_lt X Y hX256 hYY
          have hil := Sj.I_lt _ hxl
          obtain ⟨Z, hZ⟩ : ∃ Z, X ^^^ Y = Z := ⟨_, rfl⟩
          rw [hZ] at hxor hxl hil hws
          clear hZ
          by_cases hne : Y = X
          · have hd : ((Y : Int) != (X : Int)) = false := by simp [hne]
            rw [if_neg (by simp [hne])] at hws
            go_wp2_with fail
            go_roundw
            case rel => exact ⟨q + 1, _, by omega, by go_num, by rw [hws.out], rfl, trivial⟩
            case measure => simp [intOf]; omega
          · have hd : ((Y : Int) != (X : Int)) = true := by simp; omega
            rw [if_pos hne] at hws
            have ht1 := Gf.T_lt Y (Gf.I Z) hYY
            go_wp2_with (first
              | (go_at_call 73; (with_reducible refine (sInverse_any Z hxl _).mono ?_); rintro e w1 ⟨rfl, rfl⟩)
              | (go_at_call 70; (with_reducible refine (sTimes_any Y (Gf.I Z) hYY hil _).mono ?_); rintro e w1 ⟨rfl, rfl⟩)
              | (go_at_call 70; (with_reducible refine (sTimes_any W (Gf.T Y (Gf.I Z)) hW ht1 _).mono ?_); rintro e w1 ⟨rfl, rfl⟩))
            go_roundw
            case rel => exact ⟨q + 1, _, by omega, by go_num, by rw [hws.out], rfl, trivial⟩
            case measure => simp [intOf]; omega
        · have hge : (n : Int) ≤ q := by omega
          have e : q = n := by omega
          have hWn : Hid (Sj.wt f X q = Sj.wt f X n) := Lib.hid (by rw [e])
          clear e
          rw [hWn.out]
          go_wp2_with fail
          go_roundw
          case rel => exact ⟨j + 1, _, _, _, _, by omega, by go_num, rfl, rfl, rfl, rfl, hst.out.1, bl_set (Nat.le_refl _) HB.out _⟩
          case measure => simp [intOf]; omega
    · have hge : (n : Int) ≤ j := by omega
      have e : j = n := by omega
      clear hO hB
      go_wp2_with fail
      go_ret
      refine ⟨_, rfl, fun h0 => ⟨w.heap.size, 0, rfl, ?_, fun i hi => ?_⟩, Nat.le_refl _, HB.out⟩
      · exact (own_lt HO2.out) _ rfl
      · have := HO2.out.cellAt i (by omega)
        rw [e, Sj.wl_at f n i hi] at this
        rw [Nat.zero_add]
        exact this
set_option maxRecDepth 100000 in
set_option maxHeartbeats 8000000 in
theorem rJoin42_any {w : World} {A A' : Option Addr} {n : Nat} {f v : Nat → Nat} (hA : Sj.Cl .u8 w A n f) (hf : ∀ i, f i < 256) (hA' : Sj.Cl .u8 w A' n v) (hv : ∀ i, v i < 256) (hok : Sj.Ok f n) (hn : n ≤ 1000) (c c' : Nat) :
    Calls Try.prog 35 #[.slice A n c, .slice A' n c'] w fun e w' => e = .returned (.int .u8 (Sj.jn f v n n : Nat)) ∧ Below w.heap.size w w' := by
  have HA := Lib.hid hA
  have HA' := Lib.hid hA'
  have HF := Lib.hid hf
  have HV := Lib.hid hv
  have HOK := Lib.hid hok
  clear hA hA' hf hv hok
  go_enter Try.func35, Try.ntmps35
  go_wp2_with fail
  go_loopw [5, 6, 7, 8, 9] (fun s i a b d wr => ∃ (j : Nat) (u1 u2 u3 : Value), j ≤ n ∧ i = .int .i64 (j : Int) ∧ s = .int .u8 (Sj.jn f v n j : Nat) ∧ a = u1 ∧ b = u2 ∧ d = u3 ∧ Below w.heap.size w wr) (fun _ i _ _ _ _ => n - (intOf i).toNat)
  case atStart => exact ⟨0, _, _, _, Nat.zero_le _, rfl, by unfold Sj.jn; rfl, rfl, rfl, rfl, Below.refl _ _⟩
  case round =>
    obtain ⟨j, u1, u2, u3, hj, rfl, rfl, rfl, rfl, rfl, hB⟩ := hrel
    have HB := Lib.hid hB
    have hz := hB.size
    by_cases hlt : j < n
    · obtain ⟨b, o, rfl, hb, hc⟩ := (HA.out.below (Nat.le_refl _) hB) (by omega)
      obtain ⟨b', o', rfl, hb', hc'⟩ := (HA'.out.below (Nat.le_refl _) hB) (by omega)
      have HC := Lib.hid hc
      have HC' := Lib.hid hc'
      clear hB hc hc'
      go_wp2_with fail
      go_loopw [7, 8, 9] (fun a b d wk => ∃ (q : Nat), q ≤ n ∧ d = .int .i64 (q : Int) ∧ a = .int .u8 (Sj.up f j q : Nat) ∧ b = .int .u8 (Sj.dn f j q : Nat) ∧ Below wr.heap.size wr wk) (fun _ _ d _ => n - (intOf d).toNat)
      case atStart => exact ⟨0, Nat.zero_le _, rfl, by unfold Sj.up; rfl, by unfold Sj.dn; rfl, Below.refl _ _⟩
      case round =>
        obtain ⟨q, hq, rfl, rfl, rfl, hBk⟩ := hrel
        have HBK := Lib.hid hBk
        have hzk := hBk.size
        by_cases hqn : q < n
        · have y0 : wr.cell? ⟨b, o + q, none⟩ = some (.int .u8 (f q : Nat)) := (hBk.cell (p := ⟨b, o + q, none⟩) hb).trans (HC.out q hqn)
          have y1 : wr.cell? ⟨b, o + j, none⟩ = some (.int .u8 (f j : Nat)) := (hBk.cell (p := ⟨b, o + j, none⟩) hb).trans (HC.out j hlt)
          have hus := Lib.hid (Sj.up_succ f j q)
          have hds := Lib.hid (Sj.dn_succ f j q)
          have hU := Sj.up_lt f j q
          have hD := Sj.dn_lt f j q
          have hX := HF.out q
          have hY := HF.out j
          generalize Sj.up f j q = U at *
          generalize Sj.dn f j q = D at *
          obtain ⟨X, hX'⟩ : ∃ X, f q = X := ⟨_, rfl⟩
          obtain ⟨Y, hY'⟩ : ∃ Y, f j = Y := ⟨_, rfl⟩
          rw [hX'] at y0 hX hus hds
          rw [hY'] at y1 hY hds
          clear hX' hY' hBk
          by_cases hne : q = j
          · have hd : ((q : Int) != (j : Int)) = false := by simp [hne]
            rw [if_neg (by simp [hne])] at hus hds
            go_wp2_with fail
            go_roundw
            case rel => exact ⟨q + 1, by omega, by go_num, by rw [hus.out], by rw [hds.out], HBK.out⟩
            case measure => simp [intOf]; omega
          · have hd : ((q : Int) != (j : Int)) = true := by simp; omega
            rw [if_pos hne] at hus hds
            have hxor := u8_xor X Y hX hY
            have hxl := Gf.xor_lt X Y hX hY
            obtain ⟨Z, hZ⟩ : ∃ Z, X ^^^ Y = Z := ⟨_, rfl⟩
            rw [hZ] at hxor hxl hds
            clear hZ
            have s0 : ∀ m : Ext (Below wr.heap.size wr), m.w.cell? ⟨b, o + q, none⟩ = some (.int .u8 (X : Nat)) := Ext.rd y0
            have s1 : ∀ m : Ext (Below wr.heap.size wr), m.w.cell? ⟨b, o + j, none⟩ = some (.int .u8 (Y : Nat)) := Ext.rd y1
            go_wp2_with (go_at_call 83; (with_reducible refine (rTimes_all U X hU hX _).mono ?_); rintro e w1 ⟨rfl, hw⟩; replace hw := hw.symm; subst hw)
            haveI hnn : Nonempty (Ext (Below wr.heap.size wr)) := ⟨⟨wr.drew, below_start _⟩⟩
            refine wp_region_calm (S := Below wr.heap.size wr) (by kernel_rfl) (by kernel_rfl) (below_start _) ?_
            repeat (go_big_quiet_step (first | (go_at_call 83; with_reducible exact calm_eq (rTimes_all D Z hD hxl _))))
            refine wpQuiet_nil ?_
            rintro _ ⟨m1, rfl⟩
            have hb1 := Lib.hid m1.h
            generalize m1.w = W2 at *
            clear hnn s0 s1 y0 y1
            go_wp2_with fail
            go_roundw
            case rel => exact ⟨q + 1, by omega, by go_num, by rw [hus.out], by rw [hds.out], bl_then hb1 HBK.out (by omega)⟩
            case measure => simp [intOf]; omega
        · have hge : (n : Int) ≤ q := by omega
          have e : q = n := by omega
          obtain ⟨hwt, _⟩ := Sj.wt_up f n j HF.out HOK.out hlt n (Nat.le_refl n)
          have hjs := Lib.hid (Sj.jn_succ f v n j)
          have hJ := Sj.jn_lt f v n HV.out j
          have hU := Sj.up_lt f j q
          have hD := Sj.dn_lt f j q
          rw [show Sj.up f j n = Sj.up f j q by rw [e], show Sj.dn f j n = Sj.dn f j q by rw [e]] at hwt
          have hVj := HV.out j
          have y0 : wr.cell? ⟨b', o' + j, none⟩ = some (.int .u8 (v j : Nat)) := (hBk.cell (p := ⟨b', o' + j, none⟩) hb').trans (HC'.out j hlt)
          rw [hwt] at hjs
          clear e hBk hwt
          generalize Sj.up f j q = U at *
          generalize Sj.dn f j q = D at *
          generalize Sj.jn f v n j = J at *
          obtain ⟨V, hV'⟩ : ∃ V, v j = V := ⟨_, rfl⟩
          rw [hV'] at y0 hVj hjs
          clear hV'
          have hI := Sj.I_lt D hD
          have hT1 := Gf.T_lt U (Gf.I D) hU
          have hT2 := Gf.T_lt V (Gf.T U (Gf.I D)) hVj
          have hxor := u8_xor J (Gf.T V (Gf.T U (Gf.I D))) hJ hT2
          have s0 : ∀ m : Ext (Below wr.heap.size wr), m.w.cell? ⟨b', o' + j, none⟩ = some (.int .u8 (V : Nat)) := Ext.rd y0
          go_wp2_with fail
          haveI hnn : Nonempty (Ext (Below wr.heap.size wr)) := ⟨⟨wr.drew, below_start _⟩⟩
          refine wp_region_calm (S := Below wr.heap.size wr) (by kernel_rfl) (by kernel_rfl) (below_start _) ?_
          repeat (go_big_quiet_step (first
            | (go_at_call 84; with_reducible exact calm_eq (rInverse_all D hD _))
            | (go_at_call 83; with_reducible exact calm_eq (rTimes_all U (Gf.I D) hU hI _))
            | (go_at_call 83; with_reducible exact calm_eq (rTimes_all V (Gf.T U (Gf.I D)) hVj hT1 _))))
          refine wpQuiet_nil ?_
          rintro _ ⟨m1, rfl⟩
          have hb1 := Lib.hid m1.h
          generalize m1.w = W2 at *
          clear hnn s0 y0
          go_wp2_with fail
          go_roundw
          case rel => exact ⟨j + 1, _, _, _, by omega, by go_num, by rw [hjs.out], rfl, rfl, rfl, bl_then hb1 (bl_then HBK HB.out (by omega)) (by omega)⟩
          case measure => simp [intOf]; omega
    · have hge : (n : Int) ≤ j := by omega
      have e : j = n := by omega
      clear hB
      have hJ : Hid (Sj.jn f v n j = Sj.jn f v n n) := Lib.hid (by rw [e])
      clear e
      rw [hJ.out]
      go_wp2_with fail
      go_ret
      exact ⟨rfl, HB.out⟩
end Go.Proofs.Ytdakbejppnijdaa
