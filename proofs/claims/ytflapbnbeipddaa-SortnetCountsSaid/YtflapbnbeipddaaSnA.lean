/- sortnet.Apply. No condition. -/
import Derived.Test.YtflapbnbeipddaaSnP
import Derived.Test.YtflapbnbeipddaaBits
import Derived.Test.YtflapbnbeipddaaHeld
import Derived.Test.YtflapbnbeipddaaWords
namespace Go.Proofs.Ytflapbnbeipddaa
open Go.RowKit
set_option linter.unusedSimpArgs false
set_option linter.unusedVariables false
attribute [local go_sem] IntKind.wrap_u32' signed_u32 max_u32
attribute [local go_sem ↓] Go.wp_at_zero Go.wp_at_succ
attribute [local go_sem] Calm.C
attribute [local go_sem low] Calm.al_cell Calm.al_frozen
namespace Sn
def exg (n : Nat) (f : Nat → Nat) (i j : Int) : Nat → Nat := if 0 ≤ i ∧ i < j ∧ j < (n : Int) then ex f (i.toNat, j.toNat) else f
def thr_ (n : Nat) (f : Nat → Nat) (X Y : Nat → Int) : Nat → Nat → Nat
  | 0 => f
  | k + 1 => exg n (thr_ n f X Y k) (X k) (Y k)
theorem thr_succ (n : Nat) (f : Nat → Nat) (X Y : Nat → Int) (k : Nat) : thr_ n f X Y (k + 1) = exg n (thr_ n f X Y k) (X k) (Y k) := rfl
theorem exg_no (n : Nat) (f : Nat → Nat) (i j : Int) (h : i < 0 ∨ j ≤ i ∨ (n : Int) ≤ j) : exg n f i j = f := if_neg (by omega)
theorem exg_yes (n : Nat) (f : Nat → Nat) (a b : Nat) (h : a < b) (hb : b < n) : exg n f a b = ex f (a, b) := by
  unfold exg
  rw [if_pos (by omega)]
  rfl
/-- Words as values. -/
def wds (f : Nat → Nat) (n : Nat) : List Value := (List.range n).map fun i => .int .u32 (f i)
theorem wds_len (f : Nat → Nat) (n : Nat) : (wds f n).length = n := by simp [wds]
theorem wds_get (f : Nat → Nat) (n i : Nat) (h : i < n) : (wds f n)[i]? = some (.int .u32 (f i)) := by
  unfold wds
  rw [List.getElem?_map, List.getElem?_range h]
  rfl
theorem wds_one (f : Nat → Nat) (n : Nat) : ∀ u ∈ wds f n, u.oneCell' = true := by
  intro u hu
  simp only [wds, List.mem_map] at hu
  obtain ⟨i, _, rfl⟩ := hu
  rfl
/-- Words that may be read. -/
def Wd (w : World) (A : Option Addr) (n : Nat) (f : Nat → Nat) : Prop := 0 < n → ∃ b o, A = some ⟨b, o, none⟩ ∧ b < w.heap.size ∧ ∀ i, i < n → w.cell? ⟨b, o + i, none⟩ = some (.int .u32 (f i))
theorem Wd.below {w W : World} {A : Option Addr} {n : Nat} {f : Nat → Nat} (h : Wd w A n f) (hb : Below w.heap.size w W) : Wd W A n f := fun h0 => by
  obtain ⟨b, o, e, hl, hc⟩ := h h0
  exact ⟨b, o, e, Nat.lt_of_lt_of_le hl hb.size, fun i hi => (hb.cell (p := ⟨b, o + i, none⟩) hl).trans (hc i hi)⟩
theorem Wd.reads {w : World} {A : Option Addr} {n : Nat} {f : Nat → Nat} (h : Wd w A n f) {B : Nat} (hB : w.heap.size ≤ B) : Reads w B 1 A n (wds f n) := by
  refine ⟨by rw [wds_len]; omega, fun h0 => ?_⟩
  obtain ⟨b, o, rfl, hl, hc⟩ := h h0
  refine ⟨⟨b, o, none⟩, rfl, Nat.lt_of_lt_of_le hl hB, fun j u hu => ?_⟩
  have hj : j < n := by
    rcases Nat.lt_or_ge j n with h1 | h1
    · exact h1
    · rw [List.getElem?_eq_none (by rw [wds_len]; exact h1)] at hu; cases hu
  rw [wds_get f n j hj] at hu
  rw [Addr.add_mid, hc j hj, hu]
/-- Words of one's own. -/
def Mine (w : World) (B : Nat) (v : Value) (n : Nat) (f : Nat → Nat) : Prop := ∃ A c, v = .slice A n c ∧ (0 < n → ∃ b, A = some ⟨b, 0, none⟩ ∧ B ≤ b ∧ b < w.heap.size ∧ ∀ i, i < n → w.cell? ⟨b, i, none⟩ = some (.int .u32 (f i)) ∧ w.frozen? ⟨b, i, none⟩ = false)
theorem Mine.of_own {w : World} {B n : Nat} {v : Value} {f : Nat → Nat} (h : w.ownsRow B 29 1 v n (wds f n)) : Mine w B v n f := by
  obtain ⟨A, c, rfl⟩ := own_slice h
  refine ⟨A, c, rfl, fun h0 => ?_⟩
  obtain ⟨g, cap, hv, hB, hlt⟩ := h.form h0
  have hA : A = some ⟨g, 0, none⟩ := by injection hv
  subst hA
  refine ⟨g, rfl, hB, hlt, fun i hi => ⟨?_, own_frozen h i⟩⟩
  have h1 := h.cells (g := g) rfl i _ (wds_get f n i hi)
  rw [Addr.add_mid, Nat.zero_add] at h1
  exact h1
theorem Mine.wd {w : World} {B n c : Nat} {A : Option Addr} {f : Nat → Nat} (h : Mine w B (.slice A n c) n f) : Wd w A n f := fun h0 => by
  obtain ⟨A', c', e, h⟩ := h
  cases e
  obtain ⟨b, rfl, _, hl, hc⟩ := h h0
  exact ⟨b, 0, rfl, hl, fun i hi => by rw [Nat.zero_add]; exact (hc i hi).1⟩
theorem Mine.below {w W : World} {B n : Nat} {v : Value} {f : Nat → Nat} (h : Mine w B v n f) (hb : Below w.heap.size w W) : Mine W B v n f := by
  obtain ⟨A, c, e, h⟩ := h
  refine ⟨A, c, e, fun h0 => ?_⟩
  obtain ⟨b, e, hB, hl, hc⟩ := h h0
  exact ⟨b, e, hB, Nat.lt_of_lt_of_le hl hb.size, fun i hi => ⟨(hb.cell (p := ⟨b, i, none⟩) hl).trans (hc i hi).1, (hb.frozen (p := ⟨b, i, none⟩) hl).trans (hc i hi).2⟩⟩
theorem Mine.alloc {w : World} {B n : Nat} {v : Value} {f : Nat → Nat} (h : Mine w B v n f) (o : Obj) : Mine (w.alloc o) B v n f := h.below ((Below.refl _ w).alloc (Nat.le_refl _) o)
theorem Mine.drew {w : World} {B n : Nat} {v : Value} {f : Nat → Nat} (h : Mine w B v n f) : Mine w.drew B v n f := h
theorem ne_at {g i j : Nat} (h : i ≠ j) : (⟨g, i, none⟩ : Addr) ≠ ⟨g, j, none⟩ := fun e => h (by injection e)
theorem Mine.same {W : World} {B n g c : Nat} {U V : Nat → Nat} (hBg : B ≤ g) (hlg : g < W.heap.size) (hC : ∀ i, i < n → W.cell? ⟨g, i, none⟩ = some (.int .u32 (U i)) ∧ W.frozen? ⟨g, i, none⟩ = false) (hV : ∀ i, i < n → V i = U i) :
    Mine W B (.slice (some ⟨g, 0, none⟩) n c) n V := ⟨_, c, rfl, fun _ => ⟨g, rfl, hBg, hlg, fun i hi => by rw [hV i hi]; exact hC i hi⟩⟩
theorem Mine.two {W : World} {B n g c : Nat} {U V : Nat → Nat} {a p : Nat} (hBg : B ≤ g) (hlg : g < W.heap.size) (hC : ∀ i, i < n → W.cell? ⟨g, i, none⟩ = some (.int .u32 (U i)) ∧ W.frozen? ⟨g, i, none⟩ = false) (ha : a < n) (hp : p < n) (hap : a ≠ p) (u v : Nat)
    (hV : ∀ i, i < n → V i = if i = a then u else if i = p then v else U i) : Mine ((W.setCell ⟨g, a, none⟩ (.int .u32 u)).setCell ⟨g, p, none⟩ (.int .u32 v)) B (.slice (some ⟨g, 0, none⟩) n c) n V := by
  refine ⟨_, c, rfl, fun _ => ⟨g, rfl, hBg, by simpa using hlg, fun i hi => ⟨?_, by rw [World.frozen?_setCell, World.frozen?_setCell]; exact (hC i hi).2⟩⟩⟩
  rw [hV i hi]
  have h0 := (hC a ha).1
  have h1 := (hC p hp).1
  have h2 := (hC i hi).1
  have e1 : (W.setCell ⟨g, a, none⟩ (.int .u32 u)).cell? ⟨g, p, none⟩ = some (.int .u32 (U p)) := by
    rw [World.cell?_setCell_other (h := ne_at (by omega))]; exact h1
  by_cases hia : i = a
  · subst hia
    rw [if_pos rfl, World.cell?_setCell_other (h := ne_at (by omega)), World.cell?_setCell_same' _ _ _ (by rw [h0]; rfl)]
  · rw [if_neg hia]
    by_cases hip : i = p
    · subst hip
      rw [if_pos rfl, World.cell?_setCell_same' _ _ _ (by rw [e1]; rfl)]
    · rw [if_neg hip, World.cell?_setCell_other (h := ne_at (by omega)), World.cell?_setCell_other (h := ne_at (by omega))]
      exact h2
/-- Pairs that may be read. -/
def Prw (w : World) (A : Option Addr) (m : Nat) (X Y : Nat → Int) : Prop := 0 < m → ∃ b o, A = some ⟨b, o, none⟩ ∧ b < w.heap.size ∧ ∀ i, i < m → w.cell? ⟨b, o + i * 2, none⟩ = some (.int .i64 (X i)) ∧ w.cell? ⟨b, o + i * 2 + 1, none⟩ = some (.int .i64 (Y i))
theorem Prw.below {w W : World} {A : Option Addr} {m : Nat} {X Y : Nat → Int} (h : Prw w A m X Y) (hb : Below w.heap.size w W) : Prw W A m X Y := fun h0 => by
  obtain ⟨b, o, e, hl, hc⟩ := h h0
  exact ⟨b, o, e, Nat.lt_of_lt_of_le hl hb.size, fun i hi => ⟨(hb.cell (p := ⟨b, _, none⟩) hl).trans (hc i hi).1, (hb.cell (p := ⟨b, _, none⟩) hl).trans (hc i hi).2⟩⟩
end Sn
theorem Try.infoU32 : (Try.prog.info? 29).map (fun i => (i.zero, i.size, i.bytes)) = some (some (.int .u32 0), 1, 4) := by kernel_rfl
set_option maxRecDepth 20000 in
set_option maxHeartbeats 2000000 in
theorem snApply_any {w : World} {A P : Option Addr} {n m : Nat} {f : Nat → Nat} {X Y : Nat → Int} (hA : Sn.Wd w A n f) (hP : Sn.Prw w P m X Y) (hn : n ≤ 1000000) (hm : m ≤ 9223372036854775807) (c d : Nat) :
    Calls Try.prog 15 #[.slice P m d, .slice A n c] w fun e w' => ∃ v, e = .returned v ∧ Sn.Mine w' w.heap.size v n (Sn.thr_ n f X Y m) ∧ Below w.heap.size w w' := by
  have HA := Lib.hid hA
  have HP := Lib.hid hP
  obtain ⟨i0, hi, hz0, hz1, hz2⟩ := info_parts Try.infoU32
  clear hA hP
  go_enter Try.func15, Try.ntmps15
  go_wp2_with (at_builtin; refine wpList_append_any _ (by rfl) _ _ 22 (by rfl) w.heap.size 29 i0 _ 1 4 Try.underlying22 hi hz0 hz1 hz2 (by rfl) (by decide) (.slice none 0 0) 0 [] (by rfl) (World.ownsRow_nil _ _ _ _) w.heap.size A n c (Sn.wds f n) (by rfl) (HA.out.reads (Nat.le_refl _)) (Sn.wds_one f n) (by simp only [maxLen]; omega) (by omega) (by simp) ?_; intro v1 w1 hown1 hg1 hat1; rw [Nat.zero_add, List.nil_append] at hown1; have G1 := Lib.hid hg1; have D1 := Lib.hid (Sn.Mine.of_own hown1); have B1 := Lib.hid (bl_grown G1 (fun k hk => by simp [Value.ownBlock] at hk) (Nat.le_refl _) (Below.refl w.heap.size w)); clear hg1 hown1 hat1)
  obtain ⟨A1, c1, rfl, -⟩ := D1.out
  have hs1 := B1.out.size
  go_loopw [14] (fun i wr => ∃ (k : Nat), k ≤ m ∧ i = .int .i64 k ∧ Sn.Mine wr w.heap.size (.slice A1 n c1) n (Sn.thr_ n f X Y k) ∧ Below w.heap.size w wr) (fun i _ => m - (intOf i).toNat)
  case atStart => exact ⟨0, Nat.zero_le _, rfl, D1.out, B1.out⟩
  case round =>
    obtain ⟨k, hk, rfl, hM, hB⟩ := hrel
    have HB := Lib.hid hB
    have hsz := hB.size
    have HM := Lib.hid hM
    clear D1 B1 hM
    by_cases hlt : k < m
    · obtain ⟨b, o, rfl, hb, hc⟩ := HP.out (by omega)
      have hx : wr.cell? ⟨b, o + k * 2, none⟩ = some (.int .i64 (X k)) := (hB.cell (p := ⟨b, o + k * 2, none⟩) hb).trans (hc k hlt).1
      have hy : wr.cell? ⟨b, o + k * 2 + 1, none⟩ = some (.int .i64 (Y k)) := (hB.cell (p := ⟨b, o + k * 2 + 1, none⟩) hb).trans (hc k hlt).2
      have hsu := Sn.thr_succ n f X Y k
      generalize X k = x at hx hsu
      generalize Y k = y at hy hsu
      clear hB hc
      go_wp2
      go_region_held3 (fun w' => w'.cell? ⟨wr.heap.size, 0, none⟩ = some (.int .i64 x) ∧ w'.cell? ⟨wr.heap.size, 1, none⟩ = some (.int .i64 y)) ((simp [go_sem, ↓IntWalk.iteOmega, *]; done)) (fail)
      by_cases hok : 0 ≤ x ∧ x < y ∧ y < (n : Int)
      · obtain ⟨h0, h1, h2⟩ := hok
        obtain ⟨a, rfl⟩ := Int.eq_ofNat_of_zero_le h0
        obtain ⟨p, rfl⟩ := Int.eq_ofNat_of_zero_le (Int.le_of_lt (Int.lt_of_le_of_lt h0 h1))
        have h1' : a < p := by omega
        have h2' : p < n := by omega
        have h3' : a < n := by omega
        rw [Sn.exg_yes n _ a p h1' h2'] at hsu
        obtain ⟨A2, c2, e2, hM2⟩ := HM.out
        cases e2
        obtain ⟨g, rfl, hBg, hlg, hcg⟩ := hM2 (by omega)
        obtain ⟨ha, hfa⟩ := hcg a (by omega)
        obtain ⟨hp, hfp⟩ := hcg p h2'
        have HC := Lib.hid hcg
        have HSU := Lib.hid hsu
        clear hcg hM2 HM hsu
        go_wp2
        obtain ⟨U, hU⟩ : ∃ U, Sn.thr_ n f X Y k = U := ⟨_, rfl⟩
        rw [hU] at HC HSU ha hp
        clear hU
        obtain ⟨x, hx0⟩ : ∃ x, U a = x := ⟨_, rfl⟩
        obtain ⟨y, hy0⟩ : ∃ y, U p = y := ⟨_, rfl⟩
        rw [hx0] at ha
        rw [hy0] at hp
        have HX := Lib.hid hx0
        have HY := Lib.hid hy0
        clear hx0 hy0
        refine HL.go 22 (fun w' => w'.cell? ⟨g, a, none⟩ = some (.int .u32 x) ∧ w'.cell? ⟨g, p, none⟩ = some (.int .u32 y)) (by kernel_rfl) (by kernel_rfl) (by simp [go_sem, ↓IntWalk.iteOmega, *]) (fun _ _ _ _ _ h => h) ?_
        simp only [List.take_succ_cons, List.take_zero]
        repeat ((first | (refine HL.wk_pure (v := ?_) (Or.inl ⟨by rfl, ?_⟩) ?_; rotate_left; (next => (intro w; go_simp; done))) | (refine HL.wk_pure (v := ?_) (Or.inl ⟨by rfl, ?_⟩) ?_; rotate_left; (next => (intro w; go_simp; with_reducible rfl))) | (refine HL.wk_load (v := ?_) (by kernel_rfl) (Or.inl ⟨by rfl, ?_⟩) ?_; rotate_left; (next => (intro w hSw; (try dsimp only at hSw); go_split_ands; go_simp; done))) | (refine HL.wk_load (v := ?_) (by kernel_rfl) (Or.inl ⟨by rfl, ?_⟩) ?_; rotate_left; (next => (intro w hSw; (try dsimp only at hSw); go_split_ands; go_simp; with_reducible rfl)))); (try simp only [Act.put, List.setIfInBounds_toArray, List.set_cons_zero, List.set_cons_succ]))
        refine HL.wk_nil ?_
        simp only [List.drop_succ_cons, List.drop_zero]
        have hmin : min (x : Int) (y : Int) = ((min x y : Nat) : Int) := by omega
        have hmax : max (x : Int) (y : Int) = ((max x y : Nat) : Int) := by omega
        go_wp2_with fail
        go_roundw
        case rel =>
          refine ⟨k + 1, by omega, by go_num, ?_, by (repeat' (first | with_reducible exact Below.refl _ _ | with_reducible refine bl_drewN ?_ _ | with_reducible refine bl_drew ?_ | refine bl_set (by (first | omega | (simp; done) | (simp; omega))) ?_ _ | refine bl_alloc (by (first | omega | (simp; done) | (simp; omega))) ?_ _ | refine bl_then (by assumption) ?_ (by (first | omega | (simp; done) | (simp; omega))) | refine Step.bl (by assumption) (by assumption) (by (first | omega | (simp; done) | (simp; omega))) (by (first | omega | (simp; done) | (simp; omega))) ?_))⟩
          rw [HSU.out]
          refine Sn.Mine.drew (Sn.Mine.drew (Sn.Mine.alloc ?_ _))
          refine Sn.Mine.two hBg hlg HC.out h3' h2' (by omega) _ _ fun i hi => ?_
          unfold Sn.ex
          dsimp only
          rw [HX.out, HY.out]
        case measure => simp [intOf]; omega
      · rcases (show x < 0 ∨ (0 ≤ x ∧ y ≤ x) ∨ (0 ≤ x ∧ x < y ∧ (n : Int) ≤ y) by omega) with hn1 | ⟨hn1, hn2⟩ | ⟨hn1, hn2, hn3⟩
        all_goals
          rw [Sn.exg_no n _ x y (by omega)] at hsu
          have HSU := Lib.hid hsu
          clear hsu hok
          go_wp2
          go_roundw
          case rel =>
            refine ⟨k + 1, by omega, by go_num, ?_, ?_⟩
            · rw [HSU.out]
              exact HM.out.below (by (repeat' (first | with_reducible exact Below.refl _ _ | with_reducible refine bl_drewN ?_ _ | with_reducible refine bl_drew ?_ | refine bl_set (by (first | omega | (simp; done) | (simp; omega))) ?_ _ | refine bl_alloc (by (first | omega | (simp; done) | (simp; omega))) ?_ _ | refine bl_then (by assumption) ?_ (by (first | omega | (simp; done) | (simp; omega))) | refine Step.bl (by assumption) (by assumption) (by (first | omega | (simp; done) | (simp; omega))) (by (first | omega | (simp; done) | (simp; omega))) ?_)))
            · have HB' := HB
              (repeat' (first | with_reducible exact Below.refl _ _ | with_reducible refine bl_drewN ?_ _ | with_reducible refine bl_drew ?_ | refine bl_set (by (first | omega | (simp; done) | (simp; omega))) ?_ _ | refine bl_alloc (by (first | omega | (simp; done) | (simp; omega))) ?_ _ | refine bl_then (by assumption) ?_ (by (first | omega | (simp; done) | (simp; omega))) | refine Step.bl (by assumption) (by assumption) (by (first | omega | (simp; done) | (simp; omega))) (by (first | omega | (simp; done) | (simp; omega))) ?_))
          case measure => simp [intOf]; omega
    · have hge : m ≤ k := by omega
      have hkm : k = m := by omega
      clear hB
      go_wp2
      go_ret
      subst hkm
      exact ⟨_, rfl, HM.out, HB.out⟩
end Go.Proofs.Ytflapbnbeipddaa
