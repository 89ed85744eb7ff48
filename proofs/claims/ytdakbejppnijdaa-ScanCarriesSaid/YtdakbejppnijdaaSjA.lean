/- shares.unlike, the document's Right and Join, shares.weights. No condition. -/
import Derived.Test.YtdakbejppnijdaaSjD
import Derived.Test.YtdakbejppnijdaaShA
namespace Go.Proofs.Ytdakbejppnijdaa
open Go.RowKit
set_option linter.unusedSimpArgs false
set_option linter.unusedVariables false
attribute [local go_sem] IntKind.wrap_u32' signed_u32 max_u32
attribute [local go_sem ↓] Go.wp_at_zero Go.wp_at_succ
attribute [local go_sem] Calm.C
attribute [local go_sem low] Calm.al_cell Calm.al_frozen
namespace Sj
/-- Numbers read. -/
def Cl (k : IntKind) (w : World) (A : Option Addr) (n : Nat) (f : Nat → Nat) : Prop :=
  0 < n → ∃ b o, A = some ⟨b, o, none⟩ ∧ b < w.heap.size ∧ ∀ i, i < n → w.cell? ⟨b, o + i, none⟩ = some (.int k (f i : Nat))
theorem Cl.below {k : IntKind} {w W : World} {A : Option Addr} {n : Nat} {f : Nat → Nat} (h : Cl k w A n f) {B : Nat} (hB : w.heap.size ≤ B) (hb : Below B w W) : Cl k W A n f := fun h0 => by
  obtain ⟨b, o, hA, hlt, hc⟩ := h h0
  exact ⟨b, o, hA, Nat.lt_of_lt_of_le hlt hb.size, fun i hi => (hb.cell (p := ⟨b, _, none⟩) (Nat.lt_of_lt_of_le hlt hB)).trans (hc i hi)⟩
def okp (f : Nat → Nat) (j : Nat) : Prop := ∀ i, i < j → f i ≠ 0 ∧ ∀ k, k < i → f k ≠ f i
noncomputable instance (f : Nat → Nat) (n : Nat) : Decidable (Ok f n) := Classical.propDecidable _
end Sj
set_option maxRecDepth 20000 in
set_option maxHeartbeats 4000000 in
theorem rRight_any {w : World} {A : Option Addr} {n : Nat} {f : Nat → Nat} (hA : Sj.Cl .u8 w A n f) (hn : n ≤ 1000) (c : Nat) :
    Calls Try.prog 33 #[.slice A n c] w fun e w' => e = .returned (.bool (decide (Sj.Ok f n))) ∧ Below w.heap.size w w' := by
  have HA := Lib.hid hA
  clear hA
  go_enter Try.func33, Try.ntmps33
  go_wp2_with fail
  go_loopw [3, 4] (fun i d wr => ∃ (j : Nat) (u : Value), j ≤ n ∧ i = .int .i64 (j : Int) ∧ d = u ∧ Sj.okp f j ∧ Below w.heap.size w wr) (fun i _ _ => n - (intOf i).toNat)
  case atStart => exact ⟨0, _, Nat.zero_le _, rfl, rfl, fun i h => absurd h (Nat.not_lt_zero i), Below.refl _ _⟩
  case round =>
    obtain ⟨j, u, hj, rfl, rfl, hok, hB⟩ := hrel
    have HB := Lib.hid hB
    have HOK := Lib.hid hok
    have hz := hB.size
    by_cases hlt : j < n
    · obtain ⟨b, o, rfl, hb, hc⟩ := (HA.out.below (Nat.le_refl _) hB) (by omega)
      have hx := hc j hlt
      have HC := Lib.hid hc
      clear hok hB hc
      by_cases h0 : f j = 0
      · rw [h0] at hx
        go_wp2_with fail
        go_ret
        rw [decide_eq_false (show ¬ Sj.Ok f n from fun h => (h.2 j hlt).1 h0)]
        exact ⟨rfl, HB.out⟩
      · have h0' : ¬ ((f j : Nat) : Int) = 0 := by omega
        go_wp2_with fail
        go_loopw [4] (fun k wk => ∃ (q : Nat), q ≤ j ∧ k = .int .i64 (q : Int) ∧ (∀ k, k < q → f k ≠ f j) ∧ Below wr.heap.size wr wk) (fun k _ => j - (intOf k).toNat)
        case atStart => exact ⟨0, Nat.zero_le _, rfl, fun i h => absurd h (Nat.not_lt_zero i), Below.refl _ _⟩
        case round =>
          obtain ⟨q, hq, rfl, hne, hBk⟩ := hrel
          have HBK := Lib.hid hBk
          have HNE := Lib.hid hne
          have hzk := hBk.size
          clear hne
          by_cases hqj : q < j
          · have y0 : wr.cell? ⟨b, o + q, none⟩ = some (.int .u8 (f q : Nat)) := (hBk.cell (p := ⟨b, o + q, none⟩) hb).trans (HC.out q (by omega))
            have y1 : wr.cell? ⟨b, o + j, none⟩ = some (.int .u8 (f j : Nat)) := (hBk.cell (p := ⟨b, o + j, none⟩) hb).trans (HC.out j hlt)
            have s0 : ∀ m : Ext (Below wr.heap.size wr), m.w.cell? ⟨b, o + q, none⟩ = some (.int .u8 (f q : Nat)) := Ext.rd y0
            have s1 : ∀ m : Ext (Below wr.heap.size wr), m.w.cell? ⟨b, o + j, none⟩ = some (.int .u8 (f j : Nat)) := Ext.rd y1
            have hqn : q < n := by omega
            clear y0 y1 hx hBk
            obtain ⟨X, hX⟩ : ∃ X, f q = X := ⟨_, rfl⟩
            obtain ⟨Y, hY⟩ : ∃ Y, f j = Y := ⟨_, rfl⟩
            rw [hX] at s0
            rw [hY] at s1
            by_cases he : X = Y
            · have hd : ((X : Int) == (Y : Int)) = true := by simp [he]
              go_wp2_with fail
              haveI hnn : Nonempty (Ext (Below wr.heap.size wr)) := ⟨⟨wr.drew, below_start _⟩⟩
              refine wp_region_calm (S := Below wr.heap.size wr) (by kernel_rfl) (by kernel_rfl) (below_start _) ?_
              repeat (go_big_quiet_step (fail))
              refine wpQuiet_nil ?_
              rintro _ ⟨m1, rfl⟩
              have hb1 := Lib.hid m1.h
              generalize m1.w = W2 at *
              clear hnn s0 s1
              go_wp2_with fail
              go_ret
              rw [decide_eq_false (show ¬ Sj.Ok f n from fun h => (h.2 j hlt).2 q hqj (by rw [hX, hY, he]))]
              exact ⟨rfl, bl_then hb1 (bl_then HBK HB.out (by omega)) (by omega)⟩
            · have hd : ((X : Int) == (Y : Int)) = false := by simp; omega
              go_wp2_with fail
              haveI hnn : Nonempty (Ext (Below wr.heap.size wr)) := ⟨⟨wr.drew, below_start _⟩⟩
              refine wp_region_calm (S := Below wr.heap.size wr) (by kernel_rfl) (by kernel_rfl) (below_start _) ?_
              repeat (go_big_quiet_step (fail))
              refine wpQuiet_nil ?_
              rintro _ ⟨m1, rfl⟩
              have hb1 := Lib.hid m1.h
              generalize m1.w = W2 at *
              clear hnn s0 s1
              go_wp2_with fail
              go_roundw
              case rel =>
                refine ⟨q + 1, by omega, by go_num, fun k hk => ?_, bl_then hb1 HBK.out (by omega)⟩
                by_cases e : k = q
                · subst e
                  rw [hX, hY]
                  exact he
                · exact HNE.out k (by omega)
              case measure => simp [intOf]; omega
          · have hge : (j : Int) ≤ q := by omega
            clear hBk hx
            go_wp2_with fail
            go_roundw
            case rel =>
              refine ⟨j + 1, _, by omega, by go_num, rfl, fun i hi => ?_, bl_then HBK HB.out (by omega)⟩
              by_cases e : i = j
              · subst e
                exact ⟨h0, fun k hk => HNE.out k (by omega)⟩
              · exact HOK.out i (by omega)
            case measure => simp [intOf]; omega
    · have hge : (n : Int) ≤ j := by omega
      have e : j = n := by omega
      clear hB hok
      have hd : decide ((0 : Int) < (n : Int)) = decide (Sj.Ok f n) := by
        by_cases h0 : 0 < n
        · rw [decide_eq_true (by omega : (0 : Int) < n), decide_eq_true (show Sj.Ok f n from ⟨h0, fun i hi => HOK.out i (by omega)⟩)]
        · rw [decide_eq_false (by omega : ¬ (0 : Int) < n), decide_eq_false (show ¬ Sj.Ok f n from fun h => h0 h.1)]
      have HD := Lib.hid hd
      clear hd
      go_wp2_with fail
      go_ret
      refine ⟨?_, HB.out⟩
      rw [← HD.out]
      simp
theorem zc_met : Try.zeroCells144 = Array.replicate 256 (.bool false) := by kernel_rfl
namespace Sj
noncomputable def met (f : Nat → Nat) (j x : Nat) : Bool := @decide (∃ k, k < j ∧ f k = x) (Classical.propDecidable _)
theorem met_zero (f : Nat → Nat) (x : Nat) : met f 0 x = false := @decide_eq_false _ (Classical.propDecidable _) (fun ⟨k, h, _⟩ => absurd h (Nat.not_lt_zero k))
theorem met_true {f : Nat → Nat} {j x : Nat} : met f j x = true ↔ ∃ k, k < j ∧ f k = x := @decide_eq_true_iff _ (Classical.propDecidable _)
theorem met_succ (f : Nat → Nat) (j x : Nat) : met f (j + 1) x = if x = f j then true else met f j x := by
  by_cases h : x = f j
  · rw [if_pos h]
    exact met_true.2 ⟨j, by omega, h.symm⟩
  · rw [if_neg h]
    refine Bool.eq_iff_iff.2 (met_true.trans (Iff.trans ⟨fun ⟨k, h1, h2⟩ => ⟨k, ?_, h2⟩, fun ⟨k, h1, h2⟩ => ⟨k, by omega, h2⟩⟩ met_true.symm))
    rcases Nat.lt_or_ge k j with h3 | h3
    · exact h3
    · have : k = j := by omega
      subst this
      exact absurd h2.symm h
/-- The marks behind j numbers. -/
def Mk (f : Nat → Nat) (j : Nat) (cs : Array Value) : Prop := ∀ x, x < 256 → cs[x]? = some (.bool (met f j x))
theorem Mk.next {f : Nat → Nat} {j : Nat} {cs : Array Value} (h : Mk f j cs) : Mk f (j + 1) (cs.setIfInBounds (f j) (.bool true)) := fun x hx => by
  rw [met_succ, Array.getElem?_setIfInBounds]
  by_cases e : f j = x
  · subst e
    rw [if_pos rfl, if_pos rfl, if_pos (by have := h _ hx; exact (Array.getElem?_eq_some_iff.1 this).1)]
  · rw [if_neg e, if_neg (fun h => e h.symm)]
    exact h x hx
end Sj
set_option maxRecDepth 100000 in
set_option maxHeartbeats 4000000 in
theorem sUnlike_any {w : World} {A : Option Addr} {n : Nat} {f : Nat → Nat} (hA : Sj.Cl .u8 w A n f) (hf : ∀ i, f i < 256) (hn : n ≤ 1000) (c : Nat) :
    Calls Try.prog 80 #[.slice A n c] w fun e w' => e = .returned (.bool (decide (Sj.Ok f n))) ∧ Below w.heap.size w w' := by
  have HA := Lib.hid hA
  clear hA
  go_enter Try.func80, Try.ntmps80
  go_wp2_with fail
  have hM0 : Sj.Mk f 0 Try.zeroCells144 := fun x hx => by rw [zc_met, Sj.met_zero, Array.getElem?_replicate, if_pos hx]
  have hb0 := Lib.hid (Blk.new w 144 Try.zeroCells144)
  have hB0 := Lib.hid (bl_alloc (Nat.le_refl _) (Below.refl w.heap.size w) (.cells Try.zeroCells144 144))
  have HM0 := Lib.hid hM0
  clear hM0
  go_loopw [5, 8] (fun d i wr => ∃ (j : Nat) (u : Value) (cs : Array Value), j ≤ n ∧ i = .int .i64 (j : Int) ∧ d = u ∧ Sj.okp f j ∧ Sj.Mk f j cs ∧ Blk wr w.heap.size 144 cs ∧ Below w.heap.size w wr) (fun _ i _ => n - (intOf i).toNat)
  case atStart => exact ⟨0, _, _, Nat.zero_le _, rfl, rfl, fun i h => absurd h (Nat.not_lt_zero i), HM0.out, hb0.out, hB0.out⟩
  case round =>
    obtain ⟨j, u, cs, hj, rfl, rfl, hok, hM, hbk, hB⟩ := hrel
    have HB := Lib.hid hB
    have HOK := Lib.hid hok
    have HM := Lib.hid hM
    have HBK := Lib.hid hbk
    clear HM0 hb0 hB0
    by_cases hlt : j < n
    · obtain ⟨b, o, rfl, hb, hc⟩ := (HA.out.below (Nat.le_refl _) hB) (by omega)
      have hx := hc j hlt
      have h256 := hf j
      have hc2 := (hbk.cell (f j)).trans (hM (f j) h256)
      have hfz := hbk.frozen (f j)
      have hnx := Lib.hid hM.next
      have hmt := Lib.hid (Sj.met_true (f := f) (j := j) (x := f j))
      clear hok hB hc hM hbk
      obtain ⟨X, hX⟩ : ∃ X, f j = X := ⟨_, rfl⟩
      rw [hX] at hx h256 hc2 hfz hnx hmt
      have hX' := Lib.hid hX
      clear hX
      by_cases h0 : X = 0
      · subst h0
        go_wp2_with fail
        go_ret
        rw [decide_eq_false (show ¬ Sj.Ok f n from fun h => (h.2 j hlt).1 hX'.out)]
        exact ⟨rfl, HB.out⟩
      · have h0' : ((X : Int) == 0) = false := by simp; omega
        obtain ⟨q, hq⟩ : ∃ q, Sj.met f j X = q := ⟨_, rfl⟩
        rw [hq] at hc2 hmt
        clear hq
        cases q
        · go_wp2_with fail
          go_roundw
          case rel =>
            refine ⟨j + 1, _, _, by omega, by go_num, rfl, fun i hi => ?_, hnx.out, HBK.out.set_ X (.bool true), bl_set (Nat.le_refl _) HB.out _⟩
            by_cases e : i = j
            · subst e
              rw [hX'.out]
              exact ⟨h0, fun k hk he => absurd (hmt.out.2 ⟨k, hk, he⟩) (by simp)⟩
            · exact HOK.out i (by omega)
          case measure => simp [intOf]; omega
        · go_wp2_with fail
          go_ret
          rw [decide_eq_false (show ¬ Sj.Ok f n from fun h => by
            obtain ⟨k, h1, h2⟩ := hmt.out.1 (by simp)
            exact (h.2 j hlt).2 k h1 (h2.trans hX'.out.symm))]
          exact ⟨rfl, HB.out⟩
    · have hge : (n : Int) ≤ j := by omega
      have e : j = n := by omega
      clear hB hok hM hbk
      have hd : decide (0 < n) = decide (Sj.Ok f n) := by
        by_cases h0 : 0 < n
        · rw [decide_eq_true h0, decide_eq_true (show Sj.Ok f n from ⟨h0, fun i hi => HOK.out i (by omega)⟩)]
        · rw [decide_eq_false h0, decide_eq_false (show ¬ Sj.Ok f n from fun h => h0 h.1)]
      have HD := Lib.hid hd
      clear hd
      go_wp2_with fail
      go_ret
      refine ⟨?_, HB.out⟩
      rw [← HD.out]
      simp
end Go.Proofs.Ytdakbejppnijdaa
