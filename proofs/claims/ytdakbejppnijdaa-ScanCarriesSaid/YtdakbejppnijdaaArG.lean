/- An arena: words given back. No condition. -/
import Derived.Test.YtdakbejppnijdaaArP
namespace Go.Proofs.Ytdakbejppnijdaa
open Go.RowKit
set_option linter.unusedSimpArgs false
set_option linter.unusedVariables false
attribute [local go_sem] IntKind.wrap_u32' signed_u32 max_u32
attribute [local go_sem ↓] Go.wp_at_zero Go.wp_at_succ
attribute [local go_sem] Calm.C
attribute [local go_sem low] Calm.al_cell Calm.al_frozen
def gvw (ws : List Int) (top : Nat) : Nat → List Int
  | 0 => ws
  | k + 1 => (gvw ws top k).set (top - (k + 1)) 0
def gvEvs (top : Nat) : Nat → List Ev
  | 0 => []
  | k + 1 => gvEvs top k ++ [⟨2, ((top - (k + 1) : Nat) : Int), 0⟩]
theorem gvw_zero (ws : List Int) (top : Nat) : gvw ws top 0 = ws := rfl
theorem gvw_succ (ws : List Int) (top k : Nat) : gvw ws top (k + 1) = (gvw ws top k).set (top - (k + 1)) 0 := rfl
theorem gvEvs_zero (top : Nat) : gvEvs top 0 = [] := rfl
theorem gvEvs_succ (top k : Nat) : gvEvs top (k + 1) = gvEvs top k ++ [⟨2, ((top - (k + 1) : Nat) : Int), 0⟩] := rfl
theorem gvEvs_len (top : Nat) : ∀ k, (gvEvs top k).length = k
  | 0 => rfl
  | k + 1 => by rw [gvEvs_succ, List.length_append, gvEvs_len top k]; rfl
theorem gvw_len (ws : List Int) (top : Nat) : ∀ k, (gvw ws top k).length = ws.length
  | 0 => rfl
  | k + 1 => by rw [gvw_succ, List.length_set, gvw_len ws top k]
attribute [local irreducible] gvw gvEvs
set_option maxRecDepth 10000 in
set_option maxHeartbeats 1600000 in
theorem AGive_f {w : World} {p g lp : Nat} {FL : Nat → Prop} {ws : List Int} {top : Nat} {evs : List Ev} (h : Ar w p g lp FL ws top evs) (i : Int) (hi : ¬ (0 ≤ i ∧ i ≤ top)) :
    Calls Try.prog 98 #[.pointer (some ⟨p, 0, none⟩), .int .i64 i] w fun e w' => e = .returned (.bool false) ∧ w' = w := by
  have q1 := h.c1
  clear h
  rcases (by omega : i < 0 ∨ (0 ≤ i ∧ (top : Int) < i)) with h0 | ⟨h0, h1⟩
  all_goals
    clear hi
    go_enter Try.func98, Try.ntmps98
    go_wp2_with fail
    go_ret
    exact ⟨rfl, rfl⟩
set_option maxRecDepth 10000 in
set_option maxHeartbeats 1600000 in
theorem AGive_t {w : World} {p g lp : Nat} {FL : Nat → Prop} {ws : List Int} {top : Nat} {evs : List Ev} (h : Ar w p g lp FL ws top evs) (at_ : Nat) (hat : at_ ≤ top) (he : evs.length + top < 1099511627776) :
    Calls Try.prog 98 #[.pointer (some ⟨p, 0, none⟩), .int .i64 at_] w fun e w' => e = .returned (.bool true) ∧ ∃ FL', Ar w' p g lp FL' (gvw ws top (top - at_)) at_ (evs ++ gvEvs top (top - at_) ++ [⟨5, at_, ((top - at_ : Nat) : Int)⟩]) ∧ Step (AF p g FL) (AF p g FL') w w' := by
  have q1 := h.c1
  have q4 := h.ht
  have q5 := h.hz
  have d1 : decide ((at_ : Int) < 0) = false := decide_eq_false (by omega)
  have d2 : decide (top < at_) = false := decide_eq_false (by omega)
  have d3 : decide ((top : Int) < (at_ : Int)) = false := decide_eq_false (by omega)
  have H := Lib.hid h
  clear h
  go_enter Try.func98, Try.ntmps98
  go_wp2_with fail
  go_loopw [26] (fun _ wr => ∃ (k : Nat) (FL' : Nat → Prop), k ≤ top - at_ ∧ Ar wr p g lp FL' (gvw ws top k) (top - k) (evs ++ gvEvs top k) ∧ Step (AF p g FL) (AF p g FL') w wr) (fun _ wr => (intOf ((wr.cell? ⟨p, 1, none⟩).getD undef)).toNat)
  case atStart => exact ⟨0, FL, Nat.zero_le _, by rw [gvw_zero, gvEvs_zero, List.append_nil]; exact H.out, H.out.step0⟩
  case round =>
    obtain ⟨k, F1, hk, hA1, hs1⟩ := hrel
    have hzr := hs1.size
    have hlen := gvEvs_len top k
    have r1 := hA1.c1
    have r2 := hA1.c2
    have r4 := hA1.ht
    have r6 := hA1.bp.lt
    obtain ⟨t, ht⟩ : ∃ t, top - k = t := ⟨_, rfl⟩
    rw [ht] at r1 r4
    have H1 := Lib.hid (ht ▸ hA1)
    have S1 := Lib.hid hs1
    clear hA1 hs1 q1
    by_cases hkn : at_ < t
    · have hkn' : (at_ : Int) < (t : Int) := by omega
      have ew : IntKind.i64.wrap ((t : Int) - 1) = (t : Int) - 1 := by rw [IntKind.wrap_i64]; omega
      go_wp2_with fail
      go_region_held3 (fun w' => w'.cell? ⟨p, 1, none⟩ = some (.int .i64 t) ∧ p < w'.heap.size) ((first | (refine ⟨?_, ?_⟩ <;> first | assumption | (simp [go_sem, ↓IntWalk.iteOmega, *]; done) | omega | (simp; omega)) | assumption | (simp [go_sem, ↓IntWalk.iteOmega, *]; done) | omega | (simp; omega))) (first | first | (go_at_call 62; refine (Of_any _ _).mono ?_; rintro e w1 ⟨rfl, hb⟩; have hcf := bcell hb; (try simp only [World.size_alloc, World.size_setCell, drew_size] at hcf); have hz := hb.size; (try simp only [World.size_alloc, World.size_setCell, World.size_drew] at hz); have hbh := Lib.hid hb; clear hb; obtain ⟨hc, hf⟩ := hcf) | (go_at_call 78; (try rw [ew]); refine (AStore_i (p := p) (g := g) (lp := lp) (FL := F1) (ws := gvw ws top k) (top := t) (evs := evs ++ gvEvs top k) (by (repeat' (first | exact H1.out | refine Ar.alloc ?_ _ | refine Ar.drewN ?_ _ | refine Ar.drew ?_ | refine Ar.below ?_ (by assumption)))) (by rw [List.length_append]; omega) _ (by omega) (by omega) _).mono ?_; rintro e w2 ⟨rfl, F2, hA2, hs2⟩; have H2 := Lib.hid hA2; have S2 := Lib.hid hs2; have t1 := hA2.c1; have t2 := hA2.bp.lt; have t3 := fun j => hA2.bp.frozen j; clear hA2 hs2))
      all_goals (go_wp2_with fail)
      all_goals
        have e1 : ((t : Int) - 1).toNat = top - (k + 1) := by omega
        have e2 : (t : Int) - 1 = ((top - (k + 1) : Nat) : Int) := by omega
        go_roundw
        case rel =>
          refine ⟨k + 1, F2, by omega, ?_, ?_⟩
          · have hX := H2.out.setTop (top - (k + 1)) (by rw [List.length_set, gvw_len]; omega)
            rw [e1, e2, List.append_assoc] at hX
            rw [e2, gvw_succ, gvEvs_succ]
            exact hX
          · have hm := H1.out.most
            refine S1.out.trans (Step.setIn ?_ af_p _)
            (repeat' (first | exact Step.refl (by assumption) | refine Step.set_ (by (first | omega | (simp; done) | (simp; omega))) ?_ _ | refine Step.alloc ?_ _ | refine Step.drewN ?_ _ | refine Step.drew ?_ | refine Step.then_ (by assumption) ?_ | refine Step.thenB (by assumption) ?_))
        case measure =>
          rw [r1]
          simp [go_sem, t1, intOf]
          omega
    · have hle : (t : Int) ≤ (at_ : Int) := by omega
      have hE := Lib.hid (show t = at_ by omega)
      have hE2 := Lib.hid (show k = top - at_ by omega)
      go_wp2_with (go_at_call 117; refine (LGive_any _ F1 lp (evs ++ gvEvs top k) at_ ((top : Int) - (at_ : Int)) (by exact H1.out.lg) (by rw [List.length_append]; omega) (by omega) (by omega)).mono ?_; rintro e w2 ⟨rfl, F2, hL2, hs2⟩; have H2 := Lib.hid (H1.out.step hs2 hL2); have S2 := Lib.hid hs2; clear hL2 hs2)
      have hcn : Ct.count ((top : Int) - (at_ : Int)) = ((top - at_ : Nat) : Int) := by unfold Ct.count; rw [if_neg (by omega), if_neg (by omega)]; omega
      go_ret
      refine ⟨rfl, F2, ?_, ?_⟩
      · have hX := H2.out
        rw [hcn, hE.out, hE2.out] at hX
        exact hX
      · exact S1.out.trans (S2.out.af H1.out.bp.lt H1.out.bg.lt)
end Go.Proofs.Ytdakbejppnijdaa
