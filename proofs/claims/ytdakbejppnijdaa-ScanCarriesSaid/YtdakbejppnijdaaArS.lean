/- An arena: words shown, blank, the log. No condition. -/
import Derived.Test.YtdakbejppnijdaaArG
namespace Go.Proofs.Ytdakbejppnijdaa
open Go.RowKit
set_option linter.unusedSimpArgs false
set_option linter.unusedVariables false
attribute [local go_sem] IntKind.wrap_u32' signed_u32 max_u32
attribute [local go_sem ↓] Go.wp_at_zero Go.wp_at_succ
attribute [local go_sem] Calm.C
attribute [local go_sem low] Calm.al_cell Calm.al_frozen
theorem Try.infoU32A : (Try.prog.info? 30).map (fun i => (i.zero, i.size, i.bytes)) = some (some (.int .u32 0), 1, 4) := by kernel_rfl
theorem made_own {w : World} {base W g cap : Nat} {e : TypeId} {z : Value} (h : w.ownsRow base e 1 (.slice (some ⟨g, 0, none⟩) W cap) W (madeCells #[z] (W * 1)).toList) :
    base ≤ g ∧ g < w.heap.size ∧ (∀ c, c < W → w.cell? ⟨g, c, none⟩ = some z) ∧ ∀ j, w.frozen? ⟨g, j, none⟩ = false := by
  refine ⟨own_base h g rfl, own_lt h g rfl, fun c hc => ?_, own_frozen h⟩
  rw [h.cellAt c (by omega), toList_madeCells_one, List.getElem?_replicate, if_pos (by omega)]
theorem none_bl {w W : World} (h : w.grownBy W none) : Below w.heap.size w W := bl_grown (Lib.hid h) (fun k hk => by cases hk) (Nat.le_refl _) (Below.refl _ _)
def shEvs (ws : List Int) (at_ : Nat) : Nat → List Ev
  | 0 => []
  | k + 1 => shEvs ws at_ k ++ [⟨1, ((at_ + k : Nat) : Int), 0⟩] ++ [⟨3, 0, ws.getD (at_ + k) 0⟩]
theorem shEvs_zero (ws : List Int) (at_ : Nat) : shEvs ws at_ 0 = [] := rfl
theorem shEvs_succ (ws : List Int) (at_ k : Nat) : shEvs ws at_ (k + 1) = shEvs ws at_ k ++ [⟨1, ((at_ + k : Nat) : Int), 0⟩] ++ [⟨3, 0, ws.getD (at_ + k) 0⟩] := rfl
theorem shEvs_len (ws : List Int) (at_ : Nat) : ∀ k, (shEvs ws at_ k).length = 2 * k
  | 0 => rfl
  | k + 1 => by rw [shEvs_succ, List.length_append, List.length_append, shEvs_len ws at_ k]; simp; omega
attribute [local irreducible] shEvs
set_option maxHeartbeats 800000 in
theorem ALog_any {w : World} {p g lp : Nat} {FL : Nat → Prop} {ws : List Int} {top : Nat} {evs : List Ev} (h : Ar w p g lp FL ws top evs) : Calls Try.prog 15 #[.pointer (some ⟨p, 0, none⟩)] w fun e w' => e = .returned (.pointer (some ⟨lp, 0, none⟩)) ∧ w' = w := by
  have q1 := h.c2
  clear h
  go_enter Try.func15, Try.ntmps15
  go_wp2_with fail
  go_ret
  exact ⟨rfl, rfl⟩
set_option maxRecDepth 10000 in
set_option maxHeartbeats 1600000 in
theorem AShow_t {w : World} {p g lp : Nat} {FL : Nat → Prop} {ws : List Int} {top : Nat} {evs : List Ev} (h : Ar w p g lp FL ws top evs) (at_ n : Nat) (hat : at_ + n ≤ top) (he : evs.length + 2 * n < 1099511627775) :
    Calls Try.prog 25 #[.pointer (some ⟨p, 0, none⟩), .int .i64 at_, .int .i64 n] w fun e w' => ∃ go FL', e = .returned (.slice (some ⟨go, 0, none⟩) n n) ∧ go < w'.heap.size ∧ (∀ c, c < n → w'.cell? ⟨go, c, none⟩ = some (.int .u32 (ws.getD (at_ + c) 0))) ∧ ¬ AF p g FL' go ∧ Ar w' p g lp FL' ws top (evs ++ shEvs ws at_ n) ∧ Step (AF p g FL) (AF p g FL') w w' := by
  have q4 := h.ht
  have q5 := h.hz
  have H := Lib.hid h
  obtain ⟨i0, hi, hz0, hz1, hz2⟩ := info_parts Try.infoU32A
  clear h
  go_enter Try.func25, Try.ntmps25
  go_wp2_with (first | (go_at_call 61; refine (Fits_t (p := p) (g := g) (lp := lp) (FL := FL) (ws := ws) (top := top) (evs := evs) (by (repeat' (first | exact H.out | refine Ar.alloc ?_ _ | refine Ar.drewN ?_ _ | refine Ar.drew ?_ | refine Ar.below ?_ (by assumption)))) _ _ (by omega) (by omega) (by omega)).mono ?_; rintro e w1 ⟨rfl, hw1⟩; replace hw1 := hw1.symm; subst hw1) | (refine wpList_make_full _ (by rfl) _ _ 22 (by rfl) w.heap.size 30 i0 _ 1 Try.underlying22 hi hz0 hz1 .i64 .i64 _ _ n (by rfl) (by rfl) (by rfl) (by rfl) (by rw [hz2]; omega) (by simp only [maxLen]; omega) (by simp) ?_; intro wm hown hgr; obtain ⟨hm1, hm2, hm3, hm4⟩ := made_own hown; have hbm := none_bl hgr; have hz_m := hbm.size; have hbh_m := Lib.hid hbm; clear hbm hown hgr))
  have HM := Lib.hid (H.out.below hbh_m)
  obtain ⟨go, hgo⟩ : ∃ go, w.heap.size = go := ⟨_, rfl⟩
  have hng : ¬ AF p g FL go := fun hf => by have := H.out.most _ hf; omega
  rw [hgo] at hm2 hm3 hm4
  simp only [hgo]
  go_loopw [18] (fun i wr => ∃ (k : Nat) (FL' : Nat → Prop), k ≤ n ∧ i = .int .i64 k ∧ (∀ c, c < n → wr.cell? ⟨go, c, none⟩ = some (.int .u32 (if c < k then ws.getD (at_ + c) 0 else 0))) ∧ (∀ j, wr.frozen? ⟨go, j, none⟩ = false) ∧ go < wr.heap.size ∧ ¬ AF p g FL' go ∧ Ar wr p g lp FL' ws top (evs ++ shEvs ws at_ k) ∧ Step (AF p g FL) (AF p g FL') w wr) (fun i _ => n - (intOf i).toNat)
  case atStart => exact ⟨0, FL, Nat.zero_le _, rfl, fun c hc => by rw [if_neg (Nat.not_lt_zero c)]; exact hm3 c hc, hm4, hm2, hng, by rw [shEvs_zero, List.append_nil]; exact HM.out, Step.thenB hbh_m H.out.step0⟩
  case round =>
    obtain ⟨k, F1, hk, rfl, hcs, hfz, hgl, hn1, hA1, hs1⟩ := hrel
    have hlen := shEvs_len ws at_ k
    have H1 := Lib.hid hA1
    have S1 := Lib.hid hs1
    have HC := Lib.hid hcs
    have HN1 := Lib.hid hn1
    have HF := Lib.hid hfz
    have hzr := hs1.size
    clear hA1 hs1 hcs hn1 hm3 hm4 hng hfz
    by_cases hkn : k < n
    · go_wp2_with (go_at_call 34; refine (ARelease_i (p := p) (g := g) (lp := lp) (FL := F1) (ws := ws) (top := top) (evs := evs ++ shEvs ws at_ k) (by (repeat' (first | exact H1.out | refine Ar.alloc ?_ _ | refine Ar.drewN ?_ _ | refine Ar.drew ?_ | refine Ar.below ?_ (by assumption)))) (by rw [List.length_append]; omega) _ (by omega) (by omega)).mono ?_; rintro e w2 ⟨rfl, F2, hA2, hs2⟩; have H2 := Lib.hid hA2; have S2 := Lib.hid hs2; have z2 := hs2.size; have x0 := (old_cell (o := k) hs2 hgl HN1.out).trans (HC.out k hkn); have x1 := (old_frozen (o := k) hs2 hgl HN1.out).trans (HF.out k); clear hA2 hs2)
      have e1 : ((at_ : Int) + (k : Int)).toNat = at_ + k := by omega
      have e2 : (at_ : Int) + (k : Int) = ((at_ + k : Nat) : Int) := by omega
      have hg2 : go < w2.heap.size := by omega
      have hf2 : ¬ AF p g F2 go := af_old S2.out hgl HN1.out
      refine ⟨⟨k + 1, F2, by omega, by go_num, ?_, ?_, by simp; omega, hf2, ?_, ?_⟩, by simp [intOf]; omega⟩
      · intro c hc
        by_cases hck : c = k
        · subst hck
          rw [if_pos (Nat.lt_succ_self _)]
          simp [go_sem, x0]
        · have x2 := (old_cell (o := c) S2.out hgl HN1.out).trans (HC.out c hc)
          have x3 : (if c < k then ws.getD (at_ + c) 0 else 0) = (if c < k + 1 then ws.getD (at_ + c) 0 else 0) := by
            rcases Nat.lt_or_ge c k with h | h
            · rw [if_pos h, if_pos (by omega)]
            · rw [if_neg (by omega), if_neg (by omega)]
          rw [← x3, ← x2]
          clear x0 x2 x3
          simp [go_sem, hck]
      · intro j
        have x4 := (old_frozen (o := j) S2.out hgl HN1.out).trans (HF.out j)
        simp [go_sem, x4]
      · have hX := H2.out.far (b := go) (i := k) hf2 (.int .u32 (ws.getD (at_ + k) 0))
        rw [e1, e2, List.append_assoc, List.append_assoc] at hX
        rw [shEvs_succ, List.append_assoc]
        simpa using hX
      · exact (S1.out.trans S2.out).set_ (by omega) _
    · have hE := Lib.hid (show k = n by omega)
      have hge : n ≤ k := by omega
      go_wp2_with fail
      go_ret
      refine ⟨go, F1, rfl, hgl, fun c hc => ?_, HN1.out, by rw [← hE.out]; exact H1.out, S1.out⟩
      have := HC.out c hc
      rw [if_pos (by omega)] at this
      exact this
end Go.Proofs.Ytdakbejppnijdaa
