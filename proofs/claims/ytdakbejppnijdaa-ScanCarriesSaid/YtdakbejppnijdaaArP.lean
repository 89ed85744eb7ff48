/- An arena: words put, given back, shown. No condition. -/
import Derived.Test.YtdakbejppnijdaaArN
namespace Go.Proofs.Ytdakbejppnijdaa
open Go.RowKit
set_option linter.unusedSimpArgs false
set_option linter.unusedVariables false
attribute [local go_sem] IntKind.wrap_u32' signed_u32 max_u32
attribute [local go_sem ↓] Go.wp_at_zero Go.wp_at_succ
attribute [local go_sem] Calm.C
attribute [local go_sem low] Calm.al_cell Calm.al_frozen
theorem AStore_i {w : World} {p g lp : Nat} {FL : Nat → Prop} {ws : List Int} {top : Nat} {evs : List Ev} (h : Ar w p g lp FL ws top evs) (hn : evs.length < 1099511627776) (i : Int) (h0 : 0 ≤ i) (h1 : i < top) (y : Int) :
    Calls Try.prog 78 #[.pointer (some ⟨p, 0, none⟩), .int .i64 i, .agg #[.int .u32 y]] w fun e w' => e = .returned (.bool true) ∧ ∃ FL', Ar w' p g lp FL' (ws.set i.toNat y) top (evs ++ [⟨2, i, 0⟩]) ∧ Step (AF p g FL) (AF p g FL') w w' := by
  obtain ⟨j, rfl⟩ := Int.eq_ofNat_of_zero_le h0
  exact AStore_t h hn j (by omega) y
theorem ARelease_i {w : World} {p g lp : Nat} {FL : Nat → Prop} {ws : List Int} {top : Nat} {evs : List Ev} (h : Ar w p g lp FL ws top evs) (hn : evs.length < 1099511627775) (i : Int) (h0 : 0 ≤ i) (h1 : i < top) :
    Calls Try.prog 34 #[.pointer (some ⟨p, 0, none⟩), .int .i64 i] w fun e w' => e = .returned (.int .u32 (ws.getD i.toNat 0)) ∧ ∃ FL', Ar w' p g lp FL' ws top (evs ++ [⟨1, i, 0⟩] ++ [⟨3, 0, ws.getD i.toNat 0⟩]) ∧ Step (AF p g FL) (AF p g FL') w w' := by
  obtain ⟨j, rfl⟩ := Int.eq_ofNat_of_zero_le h0
  exact ARelease_t h hn j (by omega)
def putw (ws : List Int) (at_ : Nat) (f : Nat → Int) : Nat → List Int
  | 0 => ws
  | k + 1 => (putw ws at_ f k).set (at_ + k) (f k)
def stEvs (at_ : Nat) : Nat → List Ev
  | 0 => []
  | k + 1 => stEvs at_ k ++ [⟨2, ((at_ + k : Nat) : Int), 0⟩]
theorem putw_zero (ws : List Int) (at_ : Nat) (f : Nat → Int) : putw ws at_ f 0 = ws := rfl
theorem putw_succ (ws : List Int) (at_ : Nat) (f : Nat → Int) (k : Nat) : putw ws at_ f (k + 1) = (putw ws at_ f k).set (at_ + k) (f k) := rfl
theorem stEvs_zero (at_ : Nat) : stEvs at_ 0 = [] := rfl
theorem stEvs_succ (at_ k : Nat) : stEvs at_ (k + 1) = stEvs at_ k ++ [⟨2, ((at_ + k : Nat) : Int), 0⟩] := rfl
theorem stEvs_len (at_ : Nat) : ∀ k, (stEvs at_ k).length = k
  | 0 => rfl
  | k + 1 => by rw [stEvs_succ, List.length_append, stEvs_len at_ k]; rfl
theorem putw_len (ws : List Int) (at_ : Nat) (f : Nat → Int) : ∀ k, (putw ws at_ f k).length = ws.length
  | 0 => rfl
  | k + 1 => by rw [putw_succ, List.length_set, putw_len ws at_ f k]
attribute [local irreducible] putw stEvs
set_option maxRecDepth 10000 in
set_option maxHeartbeats 1600000 in
theorem APut_t {w : World} {p g lp : Nat} {FL : Nat → Prop} {ws : List Int} {top : Nat} {evs : List Ev} (h : Ar w p g lp FL ws top evs) (at_ n c : Nat) (A : Option Addr) (f : Nat → Int) (hat : at_ + n ≤ top) (he : evs.length + n < 1099511627776) (hA : 0 < n → ∃ B off, A = some ⟨B, off, none⟩ ∧ B < w.heap.size ∧ ¬ AF p g FL B ∧ ∀ j, j < n → w.cell? ⟨B, off + j, none⟩ = some (.int .u32 (f j))) :
    Calls Try.prog 31 #[.pointer (some ⟨p, 0, none⟩), .int .i64 at_, .slice A n c] w fun e w' => e = .returned (.bool true) ∧ ∃ FL', Ar w' p g lp FL' (putw ws at_ f n) top (evs ++ stEvs at_ n) ∧ Step (AF p g FL) (AF p g FL') w w' := by
  have q4 := h.ht
  have q5 := h.hz
  have H := Lib.hid h
  have HA := Lib.hid hA
  clear h hA
  go_enter Try.func31, Try.ntmps31
  go_wp2_with (first | (go_at_call 61; refine (Fits_t (p := p) (g := g) (lp := lp) (FL := FL) (ws := ws) (top := top) (evs := evs) (by (repeat' (first | exact H.out | refine Ar.alloc ?_ _ | refine Ar.drewN ?_ _ | refine Ar.drew ?_ | refine Ar.below ?_ (by assumption)))) _ _ (by omega) (by omega) (by omega)).mono ?_; rintro e w1 ⟨rfl, hw1⟩; replace hw1 := hw1.symm; subst hw1))
  go_loopw [17] (fun i wr => ∃ (k : Nat) (FL' : Nat → Prop), k ≤ n ∧ i = .int .i64 k ∧ Ar wr p g lp FL' (putw ws at_ f k) top (evs ++ stEvs at_ k) ∧ Step (AF p g FL) (AF p g FL') w wr) (fun i _ => n - (intOf i).toNat)
  case atStart => exact ⟨0, FL, Nat.zero_le _, rfl, by rw [putw_zero, stEvs_zero, List.append_nil]; exact H.out, H.out.step0⟩
  case round =>
    obtain ⟨k, F1, hk, rfl, hA1, hs1⟩ := hrel
    have hzr := hs1.size
    have H1 := Lib.hid hA1
    have S1 := Lib.hid hs1
    clear hA1 hs1
    by_cases hkn : k < n
    · obtain ⟨B, off, rfl, hB, hnB, hcell⟩ := HA.out (by omega)
      have g0 : wr.cell? ⟨B, off + k, none⟩ = some (.int .u32 (f k)) := (old_cell S1.out hB hnB).trans (hcell k hkn)
      clear hcell hnB
      have hlen := stEvs_len at_ k
      go_wp2_with (first | (go_at_call 62; refine (Of_any _ _).mono ?_; rintro e w1 ⟨rfl, hb⟩; have hcf := bcell hb; (try simp only [World.size_alloc, World.size_setCell, drew_size] at hcf); have hz := hb.size; (try simp only [World.size_alloc, World.size_setCell, World.size_drew] at hz); have hbh := Lib.hid hb; clear hb; obtain ⟨hc, hf⟩ := hcf) | (go_at_call 78; refine (AStore_i (p := p) (g := g) (lp := lp) (FL := F1) (ws := putw ws at_ f k) (top := top) (evs := evs ++ stEvs at_ k) (by (repeat' (first | exact H1.out | refine Ar.alloc ?_ _ | refine Ar.drewN ?_ _ | refine Ar.drew ?_ | refine Ar.below ?_ (by assumption)))) (by rw [List.length_append]; omega) _ (by omega) (by omega) _).mono ?_; rintro e w2 ⟨rfl, F2, hA2, hs2⟩; have H2 := Lib.hid hA2; have S2 := Lib.hid hs2; clear hA2 hs2))
      have e1 : ((at_ : Int) + (k : Int)).toNat = at_ + k := by omega
      have e2 : (at_ : Int) + (k : Int) = ((at_ + k : Nat) : Int) := by omega
      refine ⟨⟨k + 1, F2, by omega, by go_num, ?_, ?_⟩, by simp [intOf]; omega⟩
      · have hX := H2.out
        rw [e1, e2, List.append_assoc] at hX
        rw [putw_succ, stEvs_succ]
        exact hX
      · have S1' := S1.out
        have hm := H1.out.most
        refine S1'.trans ?_
        (repeat' (first | exact Step.refl (by assumption) | refine Step.set_ (by (first | omega | (simp; done) | (simp; omega))) ?_ _ | refine Step.alloc ?_ _ | refine Step.drewN ?_ _ | refine Step.drew ?_ | refine Step.then_ (by assumption) ?_ | refine Step.thenB (by assumption) ?_))
    · have hE := Lib.hid (show k = n by omega)
      have hge : n ≤ k := by omega
      go_wp2_with fail
      go_ret
      exact ⟨rfl, F1, by rw [← hE.out]; exact H1.out, S1.out⟩
end Go.Proofs.Ytdakbejppnijdaa
