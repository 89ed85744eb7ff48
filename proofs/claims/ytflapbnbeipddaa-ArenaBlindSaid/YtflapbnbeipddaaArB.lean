/- ArenaBlind: one act. No condition. -/
import Derived.Test.YtflapbnbeipddaaArA
namespace Go.Proofs.Ytflapbnbeipddaa
open Go.RowKit
set_option linter.unusedSimpArgs false
set_option linter.unusedVariables false
attribute [local go_sem] IntKind.wrap_u32' signed_u32 max_u32
attribute [local go_sem ↓] Go.wp_at_zero Go.wp_at_succ
attribute [local go_sem] Calm.C
attribute [local go_sem low] Calm.al_cell Calm.al_frozen
theorem AGive_i {w : World} {p g lp : Nat} {FL : Nat → Prop} {ws : List Int} {top : Nat} {evs : List Ev} (h : Ar w p g lp FL ws top evs) (i : Int) (h0 : 0 ≤ i) (h1 : i ≤ top) (he : evs.length + top < 1099511627776) :
    Calls Try.prog 33 #[.pointer (some ⟨p, 0, none⟩), .int .i64 i] w fun e w' => e = .returned (.bool true) ∧ ∃ FL', Ar w' p g lp FL' (gvw ws top (top - i.toNat)) i.toNat (evs ++ gvEvs top (top - i.toNat) ++ [⟨5, i, ((top - i.toNat : Nat) : Int)⟩]) ∧ Step (AF p g FL) (AF p g FL') w w' := by
  obtain ⟨j, rfl⟩ := Int.eq_ofNat_of_zero_le h0
  exact AGive_t h j (by omega) he
theorem ALoad_i {w : World} {p g lp : Nat} {FL : Nat → Prop} {ws : List Int} {top : Nat} {evs : List Ev} (h : Ar w p g lp FL ws top evs) (hn : evs.length < 1099511627776) (i : Int) (h0 : 0 ≤ i) (h1 : i < top) :
    Calls Try.prog 71 #[.pointer (some ⟨p, 0, none⟩), .int .i64 i] w fun e w' => e = .returned (.agg #[.int .u32 (ws.getD i.toNat 0)]) ∧ ∃ FL', Ar w' p g lp FL' ws top (evs ++ [⟨1, i, 0⟩]) ∧ Step (AF p g FL) (AF p g FL') w w' := by
  obtain ⟨j, rfl⟩ := Int.eq_ofNat_of_zero_le h0
  exact ALoad_t h hn j (by omega)
/-- What an act leaves: the words' number, the top, and what is noted but for what is told. -/
def Left (w w' : World) (p g lp : Nat) (FL : Nat → Prop) (ws : List Int) (evs : List Ev) (top' : Nat) (bs : List Ev) : Prop :=
  ∃ (FL' : Nat → Prop) (ws' : List Int) (es : List Ev), Ar w' p g lp FL' ws' top' (evs ++ es) ∧ ws'.length = ws.length ∧ blind es = bs ∧ Step (AF p g FL) (AF p g FL') w w'
theorem left_same {w : World} {p g lp : Nat} {FL : Nat → Prop} {ws : List Int} {top : Nat} {evs : List Ev} (h : Ar w p g lp FL ws top evs) (w' : World) (hb : Below w.heap.size w w') : Left w w' p g lp FL ws evs top [] :=
  ⟨FL, ws, [], by rw [List.append_nil]; exact h.below (Lib.hid hb), rfl, rfl, Step.thenB (Lib.hid hb) h.step0⟩
set_option maxRecDepth 10000 in
set_option maxHeartbeats 1600000 in
theorem do0_t {w : World} {p g lp : Nat} {FL : Nat → Prop} {ws : List Int} {top : Nat} {evs : List Ev} (h : Ar w p g lp FL ws top evs) (he : evs.length + top < 1099511627776) (K at_ n v : Int) (A : Option Addr) (m c : Nat) (hK : K % 7 = 0) (hK0 : 0 ≤ K ∧ K < 256) (h0 : 0 ≤ n) (h1 : top + n ≤ ws.length) :
    Calls Try.prog 39 #[.pointer (some ⟨p, 0, none⟩), .agg #[.int .u8 K, .int .i64 at_, .int .i64 n, .int .u32 v, .slice A m c]] w fun e w' => e = .returned (.tuple #[]) ∧ Left w w' p g lp FL ws evs (top + n.toNat) [⟨4, top, n⟩] := by
  obtain ⟨k0, k1⟩ := hK0
  have H := Lib.hid h
  clear h
  go_enter Try.func39, Try.ntmps39
  go_wp2_with (first | (go_at_call 31; with_reducible refine (ATake_i (p := p) (g := g) (lp := lp) (FL := FL) (ws := ws) (top := top) (evs := evs) (by ((repeat' (first | exact H.out | refine Ar.alloc ?_ _ | refine Ar.drewN ?_ _ | refine Ar.drew ?_ | refine Ar.below ?_ (by assumption))); (first | done | fail))) (by omega) _ h0 h1).mono ?_; rintro e w9 ⟨rfl, F9, hA, hs⟩; have H9 := Lib.hid hA; have S9 := Lib.hid hs; clear hA hs))
  go_end0
  refine ⟨rfl, F9, ws, [⟨4, top, n⟩], H9.out, rfl, rfl, ?_⟩
  have hm := H.out.most
  (repeat' (first | exact Step.refl (by assumption) | refine Step.set_ (by (first | omega | (simp; done) | (simp; omega))) ?_ _ | refine Step.alloc ?_ _ | refine Step.drewN ?_ _ | refine Step.drew ?_ | refine Step.then_ (by assumption) ?_ | refine Step.thenB (by assumption) ?_))
set_option maxRecDepth 10000 in
set_option maxHeartbeats 1600000 in
theorem do0_f {w : World} {p g lp : Nat} {FL : Nat → Prop} {ws : List Int} {top : Nat} {evs : List Ev} (h : Ar w p g lp FL ws top evs) (K at_ n v : Int) (A : Option Addr) (m c : Nat) (hK : K % 7 = 0) (hK0 : 0 ≤ K ∧ K < 256) (h0 : ¬ (0 ≤ n ∧ n ≤ ws.length - top)) :
    Calls Try.prog 39 #[.pointer (some ⟨p, 0, none⟩), .agg #[.int .u8 K, .int .i64 at_, .int .i64 n, .int .u32 v, .slice A m c]] w fun e w' => e = .returned (.tuple #[]) ∧ Left w w' p g lp FL ws evs top [] := by
  obtain ⟨k0, k1⟩ := hK0
  have H := Lib.hid h
  clear h
  go_enter Try.func39, Try.ntmps39
  go_wp2_with (first | (go_at_call 31; with_reducible refine (ATake_f (p := p) (g := g) (lp := lp) (FL := FL) (ws := ws) (top := top) (evs := evs) (by ((repeat' (first | exact H.out | refine Ar.alloc ?_ _ | refine Ar.drewN ?_ _ | refine Ar.drew ?_ | refine Ar.below ?_ (by assumption))); (first | done | fail))) _ h0).mono ?_; rintro e w9 ⟨rfl, hb⟩; have B9 := Lib.hid hb; clear hb))
  go_end0
  refine ⟨rfl, left_same H.out _ ?_⟩
  (repeat' (first | exact Below.refl _ _ | refine bl_set (by (first | omega | (simp; done) | (simp; omega))) ?_ _ | refine bl_alloc (by (first | omega | (simp; done) | (simp; omega))) ?_ _ | refine bl_drewN ?_ _ | refine bl_drew ?_ | refine bl_then (by assumption) ?_ (by (first | omega | (simp; done) | (simp; omega))) | refine Step.bl (by assumption) (by assumption) (by (first | omega | (simp; done) | (simp; omega))) (by (first | omega | (simp; done) | (simp; omega))) ?_))
end Go.Proofs.Ytflapbnbeipddaa
