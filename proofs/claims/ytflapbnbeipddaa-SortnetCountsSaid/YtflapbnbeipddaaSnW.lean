/- sortnet.Cost, the law's awake. No condition. -/
import Derived.Test.YtflapbnbeipddaaSnC
import Derived.Test.YtflapbnbeipddaaSnT
namespace Go.Proofs.Ytflapbnbeipddaa
open Go.RowKit
set_option linter.unusedSimpArgs false
set_option linter.unusedVariables false
attribute [local go_sem] IntKind.wrap_u32' signed_u32 max_u32
attribute [local go_sem ↓] Go.wp_at_zero Go.wp_at_succ
namespace Sn
theorem prs_get : ∀ (l : List (Nat × Nat)) (i : Nat), i < l.length → (prs l)[i * 2]? = some (.int .i64 ((l.getD i (0, 0)).1 : Int)) ∧ (prs l)[i * 2 + 1]? = some (.int .i64 ((l.getD i (0, 0)).2 : Int))
  | [], i, h => by simp at h
  | q :: l, 0, _ => ⟨rfl, rfl⟩
  | q :: l, i + 1, h => by
    obtain ⟨h1, h2⟩ := prs_get l i (by simpa using h)
    have e : prs (q :: l) = .int .i64 (q.1 : Int) :: .int .i64 (q.2 : Int) :: prs l := rfl
    rw [e, show (i + 1) * 2 = i * 2 + 1 + 1 by omega]
    simp only [List.getElem?_cons_succ, List.getD_cons_succ]
    exact ⟨h1, h2⟩
def fst_ (l : List (Nat × Nat)) (i : Nat) : Int := ((l.getD i (0, 0)).1 : Int)
def snd_ (l : List (Nat × Nat)) (i : Nat) : Int := ((l.getD i (0, 0)).2 : Int)
theorem prw_own {w : World} {B : Nat} {v : Value} {l : List (Nat × Nat)} (h : w.ownsRow B 26 2 v l.length (prs l)) : ∃ A c, v = .slice A l.length c ∧ Prw w A l.length (fst_ l) (snd_ l) := by
  obtain ⟨A, c, rfl⟩ := own_slice h
  refine ⟨A, c, rfl, fun h0 => ?_⟩
  obtain ⟨g, cap, hv, hB, hlt⟩ := h.form h0
  have hA : A = some ⟨g, 0, none⟩ := by injection hv
  subst hA
  refine ⟨g, 0, rfl, hlt, fun i hi => ?_⟩
  obtain ⟨e1, e2⟩ := prs_get l i hi
  have h1 := h.cells (g := g) rfl _ _ e1
  have h2 := h.cells (g := g) rfl _ _ e2
  rw [Addr.add_mid, Nat.zero_add] at h1 h2
  rw [Nat.zero_add]
  exact ⟨h1, h2⟩
theorem nets_two : nets 2 = [(0, 1)] := by decide
theorem nets_four : (nets 4).length = 5 := by decide
end Sn
set_option maxRecDepth 20000 in
set_option maxHeartbeats 1000000 in
theorem snCost_any (N L : Int) (hL : L ≤ 1000) (w : World) : Calls Try.prog 27 #[.int .i64 N, .int .i64 L] w fun e w' => e = .returned (.int .i64 (if L < 2 then 0 else ((Sn.nets N).length : Int) * 4 * L)) ∧ Below w.heap.size w w' := by
  have hlim := Sn.nets_le N
  have HC := Lib.hid (fun w => snCount_any N w)
  generalize (Sn.nets N).length = K at *
  by_cases hlt : L < 2
  · rw [if_pos hlt]
    go_enter Try.func27, Try.ntmps27
    go_wp2
    go_ret
    exact ⟨rfl, Below.refl _ _⟩
  · rw [if_neg hlt]
    have b1 : 0 ≤ (K : Int) * 4 * L := Int.mul_nonneg (by omega) (by omega)
    have b2 : (K : Int) * 4 * L ≤ 16000000 * 1000 := Int.mul_le_mul (by omega) hL (by omega) (by omega)
    have e1 : wrap64 ((K : Int) * 4) = (K : Int) * 4 := IntWalk.wrap64_in _ (by omega)
    have e2 : wrap64 ((K : Int) * 4 * L) = (K : Int) * 4 * L := IntWalk.wrap64_in _ (by omega)
    have e3 : IntKind.i64.wrap ((K : Int) * 4) = (K : Int) * 4 := IntWalk.i64_in _ (by omega)
    have e4 : IntKind.i64.wrap ((K : Int) * 4 * L) = (K : Int) * 4 * L := IntWalk.i64_in _ (by omega)
    go_enter Try.func27, Try.ntmps27
    go_wp2_with (go_at_call 26; refine (HC.out _).mono ?_; rintro e w1 ⟨rfl, hb⟩; have hbh := Lib.hid hb; clear hb)
    go_ret
    exact ⟨rfl, hbh.out⟩
def f75 (i : Nat) : Nat := if i = 0 then 7 else 5
theorem two_wd (w : World) (t : TypeId) : Sn.Wd (w.alloc (.cells #[.int .u32 7, .int .u32 5] t)) (some ⟨w.heap.size, 0, none⟩) 2 f75 := fun _ => by
  refine ⟨w.heap.size, 0, rfl, by simp, fun i hi => ?_⟩
  match i, hi with
  | 0, _ => simp [f75]
  | 1, _ => simp [f75]
set_option maxRecDepth 20000 in
set_option maxHeartbeats 1000000 in
theorem awake03_any (w : World) : Calls Try.prog 13 #[] w fun e w' => e = .returned (.bool true) ∧ Below w.heap.size w w' := by
  have HP := Lib.hid (fun w => snPairs1_any 2 w)
  have HC := Lib.hid (fun w => snCount_any 4 w)
  rw [Sn.nets_two] at HP
  rw [Sn.nets_four] at HC
  have heq : ∀ w, Sem.run Try.prog (Op.equalIn 10000 26 (.agg #[.int .i64 0, .int .i64 1]) (.agg #[.int .i64 0, .int .i64 1])) w = .ok true w := fun _ => by kernel_rfl
  go_enter Try.func13, Try.ntmps13
  go_wp2_with (first
    | (go_at_call 14; refine (HP.out _).mono ?_; rintro e w1 ⟨v, rfl, hown, hb⟩; have B1 := Lib.hid hb; obtain ⟨A1, c1, rfl, hp⟩ := Sn.prw_own hown; have P1 := Lib.hid hp; clear hown hb hp)
    | (go_at_call 15; refine (snApply_any (f := f75) (X := Sn.fst_ [(0, 1)]) (Y := Sn.snd_ [(0, 1)]) (m := 1) (two_wd _ _) (P1.out.below ((Below.refl _ _).alloc (Nat.le_refl _) _)) (by decide) (by decide) _ _).mono ?_; rintro e w2 ⟨v, rfl, hmine, hb2⟩; have B2 := Lib.hid hb2; obtain ⟨A2, c2, rfl, hm⟩ := hmine; obtain ⟨b2, rfl, hB2, hl2, hm⟩ := hm (by decide); have x0 := (hm 0 (by decide)).1; have x1 := (hm 1 (by decide)).1; rw [show Sn.thr_ 2 f75 (Sn.fst_ [(0, 1)]) (Sn.snd_ [(0, 1)]) 1 0 = 5 by decide] at x0; rw [show Sn.thr_ 2 f75 (Sn.fst_ [(0, 1)]) (Sn.snd_ [(0, 1)]) 1 1 = 7 by decide] at x1; obtain ⟨b1, o1, rfl, hl1, hq⟩ := P1.out (by decide); have y0 := (hb2.cell (p := ⟨b1, o1 + 0 * 2, none⟩) (by simp; omega)).trans ((World.cell?_alloc_lt w1 _ _ hl1).trans (hq 0 (by decide)).1); have y1 := (hb2.cell (p := ⟨b1, o1 + 0 * 2 + 1, none⟩) (by simp; omega)).trans ((World.cell?_alloc_lt w1 _ _ hl1).trans (hq 0 (by decide)).2); rw [show Sn.fst_ [(0, 1)] 0 = 0 by decide, Nat.zero_mul, Nat.add_zero] at y0; rw [show Sn.snd_ [(0, 1)] 0 = 1 by decide, Nat.zero_mul, Nat.add_zero] at y1; clear hb2 hm hq)
    | (go_at_call 26; refine (HC.out _).mono ?_; rintro e w3 ⟨rfl, hb3⟩; have B3 := Lib.hid hb3; clear hb3))
  go_ret
  refine ⟨rfl, ?_⟩
  have z1 := B1.out.size
  have z2 := B2.out.size
  rw [World.size_alloc] at z2
  (repeat' (first | with_reducible exact Below.refl _ _ | with_reducible refine bl_drewN ?_ _ | with_reducible refine bl_drew ?_ | refine bl_set (by (first | omega | (simp; done) | (simp; omega))) ?_ _ | refine bl_alloc (by (first | omega | (simp; done) | (simp; omega))) ?_ _ | refine bl_then (by assumption) ?_ (by (first | omega | (simp; done) | (simp; omega))) | refine Step.bl (by assumption) (by assumption) (by (first | omega | (simp; done) | (simp; omega))) (by (first | omega | (simp; done) | (simp; omega))) ?_))
end Go.Proofs.Ytflapbnbeipddaa
