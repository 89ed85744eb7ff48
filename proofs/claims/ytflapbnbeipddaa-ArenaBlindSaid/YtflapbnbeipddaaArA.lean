/- ArenaClears: the law's own calls. No condition. -/
import Derived.Test.YtflapbnbeipddaaArS
namespace Go.Proofs.Ytflapbnbeipddaa
open Go.RowKit
set_option linter.unusedSimpArgs false
set_option linter.unusedVariables false
attribute [local go_sem] IntKind.wrap_u32' signed_u32 max_u32
attribute [local go_sem ↓] Go.wp_at_zero Go.wp_at_succ
attribute [local go_sem] Calm.C
attribute [local go_sem low] Calm.al_cell Calm.al_frozen
theorem ATake_i {w : World} {p g lp : Nat} {FL : Nat → Prop} {ws : List Int} {top : Nat} {evs : List Ev} (h : Ar w p g lp FL ws top evs) (hn : evs.length < 1099511627776) (n : Int) (h0 : 0 ≤ n) (h1 : top + n ≤ ws.length) :
    Calls Try.prog 31 #[.pointer (some ⟨p, 0, none⟩), .int .i64 n] w fun e w' => e = .returned (.tuple #[.int .i64 top, .bool true]) ∧ ∃ FL', Ar w' p g lp FL' ws (top + n.toNat) (evs ++ [⟨4, top, n⟩]) ∧ Step (AF p g FL) (AF p g FL') w w' := by
  obtain ⟨j, rfl⟩ := Int.eq_ofNat_of_zero_le h0
  exact ATake_t h hn j (by omega)
set_option maxRecDepth 10000 in
set_option maxHeartbeats 1600000 in
theorem awake02_any (w : World) : Calls Try.prog 29 #[] w fun e w' => e = .returned (.bool true) ∧ Below w.heap.size w w' := by
  go_enter Try.func29, Try.ntmps29
  go_wp2_with (first | (go_at_call 30; refine (ANew_any 10 10 (by decide) _).mono ?_; rintro e w0 ⟨p, g, lp, F0, rfl, hA, hlow, hb⟩; have H0 := Lib.hid hA; have LOW := Lib.hid hlow; have B0 := Lib.hid hb; clear hA hlow hb) | (go_at_call 31; refine (ATake_i (p := p) (g := g) (lp := lp) (FL := F0) (ws := (List.replicate 10 0)) (top := 0) (evs := []) (by ((repeat' (first | exact H0.out | refine Ar.alloc ?_ _ | refine Ar.drewN ?_ _ | refine Ar.drew ?_ | refine Ar.below ?_ (by assumption)))); (first | done | fail)) (by simp) 4 (by decide) (by decide)).mono ?_; rintro e w1 ⟨rfl, F1, hA, hs⟩; have H1 := Lib.hid hA; have S1 := Lib.hid hs; clear hA hs) | (go_at_call 31; refine (ATake_i (p := p) (g := g) (lp := lp) (FL := F1) (ws := (List.replicate 10 0)) (top := 4) (evs := ([] ++ [⟨4, ((0 : Nat) : Int), 4⟩])) (by ((repeat' (first | exact H1.out | refine Ar.alloc ?_ _ | refine Ar.drewN ?_ _ | refine Ar.drew ?_ | refine Ar.below ?_ (by assumption)))); (first | done | fail)) (by simp) 4 (by decide) (by decide)).mono ?_; rintro e w2 ⟨rfl, F2, hA, hs⟩; have H2 := Lib.hid hA; have S2 := Lib.hid hs; clear hA hs) | (go_at_call 31; refine (ATake_f (p := p) (g := g) (lp := lp) (FL := F2) (ws := (List.replicate 10 0)) (top := 8) (evs := ([] ++ [⟨4, ((0 : Nat) : Int), 4⟩] ++ [⟨4, ((4 : Nat) : Int), 4⟩])) (by ((repeat' (first | exact H2.out | refine Ar.alloc ?_ _ | refine Ar.drewN ?_ _ | refine Ar.drew ?_ | refine Ar.below ?_ (by assumption)))); (first | done | fail)) 4 (by decide)).mono ?_; rintro e w3 ⟨rfl, hb⟩; have H3 := Lib.hid (H2.out.below (Lib.hid hb)); have B3 := Lib.hid hb; clear hb) | (go_at_call 63; refine (AStore_i (p := p) (g := g) (lp := lp) (FL := F2) (ws := (List.replicate 10 0)) (top := 8) (evs := ([] ++ [⟨4, ((0 : Nat) : Int), 4⟩] ++ [⟨4, ((4 : Nat) : Int), 4⟩])) (by ((repeat' (first | exact H3.out | refine Ar.alloc ?_ _ | refine Ar.drewN ?_ _ | refine Ar.drew ?_ | refine Ar.below ?_ (by assumption)))); (first | done | fail)) (by simp) 5 (by decide) (by decide) 9).mono ?_; rintro e w4 ⟨rfl, F4, hA, hs⟩; have H4 := Lib.hid hA; have S4 := Lib.hid hs; clear hA hs) | (go_at_call 37; refine (ARelease_i (p := p) (g := g) (lp := lp) (FL := F4) (ws := ((List.replicate 10 0).set 5 9)) (top := 8) (evs := ([] ++ [⟨4, ((0 : Nat) : Int), 4⟩] ++ [⟨4, ((4 : Nat) : Int), 4⟩] ++ [⟨2, 5, 0⟩])) (by ((repeat' (first | exact H4.out | refine Ar.alloc ?_ _ | refine Ar.drewN ?_ _ | refine Ar.drew ?_ | refine Ar.below ?_ (by assumption)))); (first | done | fail)) (by simp) 5 (by decide) (by decide)).mono ?_; rintro e w5 ⟨rfl, F5, hA, hs⟩; have H5 := Lib.hid hA; have S5 := Lib.hid hs; clear hA hs) | (go_at_call 40; refine (ALog_any H5.out).mono ?_; rintro e w6 ⟨rfl, rfl⟩) | (go_at_call 42; refine (Len_any _ _ _ _ H5.out.lg).mono ?_; rintro e w7 ⟨rfl, rfl⟩) | first | (go_at_call 64; refine (Of_any _ _).mono ?_; rintro e w1 ⟨rfl, hb⟩; have hcf := bcell hb; (try simp only [World.size_alloc, World.size_setCell, World.size_drew] at hcf); have hz := hb.size; (try simp only [World.size_alloc, World.size_setCell, World.size_drew] at hz); have hbh := Lib.hid hb; clear hb; obtain ⟨hc, hf⟩ := hcf))
  go_ret
  refine ⟨rfl, ?_⟩
  have hm := H0.out.most
  have hS : Step (AF p g F0) (AF p g F5) w0 w6 := by (repeat' (first | exact Step.refl (by assumption) | refine Step.set_ (by (first | omega | (simp; done) | (simp; omega))) ?_ _ | refine Step.alloc ?_ _ | refine Step.drewN ?_ _ | refine Step.drew ?_ | refine Step.then_ (by assumption) ?_ | refine Step.thenB (by assumption) ?_))
  exact hS.below B0.out B0.out.size LOW.out
end Go.Proofs.Ytflapbnbeipddaa
