/- sabretachelaw09: told, awake; Decode where the lanes are right. No condition. -/
import Derived.Test.YtjoehhojhfgooaaUtF
import Derived.Test.YtjoehhojhfgooaaUtD
namespace Go.Proofs.Ytjoehhojhfgooaa
open Go.RowKit
set_option linter.unusedSimpArgs false
set_option linter.unusedVariables false
attribute [local go_sem] IntKind.wrap_u32' signed_u32 max_u32
attribute [local go_sem ↓] Go.wp_at_zero Go.wp_at_succ
attribute [local go_sem] Calm.C
attribute [local go_sem low] Calm.al_cell Calm.al_frozen
set_option maxHeartbeats 400000 in
theorem told09_any (a : Int) (w : World) : Calls Try.prog 31 #[.agg #[.int .u32 a]] w fun e w' => e = .returned (.int .u32 a) ∧ Below w.heap.size w w' := by
  go_enter Try.func31, Try.ntmps31
  go_wp2_with fail
  go_region_held3 (fun w' => w'.cell? ⟨w.heap.size, 0, none⟩ = some (.int .u32 a)) ((simp [go_sem, ↓IntWalk.iteOmega, *]; done)) (first | (go_at_call 54; refine (NewLog_any _).mono ?_; rintro e w1 ⟨p1, F1, rfl, hL1, hlow1, hb⟩; obtain ⟨hc, hf⟩ := bcell hb; have hz := hb.size; (try simp only [World.size_alloc, World.size_setCell, World.size_drew] at hz); have hn := foot_new hL1.most hlow1; have hlo := Lib.hid hlow1; clear hlow1; have hbh := Lib.hid hb; clear hb) | (go_at_call 55; refine' Calls.mono (Release_any _ _ _ _ _ ?_ ?_) ?_; rotate_left; rotate_left; (next => ((repeat' (first | assumption | refine Lg.alloc ?_ _ | refine Lg.set_ ?_ (by (intro hfoot; simp [*, ↓IntWalk.iteOmega] at hfoot)) _ | refine Lg.below ?_ (by assumption) | refine Lg.drew ?_ | refine Lg.drewN ?_ _)))); (next => (first | omega | (simp; done) | (simp; omega))); rintro e w1 ⟨rfl, F1, hL1, hs1⟩; obtain ⟨hc, hf, hn⟩ := hs1.rules; have hz := hs1.size; (try simp only [World.size_alloc, World.size_setCell, World.size_drew] at hz); have hsh := Lib.hid hs1; clear hs1))
  go_wp2_with fail
  go_ret
  refine ⟨rfl, ?_⟩
  (repeat' (first | with_reducible exact Below.refl _ _ | with_reducible refine bl_drewN ?_ _ | with_reducible refine bl_drew ?_ | refine bl_set (by (first | omega | (simp; done) | (simp; omega))) ?_ _ | refine bl_alloc (by (first | omega | (simp; done) | (simp; omega))) ?_ _ | refine bl_then (by assumption) ?_ (by (first | omega | (simp; done) | (simp; omega))) | refine Step.bl (by assumption) (by assumption) (by (first | omega | (simp; done) | (simp; omega))) (by (first | omega | (simp; done) | (simp; omega))) ?_))
namespace Ut
/-- The words behind Decode, and what it answers. -/
def out (inn out keep n : Nat) (len : Int) (ws : List Int) : List Int := dd out keep (bad (dc inn out keep len ws n).2) (dc inn out keep len ws n).1 n
def answer (inn out keep n : Nat) (len : Int) (ws : List Int) : Int := bad (dc inn out keep len ws n).2
def evs (inn out keep n : Nat) : List Ev := ev1 inn out keep n ++ ev2 out keep n
theorem evs_len (inn out keep n : Nat) : (evs inn out keep n).length = 7 * n := by
  unfold evs
  rw [List.length_append, ev1_len, ev2_len]
  omega
theorem out_len (inn o keep n : Nat) (len : Int) (ws : List Int) : (out inn o keep n len ws).length = ws.length := by
  unfold out
  rw [dd_len, dc_len]
end Ut
theorem Decode_t {w : World} {p g lp : Nat} {FL : Nat → Prop} {ws : List Int} {top : Nat} {evs : List Ev} (h : Ar w p g lp FL ws top evs) (inn n out keep len : Int) (he : evs.length < 1000000000000) (h0 : 0 ≤ n) (h1 : n ≤ 4096) (hL : Lanes top n (L3 inn out keep) 3) :
    Calls Try.prog 27 #[.pointer (some ⟨p, 0, none⟩), .int .i64 inn, .int .i64 n, .agg #[.int .u32 len], .int .i64 out, .int .i64 keep] w fun e w' =>
      e = .returned (.tuple #[.agg #[.int .u32 (Ut.answer inn.toNat out.toNat keep.toNat n.toNat len ws)], .bool true]) ∧
        ∃ FL', Ar w' p g lp FL' (Ut.out inn.toNat out.toNat keep.toNat n.toNat len ws) top (evs ++ Ut.evs inn.toNat out.toNat keep.toNat n.toNat) ∧ Step (AF p g FL) (AF p g FL') w w' := by
  refine (Decode_any h inn n out keep len he).mono ?_
  rintro e w' (⟨hc, -, -⟩ | ⟨-, -, -, rfl, F', hA, hs⟩)
  · exact absurd ⟨h0, h1, hL⟩ hc
  · refine ⟨rfl, F', ?_, hs⟩
    unfold Ut.evs
    rw [← List.append_assoc]
    exact hA
theorem Decode_f {w : World} {p g lp : Nat} {FL : Nat → Prop} {ws : List Int} {top : Nat} {evs : List Ev} (h : Ar w p g lp FL ws top evs) (inn n out keep len : Int) (he : evs.length < 1000000000000) (hL : ¬ (0 ≤ n ∧ n ≤ 4096 ∧ Lanes top n (L3 inn out keep) 3)) :
    Calls Try.prog 27 #[.pointer (some ⟨p, 0, none⟩), .int .i64 inn, .int .i64 n, .agg #[.int .u32 len], .int .i64 out, .int .i64 keep] w fun e w' =>
      e = .returned (.tuple #[.agg #[.int .u32 0], .bool false]) ∧ Below w.heap.size w w' := by
  refine (Decode_any h inn n out keep len he).mono ?_
  rintro e w' (⟨-, rfl, hb⟩ | ⟨h1, h2, h3, -⟩)
  · exact ⟨rfl, hb⟩
  · exact absurd ⟨h1, h2, h3⟩ hL
def f2 : Nat → Int := fun i => if i = 0 then 195 else 164
theorem lanes2 {W : World} {B : Nat} {t : TypeId} (hB : W.heap.size = B) : 0 < 2 → ∃ b o, some (⟨B, 0, none⟩ : Addr) = some ⟨b, o, none⟩ ∧ b < (W.alloc (.cells #[.int .u8 195, .int .u8 164] t)).heap.size ∧ ∀ i, i < 2 → (W.alloc (.cells #[.int .u8 195, .int .u8 164] t)).cell? ⟨b, o + i, none⟩ = some (.int .u8 (f2 i)) := by
  intro _
  subst hB
  refine ⟨W.heap.size, 0, rfl, by simp, fun i hi => ?_⟩
  rw [Nat.zero_add]
  refine ((Blk.new W t _).cell i).trans ?_
  rcases (by omega : i = 0 ∨ i = 1) with rfl | rfl <;> rfl
theorem lanesA : Lanes (3 * 2) 2 (L3 0 2 4) 3 := by
  intro k hk
  rcases (by omega : k = 0 ∨ k = 1 ∨ k = 2) with rfl | rfl | rfl
  · exact ⟨by decide, fun j hj => by omega⟩
  · refine ⟨by decide, fun j hj => ?_⟩
    obtain rfl : j = 0 := by omega
    decide
  · refine ⟨by decide, fun j hj => ?_⟩
    rcases (by omega : j = 0 ∨ j = 1) with rfl | rfl <;> decide
theorem outA : Ut.out 0 2 4 2 2 (Ut.lay 2 f2 2) = [195, 164, 0, 228, 0, 4294967295] := by decide +kernel
theorem ansA : Ut.answer 0 2 4 2 2 (Ut.lay 2 f2 2) = 0 := by decide +kernel
theorem outB : Ut.out (0 : Int).toNat (2 : Int).toNat (4 : Int).toNat (2 : Int).toNat 2 (Ut.lay 2 f2 2) = [195, 164, 0, 228, 0, 4294967295] := outA
theorem ansB : Ut.answer (0 : Int).toNat (2 : Int).toNat (4 : Int).toNat (2 : Int).toNat 2 (Ut.lay 2 f2 2) = 0 := ansA
theorem f2_range : ∀ i, i < 2 → 0 ≤ f2 i ∧ f2 i ≤ 255 := by
  intro i hi
  rcases (by omega : i = 0 ∨ i = 1) with rfl | rfl <;> decide
theorem AShow_i {w : World} {p g lp : Nat} {FL : Nat → Prop} {ws : List Int} {top : Nat} {evs : List Ev} (h : Ar w p g lp FL ws top evs) (a n : Int) (h0 : 0 ≤ a) (h1 : 0 ≤ n) (hat : a + n ≤ top) (he : evs.length < 1000000000000) :
    Calls Try.prog 44 #[.pointer (some ⟨p, 0, none⟩), .int .i64 a, .int .i64 n] w fun e w' => ∃ go FL', e = .returned (.slice (some ⟨go, 0, none⟩) n.toNat n.toNat) ∧ go < w'.heap.size ∧ (∀ c, c < n.toNat → w'.cell? ⟨go, c, none⟩ = some (.int .u32 (ws.getD (a.toNat + c) 0))) ∧ ¬ AF p g FL' go ∧ Ar w' p g lp FL' ws top (evs ++ shEvs ws a.toNat n.toNat) ∧ Step (AF p g FL) (AF p g FL') w w' := by
  obtain ⟨a, rfl⟩ := Int.eq_ofNat_of_zero_le h0
  obtain ⟨n, rfl⟩ := Int.eq_ofNat_of_zero_le h1
  have := h.ht
  have := h.hz
  exact AShow_t h a n (by omega) (by omega)
theorem four {w : World} {go a : Nat} {ws : List Int} (h : ∀ c, c < (4 : Int).toNat → w.cell? ⟨go, c, none⟩ = some (.int .u32 (ws.getD (a + c) 0))) : w.cell? ⟨go, 0, none⟩ = some (.int .u32 (ws.getD (a + 0) 0)) ∧ w.cell? ⟨go, 1, none⟩ = some (.int .u32 (ws.getD (a + 1) 0)) ∧ w.cell? ⟨go, 2, none⟩ = some (.int .u32 (ws.getD (a + 2) 0)) ∧ w.cell? ⟨go, 3, none⟩ = some (.int .u32 (ws.getD (a + 3) 0)) :=
  ⟨h 0 (by decide), h 1 (by decide), h 2 (by decide), h 3 (by decide)⟩
attribute [local irreducible] Ut.out Ut.answer Ut.evs Ut.lay stEvs shEvs
set_option maxRecDepth 10000 in
set_option maxHeartbeats 1600000 in
theorem awake09_any (w : World) : Calls Try.prog 29 #[] w fun e w' => e = .returned (.bool true) ∧ Below w.heap.size w w' := by
  go_enter Try.func29, Try.ntmps29
  go_wp2_with (first | (go_at_call 28; refine (Of_any _ _).mono ?_; rintro e w1 ⟨rfl, hb⟩; have hcf := bcell hb; (try simp only [World.size_alloc, World.size_setCell, drew_size] at hcf); have hz := hb.size; (try simp only [World.size_alloc, World.size_setCell, World.size_drew] at hz); have hbh := Lib.hid hb; clear hb; obtain ⟨hc, hf⟩ := hcf) | (go_at_call 31; refine (told09_any _ _).mono ?_; rintro e w1 ⟨rfl, hb⟩; have hcf := bcell hb; (try simp only [World.size_alloc, World.size_setCell, drew_size] at hcf); have hz := hb.size; (try simp only [World.size_alloc, World.size_setCell, World.size_drew] at hz); have hbh := Lib.hid hb; clear hb; obtain ⟨hc, hf⟩ := hcf) | (go_at_call 30; with_reducible refine (Lay_any (n := 2) (f := f2) (lanes2 rfl) (by decide) f2_range).mono ?_; rintro e wL ⟨p, g, lp, F1, rfl, hA, hlow, hb⟩; have HA := Lib.hid hA; have LOW := Lib.hid hlow; have B1 := Lib.hid hb; have z1 := hb.size; (try simp only [World.size_alloc] at z1); have HM1 := Lib.hid hA.most; clear hA hlow hb) | (go_at_call 27; with_reducible refine' Calls.mono (Decode_t ?_ 0 2 2 4 2 ?_ ?_ ?_ lanesA) ?_; rotate_left 5; (next => (repeat' (first | with_reducible exact HA.out | with_reducible refine' Ar.drewN ?_ _ | with_reducible refine' Ar.drew ?_ | with_reducible refine' Ar.farE ?_ ?_ _ | with_reducible refine' Ar.alloc ?_ _ | with_reducible refine' Ar.below ?_ (by assumption))); (try (all_goals (simp [*, ↓IntWalk.iteOmega]; first | done | fail))); (first | done | fail)); (next => (rw [List.length_append, stEvs_len]; decide)); (next => decide); (next => decide); rintro e w2 ⟨rfl, F2, hA, hs⟩; rw [outB] at hA; rw [ansB]; have HA := Lib.hid hA; have S2 := Lib.hid hs; have z2 := hs.size; clear hA hs) | (go_at_call 44; with_reducible refine' Calls.mono (AShow_i ?_ 2 4 ?_ ?_ ?_ ?_) ?_; rotate_left 6; (next => (repeat' (first | with_reducible exact HA.out | with_reducible refine' Ar.drewN ?_ _ | with_reducible refine' Ar.drew ?_ | with_reducible refine' Ar.farE ?_ ?_ _ | with_reducible refine' Ar.alloc ?_ _ | with_reducible refine' Ar.below ?_ (by assumption))); (try (all_goals (simp [*, ↓IntWalk.iteOmega]; first | done | fail))); (first | done | fail)); (next => decide); (next => decide); (next => decide); (next => (rw [List.length_append, List.length_append, stEvs_len, Ut.evs_len]; decide)); rintro e w3 ⟨go, F3, rfl, hgl, hcs, hgn, hA, hs⟩; have sb := (old_cell (o := 0) hs (b := w2.heap.size) (by simp) (fun hf => absurd (HA.out.most _ hf) (Nat.lt_irrefl _))).trans (new_cell _ _ _); have z23 := hs.size; (try simp only [World.size_alloc] at z23); have HA := Lib.hid hA; have S3 := Lib.hid hs; have z3 := hs.size; have hq := four hcs; clear hA hs hcs; obtain ⟨s0, s1, s2, s3⟩ := hq))
  go_ret
  refine ⟨rfl, ?_⟩
  have hm := HM1.out
  have hS : Step (AF p g F1) (AF p g F3) wL w1 := by (repeat' (first | exact Step.refl (by assumption) | refine Step.set_ (by (first | omega | (simp; done) | (simp; omega))) ?_ _ | refine Step.alloc ?_ _ | refine Step.drewN ?_ _ | refine Step.drew ?_ | refine Step.then_ (by assumption) ?_ | refine Step.thenB (by assumption) ?_))
  refine hS.below (B := w.heap.size) (w0 := w) ?_ (by omega) (fun i hi => ?_)
  · (repeat' (first | with_reducible exact Below.refl _ _ | with_reducible refine bl_drewN ?_ _ | with_reducible refine bl_drew ?_ | refine bl_set (by (first | omega | (simp; done) | (simp; omega))) ?_ _ | refine bl_alloc (by (first | omega | (simp; done) | (simp; omega))) ?_ _ | refine bl_then (by assumption) ?_ (by (first | omega | (simp; done) | (simp; omega))) | refine Step.bl (by assumption) (by assumption) (by (first | omega | (simp; done) | (simp; omega))) (by (first | omega | (simp; done) | (simp; omega))) ?_))
  · have := LOW.out i hi
    simp at this
    omega
end Go.Proofs.Ytjoehhojhfgooaa
