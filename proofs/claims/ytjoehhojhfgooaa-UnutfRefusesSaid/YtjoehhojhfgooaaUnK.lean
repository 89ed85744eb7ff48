/- sabretachelaw10: awake. No condition. -/
import Derived.Test.YtjoehhojhfgooaaUnL
namespace Go.Proofs.Ytjoehhojhfgooaa
open Go.RowKit
set_option linter.unusedSimpArgs false
set_option linter.unusedVariables false
attribute [local go_sem] IntKind.wrap_u32' signed_u32 max_u32
attribute [local go_sem ↓] Go.wp_at_zero Go.wp_at_succ
attribute [local go_sem] Calm.C
attribute [local go_sem low] Calm.al_cell Calm.al_frozen
theorem aw10_s : Un.siz 0 1 1 6 (Un.lay 1 (fun _ => 228) (fun _ => 1) 4) = 2 := by decide +kernel
theorem aw10_o : Un.ovr 0 1 1 4 6 (Un.lay 1 (fun _ => 228) (fun _ => 1) 4) = 0 := by decide +kernel
theorem aw10_w : Un.fin 0 1 1 2 4 6 (Un.lay 1 (fun _ => 228) (fun _ => 1) 4) = [228, 1, 195, 164, 0, 0, 0, 0, 0, 0, 0, 0, 0, 0, 0, 0, 0, 0] := by decide +kernel
theorem three {w : World} {go a : Nat} {ws : List Int} (h : ∀ c, c < (4 : Int).toNat → w.cell? ⟨go, c, none⟩ = some (.int .u32 (ws.getD (a + c) 0))) : w.cell? ⟨go, 0, none⟩ = some (.int .u32 (ws.getD (a + 0) 0)) ∧ w.cell? ⟨go, 1, none⟩ = some (.int .u32 (ws.getD (a + 1) 0)) ∧ w.cell? ⟨go, 2, none⟩ = some (.int .u32 (ws.getD (a + 2) 0)) :=
  ⟨h 0 (by decide), h 1 (by decide), h 2 (by decide)⟩
theorem rd_one {W : World} {b : Nat} {x : Int} {c : Nat} (hb : b < W.heap.size) (hc : W.cell? ⟨b, 0, none⟩ = some (.int .u32 x)) : Rd W (some ⟨b, 0, none⟩) 1 (fun _ => x) := fun _ =>
  ⟨b, 0, rfl, hb, fun i hi => by
    obtain rfl : i = 0 := by omega
    exact hc⟩
theorem Un.evs_len (pt kl n out most top : Nat) : (Un.evs pt kl n out most top).length = 30 * n + 4 + 2 * most + (Pk.evs (top + 4 * n) (4 * n) (top + 8 * n) 1 (fun _ => top)).length := by
  unfold Un.evs
  simp only [List.length_append, gvEvs_len, Un.spe_len, Un.fle_len, List.length_cons, List.length_nil]
  omega
attribute [local irreducible] Un.siz Un.ovr Un.fin Un.lay Un.layE Un.evs shEvs
set_option maxRecDepth 10000 in
set_option maxHeartbeats 1600000 in
theorem awake10_any (w : World) : Calls Try.prog 12 #[] w fun e w' => e = .returned (.bool true) ∧ Below w.heap.size w w' := by
  go_enter Try.func12, Try.ntmps12
  go_wp2_with fail
  with_reducible refine (lay10_any (n := 1) (rd_one (c := 0) (x := 228) (by simp; omega) (by simp [go_sem, ↓IntWalk.iteOmega])) (rd_one (c := 0) (x := 1) (by simp) (by simp [go_sem, ↓IntWalk.iteOmega])) (by decide) 4 4 rfl (by decide)).mono ?_
  rintro e w1 ⟨p, g, lp, F1, rfl, hA, hlow, hb⟩
  have B1 : Below w.heap.size w w1 := bl_then (Lib.hid hb) (by (repeat' (first | with_reducible exact Below.refl _ _ | with_reducible refine bl_drewN ?_ _ | with_reducible refine bl_drew ?_ | refine bl_set (by (first | omega | (simp; done) | (simp; omega))) ?_ _ | refine bl_alloc (by (first | omega | (simp; done) | (simp; omega))) ?_ _ | refine bl_then (by assumption) ?_ (by (first | omega | (simp; done) | (simp; omega))) | refine Step.bl (by assumption) (by assumption) (by (first | omega | (simp; done) | (simp; omega))) (by (first | omega | (simp; done) | (simp; omega))) ?_))) (by simp; omega)
  have L1 : ∀ i, AF p g F1 i → w.heap.size ≤ i := fun i hi => by have := hlow i hi; simp at this; omega
  have H1 : Hid (Ar w1 p g lp F1 (Un.lay 1 (fun _ => 228) (fun _ => 1) 4) 6 (Un.layE 1 4)) := Lib.hid hA
  have HB1 := Lib.hid B1
  have HL1 := Lib.hid L1
  have z1 := hb.size
  clear hA hlow hb B1 L1
  go_wp2_with fail
  with_reducible refine (Encode_e H1.out (by rw [Un.layE_len]; decide) (by rw [Un.lay_len]; decide) 0 1 1 2 4 0 1 1 2 4 rfl rfl rfl rfl rfl (by decide) (by rw [Un.lay_len]; decide)).mono ?_
  rintro e w2 ⟨rfl, F2, hA2, hs2⟩
  rw [aw10_w] at hA2
  rw [aw10_s, aw10_o]
  have HB2 := Lib.hid (hs2.below HB1.out HB1.out.size HL1.out)
  have HL2 := Lib.hid (hs2.low HB1.out.size HL1.out)
  have HA2 := Lib.hid hA2
  have z2 := hs2.size
  have hpl := pkEvs_len2 (6 + 4 * 1) (4 * 1) (6 + 8 * 1) 1 (fun _ => 6) (by decide) (by decide)
  have hel : (Un.layE 1 4 ++ Un.evs 0 1 1 2 4 6).length ≤ 20000000 := by
    rw [List.length_append, Un.layE_len, Un.evs_len]
    omega
  clear hA2 hs2 hpl
  go_wp2_with fail
  with_reducible refine (AShow_i ((HA2.out.alloc _).alloc _) 2 4 (by decide) (by decide) (by decide) (by omega)).mono ?_
  rintro e w3 ⟨go, F3, rfl, hgl, hcs, hgn, hA3, hs3⟩
  obtain ⟨s0, s1, s2⟩ := three hcs
  have c2 := (old_cell (o := 0) hs3 (b := w2.heap.size) (by simp; omega) (fun hf => absurd (HA2.out.most _ hf) (Nat.lt_irrefl _))).trans (show ((w2.alloc (.cells #[.int .u32 2] 32)).alloc (.cells #[.int .u32 0] 32)).cell? ⟨w2.heap.size, 0, none⟩ = some (.int .u32 2) by simp [go_sem, ↓IntWalk.iteOmega])
  have c3 := (old_cell (o := 0) hs3 (b := w2.heap.size + 1) (by simp) (fun hf => by have := HA2.out.most _ hf; omega)).trans (show ((w2.alloc (.cells #[.int .u32 2] 32)).alloc (.cells #[.int .u32 0] 32)).cell? ⟨w2.heap.size + 1, 0, none⟩ = some (.int .u32 0) by simp [go_sem, ↓IntWalk.iteOmega])
  have S3 := Lib.hid (((HA2.out.step0.alloc _).alloc _).trans hs3)
  have z3 := S3.out.size
  have hz3 := hs3.size
  rw [World.size_alloc, World.size_alloc] at hz3
  have HA3 := Lib.hid hA3
  clear hcs hA3 hs3
  go_wp2_with (first | (go_at_call 21; refine (told10_any _ _).mono ?_; rintro e w1 ⟨rfl, hb⟩; have hcf := bcell hb; (try simp only [World.size_alloc, World.size_setCell, drew_size] at hcf); have hz := hb.size; (try simp only [World.size_alloc, World.size_setCell, World.size_drew] at hz); have hbh := Lib.hid hb; clear hb; obtain ⟨hc, hf⟩ := hcf))
  go_ret
  refine ⟨rfl, ?_⟩
  have b3 := S3.out.below HB2.out HB2.out.size HL2.out
  have zz := b3.size
  repeat' (first | exact b3 | refine bl_then (by assumption) ?_ (by omega))
end Go.Proofs.Ytjoehhojhfgooaa
