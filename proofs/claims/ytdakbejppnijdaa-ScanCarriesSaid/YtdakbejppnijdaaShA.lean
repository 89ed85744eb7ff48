/- The law's awake; the document's products and inverses. No condition. -/
import Derived.Test.YtdakbejppnijdaaShN
import Derived.Test.YtdakbejppnijdaaShP
namespace Go.Proofs.Ytdakbejppnijdaa
open Go.RowKit
set_option linter.unusedSimpArgs false
set_option linter.unusedVariables false
attribute [local go_sem] IntKind.wrap_u32' signed_u32 max_u32
attribute [local go_sem ↓] Go.wp_at_zero Go.wp_at_succ
attribute [local go_sem] Calm.C
attribute [local go_sem low] Calm.al_cell Calm.al_frozen
theorem aw42 : Sh.ms 87 131 8 = 193 ∧ Gf.T 87 131 = 193 ∧ Gf.I 7 < 256 ∧ Gf.T (Gf.I 7) 7 = 1 := by decide +kernel
attribute [local irreducible] Gf.T Gf.R Gf.I Sh.ms
theorem sTimesA (w : World) : Calls Try.prog 70 #[.int .u8 87, .int .u8 131] w fun e w' => e = .returned (.int .u8 193) ∧ w' = w :=
  (sTimes_any 87 131 (by decide) (by decide) w).mono fun e w' ⟨he, hw⟩ => ⟨by rw [he, aw42.2.1]; rfl, hw⟩
theorem sTimesB (w : World) : Calls Try.prog 70 #[.int .u8 (Gf.I 7 : Nat), .int .u8 7] w fun e w' => e = .returned (.int .u8 1) ∧ w' = w :=
  (sTimes_any (Gf.I 7) 7 aw42.2.2.1 (by decide) w).mono fun e w' ⟨he, hw⟩ => ⟨by rw [he, aw42.2.2.2]; rfl, hw⟩
theorem sInverseA (w : World) : Calls Try.prog 73 #[.int .u8 7] w fun e w' => e = .returned (.int .u8 (Gf.I 7 : Nat)) ∧ w' = w :=
  sInverse_any 7 (by decide) w
theorem rInverse_all (a : Nat) (ha : a < 256) (w : World) : Calls Try.prog 84 #[.int .u8 a] w fun e w' => e = .returned (.int .u8 (Gf.I a : Nat)) ∧ w' = w :=
  rInverse_any a ha (fun b h1 h2 => Gf.look a ha b h1 h2) (Gf.I_all ⟨a, ha⟩).2.1 (Gf.I_all ⟨a, ha⟩).1 (Gf.I_all ⟨a, ha⟩).2.2.1 w
theorem rTimes_all (a b : Nat) (ha : a < 256) (hb : b < 256) (w : World) : Calls Try.prog 83 #[.int .u8 a, .int .u8 b] w fun e w' => e = .returned (.int .u8 (Gf.T a b : Nat)) ∧ w' = w :=
  (rTimes_any a b ha hb w).mono fun e w' ⟨he, hw⟩ => ⟨by rw [he, Gf.R_eq a b ha hb], hw⟩
theorem told42_eq (a v : Int) (h : a = v) (w : World) : Calls Try.prog 71 #[.agg #[.int .u32 a]] w fun e w' => e = .returned (.int .u32 v) ∧ Below w.heap.size w w' := (told42_any a w).mono fun e w' ⟨he, hb⟩ => ⟨by rw [he, h], hb⟩
set_option maxRecDepth 20000 in
set_option maxHeartbeats 1000000 in
theorem awake42_any (w : World) : Calls Try.prog 26 #[] w fun e w' => e = .returned (.bool true) ∧ Below w.heap.size w w' := by
  have F1 := Lib.hid aw42.1
  go_enter Try.func26, Try.ntmps26
  go_wp2_with (first | (go_at_call 70; with_reducible refine (sTimesA _).mono ?_; rintro e w1 ⟨rfl, rfl⟩) | (go_at_call 70; with_reducible refine (sTimesB _).mono ?_; rintro e w1 ⟨rfl, rfl⟩) | (go_at_call 73; with_reducible refine (sInverseA _).mono ?_; rintro e w1 ⟨rfl, rfl⟩) | (go_at_call 71; refine (told42_eq _ 193 F1.out _).mono ?_; rintro e w1 ⟨rfl, hb⟩; have hcf := bcell hb; have hz := hb.size; (try simp only [World.size_alloc, World.size_setCell, World.size_drew] at hz hcf); have hbh := Lib.hid hb; clear hb; obtain ⟨hc, hf⟩ := hcf) | first | (go_at_call 62; refine (Of_any _ _).mono ?_; rintro e w1 ⟨rfl, hb⟩; have hcf := bcell hb; (try simp only [World.size_alloc, World.size_setCell, drew_size] at hcf); have hz := hb.size; (try simp only [World.size_alloc, World.size_setCell, World.size_drew] at hz); have hbh := Lib.hid hb; clear hb; obtain ⟨hc, hf⟩ := hcf) | (go_at_call 72; refine (sMul_any _ _ _).mono ?_; rintro e w1 ⟨rfl, hb⟩; have hcf := bcell hb; (try simp only [World.size_alloc, World.size_setCell, drew_size] at hcf); have hz := hb.size; (try simp only [World.size_alloc, World.size_setCell, World.size_drew] at hz); have hbh := Lib.hid hb; clear hb; obtain ⟨hc, hf⟩ := hcf))
  go_ret
  refine ⟨rfl, ?_⟩
  (repeat' (first | with_reducible exact Below.refl _ _ | with_reducible refine bl_drewN ?_ _ | with_reducible refine bl_drew ?_ | refine bl_set (by (first | omega | (simp; done) | (simp; omega))) ?_ _ | refine bl_alloc (by (first | omega | (simp; done) | (simp; omega))) ?_ _ | refine bl_then (by assumption) ?_ (by (first | omega | (simp; done) | (simp; omega))) | refine Step.bl (by assumption) (by assumption) (by (first | omega | (simp; done) | (simp; omega))) (by (first | omega | (simp; done) | (simp; omega))) ?_))
end Go.Proofs.Ytdakbejppnijdaa
