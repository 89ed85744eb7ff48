/- SharesField: the law's call. No condition. -/
import Derived.Test.YtcaaapfminenoaaShM
import Derived.Test.YtcaaapfminenoaaShP
namespace Go.Proofs.Ytcaaapfminenoaa
open Go.RowKit
set_option linter.unusedSimpArgs false
set_option linter.unusedVariables false
attribute [local go_sem] IntKind.wrap_u32' signed_u32 max_u32
attribute [local go_sem ↓] Go.wp_at_zero Go.wp_at_succ
attribute [local go_sem] Calm.C
attribute [local go_sem low] Calm.al_cell Calm.al_frozen
theorem aw42 : Sh.ms 87 131 8 = 193 ∧ Gf.T 87 131 = 193 ∧ Gf.I 7 < 256 ∧ Gf.T (Gf.I 7) 7 = 1 := by decide +kernel
attribute [local irreducible] Gf.T Gf.R Gf.I Sh.ms
theorem sTimesA (w : World) : Calls Try.prog 60 #[.int .u8 87, .int .u8 131] w fun e w' => e = .returned (.int .u8 193) ∧ w' = w :=
  (sTimes_any 87 131 (by decide) (by decide) w).mono fun e w' ⟨he, hw⟩ => ⟨by rw [he, aw42.2.1]; rfl, hw⟩
theorem sTimesB (w : World) : Calls Try.prog 60 #[.int .u8 (Gf.I 7 : Nat), .int .u8 7] w fun e w' => e = .returned (.int .u8 1) ∧ w' = w :=
  (sTimes_any (Gf.I 7) 7 aw42.2.2.1 (by decide) w).mono fun e w' ⟨he, hw⟩ => ⟨by rw [he, aw42.2.2.2]; rfl, hw⟩
theorem sInverseA (w : World) : Calls Try.prog 63 #[.int .u8 7] w fun e w' => e = .returned (.int .u8 (Gf.I 7 : Nat)) ∧ w' = w :=
  sInverse_any 7 (by decide) w
theorem rInverse_all (a : Nat) (ha : a < 256) (w : World) : Calls Try.prog 64 #[.int .u8 a] w fun e w' => e = .returned (.int .u8 (Gf.I a : Nat)) ∧ w' = w :=
  rInverse_any a ha (fun b h1 h2 => Gf.look a ha b h1 h2) (Gf.I_all ⟨a, ha⟩).2.1 (Gf.I_all ⟨a, ha⟩).1 (Gf.I_all ⟨a, ha⟩).2.2.1 w
theorem rTimes_all (a b : Nat) (ha : a < 256) (hb : b < 256) (w : World) : Calls Try.prog 59 #[.int .u8 a, .int .u8 b] w fun e w' => e = .returned (.int .u8 (Gf.T a b : Nat)) ∧ w' = w :=
  (rTimes_any a b ha hb w).mono fun e w' ⟨he, hw⟩ => ⟨by rw [he, Gf.R_eq a b ha hb], hw⟩
theorem told42_eq (a v : Int) (h : a = v) (w : World) : Calls Try.prog 61 #[.agg #[.int .u32 a]] w fun e w' => e = .returned (.int .u32 v) ∧ Below w.heap.size w w' := (told42_any a w).mono fun e w' ⟨he, hb⟩ => ⟨by rw [he, h], hb⟩
set_option maxRecDepth 20000 in
set_option maxHeartbeats 1000000 in
theorem awake42_any (w : World) : Calls Try.prog 58 #[] w fun e w' => e = .returned (.bool true) ∧ Below w.heap.size w w' := by
  have F1 := Lib.hid aw42.1
  go_enter Try.func58, Try.ntmps58
  go_wp2_with (first | (go_at_call 60; with_reducible refine (sTimesA _).mono ?_; rintro e w1 ⟨rfl, rfl⟩) | (go_at_call 60; with_reducible refine (sTimesB _).mono ?_; rintro e w1 ⟨rfl, rfl⟩) | (go_at_call 63; with_reducible refine (sInverseA _).mono ?_; rintro e w1 ⟨rfl, rfl⟩) | (go_at_call 61; refine (told42_eq _ 193 F1.out _).mono ?_; rintro e w1 ⟨rfl, hb⟩; have hcf := bcell hb; have hz := hb.size; (try simp only [World.size_alloc, World.size_setCell, World.size_drew] at hz hcf); have hbh := Lib.hid hb; clear hb; obtain ⟨hc, hf⟩ := hcf) | first | (go_at_call 16; refine (Of_any _ _).mono ?_; rintro e w1 ⟨rfl, hb⟩; have hcf := bcell hb; (try simp only [World.size_alloc, World.size_setCell, World.size_drew] at hcf); have hz := hb.size; (try simp only [World.size_alloc, World.size_setCell, World.size_drew] at hz); have hbh := Lib.hid hb; clear hb; obtain ⟨hc, hf⟩ := hcf) | (go_at_call 62; refine (sMul_any _ _ _).mono ?_; rintro e w1 ⟨rfl, hb⟩; have hcf := bcell hb; (try simp only [World.size_alloc, World.size_setCell, World.size_drew] at hcf); have hz := hb.size; (try simp only [World.size_alloc, World.size_setCell, World.size_drew] at hz); have hbh := Lib.hid hb; clear hb; obtain ⟨hc, hf⟩ := hcf))
  go_ret
  refine ⟨rfl, ?_⟩
  (repeat' (first | exact Below.refl _ _ | refine bl_set (by (first | omega | (simp; done) | (simp; omega))) ?_ _ | refine bl_alloc (by (first | omega | (simp; done) | (simp; omega))) ?_ _ | refine bl_drewN ?_ _ | refine bl_drew ?_ | refine bl_then (by assumption) ?_ (by (first | omega | (simp; done) | (simp; omega))) | refine Step.bl (by assumption) (by assumption) (by (first | omega | (simp; done) | (simp; omega))) (by (first | omega | (simp; done) | (simp; omega))) ?_))
set_option maxRecDepth 20000 in
set_option maxHeartbeats 4000000 in
theorem SharesField_any (a b c : Nat) (ha : a < 4294967296) (hb : b < 4294967296) (hc : c < 256) (w : World) : Calls Try.prog 12 #[.int .u32 a, .int .u32 b, .int .u8 c] w fun e w' => e = .returned (.bool true) ∧ Below w.heap.size w w' := by
  obtain ⟨X, hX⟩ : ∃ X, a % 256 = X := ⟨_, rfl⟩
  obtain ⟨Y, hY⟩ : ∃ Y, b % 256 = Y := ⟨_, rfl⟩
  have hX' : X < 256 := by omega
  have hY' : Y < 256 := by omega
  have q1 : (a : Int) % 256 = X := by omega
  have q2 : (b : Int) % 256 = Y := by omega
  have F1 : Hid (Sh.ms a b 8 = ((Gf.T X Y : Nat) : Int)) := by show _ = _; rw [Sh.mul_nat a b ha hb, hX, hY]
  have q3 : bits .xor .u8 (Y : Int) (c : Int) = ((Y ^^^ c : Nat) : Int) := u8_xor_nat Y c hY' hc
  have q4 : Y ^^^ c < 256 := Gf.xor_lt Y c hY' hc
  have t1 := Gf.T_lt X Y hX'
  have t2 := Gf.T_lt X c hX'
  have t3 := Gf.T_lt Y c hY'
  have q5 : bits .xor .u8 ((Gf.T X Y : Nat) : Int) ((Gf.T X c : Nat) : Int) = ((Gf.T X (Y ^^^ c) : Nat) : Int) := by rw [Gf.T_lin2]; exact u8_xor_nat _ _ t1 t2
  have q6 : Gf.T (Gf.T X Y) c = Gf.T X (Gf.T Y c) := Gf.T_assoc X Y c hX' hY' hc
  have q7 : Gf.T X Y = Gf.T Y X := Gf.T_comm X Y hX' hY'
  have q8 : ((Gf.T X Y : Nat) : Int) % 4294967296 = ((Gf.T X Y : Nat) : Int) := by omega
  have Q6 : ((Gf.T (Gf.T X Y) c : Nat) : Int) = ((Gf.T X (Gf.T Y c) : Nat) : Int) := by rw [q6]
  have Q7 : (((Gf.T X Y : Nat) : Int) == ((Gf.T Y X : Nat) : Int)) = true := by rw [q7]; simp
  clear q6 q7 hX hY
  go_enter Try.func12, Try.ntmps12
  go_wp2_with (first | (go_at_call 60; refine (sTimes_any _ _ (by omega) (by omega) _).mono ?_; rintro e w1 ⟨rfl, rfl⟩) | (go_at_call 63; refine (sInverse_any _ (by omega) _).mono ?_; rintro e w1 ⟨rfl, rfl⟩) | (go_at_call 64; refine (rInverse_all _ (by omega) _).mono ?_; rintro e w1 ⟨rfl, rfl⟩) | (go_at_call 59; refine (rTimes_all _ _ (by omega) (by omega) _).mono ?_; rintro e w1 ⟨rfl, rfl⟩) | (go_at_call 61; refine (told42_eq _ _ F1.out _).mono ?_; rintro e w1 ⟨rfl, hb⟩; have hcf := bcell hb; have hz := hb.size; (try simp only [World.size_alloc, World.size_setCell, World.size_drew] at hz hcf); have hbh := Lib.hid hb; clear hb; obtain ⟨hc, hf⟩ := hcf) | first | (go_at_call 58; refine (awake42_any _).mono ?_; rintro e w1 ⟨rfl, hb⟩; have hcf := bcell hb; (try simp only [World.size_alloc, World.size_setCell, World.size_drew] at hcf); have hz := hb.size; (try simp only [World.size_alloc, World.size_setCell, World.size_drew] at hz); have hbh := Lib.hid hb; clear hb; obtain ⟨hc, hf⟩ := hcf) | (go_at_call 16; refine (Of_any _ _).mono ?_; rintro e w1 ⟨rfl, hb⟩; have hcf := bcell hb; (try simp only [World.size_alloc, World.size_setCell, World.size_drew] at hcf); have hz := hb.size; (try simp only [World.size_alloc, World.size_setCell, World.size_drew] at hz); have hbh := Lib.hid hb; clear hb; obtain ⟨hc, hf⟩ := hcf) | (go_at_call 62; refine (sMul_any _ _ _).mono ?_; rintro e w1 ⟨rfl, hb⟩; have hcf := bcell hb; (try simp only [World.size_alloc, World.size_setCell, World.size_drew] at hcf); have hz := hb.size; (try simp only [World.size_alloc, World.size_setCell, World.size_drew] at hz); have hbh := Lib.hid hb; clear hb; obtain ⟨hc, hf⟩ := hcf))
  go_ret
  refine ⟨rfl, ?_⟩
  (repeat' (first | exact Below.refl _ _ | refine bl_set (by (first | omega | (simp; done) | (simp; omega))) ?_ _ | refine bl_alloc (by (first | omega | (simp; done) | (simp; omega))) ?_ _ | refine bl_drewN ?_ _ | refine bl_drew ?_ | refine bl_then (by assumption) ?_ (by (first | omega | (simp; done) | (simp; omega))) | refine Step.bl (by assumption) (by assumption) (by (first | omega | (simp; done) | (simp; omega))) (by (first | omega | (simp; done) | (simp; omega))) ?_))
end Go.Proofs.Ytcaaapfminenoaa
