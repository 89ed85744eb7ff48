/- The law of scan: awake; the calls with any arguments. No condition. -/
import Derived.Test.YtdakbejppnijdaaSaF
namespace Go.Proofs.Ytdakbejppnijdaa
open Go.RowKit
set_option linter.unusedSimpArgs false
set_option linter.unusedVariables false
attribute [local go_sem] IntKind.wrap_u32' signed_u32 max_u32
attribute [local go_sem ↓] Go.wp_at_zero Go.wp_at_succ
attribute [local go_sem] Calm.C
attribute [local go_sem low] Calm.al_cell Calm.al_frozen
attribute [local irreducible] putw stEvs shEvs Sa.la Sa.st Sa.ev
theorem Sa.c123 (w : World) : Sj.Cl .u32 (w.alloc (.cells #[.int .u32 1, .int .u32 2, .int .u32 3] 30)) (some ⟨w.heap.size, 0, none⟩) 3 (fun i => i + 1) := fun _ => ⟨w.heap.size, 0, rfl, by simp, fun i hi => by
  have h := (Blk.new w 30 #[.int .u32 1, .int .u32 2, .int .u32 3]).cell (0 + i)
  rw [h]
  match i, hi with
  | 0, _ => rfl
  | 1, _ => rfl
  | 2, _ => rfl⟩
theorem Sa.c0 (w : World) (f : Nat → Nat) : Sj.Cl .u32 w none 0 f := fun h => absurd h (by decide)
set_option maxRecDepth 10000 in
set_option maxHeartbeats 1600000 in
theorem awake05_any (w : World) : Calls Try.prog 13 #[] w fun e w' => e = .returned (.bool true) ∧ Below w.heap.size w w' := by
  go_enter Try.func13, Try.ntmps13
  go_wp2_with (go_at_call 14; refine (saLay_any (Sa.c123 w) (Sa.c0 _ (fun _ => 0)) (by decide) (by decide) 3 0).mono ?_; rintro e w1 ⟨p, q, lp, F1, rfl, hA1, hL1, hb1⟩; have HA1 := Lib.hid hA1; have HL1 := Lib.hid hL1; have BB1 := Lib.hid hb1; clear hA1 hL1 hb1)
  have LW := Lib.hid (fun i hi => Nat.le_trans (show w.heap.size ≤ _ by simp) (HL1.out i hi))
  have B1 := Lib.hid (bl_then BB1 (bl_alloc (Nat.le_refl _) (Below.refl w.heap.size w) _) (by simp))
  clear BB1 HL1
  have hS := saSums_t HA1.out (by rw [List.length_append, List.length_append, stEvs_len, stEvs_len]; decide) 0 3 (by decide)
  rw [Sa.aw] at hS
  refine hS.mono ?_
  rintro e w2 ⟨rfl, F2, hA2, hs2⟩
  have HA2 := Lib.hid hA2
  have B2 := Lib.hid (hs2.below B1.out B1.out.size LW.out)
  have L2 := Lib.hid (hs2.low (B := w.heap.size) B1.out.size LW.out)
  clear hS hA2 hs2
  go_wp2_with fail
  have hSh := AShow_t (HA2.out.alloc (.cells #[.int .u32 6] 32)) 0 3 (by decide) (by rw [List.length_append, List.length_append, List.length_append, stEvs_len, stEvs_len, Sa.ev_len]; decide)
  refine hSh.mono ?_
  rintro e w3 ⟨go, F3, rfl, hgl, hcs, hgn, hA3, hs3⟩
  have s0 : w3.cell? ⟨go, 0, none⟩ = some (.int .u32 1) := hcs 0 (by decide)
  have s1 : w3.cell? ⟨go, 1, none⟩ = some (.int .u32 3) := hcs 1 (by decide)
  have s2 : w3.cell? ⟨go, 2, none⟩ = some (.int .u32 6) := hcs 2 (by decide)
  have c2 : w3.cell? ⟨w2.heap.size, 0, none⟩ = some (.int .u32 6) := (old_cell (o := 0) hs3 (b := w2.heap.size) (by simp) (fun hf => absurd (HA2.out.most _ hf) (Nat.lt_irrefl _))).trans ((Blk.new w2 _ _).cell 0)
  have B3 := Lib.hid (hs3.below (bl_alloc B2.out.size B2.out _) (by simp; have := B2.out.size; omega) L2.out)
  have z3 := hs3.size
  simp only [World.size_alloc] at z3
  have z2 := B2.out.size
  clear hSh hcs hA3 hs3 hgn
  go_wp2_with (first | (go_at_call 23; refine (told05_any _ _).mono ?_; rintro e w1 ⟨rfl, hb⟩; have hcf := bcell hb; (try simp only [World.size_alloc, World.size_setCell, drew_size] at hcf); have hz := hb.size; (try simp only [World.size_alloc, World.size_setCell, World.size_drew] at hz); have hbh := Lib.hid hb; clear hb; obtain ⟨hc, hf⟩ := hcf))
  go_ret
  exact ⟨rfl, bl_then hbh B3.out B3.out.size⟩
end Go.Proofs.Ytdakbejppnijdaa
