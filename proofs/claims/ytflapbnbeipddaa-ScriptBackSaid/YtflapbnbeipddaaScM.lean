/- ScriptAny. No condition. -/
import Derived.Test.YtflapbnbeipddaaScL
namespace Go.Proofs.Ytflapbnbeipddaa
open Go.RowKit
set_option linter.unusedSimpArgs false
set_option linter.unusedVariables false
attribute [local go_sem] IntKind.wrap_u32' signed_u32 max_u32
attribute [local go_sem ↓] Go.wp_at_zero Go.wp_at_succ
attribute [local go_sem] Calm.C
attribute [local go_sem low] Calm.al_cell Calm.al_frozen
attribute [local go_sem] Sc.S_size Sc.ops Sc.S_toList
attribute [local irreducible] Sc.v Sc.at_ Sc.tx Sc.val Sc.opOf Sc.P Sc.good Sc.op Sc.enc Sc.enc1 Sc.fit
theorem sc_neq' (o : Sc.Op) (w : World) : (binOp .neq 34 (.agg #[.int .i64 o.k, .int .i64 o.p, .int .i64 o.c, .int .i64 o.l, .string (Sc.S o.s), .int .i64 o.o, .string (Sc.S o.sa), .int .i64 o.it, .string (Sc.S o.r), .string (Sc.S o.ot), .int .i64 o.on]) (.agg #[.int .i64 o.k, .int .i64 o.p, .int .i64 o.c, .int .i64 o.l, .string (Sc.S o.s), .int .i64 o.o, .string (Sc.S o.sa), .int .i64 o.it, .string (Sc.S o.r), .string (Sc.S o.ot), .int .i64 o.on])).run Try.prog w = .ok (.bool false) w := sc_neq o w
set_option maxRecDepth 20000 in
set_option maxHeartbeats 8000000 in
theorem ScriptAny_any (l : Sc.Bs) (hl : l.length ≤ 9223372036854775807) (w : World) :
    Calls Try.prog 6 #[.string (Sc.S l)] w fun e w' => e = .returned (.bool true) ∧ Below w.heap.size w w' := by
  by_cases h3 : 3000 < l.length
  · go_enter Try.func6, Try.ntmps6
    go_wp2_with (first | (go_at_call 18; refine (awake30_any _).mono ?_; rintro e w1 ⟨rfl, hb⟩; have hcf := bcell hb; (try simp only [World.size_alloc, World.size_setCell, drew_size] at hcf); have hz := hb.size; (try simp only [World.size_alloc, World.size_setCell, World.size_drew] at hz); have hbh := Lib.hid hb; clear hb; obtain ⟨hc, hf⟩ := hcf))
    go_ret
    refine ⟨rfl, ?_⟩
    (repeat' (first | with_reducible exact Below.refl _ _ | with_reducible refine bl_drewN ?_ _ | with_reducible refine bl_drew ?_ | refine bl_set (by (first | omega | (simp; done) | (simp; omega))) ?_ _ | refine bl_alloc (by (first | omega | (simp; done) | (simp; omega))) ?_ _ | refine bl_then (by assumption) ?_ (by (first | omega | (simp; done) | (simp; omega))) | refine Step.bl (by assumption) (by assumption) (by (first | omega | (simp; done) | (simp; omega))) (by (first | omega | (simp; done) | (simp; omega))) ?_))
  go_enter Try.func6, Try.ntmps6
  go_wp2_with (first
    | (go_at_call 18; refine (awake30_any _).mono ?_; rintro e w1 ⟨rfl, hb⟩; have B1 := Lib.hid hb; have z1 := hb.size; clear hb)
    | (go_at_call 24; refine (scDecode_any l (by omega) _).mono ?_; rintro e w2 ⟨k, v, hg, hng, rfl, hown, hb⟩; obtain ⟨A, c, rfl⟩ := own_slice hown; have HG := Lib.hid hg; have HNG := Lib.hid hng; have HA := Lib.hid (Sc.Opz.own hown); have B2 := Lib.hid hb; have z2 := hb.size; clear hb hown hg hng)
    | (go_at_call 25; refine (rScDecode_any l (by omega) _).mono ?_; rintro e w3 ⟨k2, v, hg, hng, rfl, hown, hb⟩; obtain ⟨A2, c2, rfl⟩ := own_slice hown; obtain rfl := Sc.ends_one HG.out HNG.out hg hng; have HA2 := Lib.hid (Sc.Opz.own hown); have B3 := Lib.hid hb; have z3 := hb.size; clear hb hown hg hng))
  have hPl := HG.out.2
  have hPk := Sc.P_ge l k
  have hk : k ≤ 1000 := by omega
  have A3 := Lib.hid (HA.out.below (Nat.le_refl _) B3.out)
  have B0 := Lib.hid (bl_then B3 (bl_then B2 B1.out (by omega)) (by omega))
  have hft := Lib.hid (fun (i : Nat) (_ : i < k) => show Sc.fit (Sc.op l i) by rw [op_def]; exact Sc.fit_of _)
  have hen := Lib.hid (Sc.enc_take HG.out)
  generalize Sc.op l = F at *
  generalize Sc.P l k = p at *
  clear HA HG HNG B1 B2 B3
  go_loopw [7, 43] (fun a i wr => ∃ (j : Nat) (u : Value), j ≤ k ∧ i = .int .i64 (j : Int) ∧ a = u ∧ Below w3.heap.size w3 wr) (fun _ i _ => k - (intOf i).toNat)
  case atStart => exact ⟨0, _, Nat.zero_le _, rfl, rfl, Below.refl _ _⟩
  case round =>
    obtain ⟨j, u, hj, rfl, rfl, hB⟩ := hrel
    have HB := Lib.hid hB
    by_cases hlt : j < k
    · obtain ⟨b, off, rfl, hb, hc⟩ := (A3.out.below (Nat.le_refl _) hB) (by omega)
      obtain ⟨b', off', rfl, hb', hc'⟩ := (HA2.out.below (Nat.le_refl _) hB) (by omega)
      have hcj := hc j hlt
      have hcj' := hc' j hlt
      generalize F j = o at *
      have a0 : ∀ m : Ext (Below wr.heap.size wr), m.w.cell? ⟨b, off + j * 11, none⟩ = some (.int .i64 o.k) := Ext.rd (hcj 0 _ rfl)
      have a1 : ∀ m : Ext (Below wr.heap.size wr), m.w.cell? ⟨b, off + j * 11 + 1, none⟩ = some (.int .i64 o.p) := Ext.rd (hcj 1 _ rfl)
      have a2 : ∀ m : Ext (Below wr.heap.size wr), m.w.cell? ⟨b, off + j * 11 + 2, none⟩ = some (.int .i64 o.c) := Ext.rd (hcj 2 _ rfl)
      have a3 : ∀ m : Ext (Below wr.heap.size wr), m.w.cell? ⟨b, off + j * 11 + 3, none⟩ = some (.int .i64 o.l) := Ext.rd (hcj 3 _ rfl)
      have a4 : ∀ m : Ext (Below wr.heap.size wr), m.w.cell? ⟨b, off + j * 11 + 4, none⟩ = some (.string (Sc.S o.s)) := Ext.rd (hcj 4 _ rfl)
      have a5 : ∀ m : Ext (Below wr.heap.size wr), m.w.cell? ⟨b, off + j * 11 + 5, none⟩ = some (.int .i64 o.o) := Ext.rd (hcj 5 _ rfl)
      have a6 : ∀ m : Ext (Below wr.heap.size wr), m.w.cell? ⟨b, off + j * 11 + 6, none⟩ = some (.string (Sc.S o.sa)) := Ext.rd (hcj 6 _ rfl)
      have a7 : ∀ m : Ext (Below wr.heap.size wr), m.w.cell? ⟨b, off + j * 11 + 7, none⟩ = some (.int .i64 o.it) := Ext.rd (hcj 7 _ rfl)
      have a8 : ∀ m : Ext (Below wr.heap.size wr), m.w.cell? ⟨b, off + j * 11 + 8, none⟩ = some (.string (Sc.S o.r)) := Ext.rd (hcj 8 _ rfl)
      have a9 : ∀ m : Ext (Below wr.heap.size wr), m.w.cell? ⟨b, off + j * 11 + 9, none⟩ = some (.string (Sc.S o.ot)) := Ext.rd (hcj 9 _ rfl)
      have a10 : ∀ m : Ext (Below wr.heap.size wr), m.w.cell? ⟨b, off + j * 11 + 10, none⟩ = some (.int .i64 o.on) := Ext.rd (hcj 10 _ rfl)
      have d0 : ∀ m : Ext (Below wr.heap.size wr), m.w.cell? ⟨b', off' + j * 11, none⟩ = some (.int .i64 o.k) := Ext.rd (hcj' 0 _ rfl)
      have d1 : ∀ m : Ext (Below wr.heap.size wr), m.w.cell? ⟨b', off' + j * 11 + 1, none⟩ = some (.int .i64 o.p) := Ext.rd (hcj' 1 _ rfl)
      have d2 : ∀ m : Ext (Below wr.heap.size wr), m.w.cell? ⟨b', off' + j * 11 + 2, none⟩ = some (.int .i64 o.c) := Ext.rd (hcj' 2 _ rfl)
      have d3 : ∀ m : Ext (Below wr.heap.size wr), m.w.cell? ⟨b', off' + j * 11 + 3, none⟩ = some (.int .i64 o.l) := Ext.rd (hcj' 3 _ rfl)
      have d4 : ∀ m : Ext (Below wr.heap.size wr), m.w.cell? ⟨b', off' + j * 11 + 4, none⟩ = some (.string (Sc.S o.s)) := Ext.rd (hcj' 4 _ rfl)
      have d5 : ∀ m : Ext (Below wr.heap.size wr), m.w.cell? ⟨b', off' + j * 11 + 5, none⟩ = some (.int .i64 o.o) := Ext.rd (hcj' 5 _ rfl)
      have d6 : ∀ m : Ext (Below wr.heap.size wr), m.w.cell? ⟨b', off' + j * 11 + 6, none⟩ = some (.string (Sc.S o.sa)) := Ext.rd (hcj' 6 _ rfl)
      have d7 : ∀ m : Ext (Below wr.heap.size wr), m.w.cell? ⟨b', off' + j * 11 + 7, none⟩ = some (.int .i64 o.it) := Ext.rd (hcj' 7 _ rfl)
      have d8 : ∀ m : Ext (Below wr.heap.size wr), m.w.cell? ⟨b', off' + j * 11 + 8, none⟩ = some (.string (Sc.S o.r)) := Ext.rd (hcj' 8 _ rfl)
      have d9 : ∀ m : Ext (Below wr.heap.size wr), m.w.cell? ⟨b', off' + j * 11 + 9, none⟩ = some (.string (Sc.S o.ot)) := Ext.rd (hcj' 9 _ rfl)
      have d10 : ∀ m : Ext (Below wr.heap.size wr), m.w.cell? ⟨b', off' + j * 11 + 10, none⟩ = some (.int .i64 o.on) := Ext.rd (hcj' 10 _ rfl)
      have hne := sc_neq' o
      clear hc hc' hcj hcj' hB
      go_wp2_with fail
      haveI hnn : Nonempty (Ext (Below wr.heap.size wr)) := ⟨⟨wr.drew, below_start _⟩⟩
      refine wp_region_calm (S := Below wr.heap.size wr) (by kernel_rfl) (by kernel_rfl) (below_start _) ?_
      repeat (go_big_quiet_step (fail))
      refine wpQuiet_nil ?_
      rintro _ ⟨m1, rfl⟩
      have hb1 := Lib.hid m1.h
      generalize m1.w = W2 at *
      have hzW := hb1.out.size
      have hzB := HB.out.size
      clear hnn hne a0 d0 a1 d1 a2 d2 a3 d3 a4 d4 a5 d5 a6 d6 a7 d7 a8 d8 a9 d9 a10 d10
      go_wp2_with fail
      go_roundw
      case rel => exact ⟨j + 1, _, by omega, by go_num, rfl, bl_then hb1 HB.out (by omega)⟩
      case measure => simp [intOf]; omega
    · have hge : (k : Int) ≤ j := by omega
      have A4 := A3.out.below (Nat.le_refl _) hB
      have HE := Lib.hid ((scEncode_any A4 hk c).mono fun e w' h => (show e = .returned (.tuple #[.string (Sc.S (l.take p)), .int .i64 0]) ∧ Below _ _ w' from ⟨by rw [← hen.out]; exact h.1 hft.out, h.2.2⟩))
      have hzB := hB.size
      have hsl := Sc.sl_S_lo (P := Try.prog) 9 l p Try.underlying9 (by omega)
      have hadd : Op.stringOp .add (Sc.S (l.take p)) (Sc.S (l.drop p)) = pure (.string (Sc.S l)) := by
        have h1 := (binOp_string_add 0 (Sc.S (l.take p)) (Sc.S (l.drop p))).symm.trans (Sc.add_S 0 (l.take p) (l.drop p) (by simp; omega))
        rwa [List.take_append_drop] at h1
      have hlp : (l.length : Int) - ((l.length - p : Nat) : Int) = (p : Int) := by omega
      clear A4 hB
      go_wp2_with (go_at_call 23; refine HE.out.mono ?_; rintro e w5 ⟨rfl, hb⟩; have B5 := Lib.hid hb; have z5 := hb.size; clear hb)
      trace_state
      go_ret
      exact ⟨rfl, bl_then B5 (bl_then HB B0.out (by omega)) (by omega)⟩
end Go.Proofs.Ytflapbnbeipddaa
