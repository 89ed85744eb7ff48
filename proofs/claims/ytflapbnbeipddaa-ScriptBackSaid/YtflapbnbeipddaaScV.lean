/- script.get; the document's value, size, number, text. No condition. -/
import Derived.Test.YtflapbnbeipddaaScS
import Derived.Test.YtflapbnbeipddaaCalm
import Derived.OwnWalk
namespace Go.Proofs.Ytflapbnbeipddaa
open Go.RowKit
set_option linter.unusedSimpArgs false
set_option linter.unusedVariables false
attribute [local go_sem] IntKind.wrap_u32' signed_u32 max_u32
attribute [local go_sem ↓] Go.wp_at_zero Go.wp_at_succ
attribute [local go_sem] Calm.C
attribute [local go_sem low] Calm.al_cell Calm.al_frozen
attribute [local go_sem] Sc.S_size
theorem ret_tmp3 {fn : Func} {R : Ending → World → Prop} {a : Act} {w : World} {t u s : Tmp} {x y z : Value} (hr : fn.results = #[.tmp t, .tmp u, .tmp s])
    (ht : a.tmps.getD t undef = x) (hu : a.tmps.getD u undef = y) (hs : a.tmps.getD s undef = z) (hd : a.defers = []) (hR : R (.returned (.tuple #[x, y, z])) w) : bodyPost Try.prog fn R .ret a w := by
  refine bodyPost_ret (v := .tuple #[x, y, z]) ?_ hd hR
  have ht' : a.tmps[t]?.getD undef = x := by simpa using ht
  have hu' : a.tmps[u]?.getD undef = y := by simpa using hu
  have hs' : a.tmps[s]?.getD undef = z := by simpa using hs
  simp [results, hr, ht', hu', hs', go_sem]
theorem ret_tmp2 {fn : Func} {R : Ending → World → Prop} {a : Act} {w : World} {t u : Tmp} {x y : Value} (hr : fn.results = #[.tmp t, .tmp u])
    (ht : a.tmps.getD t undef = x) (hu : a.tmps.getD u undef = y) (hd : a.defers = []) (hR : R (.returned (.tuple #[x, y])) w) : bodyPost Try.prog fn R .ret a w := by
  refine bodyPost_ret (v := .tuple #[x, y]) ?_ hd hR
  have ht' : a.tmps[t]?.getD undef = x := by simpa using ht
  have hu' : a.tmps[u]?.getD undef = y := by simpa using hu
  simp [results, hr, ht', hu', go_sem]
namespace Sc
theorem val_take (l : Bs) (j : Nat) (h : j < l.length) : val (l.take (j + 1)) = val (l.take j) * 256 + (l.getD j 0).toNat := by
  have : l.take (j + 1) = l.take j ++ [l.getD j 0] := by
    rw [List.take_add_one, List.getElem?_eq_getElem h, List.getD_eq_getElem?_getD, List.getElem?_eq_getElem h]
    rfl
  rw [this, val_snoc]
theorem val_take_lt (l : Bs) (j c : Nat) (h : j ≤ c) : val (l.take j) < 256 ^ c := by
  have h1 := val_lt _ (l.take j) rfl
  exact Nat.lt_of_lt_of_le h1 (Nat.pow_le_pow_right (by decide) (by simp; omega))
theorem or_byte (m : Nat) (b : Nat) (hm : m < 2 ^ 32) (hb : b < 256) : bits .or .i64 ((m : Int) * 256) (b : Int) = ((m * 256 + b : Nat) : Int) := by
  have e : m * 256 + b = m * 256 ||| b := by
    have := Nat.two_pow_add_eq_or_of_lt (i := 8) (b := b) (by omega) m
    rwa [show 2 ^ 8 * m = m * 256 by omega] at this
  have h1 : (BitVec.ofInt 64 ((m : Int) * 256)).toNat = m * 256 := by
    rw [show (m : Int) * 256 = ((m * 256 : Nat) : Int) by omega, BitVec.ofInt_natCast, BitVec.toNat_ofNat]; exact Nat.mod_eq_of_lt (by omega)
  have h2 : (BitVec.ofInt 64 (b : Int)).toNat = b := by
    rw [BitVec.ofInt_natCast, BitVec.toNat_ofNat]; exact Nat.mod_eq_of_lt (by omega)
  show IntKind.i64.wrap ((BitVec.ofInt 64 ((m : Int) * 256) ||| BitVec.ofInt 64 (b : Int)).toNat : Int) = _
  rw [BitVec.toNat_or, h1, h2, ← e, IntKind.wrap_i64]
  omega
end Sc
set_option maxRecDepth 20000 in
set_option maxHeartbeats 2000000 in
theorem scValue_any (l : Sc.Bs) (hl : l.length ≤ 4) (w : World) :
    Calls Try.prog 84 #[.string (Sc.S l)] w fun e w' => e = .returned (.int .i64 (Sc.val l : Int)) ∧ Below w.heap.size w w' := by
  go_enter Try.func84, Try.ntmps84
  go_wp2
  go_loopw [3, 4] (fun n i wr => ∃ (j : Nat), j ≤ l.length ∧ i = .int .i64 (j : Int) ∧ n = .int .i64 (Sc.val (l.take j) : Int) ∧ Below w.heap.size w wr) (fun _ i _ => l.length - (intOf i).toNat)
  case atStart => exact ⟨0, Nat.zero_le _, rfl, rfl, Below.refl _ _⟩
  case round =>
    obtain ⟨j, hk, rfl, rfl, hB⟩ := hrel
    have HB := Lib.hid hB
    by_cases hlt : j < l.length
    · have hx := Sc.ix_S (P := Try.prog) 9 l j Try.underlying9 hlt
      have hv := Sc.val_take l j hlt
      have hb := (l.getD j 0).toNat_lt
      have hm := Sc.val_take_lt l j 4 (by omega)
      generalize (l.getD j 0).toNat = b at *
      generalize Sc.val (l.take j) = V at *
      clear hB
      go_wp2
      go_roundw
      case rel => exact ⟨j + 1, by omega, by go_num, by rw [hv]; go_num, by (repeat' (first | with_reducible exact Below.refl _ _ | with_reducible refine bl_drewN ?_ _ | with_reducible refine bl_drew ?_ | refine bl_set (by (first | omega | (simp; done) | (simp; omega))) ?_ _ | refine bl_alloc (by (first | omega | (simp; done) | (simp; omega))) ?_ _ | refine bl_then (by assumption) ?_ (by (first | omega | (simp; done) | (simp; omega))) | refine Step.bl (by assumption) (by assumption) (by (first | omega | (simp; done) | (simp; omega))) (by (first | omega | (simp; done) | (simp; omega))) ?_))⟩
      case measure => simp [intOf]; omega
    · have hge : (l.length : Int) ≤ j := by omega
      have e : l.take j = l := List.take_of_length_le (by omega)
      rw [e] at *
      clear hB
      go_wp2
      go_ret
      exact ⟨rfl, HB.out⟩
set_option maxRecDepth 20000 in
set_option maxHeartbeats 2000000 in
theorem scGet_f (l : Sc.Bs) (c : Nat) (hc : l.length < c) (w : World) :
    Calls Try.prog 83 #[.string (Sc.S l), .int .i64 (c : Int)] w fun e w' => e = .returned (.tuple #[.int .i64 0, .string (Sc.S l), .bool false]) ∧ Below w.heap.size w w' := by
  go_enter Try.func83, Try.ntmps83
  go_wp2
  refine ret_tmp3 rfl rfl rfl rfl rfl ⟨rfl, Below.refl _ _⟩
set_option maxRecDepth 20000 in
set_option maxHeartbeats 2000000 in
theorem scGet_t (l : Sc.Bs) (c : Nat) (hc : c ≤ l.length) (hc4 : c ≤ 4) (w : World) :
    Calls Try.prog 83 #[.string (Sc.S l), .int .i64 (c : Int)] w fun e w' => e = .returned (.tuple #[.int .i64 (Sc.val (l.take c) : Int), .string (Sc.S (l.drop c)), .bool true]) ∧ Below w.heap.size w w' := by
  have hs := Sc.sl_S_lo (P := Try.prog) 9 l c Try.underlying9 hc
  go_enter Try.func83, Try.ntmps83
  go_wp2
  go_loopw [7, 15] (fun n i wr => ∃ (j : Nat), j ≤ c ∧ i = .int .i64 (j : Int) ∧ n = .int .i64 (Sc.val (l.take j) : Int) ∧ Below w.heap.size w wr) (fun _ i _ => c - (intOf i).toNat)
  case atStart => exact ⟨0, Nat.zero_le _, rfl, rfl, Below.refl _ _⟩
  case round =>
    obtain ⟨j, hk, rfl, rfl, hB⟩ := hrel
    have HB := Lib.hid hB
    by_cases hlt : j < c
    · have hx := Sc.ix_S (P := Try.prog) 9 l j Try.underlying9 (by omega)
      have hv := Sc.val_take l j (by omega)
      have hb := (l.getD j 0).toNat_lt
      have hm := Sc.val_take_lt l j 4 (by omega)
      have ho := Sc.or_byte (Sc.val (l.take j)) (l.getD j 0).toNat (by omega) hb
      generalize (l.getD j 0).toNat = b at *
      generalize Sc.val (l.take j) = V at *
      clear hB
      go_wp2
      go_roundw
      case rel => exact ⟨j + 1, by omega, by go_num, by rw [hv]; go_num, by (repeat' (first | with_reducible exact Below.refl _ _ | with_reducible refine bl_drewN ?_ _ | with_reducible refine bl_drew ?_ | refine bl_set (by (first | omega | (simp; done) | (simp; omega))) ?_ _ | refine bl_alloc (by (first | omega | (simp; done) | (simp; omega))) ?_ _ | refine bl_then (by assumption) ?_ (by (first | omega | (simp; done) | (simp; omega))) | refine Step.bl (by assumption) (by assumption) (by (first | omega | (simp; done) | (simp; omega))) (by (first | omega | (simp; done) | (simp; omega))) ?_))⟩
      case measure => simp [intOf]; omega
    · have hge : (c : Int) ≤ j := by omega
      have e : j = c := by omega
      have hv : Sc.val (l.take j) = Sc.val (l.take c) := by rw [e]
      clear hB e
      generalize Sc.val (l.take j) = V at *
      go_wp2
      haveI hne : Nonempty (Ext (Below wr.heap.size wr)) := ⟨⟨wr.drew, below_start _⟩⟩
      refine wp_region_calm (S := Below wr.heap.size wr) (by kernel_rfl) (by kernel_rfl) (below_start _) ?_
      repeat (go_big_quiet_step (fail))
      refine wpQuiet_nil ?_
      rintro _ ⟨m1, rfl⟩
      have hb1 := Lib.hid m1.h
      generalize m1.w = W at *
      clear hne
      go_wp2
      refine ret_tmp3 (x := .int .i64 (V : Int)) (y := .string (Sc.S (l.drop c))) (z := .bool true) rfl rfl rfl rfl rfl ⟨by rw [hv], ?_⟩
      have hB := HB.out
      have hz := hB.size
      (repeat' (first | with_reducible exact Below.refl _ _ | with_reducible refine bl_drewN ?_ _ | with_reducible refine bl_drew ?_ | refine bl_set (by (first | omega | (simp; done) | (simp; omega))) ?_ _ | refine bl_alloc (by (first | omega | (simp; done) | (simp; omega))) ?_ _ | refine bl_then (by assumption) ?_ (by (first | omega | (simp; done) | (simp; omega))) | refine Step.bl (by assumption) (by assumption) (by (first | omega | (simp; done) | (simp; omega))) (by (first | omega | (simp; done) | (simp; omega))) ?_))
end Go.Proofs.Ytflapbnbeipddaa
