/- script.fields, script.texts. No condition. -/
import Derived.Test.YtflapbnbeipddaaScW
import Derived.Test.YtflapbnbeipddaaHeld
namespace Go.Proofs.Ytflapbnbeipddaa
open Go.RowKit
set_option linter.unusedSimpArgs false
set_option linter.unusedVariables false
attribute [local go_sem] IntKind.wrap_u32' signed_u32 max_u32
attribute [local go_sem ↓] Go.wp_at_zero Go.wp_at_succ
attribute [local go_sem] Calm.C
attribute [local go_sem low] Calm.al_cell Calm.al_frozen
namespace Sc
def ops (o : Op) : Array Value := #[.int .i64 o.k, .int .i64 o.p, .int .i64 o.c, .int .i64 o.l, .string (S o.s), .int .i64 o.o, .string (S o.sa), .int .i64 o.it, .string (S o.r), .string (S o.ot), .int .i64 o.on]
def fcs (g : Nat) : Array Value := #[.pointer (some ⟨g, 0, none⟩), .int .i64 1, .pointer (some ⟨g, 1, none⟩), .int .i64 1, .pointer (some ⟨g, 2, none⟩), .int .i64 2, .pointer (some ⟨g, 5, none⟩), .int .i64 2, .pointer (some ⟨g, 3, none⟩), .int .i64 4, .pointer (some ⟨g, 7, none⟩), .int .i64 4, .pointer (some ⟨g, 10, none⟩), .int .i64 4]
def tcs (g : Nat) : Array Value := #[.pointer (some ⟨g, 4, none⟩), .pointer (some ⟨g, 6, none⟩), .pointer (some ⟨g, 8, none⟩), .pointer (some ⟨g, 9, none⟩)]
end Sc
set_option maxRecDepth 20000 in
set_option maxHeartbeats 2000000 in
theorem scFields_any (g : Nat) (w : World) :
    Calls Try.prog 55 #[.pointer (some ⟨g, 0, none⟩)] w fun e w' => e = .returned (.slice (some ⟨w.heap.size, 0, none⟩) 7 7) ∧ Blk w' w.heap.size 95 (Sc.fcs g) ∧ Below w.heap.size w w' := by
  go_enter Try.func55, Try.ntmps55
  go_wp2_with fail
  refine HL.go 28 (fun w' => True) (by kernel_rfl) (by kernel_rfl) trivial (fun _ _ _ _ _ h => h) ?_
  simp only [List.take_succ_cons, List.take_zero]
  repeat ((first | (refine HL.wk_pure (v := ?_) (Or.inl ⟨by rfl, ?_⟩) ?_; rotate_left; (next => (intro w; go_simp; done))) | (refine HL.wk_pure (v := ?_) (Or.inl ⟨by rfl, ?_⟩) ?_; rotate_left; (next => (intro w; go_simp; with_reducible rfl))) | (refine HL.wk_load (v := ?_) (by kernel_rfl) (Or.inl ⟨by rfl, ?_⟩) ?_; rotate_left; (next => (intro w hSw; (try dsimp only at hSw); go_split_ands; go_simp; done))) | (refine HL.wk_load (v := ?_) (by kernel_rfl) (Or.inl ⟨by rfl, ?_⟩) ?_; rotate_left; (next => (intro w hSw; (try dsimp only at hSw); go_split_ands; go_simp; with_reducible rfl)))); (try simp only [Act.put, List.setIfInBounds_toArray, List.set_cons_zero, List.set_cons_succ]))
  refine HL.wk_nil ?_
  simp only [List.drop_succ_cons, List.drop_zero]
  go_wp2_with fail
  go_ret
  refine ⟨by simp, ?_, ?_⟩
  · exact Blk.newAt (by simp)
  · (repeat' (first | with_reducible exact Below.refl _ _ | with_reducible refine bl_drewN ?_ _ | with_reducible refine bl_drew ?_ | refine bl_set (by (first | omega | (simp; done) | (simp; omega))) ?_ _ | refine bl_alloc (by (first | omega | (simp; done) | (simp; omega))) ?_ _ | refine bl_then (by assumption) ?_ (by (first | omega | (simp; done) | (simp; omega))) | refine Step.bl (by assumption) (by assumption) (by (first | omega | (simp; done) | (simp; omega))) (by (first | omega | (simp; done) | (simp; omega))) ?_))
set_option maxRecDepth 20000 in
set_option maxHeartbeats 2000000 in
theorem scTexts_any (g : Nat) (w : World) :
    Calls Try.prog 56 #[.pointer (some ⟨g, 0, none⟩)] w fun e w' => e = .returned (.slice (some ⟨w.heap.size, 0, none⟩) 4 4) ∧ Blk w' w.heap.size 98 (Sc.tcs g) ∧ Below w.heap.size w w' := by
  go_enter Try.func56, Try.ntmps56
  go_wp2_with fail
  refine HL.go 12 (fun w' => True) (by kernel_rfl) (by kernel_rfl) trivial (fun _ _ _ _ _ h => h) ?_
  simp only [List.take_succ_cons, List.take_zero]
  repeat ((first | (refine HL.wk_pure (v := ?_) (Or.inl ⟨by rfl, ?_⟩) ?_; rotate_left; (next => (intro w; go_simp; done))) | (refine HL.wk_pure (v := ?_) (Or.inl ⟨by rfl, ?_⟩) ?_; rotate_left; (next => (intro w; go_simp; with_reducible rfl))) | (refine HL.wk_load (v := ?_) (by kernel_rfl) (Or.inl ⟨by rfl, ?_⟩) ?_; rotate_left; (next => (intro w hSw; (try dsimp only at hSw); go_split_ands; go_simp; done))) | (refine HL.wk_load (v := ?_) (by kernel_rfl) (Or.inl ⟨by rfl, ?_⟩) ?_; rotate_left; (next => (intro w hSw; (try dsimp only at hSw); go_split_ands; go_simp; with_reducible rfl)))); (try simp only [Act.put, List.setIfInBounds_toArray, List.set_cons_zero, List.set_cons_succ]))
  refine HL.wk_nil ?_
  simp only [List.drop_succ_cons, List.drop_zero]
  go_wp2_with fail
  go_ret
  refine ⟨by simp, ?_, ?_⟩
  · exact Blk.newAt (by simp)
  · (repeat' (first | with_reducible exact Below.refl _ _ | with_reducible refine bl_drewN ?_ _ | with_reducible refine bl_drew ?_ | refine bl_set (by (first | omega | (simp; done) | (simp; omega))) ?_ _ | refine bl_alloc (by (first | omega | (simp; done) | (simp; omega))) ?_ _ | refine bl_then (by assumption) ?_ (by (first | omega | (simp; done) | (simp; omega))) | refine Step.bl (by assumption) (by assumption) (by (first | omega | (simp; done) | (simp; omega))) (by (first | omega | (simp; done) | (simp; omega))) ?_))
end Go.Proofs.Ytflapbnbeipddaa
