/- The calls of package utf on words. No condition. -/
import Derived.Test.YtjoehhojhfgooaaCt
import Derived.Test.YtjoehhojhfgooaaCtPlain
import Derived.Test.YtjoehhojhfgooaaCalm
import Derived.Test.YtjoehhojhfgooaaUtDef
namespace Go.Proofs.Ytjoehhojhfgooaa
open Go.RowKit
set_option linter.unusedSimpArgs false
set_option linter.unusedVariables false
attribute [local go_sem] IntKind.wrap_u32' signed_u32 max_u32
attribute [local go_sem ↓] Go.wp_at_zero Go.wp_at_succ
attribute [local go_sem] Calm.C
attribute [local go_sem low] Calm.al_cell Calm.al_frozen
theorem box_sec : Calm.box Try.prog 32 = .cells #[.int .u32 0] 32 (0, 0) := by kernel_rfl
theorem box_ust : Calm.box Try.prog 96 = .cells #[.int .u32 0, .int .u32 0, .int .u32 0, .int .u32 0, .int .u32 0] 96 (0, 0) := by kernel_rfl
theorem ret_ust {fn : Func} {R : Ending → World → Prop} {a : Act} {w : World} {t u : Tmp} {b : Nat} {bd : Addr} {x y z v q m : Int} (hr : fn.results = #[.cell t 96, .cell u 32])
    (ht : a.tmps.getD t undef = .pointer (some ⟨b, 0, none⟩)) (hu : a.tmps.getD u undef = .pointer (some bd)) (h0 : w.cell? ⟨b, 0, none⟩ = some (.int .u32 x)) (h1 : w.cell? ⟨b, 1, none⟩ = some (.int .u32 y)) (h2 : w.cell? ⟨b, 2, none⟩ = some (.int .u32 z))
    (h3 : w.cell? ⟨b, 3, none⟩ = some (.int .u32 v)) (h4 : w.cell? ⟨b, 4, none⟩ = some (.int .u32 q)) (hc' : w.cell? bd = some (.int .u32 m)) (hd : a.defers = [])
    (hR : R (.returned (.tuple #[.agg #[.int .u32 x, .int .u32 y, .int .u32 z, .int .u32 v, .int .u32 q], .agg #[.int .u32 m]])) w) : bodyPost Try.prog fn R .ret a w := by
  refine bodyPost_ret (v := .tuple #[.agg #[.int .u32 x, .int .u32 y, .int .u32 z, .int .u32 v, .int .u32 q], .agg #[.int .u32 m]]) ?_ hd hR
  have ht' : a.tmps[t]?.getD undef = .pointer (some ⟨b, 0, none⟩) := by simpa using ht
  have hu' : a.tmps[u]?.getD undef = .pointer (some bd) := by simpa using hu
  simp [results, hr, ht', hu', go_sem, h0, h1, h2, h3, h4, hc']
set_option maxHeartbeats 400000 in
theorem uWithin_any (x lo hi : Int) (w : World) : Calls Try.prog 79 #[.agg #[.int .u32 x], .agg #[.int .u32 lo], .agg #[.int .u32 hi]] w fun e w' => e = .returned (.agg #[.int .u32 (Ut.within x lo hi)]) ∧ Below w.heap.size w w' := by
  unfold Ut.within
  go_enter Try.func79, Try.ntmps79
  go_wp2_with fail
  (refine Calm.go 8 (by kernel_rfl) (by kernel_rfl) (by kernel_rfl) ?_; intro w0 hw0; have hr := Calm.rule hw0; simp only [Calm.heads, Calm.isAlloc]; haveI hnon : Nonempty (Ext (Below w0.heap.size w0)) := ⟨⟨w0, Below.refl _ _⟩⟩; (repeat (go_big_quiet_step (first | (go_at_call 48; exact Ext.calm below_calm (Lt_any _ _ _)) | (go_at_call 61; exact Ext.calm below_calm (Or_any _ _ _)) | (go_at_call 51; exact Ext.calm below_calm (Not_any _ _))))); refine wpQuiet_nil ?_; clear hnon hr hw0; clear w0; (repeat refine Calm.n_skip rfl ?_); refine Calm.n_zero ?_; intro WA hbA hsA; simp only [List.drop_succ_cons, List.drop_zero]; obtain ⟨hcA, hfA⟩ := bcell hbA; (try simp only [World.size_alloc, World.size_setCell, drew_size] at hcA hfA); have hzA := hbA.size; have hbhA := Lib.hid hbA; clear hsA hbA; (try simp only [World.size_alloc, World.size_setCell, World.size_drew] at hzA))
  go_wp2
  ((refine ret_sec rfl rfl (World.cell?_setCell_same' _ _ _ ?_) rfl ⟨rfl, ?_⟩) <;> first | (simp [go_sem, ↓IntWalk.iteOmega, *]; done) | ((repeat' (first | with_reducible exact Below.refl _ _ | with_reducible refine bl_drewN ?_ _ | with_reducible refine bl_drew ?_ | refine bl_set (by (first | omega | (simp; done) | (simp; omega))) ?_ _ | refine bl_alloc (by (first | omega | (simp; done) | (simp; omega))) ?_ _ | refine bl_then (by assumption) ?_ (by (first | omega | (simp; done) | (simp; omega))))); done))
set_option maxHeartbeats 800000 in
theorem uLeads_any (w : World) : Calls Try.prog 85 #[] w fun e w' => ∃ g, e = .returned (.slice (some ⟨g, 0, none⟩) 9 9) ∧ w.heap.size ≤ g ∧ g < w'.heap.size ∧ (∀ j, j < 54 → w'.cell? ⟨g, j, none⟩ = some (.int .u32 (Ut.tab.getD j 0))) ∧ Below w.heap.size w w' := by
  go_enter Try.func85, Try.ntmps85
  go_wp2_with fail
  go_ret
  refine ⟨w.heap.size, rfl, Nat.le_refl _, by simp, fun j hj => ?_, by (repeat' (first | with_reducible exact Below.refl _ _ | with_reducible refine bl_drewN ?_ _ | with_reducible refine bl_drew ?_ | refine bl_set (by (first | omega | (simp; done) | (simp; omega))) ?_ _ | refine bl_alloc (by (first | omega | (simp; done) | (simp; omega))) ?_ _ | refine bl_then (by assumption) ?_ (by (first | omega | (simp; done) | (simp; omega))) | refine Step.bl (by assumption) (by assumption) (by (first | omega | (simp; done) | (simp; omega))) (by (first | omega | (simp; done) | (simp; omega))) ?_))⟩
  have hb := Blk.new w 116 (Ut.tab.map (fun x => Value.int .u32 x)).toArray
  have hx : (Ut.tab.map (fun x => Value.int .u32 x)).toArray[j]? = some (.int .u32 (Ut.tab.getD j 0)) := by
    rw [List.getElem?_toArray, List.getElem?_map, List.getD_eq_getElem?_getD, List.getElem?_eq_getElem (by rw [show Ut.tab.length = 54 from rfl]; exact hj)]
    rfl
  exact (hb.cell j).trans hx
end Go.Proofs.Ytjoehhojhfgooaa
