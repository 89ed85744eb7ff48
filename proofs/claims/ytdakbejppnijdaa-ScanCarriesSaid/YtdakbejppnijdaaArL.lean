/- An arena: words loaded and stored. No condition. -/
import Derived.Test.YtdakbejppnijdaaAr
namespace Go.Proofs.Ytdakbejppnijdaa
open Go.RowKit
set_option linter.unusedSimpArgs false
set_option linter.unusedVariables false
attribute [local go_sem] IntKind.wrap_u32' signed_u32 max_u32
attribute [local go_sem ↓] Go.wp_at_zero Go.wp_at_succ
attribute [local go_sem] Calm.C
attribute [local go_sem low] Calm.al_cell Calm.al_frozen
theorem ret_two {fn : Func} {R : Ending → World → Prop} {a : Act} {w : World} {t u : Tmp} {x y : Value} (hr : fn.results = #[.tmp t, .tmp u])
    (ht : a.tmps.getD t undef = x) (hu : a.tmps.getD u undef = y) (hd : a.defers = []) (hR : R (.returned (.tuple #[x, y])) w) : bodyPost Try.prog fn R .ret a w := by
  refine bodyPost_ret (v := .tuple #[x, y]) ?_ hd hR
  have ht' : a.tmps[t]?.getD undef = x := by simpa using ht
  have hu' : a.tmps[u]?.getD undef = y := by simpa using hu
  simp [results, hr, ht', hu', go_sem]
theorem box_sec3 : True := trivial
theorem box_sec : Calm.box Try.prog 32 = .cells #[.int .u32 0] 32 (0, 0) := by kernel_rfl
theorem old_cell {w w' : World} {F F' : Nat → Prop} {b o : Nat} (hs : Step F F' w w') (hb : b < w.heap.size) (hf : ¬ F b) : w'.cell? ⟨b, o, none⟩ = w.cell? ⟨b, o, none⟩ := World.cell?_of_block (a := ⟨b, o, none⟩) (hs.keep b hb hf)
theorem old_frozen {w w' : World} {F F' : Nat → Prop} {b o : Nat} (hs : Step F F' w w') (hb : b < w.heap.size) (hf : ¬ F b) : w'.frozen? ⟨b, o, none⟩ = w.frozen? ⟨b, o, none⟩ := World.frozen?_of_block (a := ⟨b, o, none⟩) (hs.keep b hb hf)
theorem new_far {p g : Nat} {FL : Nat → Prop} {b : Nat} {w w' : World} {F' : Nat → Prop} (hm : ∀ i, AF p g FL i → i < w.heap.size) (hs : Step FL F' w' w') (hb : w.heap.size ≤ b) : ¬ AF p g FL b := fun hf => absurd (hm b hf) (by omega)
theorem Ar.step0 {w : World} {p g lp : Nat} {FL : Nat → Prop} {ws : List Int} {top : Nat} {evs : List Ev} (h : Ar w p g lp FL ws top evs) : Step (AF p g FL) (AF p g FL) w w := Step.refl h.most
theorem af_old {p g : Nat} {FL F1 : Nat → Prop} {w w' : World} {b : Nat} (hs : Step (AF p g FL) (AF p g F1) w w') (hb : b < w.heap.size) (hn : ¬ AF p g FL b) : ¬ AF p g F1 b := fun hf => hn ((hs.foot b hb).1 hf)
set_option maxRecDepth 10000 in
set_option maxHeartbeats 1600000 in
theorem ALoad_t {w : World} {p g lp : Nat} {FL : Nat → Prop} {ws : List Int} {top : Nat} {evs : List Ev} (h : Ar w p g lp FL ws top evs) (hn : evs.length < 1099511627776) (i : Nat) (hi : i < top) :
    Calls Try.prog 77 #[.pointer (some ⟨p, 0, none⟩), .int .i64 i] w fun e w' => e = .returned (.agg #[.int .u32 (ws.getD i 0)]) ∧ ∃ FL', Ar w' p g lp FL' ws top (evs ++ [⟨1, i, 0⟩]) ∧ Step (AF p g FL) (AF p g FL') w w' := by
  have q0 := h.c0
  have q1 := h.c1
  have q2 := h.c2
  have hiw : i < ws.length := Nat.lt_of_lt_of_le hi h.ht
  have q3 := h.cg i hiw
  obtain ⟨x, hx⟩ : ∃ x, ws.getD i 0 = x := ⟨_, rfl⟩
  rw [hx] at q3
  have q4 := h.ht
  have q5 := h.hz
  have q6 := h.bp.lt
  have q7 := h.bg.lt
  have H := Lib.hid h
  clear h
  go_enter Try.func77, Try.ntmps77
  go_wp2_with (first | (go_at_call 61; refine (Fits_t (p := p) (g := g) (lp := lp) (FL := FL) (ws := ws) (top := top) (evs := evs) (by (repeat' (first | exact H.out | refine Ar.alloc ?_ _ | refine Ar.drewN ?_ _ | refine Ar.drew ?_ | refine Ar.below ?_ (by assumption)))) _ _ (by omega) (by omega) (by omega)).mono ?_; rintro e w1 ⟨rfl, rfl⟩) | (go_at_call 107; refine (LLoad_any _ FL lp evs i (H.out.alloc _).lg hn).mono ?_; rintro e wl ⟨rfl, F1, hL1, hs1⟩; have H1 := Lib.hid ((H.out.alloc _).step hs1 hL1); have r0 := H1.out.c0; have r1 := H1.out.c1; have r2 := H1.out.c2; have r3 := H1.out.cg i hiw; have r4 := H1.out.bp.lt; have r5 := H1.out.bg.lt; have r6 := fun j => H1.out.bg.frozen j; rw [hx] at r3; have HS1 := Lib.hid hs1; have hzl := hs1.size; (try simp only [World.size_alloc, World.size_setCell, World.size_drew] at hzl); have rb := old_cell (o := 0) hs1 (b := w.heap.size) (by simp) (fun hf => Nat.lt_irrefl _ (H.out.lg.most _ hf)); have fb := old_frozen (o := 0) hs1 (b := w.heap.size) (by simp) (fun hf => Nat.lt_irrefl _ (H.out.lg.most _ hf)); (simp [go_sem] at rb fb); clear hL1 hs1 q0 q1 q2 q3))
  have hst : Step (AF p g FL) (AF p g F1) (w.alloc (.cells #[.int .u32 0] 32)) wl := HS1.out.af (by simp; omega) (by simp; omega)
  refine ret_sec rfl rfl (World.cell?_setCell_same' _ _ _ (by simp [rb])) rfl ⟨by rw [hx], F1, ?_, ?_⟩
  · exact H1.out.far (af_old hst (by simp) (fun hf => Nat.lt_irrefl _ (H.out.most _ hf))) _
  · exact ((H.out.step0.alloc _).trans hst).set_ (Nat.le_refl _) _
set_option maxHeartbeats 800000 in
theorem ALoad_f {w : World} {p g lp : Nat} {FL : Nat → Prop} {ws : List Int} {top : Nat} {evs : List Ev} (h : Ar w p g lp FL ws top evs) (i : Int) (hi : ¬ (0 ≤ i ∧ i < top)) :
    Calls Try.prog 77 #[.pointer (some ⟨p, 0, none⟩), .int .i64 i] w fun e w' => e = .returned (.agg #[.int .u32 0]) ∧ Below w.heap.size w w' := by
  have H := Lib.hid h
  clear h
  go_enter Try.func77, Try.ntmps77
  go_wp2_with (first | (go_at_call 61; refine (Fits_f (p := p) (g := g) (lp := lp) (FL := FL) (ws := ws) (top := top) (evs := evs) (by (repeat' (first | exact H.out | refine Ar.alloc ?_ _ | refine Ar.drewN ?_ _ | refine Ar.drew ?_ | refine Ar.below ?_ (by assumption)))) _ _ (by omega)).mono ?_; rintro e w1 ⟨rfl, rfl⟩) | first | (go_at_call 62; refine (Of_any _ _).mono ?_; rintro e w1 ⟨rfl, hb⟩; have hcf := bcell hb; (try simp only [World.size_alloc, World.size_setCell, drew_size] at hcf); have hz := hb.size; (try simp only [World.size_alloc, World.size_setCell, World.size_drew] at hz); have hbh := Lib.hid hb; clear hb; obtain ⟨hc, hf⟩ := hcf))
  ((refine ret_sec rfl rfl (World.cell?_setCell_same' _ _ _ ?_) rfl ⟨rfl, ?_⟩) <;> first | (simp [go_sem, ↓IntWalk.iteOmega, *]; done) | ((repeat' (first | with_reducible exact Below.refl _ _ | with_reducible refine bl_drewN ?_ _ | with_reducible refine bl_drew ?_ | refine bl_set (by (first | omega | (simp; done) | (simp; omega))) ?_ _ | refine bl_alloc (by (first | omega | (simp; done) | (simp; omega))) ?_ _ | refine bl_then (by assumption) ?_ (by (first | omega | (simp; done) | (simp; omega))))); done))
set_option maxRecDepth 10000 in
set_option maxHeartbeats 1600000 in
theorem AStore_t {w : World} {p g lp : Nat} {FL : Nat → Prop} {ws : List Int} {top : Nat} {evs : List Ev} (h : Ar w p g lp FL ws top evs) (hn : evs.length < 1099511627776) (i : Nat) (hi : i < top) (y : Int) :
    Calls Try.prog 78 #[.pointer (some ⟨p, 0, none⟩), .int .i64 i, .agg #[.int .u32 y]] w fun e w' => e = .returned (.bool true) ∧ ∃ FL', Ar w' p g lp FL' (ws.set i y) top (evs ++ [⟨2, i, 0⟩]) ∧ Step (AF p g FL) (AF p g FL') w w' := by
  have q0 := h.c0
  have q1 := h.c1
  have q2 := h.c2
  have hiw : i < ws.length := Nat.lt_of_lt_of_le hi h.ht
  have q3 := h.cg i hiw
  obtain ⟨x, hx⟩ : ∃ x, ws.getD i 0 = x := ⟨_, rfl⟩
  rw [hx] at q3
  have q4 := h.ht
  have q5 := h.hz
  have q6 := h.bp.lt
  have q7 := h.bg.lt
  have H := Lib.hid h
  clear h
  go_enter Try.func78, Try.ntmps78
  go_wp2_with (first | (go_at_call 61; refine (Fits_t (p := p) (g := g) (lp := lp) (FL := FL) (ws := ws) (top := top) (evs := evs) (by (repeat' (first | exact H.out | refine Ar.alloc ?_ _ | refine Ar.drewN ?_ _ | refine Ar.drew ?_ | refine Ar.below ?_ (by assumption)))) _ _ (by omega) (by omega) (by omega)).mono ?_; rintro e w1 ⟨rfl, rfl⟩) | (go_at_call 108; refine (LStore_any _ FL lp evs i (H.out.alloc _).lg hn).mono ?_; rintro e wl ⟨rfl, F1, hL1, hs1⟩; have H1 := Lib.hid ((H.out.alloc _).step hs1 hL1); have r0 := H1.out.c0; have r1 := H1.out.c1; have r2 := H1.out.c2; have r3 := H1.out.cg i hiw; have r4 := H1.out.bp.lt; have r5 := H1.out.bg.lt; have r6 := fun j => H1.out.bg.frozen j; rw [hx] at r3; have HS1 := Lib.hid hs1; have hzl := hs1.size; (try simp only [World.size_alloc, World.size_setCell, World.size_drew] at hzl); have rb := old_cell (o := 0) hs1 (b := w.heap.size) (by simp) (fun hf => Nat.lt_irrefl _ (H.out.lg.most _ hf)); have fb := old_frozen (o := 0) hs1 (b := w.heap.size) (by simp) (fun hf => Nat.lt_irrefl _ (H.out.lg.most _ hf)); (simp [go_sem] at rb fb); clear hL1 hs1 q0 q1 q2 q3))
  (refine Calm.go 7 (by kernel_rfl) (by kernel_rfl) (by kernel_rfl) ?_; intro w0 hw0; have hr := Calm.rule hw0; simp only [Calm.heads, Calm.isAlloc]; haveI hnon : Nonempty (Ext (Below w0.heap.size w0)) := ⟨⟨w0, Below.refl _ _⟩⟩; (repeat (go_big_quiet_step (fail))); refine wpQuiet_nil ?_; clear hnon hr hw0; clear w0; (repeat refine Calm.n_skip rfl ?_); refine Calm.n_zero ?_; intro WA hbA hsA; simp only [List.drop_succ_cons, List.drop_zero]; obtain ⟨hcA, hfA⟩ := bcell hbA; (try simp only [World.size_alloc, World.size_setCell, drew_size] at hcA hfA); have hzA := hbA.size; have hbhA := Lib.hid hbA; clear hsA hbA; (try simp only [World.size_alloc, World.size_setCell, World.size_drew] at hzA))
  go_wp2_with fail
  have hst : Step (AF p g FL) (AF p g F1) (w.alloc (.cells #[.int .u32 y] 32)) wl := HS1.out.af (by simp; omega) (by simp; omega)
  go_ret
  exact ⟨rfl, F1, (H1.out.below hbhA).setWord i y, (Step.thenB hbhA ((H.out.step0.alloc _).trans hst)).setIn af_g _⟩
set_option maxHeartbeats 800000 in
theorem AStore_f {w : World} {p g lp : Nat} {FL : Nat → Prop} {ws : List Int} {top : Nat} {evs : List Ev} (h : Ar w p g lp FL ws top evs) (i : Int) (hi : ¬ (0 ≤ i ∧ i < top)) (y : Int) :
    Calls Try.prog 78 #[.pointer (some ⟨p, 0, none⟩), .int .i64 i, .agg #[.int .u32 y]] w fun e w' => e = .returned (.bool false) ∧ Below w.heap.size w w' := by
  have H := Lib.hid h
  clear h
  go_enter Try.func78, Try.ntmps78
  go_wp2_with (first | (go_at_call 61; refine (Fits_f (p := p) (g := g) (lp := lp) (FL := FL) (ws := ws) (top := top) (evs := evs) (by (repeat' (first | exact H.out | refine Ar.alloc ?_ _ | refine Ar.drewN ?_ _ | refine Ar.drew ?_ | refine Ar.below ?_ (by assumption)))) _ _ (by omega)).mono ?_; rintro e w1 ⟨rfl, rfl⟩))
  go_ret
  refine ⟨rfl, ?_⟩
  (repeat' (first | with_reducible exact Below.refl _ _ | with_reducible refine bl_drewN ?_ _ | with_reducible refine bl_drew ?_ | refine bl_set (by (first | omega | (simp; done) | (simp; omega))) ?_ _ | refine bl_alloc (by (first | omega | (simp; done) | (simp; omega))) ?_ _ | refine bl_then (by assumption) ?_ (by (first | omega | (simp; done) | (simp; omega))) | refine Step.bl (by assumption) (by assumption) (by (first | omega | (simp; done) | (simp; omega))) (by (first | omega | (simp; done) | (simp; omega))) ?_))
set_option maxHeartbeats 800000 in
theorem ATop_any {w : World} {p g lp : Nat} {FL : Nat → Prop} {ws : List Int} {top : Nat} {evs : List Ev} (h : Ar w p g lp FL ws top evs) : Calls Try.prog 56 #[.pointer (some ⟨p, 0, none⟩)] w fun e w' => e = .returned (.int .i64 top) ∧ w' = w := by
  have q1 := h.c1
  clear h
  go_enter Try.func56, Try.ntmps56
  go_wp2_with fail
  go_ret
  exact ⟨rfl, rfl⟩
set_option maxRecDepth 10000 in
set_option maxHeartbeats 1600000 in
theorem ARelease_f {w : World} {p g lp : Nat} {FL : Nat → Prop} {ws : List Int} {top : Nat} {evs : List Ev} (h : Ar w p g lp FL ws top evs) (i : Int) (hi : ¬ (0 ≤ i ∧ i < top)) :
    Calls Try.prog 34 #[.pointer (some ⟨p, 0, none⟩), .int .i64 i] w fun e w' => e = .returned (.int .u32 0) ∧ w' = w := by
  have H := Lib.hid h
  clear h
  go_enter Try.func34, Try.ntmps34
  go_wp2_with (first | (go_at_call 61; refine (Fits_f (p := p) (g := g) (lp := lp) (FL := FL) (ws := ws) (top := top) (evs := evs) (by (repeat' (first | exact H.out | refine Ar.alloc ?_ _ | refine Ar.drewN ?_ _ | refine Ar.drew ?_ | refine Ar.below ?_ (by assumption)))) _ _ (by omega)).mono ?_; rintro e w1 ⟨rfl, rfl⟩))
  go_ret
  exact ⟨rfl, rfl⟩
set_option maxRecDepth 10000 in
set_option maxHeartbeats 1600000 in
theorem ARelease_t {w : World} {p g lp : Nat} {FL : Nat → Prop} {ws : List Int} {top : Nat} {evs : List Ev} (h : Ar w p g lp FL ws top evs) (hn : evs.length < 1099511627775) (i : Nat) (hi : i < top) :
    Calls Try.prog 34 #[.pointer (some ⟨p, 0, none⟩), .int .i64 i] w fun e w' => e = .returned (.int .u32 (ws.getD i 0)) ∧ ∃ FL', Ar w' p g lp FL' ws top (evs ++ [⟨1, i, 0⟩] ++ [⟨3, 0, ws.getD i 0⟩]) ∧ Step (AF p g FL) (AF p g FL') w w' := by
  have q2 := h.c2
  have q6 := h.bp.lt
  have H := Lib.hid h
  obtain ⟨x, hx⟩ : ∃ x, ws.getD i 0 = x := ⟨_, rfl⟩
  have HX := Lib.hid hx
  clear h
  rw [hx]
  clear hx
  go_enter Try.func34, Try.ntmps34
  go_wp2_with (first | (go_at_call 61; refine (Fits_t (p := p) (g := g) (lp := lp) (FL := FL) (ws := ws) (top := top) (evs := evs) (by (repeat' (first | exact H.out | refine Ar.alloc ?_ _ | refine Ar.drewN ?_ _ | refine Ar.drew ?_ | refine Ar.below ?_ (by assumption)))) _ _ (by omega) (by omega) (by omega)).mono ?_; rintro e w1 ⟨rfl, rfl⟩))
  go_region_held3 (fun w' => w'.cell? ⟨p, 2, none⟩ = some (.pointer (some ⟨lp, 0, none⟩)) ∧ p < w'.heap.size) ((first | (refine ⟨?_, ?_⟩ <;> first | assumption | (simp [go_sem, ↓IntWalk.iteOmega, *]; done) | omega | (simp; omega)) | assumption | (simp [go_sem, ↓IntWalk.iteOmega, *]; done) | omega | (simp; omega))) (first | (go_at_call 77; refine (ALoad_t (p := p) (g := g) (lp := lp) (FL := FL) (ws := ws) (top := top) (evs := evs) (by (repeat' (first | exact H.out | refine Ar.alloc ?_ _ | refine Ar.drewN ?_ _ | refine Ar.drew ?_ | refine Ar.below ?_ (by assumption)))) (by omega) _ hi).mono ?_; rintro e w1 ⟨rfl, F1, hA1, hs1⟩; rw [HX.out]; have H1 := Lib.hid hA1; have S1 := Lib.hid hs1; have r2 := hA1.c2; have r6 := hA1.bp.lt; clear hA1 hs1) | (go_at_call 69; refine (Release_any _ F1 lp (evs ++ [⟨1, i, 0⟩]) x (Ar.lg (p := p) (g := g) (ws := ws) (top := top) (by (repeat' (first | exact H1.out | refine Ar.alloc ?_ _ | refine Ar.drewN ?_ _ | refine Ar.drew ?_ | refine Ar.below ?_ (by assumption))))) (by simp; omega)).mono ?_; rintro e w2 ⟨rfl, F2, hL2, hs2⟩; have H2 := Lib.hid (Ar.step (p := p) (g := g) (ws := ws) (top := top) (evs := evs ++ [⟨1, i, 0⟩]) (by (repeat' (first | exact H1.out | refine Ar.alloc ?_ _ | refine Ar.drewN ?_ _ | refine Ar.drew ?_ | refine Ar.below ?_ (by assumption)))) hs2 hL2); have S2 := Lib.hid hs2; have r2 := H2.out.c2; have r6 := H2.out.bp.lt; clear hL2 hs2))
  all_goals (go_wp2_with fail)
  all_goals
    have hm := H.out.most
    have S2' := Lib.hid (S2.out.af H1.out.bp.lt H1.out.bg.lt)
    clear S2
    go_ret
    refine ⟨rfl, F2, H2.out, ?_⟩
    (repeat' (first | exact Step.refl (by assumption) | refine Step.set_ (by (first | omega | (simp; done) | (simp; omega))) ?_ _ | refine Step.alloc ?_ _ | refine Step.drewN ?_ _ | refine Step.drew ?_ | refine Step.then_ (by assumption) ?_ | refine Step.thenB (by assumption) ?_))
set_option maxRecDepth 10000 in
set_option maxHeartbeats 1600000 in
theorem ATake_f {w : World} {p g lp : Nat} {FL : Nat → Prop} {ws : List Int} {top : Nat} {evs : List Ev} (h : Ar w p g lp FL ws top evs) (n : Int) (hn : ¬ (0 ≤ n ∧ n ≤ ws.length - top)) :
    Calls Try.prog 28 #[.pointer (some ⟨p, 0, none⟩), .int .i64 n] w fun e w' => e = .returned (.tuple #[.int .i64 0, .bool false]) ∧ Below w.heap.size w w' := by
  have q0 := h.c0
  have q1 := h.c1
  have q4 := h.ht
  have q5 := h.hz
  have hs0 : ∀ m : Ext (Below w.heap.size w), m.w.cell? ⟨p, 0, none⟩ = some (.slice (some ⟨g, 0, none⟩) ws.length ws.length) := Ext.rd h.c0
  have hs1 : ∀ m : Ext (Below w.heap.size w), m.w.cell? ⟨p, 1, none⟩ = some (.int .i64 top) := Ext.rd h.c1
  clear h
  have d2 : ¬ n < 0 → decide ((ws.length : Int) - top < n) = true := fun h0 => decide_eq_true (by omega)
  cases d1 : decide (n < 0)
  all_goals
    have d3 := d2
    first | (replace d3 := d3 (of_decide_eq_false d1)) | skip
    clear hn d2
    go_enter Try.func28, Try.ntmps28
    go_wp2_with fail
    haveI hnon : Nonempty (Ext (Below w.heap.size w)) := ⟨⟨w.drew, below_start _⟩⟩
    refine wp_region_calm (S := Below w.heap.size w) (by kernel_rfl) (by kernel_rfl) (below_start _) ?_
    repeat (go_big_quiet_step (fail))
    refine wpQuiet_nil ?_
    rintro _ ⟨m1, rfl⟩
    go_wp2_with fail
    refine ret_two (x := .int .i64 0) (y := .bool false) rfl rfl rfl rfl ⟨rfl, m1.h⟩
set_option maxRecDepth 10000 in
set_option maxHeartbeats 1600000 in
theorem ATake_t {w : World} {p g lp : Nat} {FL : Nat → Prop} {ws : List Int} {top : Nat} {evs : List Ev} (h : Ar w p g lp FL ws top evs) (hn : evs.length < 1099511627776) (n : Nat) (hn2 : top + n ≤ ws.length) :
    Calls Try.prog 28 #[.pointer (some ⟨p, 0, none⟩), .int .i64 n] w fun e w' => e = .returned (.tuple #[.int .i64 top, .bool true]) ∧ ∃ FL', Ar w' p g lp FL' ws (top + n) (evs ++ [⟨4, top, n⟩]) ∧ Step (AF p g FL) (AF p g FL') w w' := by
  have q0 := h.c0
  have q1 := h.c1
  have q2 := h.c2
  have q4 := h.ht
  have q5 := h.hz
  have q6 := h.bp.lt
  have q8 := fun j => h.bp.frozen j
  have hs0 : ∀ m : Ext (Below w.heap.size w), m.w.cell? ⟨p, 0, none⟩ = some (.slice (some ⟨g, 0, none⟩) ws.length ws.length) := Ext.rd h.c0
  have hs1 : ∀ m : Ext (Below w.heap.size w), m.w.cell? ⟨p, 1, none⟩ = some (.int .i64 top) := Ext.rd h.c1
  have d1 : decide ((n : Int) < 0) = false := decide_eq_false (by omega)
  have d2 : decide ((ws.length : Int) - top < n) = false := decide_eq_false (by omega)
  have H := Lib.hid h
  clear h
  go_enter Try.func28, Try.ntmps28
  go_wp2_with fail
  haveI hnon : Nonempty (Ext (Below w.heap.size w)) := ⟨⟨w.drew, below_start _⟩⟩
  refine wp_region_calm (S := Below w.heap.size w) (by kernel_rfl) (by kernel_rfl) (below_start _) ?_
  repeat (go_big_quiet_step (fail))
  refine wpQuiet_nil ?_
  rintro _ ⟨m1, rfl⟩
  have hb1 := Lib.hid m1.h
  generalize m1.w = W at *
  have HW := Lib.hid (H.out.below hb1)
  clear hs0 hs1 hnon q0 q1 q2 q6 q8
  have q0 := HW.out.c0
  have q1 := HW.out.c1
  have q2 := HW.out.c2
  have q6 := HW.out.bp.lt
  have q8 := fun j => HW.out.bp.frozen j
  have HT := Lib.hid (HW.out.setTop (top + n) hn2)
  have t0 := HT.out.c0
  have t1 := HT.out.c1
  have t2 := HT.out.c2
  go_wp2_with (go_at_call 74; refine (LTake_any _ FL lp evs top n (by exact HT.out.lg) hn (by omega) (by omega)).mono ?_; rintro e w2 ⟨rfl, F2, hL2, hs2⟩)
  have hcn : Ct.count (n : Int) = n := by unfold Ct.count; rw [if_neg (by omega), if_neg (by omega)]
  refine ret_two (x := .int .i64 top) (y := .bool true) rfl rfl rfl rfl ⟨rfl, F2, ?_, ?_⟩
  · have hX := HT.out.step hs2 hL2
    rw [hcn] at hX
    exact hX
  · exact ((Step.thenB hb1 H.out.step0).setIn af_p _).trans (hs2.af HT.out.bp.lt HT.out.bg.lt)
end Go.Proofs.Ytdakbejppnijdaa
