/- scan's calls. No condition. -/
import Derived.Test.YtdakbejppnijdaaSaD
namespace Go.Proofs.Ytdakbejppnijdaa
open Go.RowKit Go.Shelf
set_option linter.unusedSimpArgs false
set_option linter.unusedVariables false
attribute [local go_sem] IntKind.wrap_u32' signed_u32 max_u32
attribute [local go_sem ↓] Go.wp_at_zero Go.wp_at_succ
attribute [local go_sem] Calm.C
attribute [local go_sem low] Calm.al_cell Calm.al_frozen
theorem ret_sec_tmpS {fn : Func} {R : Ending → World → Prop} {a : Act} {w : World} {t u : Tmp} {ad : Addr} {x : Int} {y : Value} (hr : fn.results = #[.cell t 32, .tmp u])
    (ht : a.tmps.getD t undef = .pointer (some ad)) (hu : a.tmps.getD u undef = y) (hc : w.cell? ad = some (.int .u32 x)) (hd : a.defers = [])
    (hR : R (.returned (.tuple #[.agg #[.int .u32 x], y])) w) : bodyPost Try.prog fn R .ret a w := by
  refine bodyPost_ret (v := .tuple #[.agg #[.int .u32 x], y]) ?_ hd hR
  have ht' : a.tmps[t]?.getD undef = .pointer (some ad) := by simpa using ht
  have hu' : a.tmps[u]?.getD undef = y := by simpa using hu
  simp [results, hr, ht', hu', go_sem, hc]
theorem ret_sec2_tmp {fn : Func} {R : Ending → World → Prop} {a : Act} {w : World} {t s u : Tmp} {ad bd : Addr} {x z : Int} {y : Value} (hr : fn.results = #[.cell t 32, .cell s 32, .tmp u])
    (ht : a.tmps.getD t undef = .pointer (some ad)) (hs : a.tmps.getD s undef = .pointer (some bd)) (hu : a.tmps.getD u undef = y) (hc : w.cell? ad = some (.int .u32 x)) (hc' : w.cell? bd = some (.int .u32 z)) (hd : a.defers = [])
    (hR : R (.returned (.tuple #[.agg #[.int .u32 x], .agg #[.int .u32 z], y])) w) : bodyPost Try.prog fn R .ret a w := by
  refine bodyPost_ret (v := .tuple #[.agg #[.int .u32 x], .agg #[.int .u32 z], y]) ?_ hd hR
  have ht' : a.tmps[t]?.getD undef = .pointer (some ad) := by simpa using ht
  have hs' : a.tmps[s]?.getD undef = .pointer (some bd) := by simpa using hs
  have hu' : a.tmps[u]?.getD undef = y := by simpa using hu
  simp [results, hr, ht', hs', hu', go_sem, hc, hc']
theorem wp_gen2 {P : Program} {c : Code} {Q : Exit → Act → World → Prop} {a : Act} (w : World) (h : ∀ W, W = w → Code.wp P c Q a W) : Code.wp P c Q a w := h w rfl
theorem Sa.addE : ∀ args w, (callFunc 65 args).run Try.prog w = .ok (.enter 65 args) w := enters_of Try.func65 (by kernel_rfl) rfl
theorem Sa.orE : ∀ args w, (callFunc 66 args).run Try.prog w = .ok (.enter 66 args) w := enters_of Try.func66 (by kernel_rfl) rfl
/-- The two lanes are within, and apart. -/
def Sa.Two (top : Nat) (at_ has n : Int) : Prop := (0 ≤ at_ ∧ 0 ≤ n ∧ at_ + n ≤ top) ∧ (0 ≤ has ∧ 0 ≤ n ∧ has + n ≤ top) ∧ (n = 0 ∨ has + n ≤ at_ ∨ at_ + n ≤ has)
set_option maxRecDepth 20000 in
set_option maxHeartbeats 2000000 in
theorem saTwo_t {w : World} {p g lp : Nat} {FL : Nat → Prop} {ws : List Int} {top : Nat} {evs : List Ev} (h : Ar w p g lp FL ws top evs) (at_ has n : Int) (h2 : Sa.Two top at_ has n) :
    Calls Try.prog 85 #[.pointer (some ⟨p, 0, none⟩), .int .i64 at_, .int .i64 has, .int .i64 n] w fun e w' => e = .returned (.bool true) ∧ w' = w := by
  have htop : (top : Int) ≤ 4194304 := by have := h.ht; have := h.hz; omega
  have HA := Lib.hid h
  obtain ⟨⟨a1, a2, a3⟩, ⟨b1, b2, b3⟩, h3⟩ := h2
  clear h
  rcases (by omega : n = 0 ∨ (n ≠ 0 ∧ has + n ≤ at_) ∨ (n ≠ 0 ∧ at_ < has + n ∧ at_ + n ≤ has)) with h4 | h4 | h4
  all_goals
    clear h3
    first | have := decide_eq_true (show n = 0 by omega) | have := decide_eq_false (show ¬ (n = 0) by omega) | skip
    first | have := decide_eq_true (show has + n ≤ at_ by omega) | have := decide_eq_false (show ¬ (has + n ≤ at_) by omega) | skip
    first | have := decide_eq_true (show at_ + n ≤ has by omega) | have := decide_eq_false (show ¬ (at_ + n ≤ has) by omega) | skip
    first | have : (n == 0) = true := by simpa using h4 | have : (n == 0) = false := by simpa using h4.1 | skip
    go_enter Try.func85, Try.ntmps85
    go_wp2_with (go_at_call 61; with_reducible refine (Fits_t HA.out _ _ (by omega) (by omega) (by omega)).mono ?_; rintro e w1 ⟨rfl, hw1⟩; replace hw1 := hw1.symm; subst hw1)
    go_ret
    exact ⟨rfl, rfl⟩
set_option maxRecDepth 20000 in
set_option maxHeartbeats 2000000 in
theorem saTwo_f {w : World} {p g lp : Nat} {FL : Nat → Prop} {ws : List Int} {top : Nat} {evs : List Ev} (h : Ar w p g lp FL ws top evs) (at_ has n : Int) (h2 : ¬ Sa.Two top at_ has n) :
    Calls Try.prog 85 #[.pointer (some ⟨p, 0, none⟩), .int .i64 at_, .int .i64 has, .int .i64 n] w fun e w' => e = .returned (.bool false) ∧ w' = w := by
  have htop : (top : Int) ≤ 4194304 := by have := h.ht; have := h.hz; omega
  have HA := Lib.hid h
  clear h
  by_cases ha : 0 ≤ at_ ∧ 0 ≤ n ∧ at_ + n ≤ top
  · by_cases hb : 0 ≤ has ∧ 0 ≤ n ∧ has + n ≤ top
    · have hc : n ≠ 0 ∧ at_ < has + n ∧ has < at_ + n := by
        refine Decidable.byContradiction fun hc => h2 ⟨ha, hb, by omega⟩
      obtain ⟨a1, a2, a3⟩ := ha
      obtain ⟨b1, _, b3⟩ := hb
      obtain ⟨c1, c2, c3⟩ := hc
      have := decide_eq_false (show ¬ (n = 0) by omega)
      have := decide_eq_false (show ¬ (has + n ≤ at_) by omega)
      have := decide_eq_false (show ¬ (at_ + n ≤ has) by omega)
      have : (n == 0) = false := by simpa using c1
      clear h2
      go_enter Try.func85, Try.ntmps85
      go_wp2_with (go_at_call 61; with_reducible refine (Fits_t HA.out _ _ (by omega) (by omega) (by omega)).mono ?_; rintro e w1 ⟨rfl, hw1⟩; replace hw1 := hw1.symm; subst hw1)
      go_ret
      exact ⟨rfl, rfl⟩
    · have HB := Lib.hid hb
      obtain ⟨a1, a2, a3⟩ := ha
      clear h2 hb
      go_enter Try.func85, Try.ntmps85
      go_wp2_with (first
        | (go_at_call 61; with_reducible refine (Fits_f HA.out has n HB.out).mono ?_; rintro e w1 ⟨rfl, hw1⟩; replace hw1 := hw1.symm; subst hw1)
        | (go_at_call 61; with_reducible refine (Fits_t HA.out at_ n (by omega) (by omega) (by omega)).mono ?_; rintro e w1 ⟨rfl, hw1⟩; replace hw1 := hw1.symm; subst hw1))
      go_ret
      exact ⟨rfl, rfl⟩
  · have HB := Lib.hid ha
    clear h2 ha
    go_enter Try.func85, Try.ntmps85
    go_wp2_with (go_at_call 61; with_reducible refine (Fits_f HA.out at_ n HB.out).mono ?_; rintro e w1 ⟨rfl, hw1⟩; replace hw1 := hw1.symm; subst hw1)
    go_ret
    exact ⟨rfl, rfl⟩
attribute [local irreducible] Sa.st Sa.ev Sa.mt Sa.em Sa.fl Sa.ef Sa.mk Ct.Sel Ct.Or Ct.Add
set_option maxRecDepth 20000 in
set_option maxHeartbeats 2000000 in
theorem saSums_t {w : World} {p g lp : Nat} {FL : Nat → Prop} {ws : List Int} {top : Nat} {evs : List Ev} (h : Ar w p g lp FL ws top evs) (he : evs.length < 900000000000) (at_ n : Nat) (ht : at_ + n ≤ top) :
    Calls Try.prog 18 #[.pointer (some ⟨p, 0, none⟩), .int .i64 at_, .int .i64 n] w fun e w' => e = .returned (.tuple #[.agg #[.int .u32 (Sa.st Ct.Add at_ false ws (Sa.us n)).1], .bool true]) ∧
      ∃ FL', Ar w' p g lp FL' (Sa.st Ct.Add at_ false ws (Sa.us n)).2 top (evs ++ Sa.ev at_ (Sa.us n)) ∧ Step (AF p g FL) (AF p g FL') w w' := by
  have htop : (top : Int) ≤ 4194304 := by have := h.ht; have := h.hz; omega
  have HA := Lib.hid h
  have HM := Lib.hid h.most
  clear h
  have hn0 : ¬ AF p g FL w.heap.size := fun hf => Nat.lt_irrefl _ (HM.out _ hf)
  go_enter Try.func18, Try.ntmps18
  go_wp2_with (first
    | (go_at_call 61; with_reducible refine (Fits_t (HA.out.alloc _) _ _ (by omega) (by omega) (by omega)).mono ?_; rintro e w1 ⟨rfl, hw1⟩; replace hw1 := hw1.symm; subst hw1)
    | (go_at_call 64; with_reducible refine (saUp_any _ _).mono ?_; rintro e w1 ⟨rfl, hw1⟩; subst hw1)
    | (go_at_call 63; with_reducible refine (saRun_any ((HA.out.alloc _).alloc _) (Sa.up n (by omega)) (w.heap.size + 1) (by simp) (fun hf => by have := HM.out _ hf; omega) (by simp) at_ ht he false _ Ct.Add Sa.addE Add_any).mono ?_; rintro e w2 ⟨rfl, F1, hA2, hs2⟩; have c6 : w2.cell? ⟨w.heap.size, 0, none⟩ = some (.int .u32 0) := (old_cell hs2 (by simp only [World.size_alloc]; omega) hn0).trans (by simp [go_sem, ↓IntWalk.iteOmega]); have f6 : w2.frozen? ⟨w.heap.size, 0, none⟩ = false := (old_frozen hs2 (by simp only [World.size_alloc]; omega) hn0).trans (by simp [go_sem, ↓IntWalk.iteOmega]); have HA2 := Lib.hid hA2; have HS2 := Lib.hid hs2; clear hA2 hs2))
  obtain ⟨x, hx⟩ : ∃ x, (Sa.st Ct.Add at_ false ws (Sa.us n)).1 = x := ⟨_, rfl⟩
  rw [hx]
  refine ret_sec_tmpS (x := x) (y := .bool true) rfl rfl rfl (World.cell?_setCell_same' _ _ _ (by rw [c6]; rfl)) rfl ⟨rfl, F1, HA2.out.far (af_old HS2.out (by simp; omega) hn0) _, ?_⟩
  exact (((HA.out.step0.alloc _).alloc _).trans HS2.out).set_ (Nat.le_refl _) _
set_option maxHeartbeats 800000 in
theorem saSums_f {w : World} {p g lp : Nat} {FL : Nat → Prop} {ws : List Int} {top : Nat} {evs : List Ev} (h : Ar w p g lp FL ws top evs) (at_ n : Int) (h2 : ¬ (0 ≤ at_ ∧ 0 ≤ n ∧ at_ + n ≤ top)) :
    Calls Try.prog 18 #[.pointer (some ⟨p, 0, none⟩), .int .i64 at_, .int .i64 n] w fun e w' => e = .returned (.tuple #[.agg #[.int .u32 0], .bool false]) ∧ Below w.heap.size w w' := by
  have HA := Lib.hid h
  have HN := Lib.hid h2
  clear h h2
  go_enter Try.func18, Try.ntmps18
  go_wp2_with (first
    | (go_at_call 61; with_reducible refine (Fits_f (HA.out.alloc _) _ _ HN.out).mono ?_; rintro e w1 ⟨rfl, hw1⟩; replace hw1 := hw1.symm; subst hw1)
    | first | (go_at_call 62; refine (Of_any _ _).mono ?_; rintro e w1 ⟨rfl, hb⟩; have hcf := bcell hb; (try simp only [World.size_alloc, World.size_setCell, drew_size] at hcf); have hz := hb.size; (try simp only [World.size_alloc, World.size_setCell, World.size_drew] at hz); have hbh := Lib.hid hb; clear hb; obtain ⟨hc, hf⟩ := hcf))
  refine ret_sec_tmpS (x := 0) (y := .bool false) rfl rfl rfl (World.cell?_setCell_same' _ _ _ (by simp [go_sem, ↓IntWalk.iteOmega, *])) rfl ⟨rfl, ?_⟩
  (repeat' (first | with_reducible exact Below.refl _ _ | with_reducible refine bl_drewN ?_ _ | with_reducible refine bl_drew ?_ | refine bl_set (by (first | omega | (simp; done) | (simp; omega))) ?_ _ | refine bl_alloc (by (first | omega | (simp; done) | (simp; omega))) ?_ _ | refine bl_then (by assumption) ?_ (by (first | omega | (simp; done) | (simp; omega))) | refine Step.bl (by assumption) (by assumption) (by (first | omega | (simp; done) | (simp; omega))) (by (first | omega | (simp; done) | (simp; omega))) ?_))
set_option maxRecDepth 20000 in
set_option maxHeartbeats 2000000 in
theorem saBefore_t {w : World} {p g lp : Nat} {FL : Nat → Prop} {ws : List Int} {top : Nat} {evs : List Ev} (h : Ar w p g lp FL ws top evs) (he : evs.length < 900000000000) (at_ n : Nat) (ht : at_ + n ≤ top) :
    Calls Try.prog 19 #[.pointer (some ⟨p, 0, none⟩), .int .i64 at_, .int .i64 n] w fun e w' => e = .returned (.tuple #[.agg #[.int .u32 (Sa.st Ct.Add at_ true ws (Sa.us n)).1], .bool true]) ∧
      ∃ FL', Ar w' p g lp FL' (Sa.st Ct.Add at_ true ws (Sa.us n)).2 top (evs ++ Sa.ev at_ (Sa.us n)) ∧ Step (AF p g FL) (AF p g FL') w w' := by
  have htop : (top : Int) ≤ 4194304 := by have := h.ht; have := h.hz; omega
  have HA := Lib.hid h
  have HM := Lib.hid h.most
  clear h
  have hn0 : ¬ AF p g FL w.heap.size := fun hf => Nat.lt_irrefl _ (HM.out _ hf)
  go_enter Try.func19, Try.ntmps19
  go_wp2_with (first
    | (go_at_call 61; with_reducible refine (Fits_t (HA.out.alloc _) _ _ (by omega) (by omega) (by omega)).mono ?_; rintro e w1 ⟨rfl, hw1⟩; replace hw1 := hw1.symm; subst hw1)
    | (go_at_call 64; with_reducible refine (saUp_any _ _).mono ?_; rintro e w1 ⟨rfl, hw1⟩; subst hw1)
    | (go_at_call 63; with_reducible refine (saRun_any ((HA.out.alloc _).alloc _) (Sa.up n (by omega)) (w.heap.size + 1) (by simp) (fun hf => by have := HM.out _ hf; omega) (by simp) at_ ht he true _ Ct.Add Sa.addE Add_any).mono ?_; rintro e w2 ⟨rfl, F1, hA2, hs2⟩; have c6 : w2.cell? ⟨w.heap.size, 0, none⟩ = some (.int .u32 0) := (old_cell hs2 (by simp only [World.size_alloc]; omega) hn0).trans (by simp [go_sem, ↓IntWalk.iteOmega]); have f6 : w2.frozen? ⟨w.heap.size, 0, none⟩ = false := (old_frozen hs2 (by simp only [World.size_alloc]; omega) hn0).trans (by simp [go_sem, ↓IntWalk.iteOmega]); have HA2 := Lib.hid hA2; have HS2 := Lib.hid hs2; clear hA2 hs2))
  obtain ⟨x, hx⟩ : ∃ x, (Sa.st Ct.Add at_ true ws (Sa.us n)).1 = x := ⟨_, rfl⟩
  rw [hx]
  refine ret_sec_tmpS (x := x) (y := .bool true) rfl rfl rfl (World.cell?_setCell_same' _ _ _ (by rw [c6]; rfl)) rfl ⟨rfl, F1, HA2.out.far (af_old HS2.out (by simp; omega) hn0) _, ?_⟩
  exact (((HA.out.step0.alloc _).alloc _).trans HS2.out).set_ (Nat.le_refl _) _
set_option maxHeartbeats 800000 in
theorem saBefore_f {w : World} {p g lp : Nat} {FL : Nat → Prop} {ws : List Int} {top : Nat} {evs : List Ev} (h : Ar w p g lp FL ws top evs) (at_ n : Int) (h2 : ¬ (0 ≤ at_ ∧ 0 ≤ n ∧ at_ + n ≤ top)) :
    Calls Try.prog 19 #[.pointer (some ⟨p, 0, none⟩), .int .i64 at_, .int .i64 n] w fun e w' => e = .returned (.tuple #[.agg #[.int .u32 0], .bool false]) ∧ Below w.heap.size w w' := by
  have HA := Lib.hid h
  have HN := Lib.hid h2
  clear h h2
  go_enter Try.func19, Try.ntmps19
  go_wp2_with (first
    | (go_at_call 61; with_reducible refine (Fits_f (HA.out.alloc _) _ _ HN.out).mono ?_; rintro e w1 ⟨rfl, hw1⟩; replace hw1 := hw1.symm; subst hw1)
    | first | (go_at_call 62; refine (Of_any _ _).mono ?_; rintro e w1 ⟨rfl, hb⟩; have hcf := bcell hb; (try simp only [World.size_alloc, World.size_setCell, drew_size] at hcf); have hz := hb.size; (try simp only [World.size_alloc, World.size_setCell, World.size_drew] at hz); have hbh := Lib.hid hb; clear hb; obtain ⟨hc, hf⟩ := hcf))
  refine ret_sec_tmpS (x := 0) (y := .bool false) rfl rfl rfl (World.cell?_setCell_same' _ _ _ (by simp [go_sem, ↓IntWalk.iteOmega, *])) rfl ⟨rfl, ?_⟩
  (repeat' (first | with_reducible exact Below.refl _ _ | with_reducible refine bl_drewN ?_ _ | with_reducible refine bl_drew ?_ | refine bl_set (by (first | omega | (simp; done) | (simp; omega))) ?_ _ | refine bl_alloc (by (first | omega | (simp; done) | (simp; omega))) ?_ _ | refine bl_then (by assumption) ?_ (by (first | omega | (simp; done) | (simp; omega))) | refine Step.bl (by assumption) (by assumption) (by (first | omega | (simp; done) | (simp; omega))) (by (first | omega | (simp; done) | (simp; omega))) ?_))
set_option maxRecDepth 20000 in
set_option maxHeartbeats 2000000 in
theorem saOrs_t {w : World} {p g lp : Nat} {FL : Nat → Prop} {ws : List Int} {top : Nat} {evs : List Ev} (h : Ar w p g lp FL ws top evs) (he : evs.length < 900000000000) (at_ n : Nat) (ht : at_ + n ≤ top) :
    Calls Try.prog 20 #[.pointer (some ⟨p, 0, none⟩), .int .i64 at_, .int .i64 n] w fun e w' => e = .returned (.tuple #[.agg #[.int .u32 (Sa.st Ct.Or at_ false ws (Sa.us n)).1], .bool true]) ∧
      ∃ FL', Ar w' p g lp FL' (Sa.st Ct.Or at_ false ws (Sa.us n)).2 top (evs ++ Sa.ev at_ (Sa.us n)) ∧ Step (AF p g FL) (AF p g FL') w w' := by
  have htop : (top : Int) ≤ 4194304 := by have := h.ht; have := h.hz; omega
  have HA := Lib.hid h
  have HM := Lib.hid h.most
  clear h
  have hn0 : ¬ AF p g FL w.heap.size := fun hf => Nat.lt_irrefl _ (HM.out _ hf)
  go_enter Try.func20, Try.ntmps20
  go_wp2_with (first
    | (go_at_call 61; with_reducible refine (Fits_t (HA.out.alloc _) _ _ (by omega) (by omega) (by omega)).mono ?_; rintro e w1 ⟨rfl, hw1⟩; replace hw1 := hw1.symm; subst hw1)
    | (go_at_call 64; with_reducible refine (saUp_any _ _).mono ?_; rintro e w1 ⟨rfl, hw1⟩; subst hw1)
    | (go_at_call 63; with_reducible refine (saRun_any ((HA.out.alloc _).alloc _) (Sa.up n (by omega)) (w.heap.size + 1) (by simp) (fun hf => by have := HM.out _ hf; omega) (by simp) at_ ht he false _ Ct.Or Sa.orE Or_any).mono ?_; rintro e w2 ⟨rfl, F1, hA2, hs2⟩; have c6 : w2.cell? ⟨w.heap.size, 0, none⟩ = some (.int .u32 0) := (old_cell hs2 (by simp only [World.size_alloc]; omega) hn0).trans (by simp [go_sem, ↓IntWalk.iteOmega]); have f6 : w2.frozen? ⟨w.heap.size, 0, none⟩ = false := (old_frozen hs2 (by simp only [World.size_alloc]; omega) hn0).trans (by simp [go_sem, ↓IntWalk.iteOmega]); have HA2 := Lib.hid hA2; have HS2 := Lib.hid hs2; clear hA2 hs2))
  obtain ⟨x, hx⟩ : ∃ x, (Sa.st Ct.Or at_ false ws (Sa.us n)).1 = x := ⟨_, rfl⟩
  rw [hx]
  refine ret_sec_tmpS (x := x) (y := .bool true) rfl rfl rfl (World.cell?_setCell_same' _ _ _ (by rw [c6]; rfl)) rfl ⟨rfl, F1, HA2.out.far (af_old HS2.out (by simp; omega) hn0) _, ?_⟩
  exact (((HA.out.step0.alloc _).alloc _).trans HS2.out).set_ (Nat.le_refl _) _
set_option maxHeartbeats 800000 in
theorem saOrs_f {w : World} {p g lp : Nat} {FL : Nat → Prop} {ws : List Int} {top : Nat} {evs : List Ev} (h : Ar w p g lp FL ws top evs) (at_ n : Int) (h2 : ¬ (0 ≤ at_ ∧ 0 ≤ n ∧ at_ + n ≤ top)) :
    Calls Try.prog 20 #[.pointer (some ⟨p, 0, none⟩), .int .i64 at_, .int .i64 n] w fun e w' => e = .returned (.tuple #[.agg #[.int .u32 0], .bool false]) ∧ Below w.heap.size w w' := by
  have HA := Lib.hid h
  have HN := Lib.hid h2
  clear h h2
  go_enter Try.func20, Try.ntmps20
  go_wp2_with (first
    | (go_at_call 61; with_reducible refine (Fits_f (HA.out.alloc _) _ _ HN.out).mono ?_; rintro e w1 ⟨rfl, hw1⟩; replace hw1 := hw1.symm; subst hw1)
    | first | (go_at_call 62; refine (Of_any _ _).mono ?_; rintro e w1 ⟨rfl, hb⟩; have hcf := bcell hb; (try simp only [World.size_alloc, World.size_setCell, drew_size] at hcf); have hz := hb.size; (try simp only [World.size_alloc, World.size_setCell, World.size_drew] at hz); have hbh := Lib.hid hb; clear hb; obtain ⟨hc, hf⟩ := hcf))
  refine ret_sec_tmpS (x := 0) (y := .bool false) rfl rfl rfl (World.cell?_setCell_same' _ _ _ (by simp [go_sem, ↓IntWalk.iteOmega, *])) rfl ⟨rfl, ?_⟩
  (repeat' (first | with_reducible exact Below.refl _ _ | with_reducible refine bl_drewN ?_ _ | with_reducible refine bl_drew ?_ | refine bl_set (by (first | omega | (simp; done) | (simp; omega))) ?_ _ | refine bl_alloc (by (first | omega | (simp; done) | (simp; omega))) ?_ _ | refine bl_then (by assumption) ?_ (by (first | omega | (simp; done) | (simp; omega))) | refine Step.bl (by assumption) (by assumption) (by (first | omega | (simp; done) | (simp; omega))) (by (first | omega | (simp; done) | (simp; omega))) ?_))
set_option maxRecDepth 20000 in
set_option maxHeartbeats 2000000 in
theorem saBehind_t {w : World} {p g lp : Nat} {FL : Nat → Prop} {ws : List Int} {top : Nat} {evs : List Ev} (h : Ar w p g lp FL ws top evs) (he : evs.length < 900000000000) (at_ n : Nat) (ht : at_ + n ≤ top) :
    Calls Try.prog 22 #[.pointer (some ⟨p, 0, none⟩), .int .i64 at_, .int .i64 n] w fun e w' => e = .returned (.tuple #[.agg #[.int .u32 (Sa.st Ct.Or at_ false ws (Sa.ds n)).1], .bool true]) ∧
      ∃ FL', Ar w' p g lp FL' (Sa.st Ct.Or at_ false ws (Sa.ds n)).2 top (evs ++ Sa.ev at_ (Sa.ds n)) ∧ Step (AF p g FL) (AF p g FL') w w' := by
  have htop : (top : Int) ≤ 4194304 := by have := h.ht; have := h.hz; omega
  have HA := Lib.hid h
  have HM := Lib.hid h.most
  clear h
  have hn0 : ¬ AF p g FL w.heap.size := fun hf => Nat.lt_irrefl _ (HM.out _ hf)
  go_enter Try.func22, Try.ntmps22
  go_wp2_with (first
    | (go_at_call 61; with_reducible refine (Fits_t (HA.out.alloc _) _ _ (by omega) (by omega) (by omega)).mono ?_; rintro e w1 ⟨rfl, hw1⟩; replace hw1 := hw1.symm; subst hw1)
    | (go_at_call 67; with_reducible refine (saDown_any _ _).mono ?_; rintro e w1 ⟨rfl, hw1⟩; subst hw1)
    | (go_at_call 63; with_reducible refine (saRun_any ((HA.out.alloc _).alloc _) (Sa.down n (by omega)) (w.heap.size + 1) (by simp) (fun hf => by have := HM.out _ hf; omega) (by simp) at_ ht he false _ Ct.Or Sa.orE Or_any).mono ?_; rintro e w2 ⟨rfl, F1, hA2, hs2⟩; have c6 : w2.cell? ⟨w.heap.size, 0, none⟩ = some (.int .u32 0) := (old_cell hs2 (by simp only [World.size_alloc]; omega) hn0).trans (by simp [go_sem, ↓IntWalk.iteOmega]); have f6 : w2.frozen? ⟨w.heap.size, 0, none⟩ = false := (old_frozen hs2 (by simp only [World.size_alloc]; omega) hn0).trans (by simp [go_sem, ↓IntWalk.iteOmega]); have HA2 := Lib.hid hA2; have HS2 := Lib.hid hs2; clear hA2 hs2))
  obtain ⟨x, hx⟩ : ∃ x, (Sa.st Ct.Or at_ false ws (Sa.ds n)).1 = x := ⟨_, rfl⟩
  rw [hx]
  refine ret_sec_tmpS (x := x) (y := .bool true) rfl rfl rfl (World.cell?_setCell_same' _ _ _ (by rw [c6]; rfl)) rfl ⟨rfl, F1, HA2.out.far (af_old HS2.out (by simp; omega) hn0) _, ?_⟩
  exact (((HA.out.step0.alloc _).alloc _).trans HS2.out).set_ (Nat.le_refl _) _
set_option maxHeartbeats 800000 in
theorem saBehind_f {w : World} {p g lp : Nat} {FL : Nat → Prop} {ws : List Int} {top : Nat} {evs : List Ev} (h : Ar w p g lp FL ws top evs) (at_ n : Int) (h2 : ¬ (0 ≤ at_ ∧ 0 ≤ n ∧ at_ + n ≤ top)) :
    Calls Try.prog 22 #[.pointer (some ⟨p, 0, none⟩), .int .i64 at_, .int .i64 n] w fun e w' => e = .returned (.tuple #[.agg #[.int .u32 0], .bool false]) ∧ Below w.heap.size w w' := by
  have HA := Lib.hid h
  have HN := Lib.hid h2
  clear h h2
  go_enter Try.func22, Try.ntmps22
  go_wp2_with (first
    | (go_at_call 61; with_reducible refine (Fits_f (HA.out.alloc _) _ _ HN.out).mono ?_; rintro e w1 ⟨rfl, hw1⟩; replace hw1 := hw1.symm; subst hw1)
    | first | (go_at_call 62; refine (Of_any _ _).mono ?_; rintro e w1 ⟨rfl, hb⟩; have hcf := bcell hb; (try simp only [World.size_alloc, World.size_setCell, drew_size] at hcf); have hz := hb.size; (try simp only [World.size_alloc, World.size_setCell, World.size_drew] at hz); have hbh := Lib.hid hb; clear hb; obtain ⟨hc, hf⟩ := hcf))
  refine ret_sec_tmpS (x := 0) (y := .bool false) rfl rfl rfl (World.cell?_setCell_same' _ _ _ (by simp [go_sem, ↓IntWalk.iteOmega, *])) rfl ⟨rfl, ?_⟩
  (repeat' (first | with_reducible exact Below.refl _ _ | with_reducible refine bl_drewN ?_ _ | with_reducible refine bl_drew ?_ | refine bl_set (by (first | omega | (simp; done) | (simp; omega))) ?_ _ | refine bl_alloc (by (first | omega | (simp; done) | (simp; omega))) ?_ _ | refine bl_then (by assumption) ?_ (by (first | omega | (simp; done) | (simp; omega))) | refine Step.bl (by assumption) (by assumption) (by (first | omega | (simp; done) | (simp; omega))) (by (first | omega | (simp; done) | (simp; omega))) ?_))
set_option maxRecDepth 20000 in
set_option maxHeartbeats 2000000 in
theorem saCarry_t {w : World} {p g lp : Nat} {FL : Nat → Prop} {ws : List Int} {top : Nat} {evs : List Ev} (h : Ar w p g lp FL ws top evs) (he : evs.length < 900000000000) (at_ has n : Nat) (ht : Sa.Two top at_ has n) :
    Calls Try.prog 41 #[.pointer (some ⟨p, 0, none⟩), .int .i64 at_, .int .i64 has, .int .i64 n] w fun e w' => e = .returned (.bool true) ∧
      ∃ FL', Ar w' p g lp FL' (Sa.fl at_ has ws (Sa.us n)).2 top (evs ++ Sa.ef at_ has (Sa.us n)) ∧ Step (AF p g FL) (AF p g FL') w w' := by
  have htop : (top : Int) ≤ 4194304 := by have := h.ht; have := h.hz; omega
  have HA := Lib.hid h
  have HM := Lib.hid h.most
  have HT := Lib.hid ht
  obtain ⟨⟨a1, a2, a3⟩, ⟨b1, b2, b3⟩, _⟩ := ht
  have HFL := Lib.hid (saFill_any (HA.out.alloc (.cells #[.int .i64 n] 3)) (Sa.up n (by omega)) w.heap.size (by simp) (fun hf => Nat.lt_irrefl _ (HM.out _ hf)) (by simp) at_ has (by omega) (by omega) he)
  clear h
  go_enter Try.func41, Try.ntmps41
  go_wp2_with (first
    | (go_at_call 85; with_reducible refine (saTwo_t HA.out _ _ _ HT.out).mono ?_; rintro e w1 ⟨rfl, hw1⟩; replace hw1 := hw1.symm; subst hw1)
    | (go_at_call 64; with_reducible refine (saUp_any _ _).mono ?_; rintro e w1 ⟨rfl, hw1⟩; subst hw1)
    | (go_at_call 88; refine HFL.out.mono ?_; rintro e w2 ⟨⟨v, rfl⟩, F1, hA2, hs2⟩; have HA2 := Lib.hid hA2; have HS2 := Lib.hid hs2; clear hA2 hs2))
  go_ret
  exact ⟨rfl, F1, HA2.out, (HA.out.step0.alloc _).trans HS2.out⟩
set_option maxHeartbeats 800000 in
theorem saCarry_f {w : World} {p g lp : Nat} {FL : Nat → Prop} {ws : List Int} {top : Nat} {evs : List Ev} (h : Ar w p g lp FL ws top evs) (at_ has n : Int) (h2 : ¬ Sa.Two top at_ has n) :
    Calls Try.prog 41 #[.pointer (some ⟨p, 0, none⟩), .int .i64 at_, .int .i64 has, .int .i64 n] w fun e w' => e = .returned (.bool false) ∧ Below w.heap.size w w' := by
  have HA := Lib.hid h
  have HN := Lib.hid h2
  clear h h2
  go_enter Try.func41, Try.ntmps41
  go_wp2_with (go_at_call 85; with_reducible refine (saTwo_f HA.out _ _ _ HN.out).mono ?_; rintro e w1 ⟨rfl, hw1⟩; replace hw1 := hw1.symm; subst hw1)
  go_ret
  exact ⟨rfl, Below.refl _ _⟩
set_option maxRecDepth 20000 in
set_option maxHeartbeats 2000000 in
theorem saBack_t {w : World} {p g lp : Nat} {FL : Nat → Prop} {ws : List Int} {top : Nat} {evs : List Ev} (h : Ar w p g lp FL ws top evs) (he : evs.length < 900000000000) (at_ has n : Nat) (ht : Sa.Two top at_ has n) :
    Calls Try.prog 40 #[.pointer (some ⟨p, 0, none⟩), .int .i64 at_, .int .i64 has, .int .i64 n] w fun e w' => e = .returned (.bool true) ∧
      ∃ FL', Ar w' p g lp FL' (Sa.fl at_ has ws (Sa.ds n)).2 top (evs ++ Sa.ef at_ has (Sa.ds n)) ∧ Step (AF p g FL) (AF p g FL') w w' := by
  have htop : (top : Int) ≤ 4194304 := by have := h.ht; have := h.hz; omega
  have HA := Lib.hid h
  have HM := Lib.hid h.most
  have HT := Lib.hid ht
  obtain ⟨⟨a1, a2, a3⟩, ⟨b1, b2, b3⟩, _⟩ := ht
  have HFL := Lib.hid (saFill_any (HA.out.alloc (.cells #[.int .i64 n] 3)) (Sa.down n (by omega)) w.heap.size (by simp) (fun hf => Nat.lt_irrefl _ (HM.out _ hf)) (by simp) at_ has (by omega) (by omega) he)
  clear h
  go_enter Try.func40, Try.ntmps40
  go_wp2_with (first
    | (go_at_call 85; with_reducible refine (saTwo_t HA.out _ _ _ HT.out).mono ?_; rintro e w1 ⟨rfl, hw1⟩; replace hw1 := hw1.symm; subst hw1)
    | (go_at_call 67; with_reducible refine (saDown_any _ _).mono ?_; rintro e w1 ⟨rfl, hw1⟩; subst hw1)
    | (go_at_call 88; refine HFL.out.mono ?_; rintro e w2 ⟨⟨v, rfl⟩, F1, hA2, hs2⟩; have HA2 := Lib.hid hA2; have HS2 := Lib.hid hs2; clear hA2 hs2))
  go_ret
  exact ⟨rfl, F1, HA2.out, (HA.out.step0.alloc _).trans HS2.out⟩
set_option maxHeartbeats 800000 in
theorem saBack_f {w : World} {p g lp : Nat} {FL : Nat → Prop} {ws : List Int} {top : Nat} {evs : List Ev} (h : Ar w p g lp FL ws top evs) (at_ has n : Int) (h2 : ¬ Sa.Two top at_ has n) :
    Calls Try.prog 40 #[.pointer (some ⟨p, 0, none⟩), .int .i64 at_, .int .i64 has, .int .i64 n] w fun e w' => e = .returned (.bool false) ∧ Below w.heap.size w w' := by
  have HA := Lib.hid h
  have HN := Lib.hid h2
  clear h h2
  go_enter Try.func40, Try.ntmps40
  go_wp2_with (go_at_call 85; with_reducible refine (saTwo_f HA.out _ _ _ HN.out).mono ?_; rintro e w1 ⟨rfl, hw1⟩; replace hw1 := hw1.symm; subst hw1)
  go_ret
  exact ⟨rfl, Below.refl _ _⟩
set_option maxRecDepth 20000 in
set_option maxHeartbeats 2000000 in
theorem saFirst_t {w : World} {p g lp : Nat} {FL : Nat → Prop} {ws : List Int} {top : Nat} {evs : List Ev} (h : Ar w p g lp FL ws top evs) (he : evs.length < 900000000000) (at_ has n : Nat) (ht : Sa.Two top at_ has n) :
    Calls Try.prog 36 #[.pointer (some ⟨p, 0, none⟩), .int .i64 at_, .int .i64 has, .int .i64 n] w fun e w' => e = .returned (.tuple #[.agg #[.int .u32 (Sa.mt at_ has ws (Sa.ds n)).1], .agg #[.int .u32 (Sa.mt at_ has ws (Sa.ds n)).2], .bool true]) ∧
      ∃ FL', Ar w' p g lp FL' ws top (evs ++ Sa.em at_ has (Sa.ds n)) ∧ Step (AF p g FL) (AF p g FL') w w' := by
  have htop : (top : Int) ≤ 4194304 := by have := h.ht; have := h.hz; omega
  have HA := Lib.hid h
  have HM := Lib.hid h.most
  have HT := Lib.hid ht
  obtain ⟨⟨a1, a2, a3⟩, ⟨b1, b2, b3⟩, _⟩ := ht
  clear h
  have hn0 : ¬ AF p g FL w.heap.size := fun hf => Nat.lt_irrefl _ (HM.out _ hf)
  have hn1 : ¬ AF p g FL (w.heap.size + 1) := fun hf => by have := HM.out _ hf; omega
  obtain ⟨x, hx⟩ : ∃ x, (Sa.mt at_ has ws (Sa.ds n)).1 = x := ⟨_, rfl⟩
  obtain ⟨y, hy⟩ : ∃ y, (Sa.mt at_ has ws (Sa.ds n)).2 = y := ⟨_, rfl⟩
  rw [hx, hy]
  have HMT := Lib.hid (saMet_any (((HA.out.alloc (.cells #[.int .u32 0] 32)).alloc (.cells #[.int .u32 0] 32)).alloc (.cells #[.int .i64 n] 3)) (Sa.down n (by omega)) (w.heap.size + 1 + 1) (by simp) (fun hf => by have := HM.out _ hf; omega) (by simp [go_sem, ↓IntWalk.iteOmega]) at_ has (by omega) (by omega) he)
  rw [hx, hy] at HMT
  clear hx hy
  go_enter Try.func36, Try.ntmps36
  go_wp2_with (first
    | (go_at_call 85; with_reducible refine (saTwo_t ((HA.out.alloc _).alloc _) _ _ _ HT.out).mono ?_; rintro e w1 ⟨rfl, hw1⟩; replace hw1 := hw1.symm; subst hw1)
    | (go_at_call 67; with_reducible refine (saDown_any _ _).mono ?_; rintro e w1 ⟨rfl, hw1⟩; subst hw1)
    | (go_at_call 86; refine HMT.out.mono ?_; rintro e w2 ⟨rfl, F1, hA2, hs2⟩; have c6 : w2.cell? ⟨w.heap.size, 0, none⟩ = some (.int .u32 0) := (old_cell hs2 (by simp only [World.size_alloc]; omega) hn0).trans (by simp [go_sem, ↓IntWalk.iteOmega]); have f6 : w2.frozen? ⟨w.heap.size, 0, none⟩ = false := (old_frozen hs2 (by simp only [World.size_alloc]; omega) hn0).trans (by simp [go_sem, ↓IntWalk.iteOmega]); have c7 : w2.cell? ⟨w.heap.size + 1, 0, none⟩ = some (.int .u32 0) := (old_cell hs2 (by simp only [World.size_alloc]; omega) hn1).trans (by simp [go_sem, ↓IntWalk.iteOmega]); have f7 : w2.frozen? ⟨w.heap.size + 1, 0, none⟩ = false := (old_frozen hs2 (by simp only [World.size_alloc]; omega) hn1).trans (by simp [go_sem, ↓IntWalk.iteOmega]); have hz2 := hs2.size; have HA2 := Lib.hid hA2; have HS2 := Lib.hid hs2; clear hA2 hs2))
  simp only [World.size_alloc] at hz2
  refine wp_gen2 _ ?_
  intro W3 hW3
  have B3 : Below w2.heap.size w2 W3 := by
    rw [hW3]
    (repeat' (first | with_reducible exact Below.refl _ _ | with_reducible refine bl_drewN ?_ _ | with_reducible refine bl_drew ?_ | refine bl_set (by (first | omega | (simp; done) | (simp; omega))) ?_ _ | refine bl_alloc (by (first | omega | (simp; done) | (simp; omega))) ?_ _ | refine bl_then (by assumption) ?_ (by (first | omega | (simp; done) | (simp; omega))) | refine Step.bl (by assumption) (by assumption) (by (first | omega | (simp; done) | (simp; omega))) (by (first | omega | (simp; done) | (simp; omega))) ?_))
  have d11 : W3.cell? ⟨w2.heap.size, 0, none⟩ = some (.int .u32 x) := by rw [hW3]; simp [go_sem, ↓IntWalk.iteOmega]
  have d12 : W3.cell? ⟨w2.heap.size + 1, 0, none⟩ = some (.int .u32 y) := by rw [hW3]; simp [go_sem, ↓IntWalk.iteOmega]
  clear hW3
  have d8 : W3.cell? ⟨w.heap.size, 0, none⟩ = some (.int .u32 0) := (B3.cell (p := ⟨w.heap.size, 0, none⟩) (show w.heap.size < w2.heap.size by omega)).trans c6
  have e8 : W3.frozen? ⟨w.heap.size, 0, none⟩ = false := (B3.frozen (p := ⟨w.heap.size, 0, none⟩) (show w.heap.size < w2.heap.size by omega)).trans f6
  have d9 : W3.cell? ⟨w.heap.size + 1, 0, none⟩ = some (.int .u32 0) := (B3.cell (p := ⟨w.heap.size + 1, 0, none⟩) (show w.heap.size + 1 < w2.heap.size by omega)).trans c7
  have e9 : W3.frozen? ⟨w.heap.size + 1, 0, none⟩ = false := (B3.frozen (p := ⟨w.heap.size + 1, 0, none⟩) (show w.heap.size + 1 < w2.heap.size by omega)).trans f7
  obtain ⟨H, hH⟩ : ∃ H, w2.heap.size = H := ⟨_, rfl⟩
  rw [hH] at d11 d12 hz2 ⊢
  obtain ⟨G, hG⟩ : ∃ G, w.heap.size = G := ⟨_, rfl⟩
  have HG := Lib.hid hG
  rw [hG] at d8 e8 d9 e9 hz2 ⊢
  clear hG c6 f6 c7 f7
  refine Rd.goW [0, 1, 2, 3] 4 (fun w' => w'.cell? ⟨H, 0, none⟩ = some (.int .u32 x) ∧ w'.cell? ⟨H + 1, 0, none⟩ = some (.int .u32 y)) (by kernel_rfl) (by kernel_rfl) ⟨d11, d12⟩ (fun _ _ _ _ _ h => h) ?_
  ((first | (refine Rd.wk_pure (v := ?_) (by rfl) (by kernel_rfl) (by kernel_rfl) (Or.inl ⟨by rfl, ?_⟩) ?_; rotate_left; (next => (intro w; go_simp; done))) | (refine Rd.wk_pure (v := ?_) (by rfl) (by kernel_rfl) (by kernel_rfl) (Or.inl ⟨by rfl, ?_⟩) ?_; rotate_left; (next => (intro w; go_simp; with_reducible rfl))) | (refine Rd.wk_load (v := ?_) (by rfl) (by kernel_rfl) (by kernel_rfl) (by kernel_rfl) (Or.inl ⟨by rfl, ?_⟩) ?_; rotate_left; (next => (intro w hSw; (try dsimp only at hSw); go_split_ands; go_simp; done))) | (refine Rd.wk_load (v := ?_) (by rfl) (by kernel_rfl) (by kernel_rfl) (by kernel_rfl) (Or.inl ⟨by rfl, ?_⟩) ?_; rotate_left; (next => (intro w hSw; (try dsimp only at hSw); go_split_ands; go_simp; with_reducible rfl)))); (try simp only [Act.put, List.setIfInBounds_toArray, List.set_cons_zero, List.set_cons_succ]))
  ((first | (refine Rd.wk_pure (v := ?_) (by rfl) (by kernel_rfl) (by kernel_rfl) (Or.inl ⟨by rfl, ?_⟩) ?_; rotate_left; (next => (intro w; go_simp; done))) | (refine Rd.wk_pure (v := ?_) (by rfl) (by kernel_rfl) (by kernel_rfl) (Or.inl ⟨by rfl, ?_⟩) ?_; rotate_left; (next => (intro w; go_simp; with_reducible rfl))) | (refine Rd.wk_load (v := ?_) (by rfl) (by kernel_rfl) (by kernel_rfl) (by kernel_rfl) (Or.inl ⟨by rfl, ?_⟩) ?_; rotate_left; (next => (intro w hSw; (try dsimp only at hSw); go_split_ands; go_simp; done))) | (refine Rd.wk_load (v := ?_) (by rfl) (by kernel_rfl) (by kernel_rfl) (by kernel_rfl) (Or.inl ⟨by rfl, ?_⟩) ?_; rotate_left; (next => (intro w hSw; (try dsimp only at hSw); go_split_ands; go_simp; with_reducible rfl)))); (try simp only [Act.put, List.setIfInBounds_toArray, List.set_cons_zero, List.set_cons_succ]))
  have d8' : W3.drew.cell? ⟨G, 0, none⟩ = some (.int .u32 0) := d8
  have e8' : W3.drew.frozen? ⟨G, 0, none⟩ = false := e8
  (refine Rd.wk_call (by rfl) (by kernel_rfl) (by rfl) ?_; go_simp)
  (try simp only [Act.put, List.setIfInBounds_toArray, List.set_cons_zero, List.set_cons_succ])
  have d9' : (W3.drew.setCell ⟨G, 0, none⟩ (.int .u32 x)).cell? ⟨G + 1, 0, none⟩ = some (.int .u32 0) := (World.cell?_setCell_far W3.drew ⟨G, 0, none⟩ ⟨G + 1, 0, none⟩ _ (by show G ≠ G + 1; omega)).trans d9
  have e9' : (W3.drew.setCell ⟨G, 0, none⟩ (.int .u32 x)).frozen? ⟨G + 1, 0, none⟩ = false := by rw [World.frozen?_setCell]; exact e9
  (refine Rd.wk_call (by rfl) (by kernel_rfl) (by rfl) ?_; go_simp)
  (try simp only [Act.put, List.setIfInBounds_toArray, List.set_cons_zero, List.set_cons_succ])
  (refine Rd.wk_last (by rfl) (by kernel_rfl) (by kernel_rfl) (by rfl) ?_; go_simp)
  go_wp2_with fail
  refine ret_sec2_tmp (x := x) (z := y) (y := .bool true) rfl rfl rfl rfl ?_ ?_ rfl ⟨rfl, F1, ?_, ?_⟩
  · exact (World.cell?_setCell_far _ ⟨G + 1, 0, none⟩ ⟨G, 0, none⟩ _ (by show G + 1 ≠ G; omega)).trans (World.cell?_setCell_same' _ _ _ (by rw [d8]; rfl))
  · exact World.cell?_setCell_same' _ _ _ (by rw [World.cell?_setCell_far W3 ⟨G, 0, none⟩ ⟨G + 1, 0, none⟩ _ (by show G ≠ G + 1; omega), d9]; rfl)
  · have m0 : ¬ AF p g F1 G := by rw [← HG.out]; exact af_old HS2.out (by simp only [World.size_alloc]; omega) hn0
    have m1 : ¬ AF p g F1 (G + 1) := by rw [← HG.out]; exact af_old HS2.out (by simp only [World.size_alloc]; omega) hn1
    exact ((((HA2.out.below (Lib.hid B3)).far m0 _).far m1 _).drew)
  · exact (((((((HA.out.step0.alloc _).alloc _).alloc _).trans HS2.out).trans (Step.of_below HA2.out.most B3)).set_ (by rw [HG.out]; exact Nat.le_refl _) _).set_ (by rw [HG.out]; omega) _).drew
set_option maxRecDepth 20000 in
set_option maxHeartbeats 2000000 in
theorem saLast_t {w : World} {p g lp : Nat} {FL : Nat → Prop} {ws : List Int} {top : Nat} {evs : List Ev} (h : Ar w p g lp FL ws top evs) (he : evs.length < 900000000000) (at_ has n : Nat) (ht : Sa.Two top at_ has n) :
    Calls Try.prog 37 #[.pointer (some ⟨p, 0, none⟩), .int .i64 at_, .int .i64 has, .int .i64 n] w fun e w' => e = .returned (.tuple #[.agg #[.int .u32 (Sa.mt at_ has ws (Sa.us n)).1], .agg #[.int .u32 (Sa.mt at_ has ws (Sa.us n)).2], .bool true]) ∧
      ∃ FL', Ar w' p g lp FL' ws top (evs ++ Sa.em at_ has (Sa.us n)) ∧ Step (AF p g FL) (AF p g FL') w w' := by
  have htop : (top : Int) ≤ 4194304 := by have := h.ht; have := h.hz; omega
  have HA := Lib.hid h
  have HM := Lib.hid h.most
  have HT := Lib.hid ht
  obtain ⟨⟨a1, a2, a3⟩, ⟨b1, b2, b3⟩, _⟩ := ht
  clear h
  have hn0 : ¬ AF p g FL w.heap.size := fun hf => Nat.lt_irrefl _ (HM.out _ hf)
  have hn1 : ¬ AF p g FL (w.heap.size + 1) := fun hf => by have := HM.out _ hf; omega
  obtain ⟨x, hx⟩ : ∃ x, (Sa.mt at_ has ws (Sa.us n)).1 = x := ⟨_, rfl⟩
  obtain ⟨y, hy⟩ : ∃ y, (Sa.mt at_ has ws (Sa.us n)).2 = y := ⟨_, rfl⟩
  rw [hx, hy]
  have HMT := Lib.hid (saMet_any (((HA.out.alloc (.cells #[.int .u32 0] 32)).alloc (.cells #[.int .u32 0] 32)).alloc (.cells #[.int .i64 n] 3)) (Sa.up n (by omega)) (w.heap.size + 1 + 1) (by simp) (fun hf => by have := HM.out _ hf; omega) (by simp [go_sem, ↓IntWalk.iteOmega]) at_ has (by omega) (by omega) he)
  rw [hx, hy] at HMT
  clear hx hy
  go_enter Try.func37, Try.ntmps37
  go_wp2_with (first
    | (go_at_call 85; with_reducible refine (saTwo_t ((HA.out.alloc _).alloc _) _ _ _ HT.out).mono ?_; rintro e w1 ⟨rfl, hw1⟩; replace hw1 := hw1.symm; subst hw1)
    | (go_at_call 64; with_reducible refine (saUp_any _ _).mono ?_; rintro e w1 ⟨rfl, hw1⟩; subst hw1)
    | (go_at_call 86; refine HMT.out.mono ?_; rintro e w2 ⟨rfl, F1, hA2, hs2⟩; have c6 : w2.cell? ⟨w.heap.size, 0, none⟩ = some (.int .u32 0) := (old_cell hs2 (by simp only [World.size_alloc]; omega) hn0).trans (by simp [go_sem, ↓IntWalk.iteOmega]); have f6 : w2.frozen? ⟨w.heap.size, 0, none⟩ = false := (old_frozen hs2 (by simp only [World.size_alloc]; omega) hn0).trans (by simp [go_sem, ↓IntWalk.iteOmega]); have c7 : w2.cell? ⟨w.heap.size + 1, 0, none⟩ = some (.int .u32 0) := (old_cell hs2 (by simp only [World.size_alloc]; omega) hn1).trans (by simp [go_sem, ↓IntWalk.iteOmega]); have f7 : w2.frozen? ⟨w.heap.size + 1, 0, none⟩ = false := (old_frozen hs2 (by simp only [World.size_alloc]; omega) hn1).trans (by simp [go_sem, ↓IntWalk.iteOmega]); have hz2 := hs2.size; have HA2 := Lib.hid hA2; have HS2 := Lib.hid hs2; clear hA2 hs2))
  simp only [World.size_alloc] at hz2
  refine wp_gen2 _ ?_
  intro W3 hW3
  have B3 : Below w2.heap.size w2 W3 := by
    rw [hW3]
    (repeat' (first | with_reducible exact Below.refl _ _ | with_reducible refine bl_drewN ?_ _ | with_reducible refine bl_drew ?_ | refine bl_set (by (first | omega | (simp; done) | (simp; omega))) ?_ _ | refine bl_alloc (by (first | omega | (simp; done) | (simp; omega))) ?_ _ | refine bl_then (by assumption) ?_ (by (first | omega | (simp; done) | (simp; omega))) | refine Step.bl (by assumption) (by assumption) (by (first | omega | (simp; done) | (simp; omega))) (by (first | omega | (simp; done) | (simp; omega))) ?_))
  have d11 : W3.cell? ⟨w2.heap.size, 0, none⟩ = some (.int .u32 x) := by rw [hW3]; simp [go_sem, ↓IntWalk.iteOmega]
  have d12 : W3.cell? ⟨w2.heap.size + 1, 0, none⟩ = some (.int .u32 y) := by rw [hW3]; simp [go_sem, ↓IntWalk.iteOmega]
  clear hW3
  have d8 : W3.cell? ⟨w.heap.size, 0, none⟩ = some (.int .u32 0) := (B3.cell (p := ⟨w.heap.size, 0, none⟩) (show w.heap.size < w2.heap.size by omega)).trans c6
  have e8 : W3.frozen? ⟨w.heap.size, 0, none⟩ = false := (B3.frozen (p := ⟨w.heap.size, 0, none⟩) (show w.heap.size < w2.heap.size by omega)).trans f6
  have d9 : W3.cell? ⟨w.heap.size + 1, 0, none⟩ = some (.int .u32 0) := (B3.cell (p := ⟨w.heap.size + 1, 0, none⟩) (show w.heap.size + 1 < w2.heap.size by omega)).trans c7
  have e9 : W3.frozen? ⟨w.heap.size + 1, 0, none⟩ = false := (B3.frozen (p := ⟨w.heap.size + 1, 0, none⟩) (show w.heap.size + 1 < w2.heap.size by omega)).trans f7
  obtain ⟨H, hH⟩ : ∃ H, w2.heap.size = H := ⟨_, rfl⟩
  rw [hH] at d11 d12 hz2 ⊢
  obtain ⟨G, hG⟩ : ∃ G, w.heap.size = G := ⟨_, rfl⟩
  have HG := Lib.hid hG
  rw [hG] at d8 e8 d9 e9 hz2 ⊢
  clear hG c6 f6 c7 f7
  refine Rd.goW [0, 1, 2, 3] 4 (fun w' => w'.cell? ⟨H, 0, none⟩ = some (.int .u32 x) ∧ w'.cell? ⟨H + 1, 0, none⟩ = some (.int .u32 y)) (by kernel_rfl) (by kernel_rfl) ⟨d11, d12⟩ (fun _ _ _ _ _ h => h) ?_
  ((first | (refine Rd.wk_pure (v := ?_) (by rfl) (by kernel_rfl) (by kernel_rfl) (Or.inl ⟨by rfl, ?_⟩) ?_; rotate_left; (next => (intro w; go_simp; done))) | (refine Rd.wk_pure (v := ?_) (by rfl) (by kernel_rfl) (by kernel_rfl) (Or.inl ⟨by rfl, ?_⟩) ?_; rotate_left; (next => (intro w; go_simp; with_reducible rfl))) | (refine Rd.wk_load (v := ?_) (by rfl) (by kernel_rfl) (by kernel_rfl) (by kernel_rfl) (Or.inl ⟨by rfl, ?_⟩) ?_; rotate_left; (next => (intro w hSw; (try dsimp only at hSw); go_split_ands; go_simp; done))) | (refine Rd.wk_load (v := ?_) (by rfl) (by kernel_rfl) (by kernel_rfl) (by kernel_rfl) (Or.inl ⟨by rfl, ?_⟩) ?_; rotate_left; (next => (intro w hSw; (try dsimp only at hSw); go_split_ands; go_simp; with_reducible rfl)))); (try simp only [Act.put, List.setIfInBounds_toArray, List.set_cons_zero, List.set_cons_succ]))
  ((first | (refine Rd.wk_pure (v := ?_) (by rfl) (by kernel_rfl) (by kernel_rfl) (Or.inl ⟨by rfl, ?_⟩) ?_; rotate_left; (next => (intro w; go_simp; done))) | (refine Rd.wk_pure (v := ?_) (by rfl) (by kernel_rfl) (by kernel_rfl) (Or.inl ⟨by rfl, ?_⟩) ?_; rotate_left; (next => (intro w; go_simp; with_reducible rfl))) | (refine Rd.wk_load (v := ?_) (by rfl) (by kernel_rfl) (by kernel_rfl) (by kernel_rfl) (Or.inl ⟨by rfl, ?_⟩) ?_; rotate_left; (next => (intro w hSw; (try dsimp only at hSw); go_split_ands; go_simp; done))) | (refine Rd.wk_load (v := ?_) (by rfl) (by kernel_rfl) (by kernel_rfl) (by kernel_rfl) (Or.inl ⟨by rfl, ?_⟩) ?_; rotate_left; (next => (intro w hSw; (try dsimp only at hSw); go_split_ands; go_simp; with_reducible rfl)))); (try simp only [Act.put, List.setIfInBounds_toArray, List.set_cons_zero, List.set_cons_succ]))
  have d8' : W3.drew.cell? ⟨G, 0, none⟩ = some (.int .u32 0) := d8
  have e8' : W3.drew.frozen? ⟨G, 0, none⟩ = false := e8
  (refine Rd.wk_call (by rfl) (by kernel_rfl) (by rfl) ?_; go_simp)
  (try simp only [Act.put, List.setIfInBounds_toArray, List.set_cons_zero, List.set_cons_succ])
  have d9' : (W3.drew.setCell ⟨G, 0, none⟩ (.int .u32 x)).cell? ⟨G + 1, 0, none⟩ = some (.int .u32 0) := (World.cell?_setCell_far W3.drew ⟨G, 0, none⟩ ⟨G + 1, 0, none⟩ _ (by show G ≠ G + 1; omega)).trans d9
  have e9' : (W3.drew.setCell ⟨G, 0, none⟩ (.int .u32 x)).frozen? ⟨G + 1, 0, none⟩ = false := by rw [World.frozen?_setCell]; exact e9
  (refine Rd.wk_call (by rfl) (by kernel_rfl) (by rfl) ?_; go_simp)
  (try simp only [Act.put, List.setIfInBounds_toArray, List.set_cons_zero, List.set_cons_succ])
  (refine Rd.wk_last (by rfl) (by kernel_rfl) (by kernel_rfl) (by rfl) ?_; go_simp)
  go_wp2_with fail
  refine ret_sec2_tmp (x := x) (z := y) (y := .bool true) rfl rfl rfl rfl ?_ ?_ rfl ⟨rfl, F1, ?_, ?_⟩
  · exact (World.cell?_setCell_far _ ⟨G + 1, 0, none⟩ ⟨G, 0, none⟩ _ (by show G + 1 ≠ G; omega)).trans (World.cell?_setCell_same' _ _ _ (by rw [d8]; rfl))
  · exact World.cell?_setCell_same' _ _ _ (by rw [World.cell?_setCell_far W3 ⟨G, 0, none⟩ ⟨G + 1, 0, none⟩ _ (by show G ≠ G + 1; omega), d9]; rfl)
  · have m0 : ¬ AF p g F1 G := by rw [← HG.out]; exact af_old HS2.out (by simp only [World.size_alloc]; omega) hn0
    have m1 : ¬ AF p g F1 (G + 1) := by rw [← HG.out]; exact af_old HS2.out (by simp only [World.size_alloc]; omega) hn1
    exact ((((HA2.out.below (Lib.hid B3)).far m0 _).far m1 _).drew)
  · exact (((((((HA.out.step0.alloc _).alloc _).alloc _).trans HS2.out).trans (Step.of_below HA2.out.most B3)).set_ (by rw [HG.out]; exact Nat.le_refl _) _).set_ (by rw [HG.out]; omega) _).drew
set_option maxHeartbeats 800000 in
theorem saFirst_f {w : World} {p g lp : Nat} {FL : Nat → Prop} {ws : List Int} {top : Nat} {evs : List Ev} (h : Ar w p g lp FL ws top evs) (at_ has n : Int) (h2 : ¬ Sa.Two top at_ has n) :
    Calls Try.prog 36 #[.pointer (some ⟨p, 0, none⟩), .int .i64 at_, .int .i64 has, .int .i64 n] w fun e w' => e = .returned (.tuple #[.agg #[.int .u32 0], .agg #[.int .u32 0], .bool false]) ∧ Below w.heap.size w w' := by
  have HA := Lib.hid h
  have HN := Lib.hid h2
  clear h h2
  go_enter Try.func36, Try.ntmps36
  go_wp2_with (first
    | (go_at_call 85; with_reducible refine (saTwo_f ((HA.out.alloc _).alloc _) _ _ _ HN.out).mono ?_; rintro e w1 ⟨rfl, hw1⟩; replace hw1 := hw1.symm; subst hw1)
    | first | (go_at_call 62; refine (Of_any _ _).mono ?_; rintro e w1 ⟨rfl, hb⟩; have hcf := bcell hb; (try simp only [World.size_alloc, World.size_setCell, drew_size] at hcf); have hz := hb.size; (try simp only [World.size_alloc, World.size_setCell, World.size_drew] at hz); have hbh := Lib.hid hb; clear hb; obtain ⟨hc, hf⟩ := hcf))
  refine ret_sec2_tmp (x := 0) (z := 0) (y := .bool false) rfl rfl rfl rfl ?_ ?_ rfl ⟨rfl, ?_⟩
  · simp [go_sem, ↓IntWalk.iteOmega, *]
  · simp [go_sem, ↓IntWalk.iteOmega, *]
  · (repeat' (first | with_reducible exact Below.refl _ _ | with_reducible refine bl_drewN ?_ _ | with_reducible refine bl_drew ?_ | refine bl_set (by (first | omega | (simp; done) | (simp; omega))) ?_ _ | refine bl_alloc (by (first | omega | (simp; done) | (simp; omega))) ?_ _ | refine bl_then (by assumption) ?_ (by (first | omega | (simp; done) | (simp; omega))) | refine Step.bl (by assumption) (by assumption) (by (first | omega | (simp; done) | (simp; omega))) (by (first | omega | (simp; done) | (simp; omega))) ?_))
set_option maxHeartbeats 800000 in
theorem saLast_f {w : World} {p g lp : Nat} {FL : Nat → Prop} {ws : List Int} {top : Nat} {evs : List Ev} (h : Ar w p g lp FL ws top evs) (at_ has n : Int) (h2 : ¬ Sa.Two top at_ has n) :
    Calls Try.prog 37 #[.pointer (some ⟨p, 0, none⟩), .int .i64 at_, .int .i64 has, .int .i64 n] w fun e w' => e = .returned (.tuple #[.agg #[.int .u32 0], .agg #[.int .u32 0], .bool false]) ∧ Below w.heap.size w w' := by
  have HA := Lib.hid h
  have HN := Lib.hid h2
  clear h h2
  go_enter Try.func37, Try.ntmps37
  go_wp2_with (first
    | (go_at_call 85; with_reducible refine (saTwo_f ((HA.out.alloc _).alloc _) _ _ _ HN.out).mono ?_; rintro e w1 ⟨rfl, hw1⟩; replace hw1 := hw1.symm; subst hw1)
    | first | (go_at_call 62; refine (Of_any _ _).mono ?_; rintro e w1 ⟨rfl, hb⟩; have hcf := bcell hb; (try simp only [World.size_alloc, World.size_setCell, drew_size] at hcf); have hz := hb.size; (try simp only [World.size_alloc, World.size_setCell, World.size_drew] at hz); have hbh := Lib.hid hb; clear hb; obtain ⟨hc, hf⟩ := hcf))
  refine ret_sec2_tmp (x := 0) (z := 0) (y := .bool false) rfl rfl rfl rfl ?_ ?_ rfl ⟨rfl, ?_⟩
  · simp [go_sem, ↓IntWalk.iteOmega, *]
  · simp [go_sem, ↓IntWalk.iteOmega, *]
  · (repeat' (first | with_reducible exact Below.refl _ _ | with_reducible refine bl_drewN ?_ _ | with_reducible refine bl_drew ?_ | refine bl_set (by (first | omega | (simp; done) | (simp; omega))) ?_ _ | refine bl_alloc (by (first | omega | (simp; done) | (simp; omega))) ?_ _ | refine bl_then (by assumption) ?_ (by (first | omega | (simp; done) | (simp; omega))) | refine Step.bl (by assumption) (by assumption) (by (first | omega | (simp; done) | (simp; omega))) (by (first | omega | (simp; done) | (simp; omega))) ?_))
end Go.Proofs.Ytdakbejppnijdaa
