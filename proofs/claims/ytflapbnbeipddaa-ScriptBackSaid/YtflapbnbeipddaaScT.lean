/- script.first. No condition. -/
import Derived.Test.YtflapbnbeipddaaScE
namespace Go.Proofs.Ytflapbnbeipddaa
open Go.RowKit
set_option linter.unusedSimpArgs false
set_option linter.unusedVariables false
attribute [local go_sem] IntKind.wrap_u32' signed_u32 max_u32
attribute [local go_sem ↓] Go.wp_at_zero Go.wp_at_succ
attribute [local go_sem] Calm.C
attribute [local go_sem low] Calm.al_cell Calm.al_frozen
attribute [local go_sem] Sc.S_size Sc.ops
theorem ret_op {fn : Func} {R : Ending → World → Prop} {a : Act} {w : World} {t u s : Tmp} {G : Nat} {o : Sc.Op} {y z : Value} (hr : fn.results = #[.cell t 34, .tmp u, .tmp s])
    (ht : a.tmps.getD t undef = .pointer (some ⟨G, 0, none⟩)) (hu : a.tmps.getD u undef = y) (hs : a.tmps.getD s undef = z) (hb : Blk w G 34 (Sc.ops o)) (hd : a.defers = []) (hR : R (.returned (.tuple #[.agg (Sc.ops o), y, z])) w) : bodyPost Try.prog fn R .ret a w := by
  refine bodyPost_ret (v := .tuple #[.agg (Sc.ops o), y, z]) ?_ hd hR
  have ht' : a.tmps[t]?.getD undef = .pointer (some ⟨G, 0, none⟩) := by simpa using ht
  have hu' : a.tmps[u]?.getD undef = y := by simpa using hu
  have hs' : a.tmps[s]?.getD undef = z := by simpa using hs
  have hc := hb.cell
  simp [results, hr, ht', hu', hs', go_sem, hc, Sc.ops]
namespace Sc
def op0 : Op := ⟨0, 0, 0, 0, [], 0, [], 0, [], [], 0⟩
def setn (o : Op) : Nat → Int → Op
  | 0, x => { o with k := x }
  | 1, x => { o with p := x }
  | 2, x => { o with c := x }
  | 3, x => { o with o := x }
  | 4, x => { o with l := x }
  | 5, x => { o with it := x }
  | _, x => { o with on := x }
def sett (o : Op) : Nat → Bs → Op
  | 0, x => { o with s := x }
  | 1, x => { o with sa := x }
  | 2, x => { o with r := x }
  | _, x => { o with ot := x }
theorem ops_setn (o : Op) (x : Int) : ∀ j, j < 7 → (ops o).setIfInBounds (fo j) (.int .i64 x) = ops (setn o j x) := seven rfl rfl rfl rfl rfl rfl rfl
theorem ops_sett (o : Op) (x : Bs) : ∀ j, j < 4 → (ops o).setIfInBounds (to j) (.string (S x)) = ops (sett o j x) := four rfl rfl rfl rfl
def part (l : Bs) : Nat → Op
  | 0 => op0
  | j + 1 => setn (part l j) j (v l (off j) (siz j) : Nat)
def parx (l : Bs) : Nat → Op
  | 0 => part l 7
  | j + 1 => sett (parx l j) j (tx l j)
theorem part_zero (l : Bs) : part l 0 = op0 := rfl
theorem part_succ (l : Bs) (j : Nat) : part l (j + 1) = setn (part l j) j (v l (off j) (siz j) : Nat) := rfl
theorem parx_zero (l : Bs) : parx l 0 = part l 7 := rfl
theorem parx_succ (l : Bs) (j : Nat) : parx l (j + 1) = sett (parx l j) j (tx l j) := rfl
theorem v_def (l : Bs) (a c : Nat) : v l a c = val ((l.drop a).take c) := rfl
theorem at_zero (l : Bs) : at_ l 0 = 18 := rfl
theorem at_succ (l : Bs) (j : Nat) : at_ l (j + 1) = at_ l j + 2 + v l (at_ l j) 2 := rfl
theorem not_good_18 (l : Bs) (h : l.length < 18) : ¬ good l := fun h1 => by
  have h2 := at_mono l 0 4 (by decide)
  have h3 : at_ l 4 ≤ l.length := h1
  rw [at_zero] at h2
  omega
theorem not_good_at (l : Bs) (j : Nat) (hj : j ≤ 4) (h : l.length < at_ l j) : ¬ good l := fun h1 => by
  have h2 := at_mono l j 4 hj
  have h3 : at_ l 4 ≤ l.length := h1
  omega
theorem parx_end (l : Bs) : parx l 4 = opOf l := rfl
theorem off_le18 : ∀ j, j ≤ 7 → off j ≤ 18 := fun j h => by
  match j with
  | 0 => decide
  | 1 => decide
  | 2 => decide
  | 3 => decide
  | 4 => decide
  | 5 => decide
  | 6 => decide
  | 7 => decide
  | j + 8 => omega
theorem ops_some (o : Op) (i : Nat) (h : i ≤ 10) : ∃ u, (ops o)[i]? = some u := by
  have : i < (ops o).size := by show i < 11; omega
  exact ⟨_, Array.getElem?_eq_getElem this⟩
end Sc
theorem Blk.ops_to {W : World} {G : Nat} {o p : Sc.Op} (h : Blk W G 34 (Sc.ops o)) : Blk (((((((((((W.setCell ⟨G, 0, none⟩ (.int .i64 p.k)).setCell ⟨G, 1, none⟩ (.int .i64 p.p)).setCell ⟨G, 2, none⟩ (.int .i64 p.c)).setCell ⟨G, 3, none⟩ (.int .i64 p.l)).setCell ⟨G, 4, none⟩ (.string (Sc.S p.s))).setCell ⟨G, 5, none⟩ (.int .i64 p.o)).setCell ⟨G, 6, none⟩ (.string (Sc.S p.sa))).setCell ⟨G, 7, none⟩ (.int .i64 p.it)).setCell ⟨G, 8, none⟩ (.string (Sc.S p.r))).setCell ⟨G, 9, none⟩ (.string (Sc.S p.ot))).setCell ⟨G, 10, none⟩ (.int .i64 p.on)) G 34 (Sc.ops p) := by
  have h1 := ((((((((((h.set_ 0 (.int .i64 p.k)).set_ 1 (.int .i64 p.p)).set_ 2 (.int .i64 p.c)).set_ 3 (.int .i64 p.l)).set_ 4 (.string (Sc.S p.s))).set_ 5 (.int .i64 p.o)).set_ 6 (.string (Sc.S p.sa))).set_ 7 (.int .i64 p.it)).set_ 8 (.string (Sc.S p.r))).set_ 9 (.string (Sc.S p.ot))).set_ 10 (.int .i64 p.on)
  simp only [Sc.ops, List.setIfInBounds_toArray, List.set_cons_zero, List.set_cons_succ] at h1
  exact h1
theorem scGet_2f (l : Sc.Bs) (hc : l.length < 2) (w : World) :
    Calls Try.prog 83 #[.string (Sc.S l), .int .i64 2] w fun e w' => e = .returned (.tuple #[.int .i64 0, .string (Sc.S l), .bool false]) ∧ Below w.heap.size w w' := scGet_f l 2 hc w
theorem scGet_2t (l : Sc.Bs) (hc : 2 ≤ l.length) (w : World) :
    Calls Try.prog 83 #[.string (Sc.S l), .int .i64 2] w fun e w' => e = .returned (.tuple #[.int .i64 (Sc.val (l.take 2) : Int), .string (Sc.S (l.drop 2)), .bool true]) ∧ Below w.heap.size w w' := scGet_t l 2 hc (by decide) w
theorem exit_gen {Q : Exit → Act → World → Prop} {a : Act} {e : Exit} (w : World) (h : ∀ W, W = w → Q e a W) : Q e a w := h w rfl
attribute [local irreducible] Sc.part Sc.parx Sc.v Sc.at_
set_option maxRecDepth 20000 in
set_option maxHeartbeats 8000000 in
theorem scFirst_any (l : Sc.Bs) (hl : l.length ≤ 9223372036854775807) (w : World) :
    Calls Try.prog 61 #[.string (Sc.S l)] w fun e w' => (Sc.good l → e = .returned (.tuple #[.agg (Sc.ops (Sc.opOf l)), .string (Sc.S (l.drop (Sc.at_ l 4))), .bool true])) ∧ (¬ Sc.good l → ∃ rest, e = .returned (.tuple #[.agg (Sc.ops Sc.op0), .string (Sc.S rest), .bool false])) ∧ Below w.heap.size w w' := by
  go_enter Try.func61, Try.ntmps61
  have hb0 : Hid (Blk (w.alloc (.cells (Sc.ops Sc.op0) 34)) w.heap.size 34 (Sc.ops Sc.op0)) := Lib.hid (Blk.new _ _ _)
  go_wp2_with (go_at_call 55; refine (scFields_any w.heap.size _).mono ?_; rintro e wf ⟨rfl, hfb, hbf⟩; have HFB := Lib.hid hfb; have HBF := Lib.hid hbf; clear hfb hbf)
  have hG := Lib.hid (hb0.out.below HBF.out (by simp))
  have hB := HFB.out
  rw [World.size_alloc] at hB
  have hW : Below w.heap.size w wf := bl_then HBF (bl_alloc (Nat.le_refl _) (Below.refl _ _) _) (by simp)
  have hWs : w.heap.size + 1 < wf.heap.size := hB.lt
  have HB := Lib.hid hB
  have HW := Lib.hid hW
  clear hB hW HFB HBF hb0
  obtain ⟨G, hGs⟩ : ∃ G, w.heap.size = G := ⟨_, rfl⟩
  rw [hGs] at HB hG hWs HW
  simp only [World.size_alloc, hGs]
  go_loopw [0, 4, 12] (fun s q i wr => ∃ (j : Nat) (u : Value), j ≤ 7 ∧ i = .int .i64 (j : Int) ∧ s = .string (Sc.S (l.drop (Sc.off j))) ∧ q = u ∧ Sc.off j ≤ l.length ∧ Blk wr G 34 (Sc.ops (Sc.part l j)) ∧ Blk wr (G + 1) 95 (Sc.fcs G) ∧ Below G w wr) (fun _ _ i _ => 7 - (intOf i).toNat)
  case atStart => exact ⟨0, _, Nat.zero_le _, rfl, rfl, rfl, Nat.zero_le _, by rw [Sc.part_zero]; exact hG.out, HB.out, HW.out⟩
  case round =>
    obtain ⟨j, u, hk, rfl, rfl, rfl, hjl, hb1, hb2, hb3⟩ := hrel
    have H1 := Lib.hid hb1
    have H2 := Lib.hid hb2
    have H3 := Lib.hid hb3
    have hsz := hb2.lt
    clear hG HB HW hWs
    by_cases hlt : j < 7
    · have c0 := (hb2.cell (j * 2)).trans (Sc.fcs_at G j hlt).1
      have c1 := (hb2.cell (j * 2 + 1)).trans (Sc.fcs_at G j hlt).2
      obtain ⟨y, hy⟩ := Sc.ops_some (Sc.part l j) (Sc.fo j) (Sc.fo_le j hlt)
      have c2 := (hb1.cell (Sc.fo j)).trans hy
      have hfz := hb1.frozen (Sc.fo j)
      have hz4 := Sc.siz_le j hlt
      have hof := Sc.off_le18 (j + 1) (by omega)
      have hdl : (l.drop (Sc.off j)).length = l.length - Sc.off j := List.length_drop
      have hset := Lib.hid (fun x => Sc.ops_setn (Sc.part l j) x j hlt)
      have hpart := Lib.hid (show Sc.part l (j + 1) = Sc.setn (Sc.part l j) j (Sc.v l (Sc.off j) (Sc.siz j) : Nat) from Sc.part_succ l j)
      have hoff := Lib.hid (show Sc.off (j + 1) = Sc.off j + Sc.siz j from rfl)
      have hval := Lib.hid (show Sc.v l (Sc.off j) (Sc.siz j) = Sc.val ((l.drop (Sc.off j)).take (Sc.siz j)) from Sc.v_def l _ _)
      have hdd := Lib.hid (show (l.drop (Sc.off j)).drop (Sc.siz j) = l.drop (Sc.off j + Sc.siz j) from List.drop_drop)
      clear hb1 hb2 hb3 hy
      generalize Sc.siz j = z at *
      generalize Sc.fo j = f at *
      generalize l.drop (Sc.off j) = L at *
      by_cases hen : z ≤ L.length
      · go_wp2_with fail
        refine wp_gen _ (fun W hW => ?_)
        have d0 : W.cell? ⟨wr.heap.size, 0, none⟩ = some (.pointer (some ⟨G, f, none⟩)) := by rw [hW]; simp [go_sem, ↓IntWalk.iteOmega, *]
        have d1 : W.cell? ⟨wr.heap.size, 1, none⟩ = some (.int .i64 z) := by rw [hW]; simp [go_sem, ↓IntWalk.iteOmega, *]
        have d2 : W.cell? ⟨G, f, none⟩ = some y := by rw [hW]; simp [go_sem, ↓IntWalk.iteOmega, *]
        have d3 : W.frozen? ⟨G, f, none⟩ = false := by rw [hW]; simp [go_sem, ↓IntWalk.iteOmega, *]
        have hWb : Below wr.heap.size wr W := by rw [hW]; (repeat' (first | with_reducible exact Below.refl _ _ | with_reducible refine bl_drewN ?_ _ | with_reducible refine bl_drew ?_ | refine bl_set (by (first | omega | (simp; done) | (simp; omega))) ?_ _ | refine bl_alloc (by (first | omega | (simp; done) | (simp; omega))) ?_ _ | refine bl_then (by assumption) ?_ (by (first | omega | (simp; done) | (simp; omega))) | refine Step.bl (by assumption) (by assumption) (by (first | omega | (simp; done) | (simp; omega))) (by (first | omega | (simp; done) | (simp; omega))) ?_))
        have H1W := Lib.hid (H1.out.below hWb (by omega))
        have H2W := Lib.hid (H2.out.below hWb (by omega))
        have H3W := Lib.hid (bl_then (Lib.hid hWb) H3.out (by omega))
        have hszW : wr.heap.size < W.heap.size := by rw [hW]; simp
        clear hW c0 c1 c2 hfz hWb H1 H2 H3
        go_region_held3 (fun w' => w'.cell? ⟨wr.heap.size, 0, none⟩ = some (.pointer (some ⟨G, f, none⟩)) ∧ w'.cell? ⟨wr.heap.size, 1, none⟩ = some (.int .i64 z)) ((first | (refine ⟨?_, ?_⟩ <;> first | assumption | (simp [go_sem, ↓IntWalk.iteOmega, *]; done)) | assumption | (simp [go_sem, ↓IntWalk.iteOmega, *]; done))) (first
          | (go_at_call 83; refine (scGet_t L z hen hz4 _).mono ?_; rintro e w1 ⟨rfl, hb⟩; have hcf := bcell hb; (try simp only [World.size_alloc, World.size_setCell, drew_size] at hcf); have hz := hb.size; (try simp only [World.size_alloc, World.size_setCell, drew_size] at hz); have hbh := Lib.hid hb; clear hb; obtain ⟨hc, hf⟩ := hcf))
        all_goals
          have hzb := hz
          have q1 := Lib.hid (((H1W.out.drew).belowH hbh (by simp; omega)).set_ f (.int .i64 ((Sc.val (L.take z) : Nat) : Int)))
          have q2 := Lib.hid ((H2W.out.drew).belowH hbh (by simp; omega))
          have q3 := Lib.hid (bl_then hbh (bl_drew H3W.out) (by simp; omega))
          rw [hset.out, ← hval.out, ← hpart.out] at q1
          go_wp2_with fail
          go_roundw
          case rel => exact ⟨j + 1, _, by omega, by go_num, by rw [hdd.out, ← hoff.out], rfl, by rw [hoff.out]; omega, by rw [hval.out] at q1; exact q1.out, q2.out.far (by simp) _, bl_set (Nat.le_refl _) q3.out _⟩
          case measure => simp [intOf]; omega
      · go_wp2_with fail
        refine wp_gen _ (fun W hW => ?_)
        have d0 : W.cell? ⟨wr.heap.size, 0, none⟩ = some (.pointer (some ⟨G, f, none⟩)) := by rw [hW]; simp [go_sem, ↓IntWalk.iteOmega, *]
        have d1 : W.cell? ⟨wr.heap.size, 1, none⟩ = some (.int .i64 z) := by rw [hW]; simp [go_sem, ↓IntWalk.iteOmega, *]
        have d2 : W.cell? ⟨G, f, none⟩ = some y := by rw [hW]; simp [go_sem, ↓IntWalk.iteOmega, *]
        have d3 : W.frozen? ⟨G, f, none⟩ = false := by rw [hW]; simp [go_sem, ↓IntWalk.iteOmega, *]
        have hWb : Below wr.heap.size wr W := by rw [hW]; (repeat' (first | with_reducible exact Below.refl _ _ | with_reducible refine bl_drewN ?_ _ | with_reducible refine bl_drew ?_ | refine bl_set (by (first | omega | (simp; done) | (simp; omega))) ?_ _ | refine bl_alloc (by (first | omega | (simp; done) | (simp; omega))) ?_ _ | refine bl_then (by assumption) ?_ (by (first | omega | (simp; done) | (simp; omega))) | refine Step.bl (by assumption) (by assumption) (by (first | omega | (simp; done) | (simp; omega))) (by (first | omega | (simp; done) | (simp; omega))) ?_))
        have H1W := Lib.hid (H1.out.below hWb (by omega))
        have H2W := Lib.hid (H2.out.below hWb (by omega))
        have H3W := Lib.hid (bl_then (Lib.hid hWb) H3.out (by omega))
        have hszW : wr.heap.size < W.heap.size := by rw [hW]; simp
        clear hW c0 c1 c2 hfz hWb H1 H2 H3
        go_region_held3 (fun w' => w'.cell? ⟨wr.heap.size, 0, none⟩ = some (.pointer (some ⟨G, f, none⟩)) ∧ w'.cell? ⟨wr.heap.size, 1, none⟩ = some (.int .i64 z)) ((first | (refine ⟨?_, ?_⟩ <;> first | assumption | (simp [go_sem, ↓IntWalk.iteOmega, *]; done)) | assumption | (simp [go_sem, ↓IntWalk.iteOmega, *]; done))) (first
          | (go_at_call 83; refine (scGet_f L z (by omega) _).mono ?_; rintro e w1 ⟨rfl, hb⟩; have hcf := bcell hb; (try simp only [World.size_alloc, World.size_setCell, drew_size] at hcf); have hz := hb.size; (try simp only [World.size_alloc, World.size_setCell, drew_size] at hz); have hbh := Lib.hid hb; clear hb; obtain ⟨hc, hf⟩ := hcf))
        all_goals
          have hzb := hz
          have q1 := Lib.hid (((H1W.out.drew).belowH hbh (by simp; omega)).set_ f (.int .i64 0))
          have q3 := Lib.hid (bl_set (Nat.le_refl _) (bl_then hbh (bl_drew H3W.out) (by simp; omega)) (i := f) (.int .i64 0))
          rw [hset.out] at q1
          have hng : Hid (¬ Sc.good l) := Lib.hid (Sc.not_good_18 l (by have := hoff.out; omega))
          generalize Sc.setn (Sc.part l j) j 0 = o1 at *
          refine exit_gen _ (fun W3 hW3 => ?_)
          rw [← hW3] at q1 q3
          clear hW3 hc hf
          have r1 := q1.out.cell
          have r2 := q1.out.frozen
          go_wp2_with fail
          refine ret_op (G := G) (o := Sc.op0) (y := .string (Sc.S L)) (z := .bool false) rfl rfl rfl rfl (Blk.ops_to (p := Sc.op0) q1.out) rfl ⟨fun h => absurd h hng.out, fun _ => ⟨L, rfl⟩, ?_⟩
          rw [hGs]
          repeat' (refine bl_set (Nat.le_refl _) ?_ _)
          exact q3.out
    · have hge : (7 : Int) ≤ j := by omega
      have e7 : j = 7 := by omega
      rw [e7, ← Sc.parx_zero] at hb1
      have hs7 : Sc.off j = Sc.at_ l 0 := by rw [e7, Sc.at_zero]; rfl
      have H0 := Lib.hid hb1
      rw [hs7] at hjl ⊢
      clear H1 H2 hb1 hb2 hb3 e7 hs7
      go_wp2_with (go_at_call 56; refine (scTexts_any G _).mono ?_; rintro e wt ⟨rfl, htb, hbt⟩; have HTB := Lib.hid htb; have HBT := Lib.hid hbt; clear htb hbt)
      have I1 := Lib.hid (H0.out.belowH HBT (by omega))
      have I3 := Lib.hid (bl_then HBT H3.out (by omega))
      have hts := HTB.out.lt
      obtain ⟨T, hT⟩ : ∃ T, wr.heap.size = T := ⟨_, rfl⟩
      rw [hT] at HTB hsz hts ⊢
      clear H0 H3 HBT
      go_loopw [0, 4, 34] (fun s q i wr => ∃ (j : Nat) (u : Value), j ≤ 4 ∧ i = .int .i64 (j : Int) ∧ s = .string (Sc.S (l.drop (Sc.at_ l j))) ∧ q = u ∧ Sc.at_ l j ≤ l.length ∧ Blk wr G 34 (Sc.ops (Sc.parx l j)) ∧ Blk wr T 98 (Sc.tcs G) ∧ Below G w wr) (fun _ _ i _ => 4 - (intOf i).toNat)
      case atStart => exact ⟨0, _, Nat.zero_le _, rfl, rfl, rfl, hjl, I1.out, HTB.out, I3.out⟩
      case round =>
        obtain ⟨q, u, hq, rfl, rfl, rfl, hql, hb1, hb2, hb3⟩ := hrel
        have H1 := Lib.hid hb1
        have H2 := Lib.hid hb2
        have H3 := Lib.hid hb3
        have hszT := hb2.lt
        have hszG := hb1.lt
        clear HTB I1 I3 hts
        by_cases hlt4 : q < 4
        · have c0 := (hb2.cell q).trans (Sc.tcs_at G q hlt4)
          have hr1 := hb1.cell
          have hr2 := hb1.frozen
          obtain ⟨y, hy⟩ := Sc.ops_some (Sc.parx l q) (Sc.to q) (Sc.to_le q hlt4)
          have c2 := (hb1.cell (Sc.to q)).trans hy
          have hset := Lib.hid (fun x => Sc.ops_sett (Sc.parx l q) x q hlt4)
          have hparx := Lib.hid (Sc.parx_succ l q)
          have hats := Lib.hid (Sc.at_succ l q)
          have hvl := Sc.v_lt l (Sc.at_ l q) 2
          have hvd := Lib.hid (Sc.v_def l (Sc.at_ l q) 2)
          have hdl : (l.drop (Sc.at_ l q)).length = l.length - Sc.at_ l q := List.length_drop
          have hdd := Lib.hid (show (l.drop (Sc.at_ l q)).drop 2 = l.drop (Sc.at_ l q + 2) from List.drop_drop)
          have hd2 : (l.drop (Sc.at_ l q + 2)).length = l.length - (Sc.at_ l q + 2) := List.length_drop
          have hyy := Lib.hid hy
          clear hb1 hb2 hb3 hy
          have htxd := Lib.hid (show Sc.tx l q = (l.drop (Sc.at_ l q + 2)).take (Sc.v l (Sc.at_ l q) 2) from rfl)
          generalize Sc.to q = f at *
          generalize Sc.parx l q = o1 at *
          generalize l.drop (Sc.at_ l q) = L at *
          by_cases hen : 2 ≤ L.length
          · have HGT := Lib.hid (fun w => scGet_2t L hen w)
            rw [hdd.out.symm] at hd2 htxd
            rw [hvd.out] at hats hvl htxd
            by_cases hen2 : Sc.val (L.take 2) ≤ (L.drop 2).length
            · have hs1 := Sc.sl_S_hi (P := Try.prog) 9 (L.drop 2) (Sc.val (L.take 2)) Try.underlying9 hen2
              have hs2 := Sc.sl_S_lo (P := Try.prog) 9 (L.drop 2) (Sc.val (L.take 2)) Try.underlying9 hen2
              have hd3 : (L.drop 2).length = L.length - 2 := List.length_drop
              have hdr := Lib.hid (show (L.drop 2).drop (Sc.val (L.take 2)) = l.drop (Sc.at_ l (q + 1)) by rw [hats.out, hdd.out, List.drop_drop])
              have hatl := Lib.hid (show Sc.at_ l (q + 1) ≤ l.length by rw [hats.out]; omega)
              have hLm : (L.drop 2).length ≤ 9223372036854775807 := by omega
              rw [htxd.out] at hparx
              generalize Sc.val (L.take 2) = V at *
              generalize L.drop 2 = M at *
              go_wp2_with (go_at_call 83; refine (HGT.out _).mono ?_; rintro e w1 ⟨rfl, hb⟩; have HGB := Lib.hid hb; have hzg := hb.size; have r1 := (H1.out.below hb (by omega)).cell; have r2 := (H1.out.below hb (by omega)).frozen; clear hb)
              refine HL.go 7 (fun w' => True) (by kernel_rfl) (by kernel_rfl) trivial ?_ ?_
              · exact fun _ _ _ _ _ h => h
              simp only [List.take_succ_cons, List.take_zero]
              repeat ((first | (refine HL.wk_pure (v := ?_) (Or.inl ⟨by rfl, ?_⟩) ?_; rotate_left; (next => (intro w; go_simp; done))) | (refine HL.wk_pure (v := ?_) (Or.inl ⟨by rfl, ?_⟩) ?_; rotate_left; (next => (intro w; go_simp; with_reducible rfl))) | (refine HL.wk_load (v := ?_) (by kernel_rfl) (Or.inl ⟨by rfl, ?_⟩) ?_; rotate_left; (next => (intro w hSw; (try dsimp only at hSw); go_split_ands; go_simp; done))) | (refine HL.wk_load (v := ?_) (by kernel_rfl) (Or.inl ⟨by rfl, ?_⟩) ?_; rotate_left; (next => (intro w hSw; (try dsimp only at hSw); go_split_ands; go_simp; with_reducible rfl)))); (try simp only [Act.put, List.setIfInBounds_toArray, List.set_cons_zero, List.set_cons_succ]))
              refine HL.wk_nil ?_
              simp only [List.drop_succ_cons, List.drop_zero]
              have n1 := Lib.hid (((H1.out.belowH HGB (by omega)).drew).set_ f (.string (Sc.S (M.take V))))
              have n2 := Lib.hid ((H2.out.belowH HGB (by omega)).drew)
              have n3 := Lib.hid (bl_drew (bl_then HGB H3.out (by omega)))
              rw [hset.out, ← hparx.out] at n1
              have hrf := r2 f
              have hrc : ∃ u, (Sc.ops o1)[f]? = some u := ⟨y, hyy.out⟩
              obtain ⟨y2, hy2⟩ := hrc
              have hrd := (r1 f).trans hy2
              clear r1 r2
              go_wp2_with fail
              go_roundw
              case rel => exact ⟨q + 1, _, by omega, by go_num, by rw [hdr.out], rfl, hatl.out, n1.out, n2.out.far (by simp; omega) _, bl_set (Nat.le_refl _) n3.out _⟩
              case measure => simp [intOf]; omega
            · have hng : Hid (¬ Sc.good l) := Lib.hid (Sc.not_good_at l (q + 1) (by omega) (by rw [hats.out]; omega))
              have hLm : (L.drop 2).length ≤ 9223372036854775807 := by rw [hd2]; omega
              have hlt2 : (L.drop 2).length < Sc.val (L.take 2) := by omega
              clear hen2 hparx hset hdd hvd hats htxd
              generalize Sc.val (L.take 2) = V at *
              generalize L.drop 2 = M at *
              go_wp2_with (go_at_call 83; refine (HGT.out _).mono ?_; rintro e w1 ⟨rfl, hb⟩; have HGB := Lib.hid hb; have hzg := hb.size; have r1 := (H1.out.below hb (by omega)).cell; have r2 := (H1.out.below hb (by omega)).frozen; clear hb)
              refine ret_op (G := G) (o := Sc.op0) (y := .string (Sc.S M)) (z := .bool false) rfl rfl rfl rfl (Blk.ops_to (p := Sc.op0) (H1.out.belowH HGB (by omega))) rfl ⟨fun h => absurd h hng.out, fun _ => ⟨M, rfl⟩, ?_⟩
              rw [hGs]
              repeat' (refine bl_set (Nat.le_refl _) ?_ _)
              exact bl_then HGB H3.out (by omega)
          · have hng : Hid (¬ Sc.good l) := Lib.hid (Sc.not_good_at l (q + 1) (by omega) (by rw [hats.out]; omega))
            clear hdd hd2 hparx hvd hset htxd
            go_wp2_with (go_at_call 83; refine (scGet_2f L (by omega) _).mono ?_; rintro e w1 ⟨rfl, hb⟩; have HGB := Lib.hid hb; have hzg := hb.size; have r1 := (H1.out.below hb (by omega)).cell; have r2 := (H1.out.below hb (by omega)).frozen; clear hb)
            refine ret_op (G := G) (o := Sc.op0) (y := .string (Sc.S L)) (z := .bool false) rfl rfl rfl rfl (Blk.ops_to (p := Sc.op0) (H1.out.belowH HGB (by omega))) rfl ⟨fun h => absurd h hng.out, fun _ => ⟨L, rfl⟩, ?_⟩
            rw [hGs]
            repeat' (refine bl_set (Nat.le_refl _) ?_ _)
            exact bl_then HGB H3.out (by omega)
        · have hge4 : (4 : Int) ≤ q := by omega
          have e4 : q = 4 := by omega
          rw [e4, Sc.parx_end] at hb1
          have hgd : Hid (Sc.good l) := Lib.hid (by rw [e4] at hql; exact hql)
          have H4 := Lib.hid hb1
          have r1 := hb1.cell
          have r2 := hb1.frozen
          clear H1 H2 hb1 hb2 hb3
          go_wp2_with fail
          refine ret_op (G := G) (o := Sc.opOf l) (y := .string (Sc.S (l.drop (Sc.at_ l 4)))) (z := .bool true) rfl rfl (by rw [← e4]; rfl) rfl (Blk.ops_to (p := Sc.opOf l) H4.out) rfl ⟨fun _ => rfl, fun h => absurd hgd.out h, ?_⟩
          rw [hGs]
          repeat' (refine bl_set (Nat.le_refl _) ?_ _)
          exact H3.out
end Go.Proofs.Ytflapbnbeipddaa
