/- The document's First. No condition. -/
import Derived.Test.YtflapbnbeipddaaScT
namespace Go.Proofs.Ytflapbnbeipddaa
open Go.RowKit
set_option linter.unusedSimpArgs false
set_option linter.unusedVariables false
attribute [local go_sem] IntKind.wrap_u32' signed_u32 max_u32
attribute [local go_sem ↓] Go.wp_at_zero Go.wp_at_succ
attribute [local go_sem] Calm.C
attribute [local go_sem low] Calm.al_cell Calm.al_frozen
attribute [local go_sem] Sc.S_size Sc.ops
theorem ret_opn {fn : Func} {R : Ending → World → Prop} {a : Act} {w : World} {t u : Tmp} {G : Nat} {o : Sc.Op} {y : Value} (hr : fn.results = #[.cell t 34, .tmp u])
    (ht : a.tmps.getD t undef = .pointer (some ⟨G, 0, none⟩)) (hu : a.tmps.getD u undef = y) (hb : Blk w G 34 (Sc.ops o)) (hd : a.defers = []) (hR : R (.returned (.tuple #[.agg (Sc.ops o), y])) w) : bodyPost Try.prog fn R .ret a w := by
  refine bodyPost_ret (v := .tuple #[.agg (Sc.ops o), y]) ?_ hd hR
  have ht' : a.tmps[t]?.getD undef = .pointer (some ⟨G, 0, none⟩) := by simpa using ht
  have hu' : a.tmps[u]?.getD undef = y := by simpa using hu
  have hc := hb.cell
  simp [results, hr, ht', hu', go_sem, hc, Sc.ops]
namespace Sc
def tarr (l : Bs) (i : Nat) : Array Value := #[.string (S (if 0 < i then tx l 0 else [])), .string (S (if 1 < i then tx l 1 else [])), .string (S (if 2 < i then tx l 2 else [])), .string (S (if 3 < i then tx l 3 else []))]
theorem tarr_set (l : Bs) : ∀ i, i < 4 → (tarr l i).setIfInBounds i (.string (S (tx l i))) = tarr l (i + 1) := four rfl rfl rfl rfl
theorem tarr_some (l : Bs) (q : Nat) : ∀ i, i < 4 → ∃ u, (tarr l q)[i]? = some u := four ⟨_, rfl⟩ ⟨_, rfl⟩ ⟨_, rfl⟩ ⟨_, rfl⟩
def opn (l : Bs) : Op := { op0 with k := v l 0 1, p := v l 1 1, c := v l 2 2, o := v l 4 2, l := v l 6 4, it := v l 10 4, on := v l 14 4 }
theorem not_good_26 (l : Bs) (h : l.length < 26) : ¬ good l := fun h1 => by
  have h2 := at_ge l
  have h3 : at_ l 4 ≤ l.length := h1
  omega
theorem v_slice (l : Bs) (a b : Nat) : val ((l.drop a).take (b - a)) = v l a (b - a) := rfl
end Sc
theorem _root_.Go.RowKit.Below.trans_to {B C : Nat} {w W W1 : World} (k : Below C W W1) (h : Below B w W) (hB : B ≤ C) : Below B w W1 := ⟨k.os.trans h.os, k.tape.trans h.tape, k.output.trans h.output, Nat.le_trans h.size k.size, fun i hi => (k.block i (by omega)).trans (h.block i hi)⟩
theorem vq (l : Sc.Bs) (a b : Nat) (c : Nat) (h : b - a = c) (hc : c ≤ 4) : ∃ M, (Sc.S l).extract a b = Sc.S M ∧ Hid (∀ w, Calls Try.prog 84 #[.string (Sc.S M)] w fun e w' => e = .returned (.int .i64 (Sc.v l a c : Nat)) ∧ Below w.heap.size w w') :=
  ⟨_, Sc.S_ext l a b, Lib.hid fun w => by
    have := scValue_any ((l.drop a).take (b - a)) (by simp; omega) w
    rw [h] at this ⊢
    exact this⟩
theorem tarr_at (l : Sc.Bs) : (Sc.tarr l 4)[0]? = some (.string (Sc.S (Sc.tx l 0))) ∧ (Sc.tarr l 4)[1]? = some (.string (Sc.S (Sc.tx l 1))) ∧ (Sc.tarr l 4)[2]? = some (.string (Sc.S (Sc.tx l 2))) ∧ (Sc.tarr l 4)[3]? = some (.string (Sc.S (Sc.tx l 3))) := ⟨rfl, rfl, rfl, rfl⟩
attribute [local irreducible] Sc.v Sc.at_ Sc.tx Sc.val
set_option maxRecDepth 20000 in
set_option maxHeartbeats 8000000 in
theorem rScFirst_any (l : Sc.Bs) (hl : l.length ≤ 1152921504606846975) (w : World) :
    Calls Try.prog 62 #[.string (Sc.S l)] w fun e w' => (Sc.good l → e = .returned (.tuple #[.agg (Sc.ops (Sc.opOf l)), .int .i64 (Sc.at_ l 4 : Nat)])) ∧ (¬ Sc.good l → e = .returned (.tuple #[.agg (Sc.ops Sc.op0), .int .i64 0])) ∧ Below w.heap.size w w' := by
  obtain ⟨G, hGs⟩ : ∃ G, w.heap.size = G := ⟨_, rfl⟩
  by_cases h26 : l.length < 26
  · have hng := Lib.hid (Sc.not_good_26 l h26)
    have b1 : Hid (Blk ((w.alloc (.cells (Sc.ops Sc.op0) 34)).alloc (.cells (Sc.ops Sc.op0) 34)) G 34 (Sc.ops Sc.op0)) := Lib.hid ((Blk.newAt hGs).alloc _)
    go_enter Try.func62, Try.ntmps62
    go_wp2_with fail
    refine ret_opn (G := G) (o := Sc.op0) (y := .int .i64 0) rfl rfl rfl b1.out rfl ⟨fun h => absurd h hng.out, fun _ => rfl, ?_⟩
    (repeat' (first | with_reducible exact Below.refl _ _ | with_reducible refine bl_drewN ?_ _ | with_reducible refine bl_drew ?_ | refine bl_set (by (first | omega | (simp; done) | (simp; omega))) ?_ _ | refine bl_alloc (by (first | omega | (simp; done) | (simp; omega))) ?_ _ | refine bl_then (by assumption) ?_ (by (first | omega | (simp; done) | (simp; omega))) | refine Step.bl (by assumption) (by assumption) (by (first | omega | (simp; done) | (simp; omega))) (by (first | omega | (simp; done) | (simp; omega))) ?_))
  · have b1 : Hid (Blk (((w.alloc (.cells (Sc.ops Sc.op0) 34)).alloc (.cells (Sc.ops Sc.op0) 34)).alloc (.cells (Sc.tarr l 0) 126)) G 34 (Sc.ops Sc.op0)) := Lib.hid (((Blk.newAt hGs).alloc _).alloc _)
    have b2 : Hid (Blk (((w.alloc (.cells (Sc.ops Sc.op0) 34)).alloc (.cells (Sc.ops Sc.op0) 34)).alloc (.cells (Sc.tarr l 0) 126)) (G + 1) 34 (Sc.ops Sc.op0)) := Lib.hid ((Blk.newAt (by simp [hGs])).alloc _)
    have b3 : Hid (Blk (((w.alloc (.cells (Sc.ops Sc.op0) 34)).alloc (.cells (Sc.ops Sc.op0) 34)).alloc (.cells (Sc.tarr l 0) 126)) (G + 2) 126 (Sc.tarr l 0)) := Lib.hid (Blk.newAt (by simp [hGs]))
    have h18 : Hid (Sc.at_ l 0 = 18) := Lib.hid (Sc.at_zero l)
    go_enter Try.func62, Try.ntmps62
    go_wp2_with fail
    go_loopw [6, 7, 8] (fun a i d wr => ∃ (q : Nat) (u : Value), q ≤ 4 ∧ i = .int .i64 (q : Int) ∧ a = .int .i64 (Sc.at_ l q : Nat) ∧ d = u ∧ Sc.at_ l q ≤ l.length ∧ Blk wr G 34 (Sc.ops Sc.op0) ∧ Blk wr (G + 1) 34 (Sc.ops Sc.op0) ∧ Blk wr (G + 2) 126 (Sc.tarr l q) ∧ Below w.heap.size w wr) (fun _ i _ _ => 4 - (intOf i).toNat)
    case atStart => exact ⟨0, _, Nat.zero_le _, rfl, by rw [h18.out]; rfl, rfl, by rw [h18.out]; omega, b1.out, b2.out, b3.out, by (repeat' (first | with_reducible exact Below.refl _ _ | with_reducible refine bl_drewN ?_ _ | with_reducible refine bl_drew ?_ | refine bl_set (by (first | omega | (simp; done) | (simp; omega))) ?_ _ | refine bl_alloc (by (first | omega | (simp; done) | (simp; omega))) ?_ _ | refine bl_then (by assumption) ?_ (by (first | omega | (simp; done) | (simp; omega))) | refine Step.bl (by assumption) (by assumption) (by (first | omega | (simp; done) | (simp; omega))) (by (first | omega | (simp; done) | (simp; omega))) ?_))⟩
    case round =>
      obtain ⟨q, u, hq, rfl, rfl, rfl, hql, hb1, hb2, hb3, hb4⟩ := hrel
      have B1 := Lib.hid hb1
      have B2 := Lib.hid hb2
      have B3 := Lib.hid hb3
      have B4 := Lib.hid hb4
      have hsz := hb3.lt
      clear b1 b2 b3
      by_cases hlt4 : q < 4
      · obtain ⟨y, hy⟩ := Sc.tarr_some l q q hlt4
        have c2 := (hb3.cell q).trans hy
        have hrf := hb3.frozen q
        have hset := Lib.hid (Sc.tarr_set l q hlt4)
        have hats := Lib.hid (Sc.at_succ l q)
        have hvl := Sc.v_lt l (Sc.at_ l q) 2
        have hvd := Lib.hid (Sc.v_def l (Sc.at_ l q) 2)
        have htxd := Lib.hid (show Sc.tx l q = (l.drop (Sc.at_ l q + 2)).take (Sc.v l (Sc.at_ l q) 2) by unfold Sc.tx; rfl)
        clear hb1 hb2 hb3 hb4 hy
        by_cases hen : Sc.at_ l q + 2 ≤ l.length
        · have hs1 := Sc.S_ext l (Sc.at_ l q) (Sc.at_ l q + 2)
          rw [show Sc.at_ l q + 2 - Sc.at_ l q = 2 by omega] at hs1
          have HV := Lib.hid (fun w => scValue_any ((l.drop (Sc.at_ l q)).take 2) (by simp; omega) w)
          rw [← hvd.out] at HV
          by_cases hen2 : Sc.at_ l (q + 1) ≤ l.length
          · have hs2 := Sc.S_ext l (Sc.at_ l q + 2) (Sc.at_ l q + 2 + Sc.v l (Sc.at_ l q) 2)
            rw [show Sc.at_ l q + 2 + Sc.v l (Sc.at_ l q) 2 - (Sc.at_ l q + 2) = Sc.v l (Sc.at_ l q) 2 by omega, ← htxd.out] at hs2
            have hle : Sc.at_ l q + 2 + Sc.v l (Sc.at_ l q) 2 ≤ l.length := by have := hats.out; omega
            clear htxd hvd
            clear hen2
            generalize Sc.v l (Sc.at_ l q) 2 = V at *
            generalize Sc.at_ l q = a at *
            generalize (l.drop a).take 2 = M at *
            generalize Sc.tx l q = X at *
            go_wp2_with (go_at_call 84; refine (HV.out _).mono ?_; rintro e w1 ⟨rfl, hb⟩; have hcf := bcell hb; (try simp only [World.size_alloc, World.size_setCell, drew_size] at hcf); have hz := hb.size; (try simp only [World.size_alloc, World.size_setCell, drew_size] at hz); have hbh := Lib.hid hb; clear hb; obtain ⟨hc, hf⟩ := hcf)
            refine ⟨⟨q + 1, _, by omega, by go_num, by rw [hats.out]; go_num, rfl, by rw [hats.out]; exact hle, (B1.out.belowH hbh (by omega)).far (by simp; omega) _, (B2.out.belowH hbh (by omega)).far (by simp) _, ?_, ?_⟩, by simp [intOf]; omega⟩
            · have h3 := (B3.out.belowH hbh (by omega)).set_ q (.string (Sc.S X))
              rw [hset.out] at h3
              exact h3
            · exact bl_set (by omega) (bl_then hbh B4.out B4.out.size) _
          · have hng : Hid (¬ Sc.good l) := Lib.hid (Sc.not_good_at l (q + 1) (by omega) (by omega))
            have hvb : ¬ (Sc.at_ l q + 2 + Sc.v l (Sc.at_ l q) 2 ≤ l.length) := by have := hats.out; omega
            have hB4s := B4.out.size
            clear htxd hvd hset hats hen2
            generalize Sc.v l (Sc.at_ l q) 2 = V at *
            generalize Sc.at_ l q = a at *
            generalize (l.drop a).take 2 = M at *
            have hvb2 : (l.length : Int) < (a : Int) + 2 + V := by omega
            go_wp2_with (go_at_call 84; refine (HV.out _).mono ?_; rintro e w1 ⟨rfl, hb⟩; have HGB := Lib.hid hb; have hzg := hb.size; have r1 := (B1.out.below hb (by omega)).cell; have r2 := (B1.out.below hb (by omega)).frozen; clear hb)
            refine ret_opn (G := G) (o := Sc.op0) (y := .int .i64 0) rfl rfl rfl (Blk.ops_to (p := Sc.op0) (B1.out.belowH HGB (by omega))) rfl ⟨fun h => absurd h hng.out, fun _ => rfl, ?_⟩
            repeat' (refine bl_set (by omega) ?_ _)
            exact bl_then HGB B4.out (by omega)
        · have hng : Hid (¬ Sc.good l) := Lib.hid (Sc.not_good_at l (q + 1) (by omega) (by have := hats.out; omega))
          have hB4s := B4.out.size
          have r1 := B1.out.cell
          have r2 := B1.out.frozen
          clear htxd hvd hset hats
          generalize Sc.at_ l q = a at *
          go_wp2_with fail
          refine ret_opn (G := G) (o := Sc.op0) (y := .int .i64 0) rfl rfl rfl (Blk.ops_to (p := Sc.op0) B1.out) rfl ⟨fun h => absurd h hng.out, fun _ => rfl, ?_⟩
          repeat' (refine bl_set (by omega) ?_ _)
          exact B4.out
      · have hge : (4 : Int) ≤ q := by omega
        have e4 : q = 4 := by omega
        rw [e4] at hb3
        have hgd : Hid (Sc.good l) := Lib.hid (by rw [e4] at hql; exact hql)
        have HAT := Lib.hid (show Sc.at_ l q = Sc.at_ l 4 by rw [e4])
        have h26' : 26 ≤ l.length := by omega
        have R1 := Lib.hid hb1
        have R2 := Lib.hid hb2
        have R3 := Lib.hid hb3
        clear B1 B2 B3 hb1 hb2 hb3 hb4 e4
        obtain ⟨M0, x0, VQ0⟩ := vq l 0 1 1 rfl (by decide)
        obtain ⟨M1, x1, VQ1⟩ := vq l 1 2 1 rfl (by decide)
        obtain ⟨M2, x2, VQ2⟩ := vq l 2 4 2 rfl (by decide)
        obtain ⟨M3, x3, VQ3⟩ := vq l 4 6 2 rfl (by decide)
        obtain ⟨M4, x4, VQ4⟩ := vq l 6 10 4 rfl (by decide)
        obtain ⟨M5, x5, VQ5⟩ := vq l 10 14 4 rfl (by decide)
        obtain ⟨M6, x6, VQ6⟩ := vq l 14 18 4 rfl (by decide)
        have hop := Lib.hid (show Sc.opOf l = { k := (Sc.v l 0 1 : Nat), p := (Sc.v l 1 1 : Nat), c := (Sc.v l 2 2 : Nat), l := (Sc.v l 6 4 : Nat), s := Sc.tx l 0, o := (Sc.v l 4 2 : Nat), sa := Sc.tx l 1, it := (Sc.v l 10 4 : Nat), r := Sc.tx l 2, ot := Sc.tx l 3, on := (Sc.v l 14 4 : Nat) } from rfl)
        have hta := tarr_at l
        have t0 := (R3.out.cell 0).trans hta.1
        have t1 := (R3.out.cell 1).trans hta.2.1
        have t2 := (R3.out.cell 2).trans hta.2.2.1
        have t3 := (R3.out.cell 3).trans hta.2.2.2
        have hB4s := B4.out.size
        clear hta
        generalize Sc.v l 0 1 = N0 at *
        generalize Sc.v l 1 1 = N1 at *
        generalize Sc.v l 2 2 = N2 at *
        generalize Sc.v l 4 2 = N3 at *
        generalize Sc.v l 6 4 = N4 at *
        generalize Sc.v l 10 4 = N5 at *
        generalize Sc.v l 14 4 = N6 at *
        generalize Sc.tx l 0 = X0 at *
        generalize Sc.tx l 1 = X1 at *
        generalize Sc.tx l 2 = X2 at *
        generalize Sc.tx l 3 = X3 at *
        go_wp2_with fail
        (refine Calm.go 22 (by kernel_rfl) (by kernel_rfl) (by kernel_rfl) ?_; intro w0 hw0; have hr := Calm.rule hw0; simp only [Calm.heads, Calm.isAlloc]; haveI hnon : Nonempty (Ext (Below w0.heap.size w0)) := ⟨⟨w0, Below.refl _ _⟩⟩; (repeat (go_big_quiet_step (first | (go_at_call 84; with_reducible exact Ext.calm below_calm (VQ0.out _)) | (go_at_call 84; with_reducible exact Ext.calm below_calm (VQ1.out _)) | (go_at_call 84; with_reducible exact Ext.calm below_calm (VQ2.out _)) | (go_at_call 84; with_reducible exact Ext.calm below_calm (VQ3.out _)) | (go_at_call 84; with_reducible exact Ext.calm below_calm (VQ4.out _)) | (go_at_call 84; with_reducible exact Ext.calm below_calm (VQ5.out _)) | (go_at_call 84; with_reducible exact Ext.calm below_calm (VQ6.out _))))); refine wpQuiet_nil ?_; clear hnon hr hw0; clear w0; (repeat refine Calm.n_skip rfl ?_); refine Calm.n_zero ?_; intro WP hbP hsP; simp only [List.drop_succ_cons, List.drop_zero]; obtain ⟨hcP, hfP⟩ := bcell hbP; (try simp only [World.size_alloc, World.size_setCell, drew_size] at hcP hfP); have hzP := hbP.size; have hbhP := Lib.hid hbP; clear hsP hbP; (try simp only [World.size_alloc, World.size_setCell, World.size_drew] at hzP))
        have y1 := Lib.hid (R1.out.belowH hbhP (by omega))
        have y2 := Lib.hid (R2.out.belowH hbhP (by omega))
        have r1 := y1.out.cell
        have r2 := y1.out.frozen
        have r3 := y2.out.cell
        have r4 := y2.out.frozen
        have u0 : WP.cell? ⟨G + 2, 0, none⟩ = _ := (hbhP.out.cell (p := ⟨G + 2, 0, none⟩) (by show G + 2 < _; omega)).trans t0
        have u1 : WP.cell? ⟨G + 2, 1, none⟩ = _ := (hbhP.out.cell (p := ⟨G + 2, 1, none⟩) (by show G + 2 < _; omega)).trans t1
        have u2 : WP.cell? ⟨G + 2, 2, none⟩ = _ := (hbhP.out.cell (p := ⟨G + 2, 2, none⟩) (by show G + 2 < _; omega)).trans t2
        have u3 : WP.cell? ⟨G + 2, 3, none⟩ = _ := (hbhP.out.cell (p := ⟨G + 2, 3, none⟩) (by show G + 2 < _; omega)).trans t3
        clear t0 t1 t2 t3 hcP hfP
        go_step
        go_step
        go_step
        go_step
        refine exit_gen _ (fun W1 hW1 => ?_)
        have z2 : Hid (Blk W1 (G + 1) 34 (Sc.ops ⟨(N0 : Nat), (N1 : Nat), (N2 : Nat), (N4 : Nat), [], (N3 : Nat), [], (N5 : Nat), [], [], (N6 : Nat)⟩)) := Lib.hid (by rw [hW1]; exact Blk.ops_to (p := ⟨(N0 : Nat), (N1 : Nat), (N2 : Nat), (N4 : Nat), [], (N3 : Nat), [], (N5 : Nat), [], [], (N6 : Nat)⟩) y2.out)
        have hlow : Below (G + 1) WP W1 := by rw [hW1]; repeat' (first | with_reducible exact Below.refl _ _ | refine bl_set (Nat.le_refl _) ?_ _)
        have hhigh : ∀ o, W1.cell? ⟨G + 2, o, none⟩ = WP.cell? ⟨G + 2, o, none⟩ := fun o => by rw [hW1]; simp [go_sem, ↓IntWalk.iteOmega]
        have z1 := Lib.hid (y1.out.below hlow (by omega))
        have z4 := Lib.hid (bl_then hbhP B4.out hB4s)
        have z5 := Lib.hid hlow
        have v0 := (hhigh 0).trans u0
        have v1 := (hhigh 1).trans u1
        have v2 := (hhigh 2).trans u2
        have v3 := (hhigh 3).trans u3
        clear r1 r2 r3 r4 u0 u1 u2 u3 hhigh hlow hW1 y1 y2 x0 x1 x2 x3 x4 x5 x6 VQ0 VQ1 VQ2 VQ3 VQ4 VQ5 VQ6
        have r3 := z2.out.cell
        have r4 := z2.out.frozen
        have r1 := z1.out.cell
        have r2 := z1.out.frozen
        go_wp2_with fail
        have f1 := (((z1.out.far (p := ⟨G + 1, 4, none⟩) (by simp) (.string (Sc.S X0))).far (p := ⟨G + 1, 6, none⟩) (by simp) (.string (Sc.S X1))).far (p := ⟨G + 1, 8, none⟩) (by simp) (.string (Sc.S X2))).far (p := ⟨G + 1, 9, none⟩) (by simp) (.string (Sc.S X3))
        refine ret_opn (G := G) (o := ⟨(N0 : Nat), (N1 : Nat), (N2 : Nat), (N4 : Nat), X0, (N3 : Nat), X1, (N5 : Nat), X2, X3, (N6 : Nat)⟩) (y := .int .i64 (Sc.at_ l q : Nat)) rfl rfl rfl (Blk.ops_to (p := ⟨(N0 : Nat), (N1 : Nat), (N2 : Nat), (N4 : Nat), X0, (N3 : Nat), X1, (N5 : Nat), X2, X3, (N6 : Nat)⟩) f1) rfl ⟨fun _ => by rw [hop.out, HAT.out], fun h => absurd hgd.out h, ?_⟩
        repeat' (refine bl_set (by omega) ?_ _)
        exact z5.out.trans_to z4.out (by omega)
end Go.Proofs.Ytflapbnbeipddaa
