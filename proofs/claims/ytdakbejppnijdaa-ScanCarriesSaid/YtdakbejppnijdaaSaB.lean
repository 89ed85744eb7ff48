/- scan.run. No condition. -/
import Derived.Test.YtdakbejppnijdaaSaA
import Derived.Test.YtdakbejppnijdaaSjJ
import Derived.Test.YtdakbejppnijdaaWords
namespace Go.Proofs.Ytdakbejppnijdaa
open Go.RowKit Go.Shelf
set_option linter.unusedSimpArgs false
set_option linter.unusedVariables false
attribute [local go_sem] IntKind.wrap_u32' signed_u32 max_u32
attribute [local go_sem ↓] Go.wp_at_zero Go.wp_at_succ
attribute [local go_sem] Oper.semAt_some
attribute [local go_sem] wide_fn wide_all
attribute [local go_sem] Calm.C
attribute [local go_sem low] Calm.al_cell Calm.al_frozen
theorem wpIn_gen {F : Fence} {n : Nat} {P : Program} {c : Code} {Q : Exit → Act → World → Prop} {a : Act} (w : World) (h : ∀ W, W = w → c.wpIn F n P Q a W) : c.wpIn F n P Q a w := h w rfl
theorem rd_gen {K : Act → World → Prop} {a : Act} (w : World) (h : ∀ W, W = w → K a W) : K a w := h w rfl
namespace Iv
variable {w W W' : World} {p g lp top : Nat} {FL NB : Nat → Prop} {ws : List Int} {E : List Ev}
theorem load (h : Iv w p g lp FL top NB ws E W) (he : E.length < 1099511627776) (a : Int) (i : Nat) (ha : a = i) (hi : i < top) :
    Calls Try.prog 77 #[.pointer (some ⟨p, 0, none⟩), .int .i64 a] W fun e w' => e = .returned (.agg #[.int .u32 (ws.getD i 0)]) ∧ Iv w p g lp FL top NB ws (E ++ [⟨1, (i : Int), 0⟩]) w' ∧ Kp NB W w' :=
  h.call (R := fun e => e = .returned (.agg #[.int .u32 (ws.getD i 0)])) fun F hF => ALoad_e hF he a i ha hi
theorem store (h : Iv w p g lp FL top NB ws E W) (he : E.length < 1099511627776) (a : Int) (i : Nat) (ha : a = i) (hi : i < top) (y : Int) :
    Calls Try.prog 78 #[.pointer (some ⟨p, 0, none⟩), .int .i64 a, .agg #[.int .u32 y]] W fun e w' => e = .returned (.bool true) ∧ Iv w p g lp FL top NB (ws.set i y) (E ++ [⟨2, (i : Int), 0⟩]) w' ∧ Kp NB W w' :=
  h.call (R := fun e => e = .returned (.bool true)) fun F hF => AStore_e hF he a i ha hi y
theorem nb (h : Iv w p g lp FL top NB ws E W) {b : Nat} (hb : NB b) : b < W.heap.size := by obtain ⟨_, _, _, _, h⟩ := h; exact (h b hb).1
theorem Kp.cell (h : Kp NB W W') {b : Nat} (hb : NB b) (hs : b < W.heap.size) (o : Nat) : W'.cell? ⟨b, o, none⟩ = W.cell? ⟨b, o, none⟩ := World.cell?_of_block (a := ⟨b, o, none⟩) (h.2 b hb hs)
theorem Kp.frozen (h : Kp NB W W') {b : Nat} (hb : NB b) (hs : b < W.heap.size) (o : Nat) : W'.frozen? ⟨b, o, none⟩ = W.frozen? ⟨b, o, none⟩ := World.frozen?_of_block (a := ⟨b, o, none⟩) (h.2 b hb hs)
end Iv
namespace Sa
/-- The sum and the words behind some rounds. -/
def st (gg : Int → Int → Int) (at_ : Nat) (late : Bool) (ws : List Int) (pre : List Nat) : Int × List Int :=
  pre.foldl (fun s i => (gg s.1 (s.2.getD (at_ + i) 0), s.2.set (at_ + i) (if late then s.1 else gg s.1 (s.2.getD (at_ + i) 0)))) (0, ws)
theorem st_nil (gg : Int → Int → Int) (at_ : Nat) (late : Bool) (ws : List Int) : st gg at_ late ws [] = (0, ws) := rfl
theorem st_snoc (gg : Int → Int → Int) (at_ : Nat) (late : Bool) (ws : List Int) (pre : List Nat) (i : Nat) : st gg at_ late ws (pre ++ [i]) = (gg (st gg at_ late ws pre).1 ((st gg at_ late ws pre).2.getD (at_ + i) 0), (st gg at_ late ws pre).2.set (at_ + i) (if late then (st gg at_ late ws pre).1 else gg (st gg at_ late ws pre).1 ((st gg at_ late ws pre).2.getD (at_ + i) 0))) := by
  unfold st
  rw [List.foldl_append]
  rfl
def ev (at_ : Nat) (pre : List Nat) : List Ev := pre.flatMap fun i => [⟨1, ((at_ + i : Nat) : Int), 0⟩, ⟨2, ((at_ + i : Nat) : Int), 0⟩]
theorem ev_snoc (at_ : Nat) (pre : List Nat) (i : Nat) : ev at_ (pre ++ [i]) = ev at_ pre ++ [⟨1, ((at_ + i : Nat) : Int), 0⟩] ++ [⟨2, ((at_ + i : Nat) : Int), 0⟩] := by
  unfold ev
  rw [List.flatMap_append]
  simp
theorem ev_len (at_ : Nat) : ∀ pre : List Nat, (ev at_ pre).length = 2 * pre.length
  | [] => rfl
  | i :: pre => by
    have := ev_len at_ pre
    unfold ev at this ⊢
    rw [List.flatMap_cons, List.length_append, this]
    simp
    omega
end Sa
attribute [local irreducible] Sa.st Sa.ev
set_option maxRecDepth 100000 in
set_option maxHeartbeats 4000000 in
theorem saRun_any {w : World} {p g lp : Nat} {FL : Nat → Prop} {ws : List Int} {top : Nat} {evs : List Ev} (h : Ar w p g lp FL ws top evs) {gf m : Nat} {xs : List Nat} (hit : Sa.It gf m xs) (Bn : Nat) (hBn : Bn < w.heap.size) (hBf : ¬ AF p g FL Bn) (hBc : w.cell? ⟨Bn, 0, none⟩ = some (.int .i64 m))
    (at_ : Nat) (hat : at_ + m ≤ top) (he : evs.length < 900000000000) (late : Bool) (fop : Nat) (gg : Int → Int → Int) (hope : ∀ args w, (callFunc fop args).run Try.prog w = .ok (.enter fop args) w) (hop : ∀ (x y : Int) (w : World), Calls Try.prog fop #[.agg #[.int .u32 x], .agg #[.int .u32 y]] w fun e w' => e = .returned (.agg #[.int .u32 (gg x y)]) ∧ Below w.heap.size w w') :
    Calls Try.prog 63 #[.pointer (some ⟨p, 0, none⟩), .int .i64 at_, .func (.func gf) #[] #[.pointer (some ⟨Bn, 0, none⟩)], .bool late, .func (.func fop) #[] #[]] w fun e w' => e = .returned (.agg #[.int .u32 (Sa.st gg at_ late ws xs).1]) ∧
      ∃ FL', Ar w' p g lp FL' (Sa.st gg at_ late ws xs).2 top (evs ++ Sa.ev at_ xs) ∧ Step (AF p g FL) (AF p g FL') w w' := by
  have htop : (top : Int) ≤ 4194304 := by have := h.ht; have := h.hz; omega
  have HA := Lib.hid h
  have HIT := Lib.hid hit
  have HOP := Lib.hid hop
  have HM := Lib.hid h.most
  have hm := hit.len
  clear h hit hop
  refine (callsIn_wide (n := 3)).1 ?_
  refine callsIn_of_wp_marks Try.func63 rfl trivial ?_ rfl
  simp only [Try.ntmps63, List.size_toArray, List.length_cons, List.length_nil, Nat.reduceAdd, Nat.reduceSub, Array.replicate_succ, Array.replicate_zero, List.push_toArray, List.append_toArray, List.nil_append, List.cons_append]
  gi_wp2_with (gi_at_call 62; refine (callsIn_wide.2 (Of_any _ _)).mono ?_; rintro e wf ⟨rfl, hb⟩; have hcf := bcell hb; (try simp only [World.size_alloc, World.size_setCell, drew_size] at hcf); have hz := hb.size; (try simp only [World.size_alloc, World.size_setCell, World.size_drew] at hz); have hbh := Lib.hid hb; clear hb; obtain ⟨hc, hf⟩ := hcf)
  refine wpIn_gen _ ?_
  intro W0 hW0
  have hB0 : Below w.heap.size w W0 := by
    rw [hW0]
    (repeat' (first | with_reducible exact Below.refl _ _ | with_reducible refine bl_drewN ?_ _ | with_reducible refine bl_drew ?_ | refine bl_set (by (first | omega | (simp; done) | (simp; omega))) ?_ _ | refine bl_alloc (by (first | omega | (simp; done) | (simp; omega))) ?_ _ | refine bl_then (by assumption) ?_ (by (first | omega | (simp; done) | (simp; omega))) | refine Step.bl (by assumption) (by assumption) (by (first | omega | (simp; done) | (simp; omega))) (by (first | omega | (simp; done) | (simp; omega))) ?_))
  have c5 : W0.cell? ⟨w.heap.size, 0, none⟩ = some (.pointer (some ⟨p, 0, none⟩)) := by rw [hW0]; simp [go_sem, ↓IntWalk.iteOmega, *]
  have c6 : W0.cell? ⟨w.heap.size + 1, 0, none⟩ = some (.int .i64 at_) := by rw [hW0]; simp [go_sem, ↓IntWalk.iteOmega, *]
  have c8 : W0.cell? ⟨w.heap.size + 1 + 1, 0, none⟩ = some (.bool late) := by rw [hW0]; simp [go_sem, ↓IntWalk.iteOmega, *]
  have c9 : W0.cell? ⟨w.heap.size + 1 + 1 + 1, 0, none⟩ = some (.func (.func fop) #[] #[]) := by rw [hW0]; simp [go_sem, ↓IntWalk.iteOmega, *]
  have c10 : W0.cell? ⟨w.heap.size + 1 + 1 + 1 + 1, 0, none⟩ = some (.int .u32 0) := by rw [hW0]; simp [go_sem, ↓IntWalk.iteOmega, *]
  have f10 : W0.frozen? ⟨w.heap.size + 1 + 1 + 1 + 1, 0, none⟩ = false := by rw [hW0]; simp [go_sem, ↓IntWalk.iteOmega, *]
  have c11 : W0.cell? ⟨wf.heap.size, 0, none⟩ = some (.int .u32 0) := by rw [hW0]; simp
  have f11 : W0.frozen? ⟨wf.heap.size, 0, none⟩ = false := by rw [hW0]; simp
  have zH : wf.heap.size < W0.heap.size := World.block_lt_of_cell? W0 ⟨_, 0, none⟩ c11
  clear hW0 hc hf hbh
  obtain ⟨G, hG⟩ : ∃ G, w.heap.size = G := ⟨_, rfl⟩
  obtain ⟨H, hH⟩ : ∃ H, wf.heap.size = H := ⟨_, rfl⟩
  simp only [hG, hH] at c5 c6 c8 c9 c10 f10 c11 f11 zH hz ⊢
  obtain ⟨NB, hNB⟩ : ∃ NB : Nat → Prop, NB = fun b => b = Bn ∨ (G ≤ b ∧ b ≤ H) := ⟨_, rfl⟩
  have nBn : NB Bn := by rw [hNB]; exact .inl rfl
  have nb5 : NB G := by rw [hNB]; exact .inr ⟨by omega, by omega⟩
  have nb6 : NB (G + 1) := by rw [hNB]; exact .inr ⟨by omega, by omega⟩
  have nb8 : NB (G + 1 + 1) := by rw [hNB]; exact .inr ⟨by omega, by omega⟩
  have nb9 : NB (G + 1 + 1 + 1) := by rw [hNB]; exact .inr ⟨by omega, by omega⟩
  have nb10 : NB (G + 1 + 1 + 1 + 1) := by rw [hNB]; exact .inr ⟨by omega, by omega⟩
  have nb11 : NB H := by rw [hNB]; exact .inr ⟨by omega, by omega⟩
  have hI0 : Iv w p g lp FL top NB ws evs W0 := Iv.start HA.out hB0 (fun b hb => by
    rw [hNB] at hb
    rcases hb with rfl | hb
    · exact ⟨by have := hB0.size; omega, hBf⟩
    · exact ⟨by omega, fun hf => by have := HM.out b hf; omega⟩)
  have hBc0 : W0.cell? ⟨Bn, 0, none⟩ = some (.int .i64 m) := (hB0.cell (p := ⟨Bn, 0, none⟩) hBn).trans hBc
  have hBn0 : Bn < W0.heap.size := by have := hB0.size; omega
  have hHn : H ≠ Bn := by omega
  have BxO : Hid (OwnFrom W0.heap.size (fun (pre : List (Fin m)) W => Iv w p g lp FL top NB (Sa.st gg at_ late ws (Sa.vs pre)).2 (evs ++ Sa.ev at_ (Sa.vs pre)) W)) := Lib.hid (fun s A B row hs hg hr => hs.grown hg (fun r e => ⟨by have := (hr r e).1; have := hB0.size; omega, (hr r e).2⟩))
  clear hNB hB0
  refine wpIn_rangeFunc_ownF rfl (by decide) (gf := gf) (lb := #[.pointer (some ⟨Bn, 0, none⟩)]) rfl trivial HIT.out.ent
    (HIT.out.seq Bn W0 hBn0 hBc0) Sa.Kc.trans (Sa.kc_put hBn0) (Below.refl _ _) (fun _ => rfl)
    (fun pre W => (Iv w p g lp FL top NB (Sa.st gg at_ late ws (Sa.vs pre)).2 (evs ++ Sa.ev at_ (Sa.vs pre)) W) ∧ (W.cell? ⟨H, 0, none⟩ = some (.int .u32 (Sa.st gg at_ late ws (Sa.vs pre)).1) ∧ W.frozen? ⟨H, 0, none⟩ = false ∧ W.cell? ⟨G, 0, none⟩ = some (.pointer (some ⟨p, 0, none⟩)) ∧ W.cell? ⟨G + 1, 0, none⟩ = some (.int .i64 at_) ∧ W.cell? ⟨G + 1 + 1, 0, none⟩ = some (.bool late) ∧ W.cell? ⟨G + 1 + 1 + 1, 0, none⟩ = some (.func (.func fop) #[] #[]) ∧ W.cell? ⟨G + 1 + 1 + 1 + 1, 0, none⟩ = some (.int .u32 0) ∧ W.frozen? ⟨G + 1 + 1 + 1 + 1, 0, none⟩ = false))
    (fun _ _ _ => False)
    (OwnFrom.and BxO.out (Own.from (fun s A B row hs hg hr => ⟨cell_kept hs.1 hg hr, (frozen_kept hs.1 hg hr).trans hs.2.1, cell_kept hs.2.2.1 hg hr, cell_kept hs.2.2.2.1 hg hr, cell_kept hs.2.2.2.2.1 hg hr, cell_kept hs.2.2.2.2.2.1 hg hr, cell_kept hs.2.2.2.2.2.2.1 hg hr, (frozen_kept hs.2.2.2.2.2.2.1 hg hr).trans hs.2.2.2.2.2.2.2⟩) _))
    (fun _ _ _ _ _ hs _ _ => hs)
    ⟨by rw [Sa.vs_nil, Sa.st_nil]; exact (by simpa [Sa.ev] using hI0), by rw [Sa.vs_nil, Sa.st_nil]; exact c11, f11, c5, c6, c8, c9, c10, f10⟩
    (fun x => { tmps := #[.pointer (some ⟨p, 0, none⟩), .int .i64 at_, .func (.func gf) #[] #[.pointer (some ⟨Bn, 0, none⟩)], .bool late, .func (.func fop) #[] #[], .pointer (some ⟨G, 0, none⟩), .pointer (some ⟨G + 1, 0, none⟩), undef, .pointer (some ⟨G + 1 + 1, 0, none⟩), .pointer (some ⟨G + 1 + 1 + 1, 0, none⟩), .pointer (some ⟨G + 1 + 1 + 1 + 1, 0, none⟩), .pointer (some ⟨H, 0, none⟩), .int .i64 (x.val : Int), undef, .agg #[.int .u32 0], .func (.func gf) #[] #[.pointer (some ⟨Bn, 0, none⟩)], .int .i64 (x.val : Int), undef, undef, undef, undef, undef, undef, undef, undef, undef, undef, undef, undef, undef, undef, undef, undef, undef, undef, undef, undef, undef, undef, undef], defers := [] }) ?assign ?body ?done ?stop
  case assign =>
    intro l x W K hK
    dsimp only [Sa.enc]
    gi_wp2
    first | exact hK | (simp; exact hK) | (simpa using hK)
  case body =>
    rintro l pre x W ⟨hIv, cH, fH, c5, c6, c8, c9, c10, f10⟩ hlen
    have hsn := Lib.hid (Sa.st_snoc gg at_ late ws (Sa.vs pre) x.val)
    have hev := Lib.hid (Sa.ev_snoc at_ (Sa.vs pre) x.val)
    have hvs := Lib.hid (Sa.vs_snoc pre x)
    have hEl : (evs ++ Sa.ev at_ (Sa.vs pre)).length < 1000000000000 := by
      rw [List.length_append, Sa.ev_len, Sa.vs_len]
      omega
    obtain ⟨A0, hA0⟩ : ∃ A0, (Sa.st gg at_ late ws (Sa.vs pre)).1 = A0 := ⟨_, rfl⟩
    obtain ⟨V, hV⟩ : ∃ V, (Sa.st gg at_ late ws (Sa.vs pre)).2 = V := ⟨_, rfl⟩
    obtain ⟨E, hE⟩ : ∃ E, evs ++ Sa.ev at_ (Sa.vs pre) = E := ⟨_, rfl⟩
    obtain ⟨X, hX⟩ : ∃ X, x.val = X := ⟨_, rfl⟩
    have hXm : X < m := by rw [← hX]; exact x.isLt
    have HE := Lib.hid hE
    rw [hA0, hV, hX] at hsn
    rw [hX] at hev hvs ⊢
    obtain ⟨v, hv⟩ : ∃ v, V.getD (at_ + X) 0 = v := ⟨_, rfl⟩
    rw [hv] at hsn
    rw [hA0] at cH
    rw [hV, hE] at hIv
    rw [hE] at hEl
    clear hA0 hV hE hX
    have HIv := Lib.hid hIv
    have zG := hIv.size
    have zH' := hIv.nb nb11
    have zB' := hIv.nb nBn
    clear hIv
    gi_wp2
    refine wpIn_gen _ ?_
    intro W1 hW1
    have B1 : Below W.heap.size W W1 := by
      rw [hW1]
      (repeat' (first | with_reducible exact Below.refl _ _ | with_reducible refine bl_drewN ?_ _ | with_reducible refine bl_drew ?_ | refine bl_set (by (first | omega | (simp; done) | (simp; omega))) ?_ _ | refine bl_alloc (by (first | omega | (simp; done) | (simp; omega))) ?_ _ | refine bl_then (by assumption) ?_ (by (first | omega | (simp; done) | (simp; omega))) | refine Step.bl (by assumption) (by assumption) (by (first | omega | (simp; done) | (simp; omega))) (by (first | omega | (simp; done) | (simp; omega))) ?_))
    have d13 : W1.cell? ⟨W.heap.size, 0, none⟩ = some (.int .u32 A0) := by rw [hW1]; simp
    have z1 : W.heap.size < W1.heap.size := World.block_lt_of_cell? W1 ⟨_, 0, none⟩ d13
    clear hW1
    have hIv1 := Lib.hid (HIv.out.add W.heap.size (Nat.le_refl _) z1 B1)
    have e5 : W1.cell? ⟨G, 0, none⟩ = some (.pointer (some ⟨p, 0, none⟩)) := (B1.cell (p := ⟨G, 0, none⟩) (HIv.out.nb nb5)).trans c5
    have e6 : W1.cell? ⟨G + 1, 0, none⟩ = some (.int .i64 at_) := (B1.cell (p := ⟨G + 1, 0, none⟩) (HIv.out.nb nb6)).trans c6
    have e8 : W1.cell? ⟨G + 1 + 1, 0, none⟩ = some (.bool late) := (B1.cell (p := ⟨G + 1 + 1, 0, none⟩) (HIv.out.nb nb8)).trans c8
    have e9 : W1.cell? ⟨G + 1 + 1 + 1, 0, none⟩ = some (.func (.func fop) #[] #[]) := (B1.cell (p := ⟨G + 1 + 1 + 1, 0, none⟩) (HIv.out.nb nb9)).trans c9
    have e11 : W1.cell? ⟨H, 0, none⟩ = some (.int .u32 A0) := (B1.cell (p := ⟨H, 0, none⟩) zH').trans cH
    have zz : H < W1.heap.size := by omega
    have y5 := HIv.out.nb nb5
    have y6 := HIv.out.nb nb6
    have y8 := HIv.out.nb nb8
    have y9 := HIv.out.nb nb9
    refine Rd.go [0, 1, 2, 3, 4, 5, 6, 7] 8 (fun w' => w'.cell? ⟨G, 0, none⟩ = some (.pointer (some ⟨p, 0, none⟩)) ∧ w'.cell? ⟨G + 1, 0, none⟩ = some (.int .i64 at_) ∧ w'.cell? ⟨G + 1 + 1 + 1, 0, none⟩ = some (.func (.func fop) #[] #[]) ∧ w'.cell? ⟨H, 0, none⟩ = some (.int .u32 A0)) (by kernel_rfl) (by kernel_rfl) ⟨e5, e6, e9, e11⟩ (fun _ _ _ _ _ h => h) (fun ⟨_, _, h⟩ => h) ?_
    ((first | (refine Rd.wk_pure (v := ?_) (by rfl) (by kernel_rfl) (by kernel_rfl) (Or.inl ⟨by rfl, ?_⟩) ?_; rotate_left; (next => (intro w; go_simp; done))) | (refine Rd.wk_pure (v := ?_) (by rfl) (by kernel_rfl) (by kernel_rfl) (Or.inl ⟨by rfl, ?_⟩) ?_; rotate_left; (next => (intro w; go_simp; with_reducible rfl))) | (refine Rd.wk_load (v := ?_) (by rfl) (by kernel_rfl) (by kernel_rfl) (by kernel_rfl) (Or.inl ⟨by rfl, ?_⟩) ?_; rotate_left; (next => (intro w hSw; (try dsimp only at hSw); go_split_ands; go_simp; done))) | (refine Rd.wk_load (v := ?_) (by rfl) (by kernel_rfl) (by kernel_rfl) (by kernel_rfl) (Or.inl ⟨by rfl, ?_⟩) ?_; rotate_left; (next => (intro w hSw; (try dsimp only at hSw); go_split_ands; go_simp; with_reducible rfl)))); (try simp only [Act.put, List.setIfInBounds_toArray, List.set_cons_zero, List.set_cons_succ]))
    ((first | (refine Rd.wk_pure (v := ?_) (by rfl) (by kernel_rfl) (by kernel_rfl) (Or.inl ⟨by rfl, ?_⟩) ?_; rotate_left; (next => (intro w; go_simp; done))) | (refine Rd.wk_pure (v := ?_) (by rfl) (by kernel_rfl) (by kernel_rfl) (Or.inl ⟨by rfl, ?_⟩) ?_; rotate_left; (next => (intro w; go_simp; with_reducible rfl))) | (refine Rd.wk_load (v := ?_) (by rfl) (by kernel_rfl) (by kernel_rfl) (by kernel_rfl) (Or.inl ⟨by rfl, ?_⟩) ?_; rotate_left; (next => (intro w hSw; (try dsimp only at hSw); go_split_ands; go_simp; done))) | (refine Rd.wk_load (v := ?_) (by rfl) (by kernel_rfl) (by kernel_rfl) (by kernel_rfl) (Or.inl ⟨by rfl, ?_⟩) ?_; rotate_left; (next => (intro w hSw; (try dsimp only at hSw); go_split_ands; go_simp; with_reducible rfl)))); (try simp only [Act.put, List.setIfInBounds_toArray, List.set_cons_zero, List.set_cons_succ]))
    ((first | (refine Rd.wk_pure (v := ?_) (by rfl) (by kernel_rfl) (by kernel_rfl) (Or.inl ⟨by rfl, ?_⟩) ?_; rotate_left; (next => (intro w; go_simp; done))) | (refine Rd.wk_pure (v := ?_) (by rfl) (by kernel_rfl) (by kernel_rfl) (Or.inl ⟨by rfl, ?_⟩) ?_; rotate_left; (next => (intro w; go_simp; with_reducible rfl))) | (refine Rd.wk_load (v := ?_) (by rfl) (by kernel_rfl) (by kernel_rfl) (by kernel_rfl) (Or.inl ⟨by rfl, ?_⟩) ?_; rotate_left; (next => (intro w hSw; (try dsimp only at hSw); go_split_ands; go_simp; done))) | (refine Rd.wk_load (v := ?_) (by rfl) (by kernel_rfl) (by kernel_rfl) (by kernel_rfl) (Or.inl ⟨by rfl, ?_⟩) ?_; rotate_left; (next => (intro w hSw; (try dsimp only at hSw); go_split_ands; go_simp; with_reducible rfl)))); (try simp only [Act.put, List.setIfInBounds_toArray, List.set_cons_zero, List.set_cons_succ]))
    ((first | (refine Rd.wk_pure (v := ?_) (by rfl) (by kernel_rfl) (by kernel_rfl) (Or.inl ⟨by rfl, ?_⟩) ?_; rotate_left; (next => (intro w; go_simp; done))) | (refine Rd.wk_pure (v := ?_) (by rfl) (by kernel_rfl) (by kernel_rfl) (Or.inl ⟨by rfl, ?_⟩) ?_; rotate_left; (next => (intro w; go_simp; with_reducible rfl))) | (refine Rd.wk_load (v := ?_) (by rfl) (by kernel_rfl) (by kernel_rfl) (by kernel_rfl) (Or.inl ⟨by rfl, ?_⟩) ?_; rotate_left; (next => (intro w hSw; (try dsimp only at hSw); go_split_ands; go_simp; done))) | (refine Rd.wk_load (v := ?_) (by rfl) (by kernel_rfl) (by kernel_rfl) (by kernel_rfl) (Or.inl ⟨by rfl, ?_⟩) ?_; rotate_left; (next => (intro w hSw; (try dsimp only at hSw); go_split_ands; go_simp; with_reducible rfl)))); (try simp only [Act.put, List.setIfInBounds_toArray, List.set_cons_zero, List.set_cons_succ]))
    ((first | (refine Rd.wk_pure (v := ?_) (by rfl) (by kernel_rfl) (by kernel_rfl) (Or.inl ⟨by rfl, ?_⟩) ?_; rotate_left; (next => (intro w; go_simp; done))) | (refine Rd.wk_pure (v := ?_) (by rfl) (by kernel_rfl) (by kernel_rfl) (Or.inl ⟨by rfl, ?_⟩) ?_; rotate_left; (next => (intro w; go_simp; with_reducible rfl))) | (refine Rd.wk_load (v := ?_) (by rfl) (by kernel_rfl) (by kernel_rfl) (by kernel_rfl) (Or.inl ⟨by rfl, ?_⟩) ?_; rotate_left; (next => (intro w hSw; (try dsimp only at hSw); go_split_ands; go_simp; done))) | (refine Rd.wk_load (v := ?_) (by rfl) (by kernel_rfl) (by kernel_rfl) (by kernel_rfl) (Or.inl ⟨by rfl, ?_⟩) ?_; rotate_left; (next => (intro w hSw; (try dsimp only at hSw); go_split_ands; go_simp; with_reducible rfl)))); (try simp only [Act.put, List.setIfInBounds_toArray, List.set_cons_zero, List.set_cons_succ]))
    ((first | (refine Rd.wk_pure (v := ?_) (by rfl) (by kernel_rfl) (by kernel_rfl) (Or.inl ⟨by rfl, ?_⟩) ?_; rotate_left; (next => (intro w; go_simp; done))) | (refine Rd.wk_pure (v := ?_) (by rfl) (by kernel_rfl) (by kernel_rfl) (Or.inl ⟨by rfl, ?_⟩) ?_; rotate_left; (next => (intro w; go_simp; with_reducible rfl))) | (refine Rd.wk_load (v := ?_) (by rfl) (by kernel_rfl) (by kernel_rfl) (by kernel_rfl) (Or.inl ⟨by rfl, ?_⟩) ?_; rotate_left; (next => (intro w hSw; (try dsimp only at hSw); go_split_ands; go_simp; done))) | (refine Rd.wk_load (v := ?_) (by rfl) (by kernel_rfl) (by kernel_rfl) (by kernel_rfl) (Or.inl ⟨by rfl, ?_⟩) ?_; rotate_left; (next => (intro w hSw; (try dsimp only at hSw); go_split_ands; go_simp; with_reducible rfl)))); (try simp only [Act.put, List.setIfInBounds_toArray, List.set_cons_zero, List.set_cons_succ]))
    (refine Rd.wk_call (by rfl) (by kernel_rfl) (by rfl) ?_; go_simp)
    have hL := (hIv1.out.below (bl_drew (Below.refl _ _))).load (by omega) (IntKind.i64.wrap ((at_ : Int) + (X : Int))) (at_ + X) (by rw [IntWalk.i64_in _ (by omega)]; omega) (by omega)
    rw [hv] at hL
    refine hL.mono ?_
    rintro e W2 ⟨rfl, hIv2, hKp2⟩
    have K2 := Lib.hid hKp2
    have hIv2 := Lib.hid hIv2
    have s2 : ∀ b, NB b → b < W1.heap.size → ∀ o, W2.cell? ⟨b, o, none⟩ = W1.cell? ⟨b, o, none⟩ := fun b hb hs o => hKp2.cell (.inr hb) hs o
    refine ⟨⟨(s2 _ nb5 (by omega) 0).trans e5, (s2 _ nb6 (by omega) 0).trans e6, (s2 _ nb9 (by omega) 0).trans e9, (s2 _ nb11 (by omega) 0).trans e11⟩, ?_⟩
    (try simp only [Act.put, List.setIfInBounds_toArray, List.set_cons_zero, List.set_cons_succ])
    (refine Rd.wk_call (by rfl) (by kernel_rfl) (by rfl) ?_; go_simp)
    refine (HOP.out _ _ _).mono ?_
    rintro e W3 ⟨rfl, hB3⟩
    have K3 := Lib.hid hB3
    have z2 := hKp2.1.size
    have z2' : W1.heap.size ≤ W2.heap.size := z2
    have s3 : ∀ b, NB b → b < W1.heap.size → ∀ o, W3.cell? ⟨b, o, none⟩ = W1.cell? ⟨b, o, none⟩ := fun b hb hs o => (hB3.cell (p := ⟨b, o, none⟩) (show b < W2.heap.size by omega)).trans (s2 b hb hs o)
    refine ⟨⟨(s3 _ nb5 (by omega) 0).trans e5, (s3 _ nb6 (by omega) 0).trans e6, (s3 _ nb9 (by omega) 0).trans e9, (s3 _ nb11 (by omega) 0).trans e11⟩, ?_⟩
    (try simp only [Act.put, List.setIfInBounds_toArray, List.set_cons_zero, List.set_cons_succ])
    have e3H := (s3 _ nb11 (by omega) 0).trans e11
    have f3H : W3.frozen? ⟨H, 0, none⟩ = false := (hB3.frozen (p := ⟨H, 0, none⟩) (show H < W2.heap.size by omega)).trans ((hKp2.frozen (.inr nb11) (show H < W1.drew.heap.size from zz) 0).trans ((B1.frozen (p := ⟨H, 0, none⟩) zH').trans fH))
    (refine Rd.wk_last (by rfl) (by kernel_rfl) (by kernel_rfl) (by rfl) ?_; go_simp)
    refine rd_gen (W3.setCell { block := H, off := 0 } (Value.int IntKind.u32 (gg A0 v))) ?_
    intro W4 hW4
    have B13 := (hB3.cell (p := ⟨W.heap.size, 0, none⟩) (show W.heap.size < W2.heap.size by omega)).trans ((hKp2.cell (.inl rfl) (show W.heap.size < W1.drew.heap.size from z1) 0).trans d13)
    have z3 := hB3.size
    have k5 : W4.cell? ⟨G, 0, none⟩ = some (.pointer (some ⟨p, 0, none⟩)) := by rw [hW4]; exact (World.cell?_setCell_far W3 ⟨H, 0, none⟩ ⟨G, 0, none⟩ _ (by show H ≠ G; omega)).trans ((s3 _ nb5 (by omega) 0).trans e5)
    have k6 : W4.cell? ⟨G + 1, 0, none⟩ = some (.int .i64 at_) := by rw [hW4]; exact (World.cell?_setCell_far W3 ⟨H, 0, none⟩ ⟨G + 1, 0, none⟩ _ (by show H ≠ G + 1; omega)).trans ((s3 _ nb6 (by omega) 0).trans e6)
    have k8 : W4.cell? ⟨G + 1 + 1, 0, none⟩ = some (.bool late) := by rw [hW4]; exact (World.cell?_setCell_far W3 ⟨H, 0, none⟩ ⟨G + 1 + 1, 0, none⟩ _ (by show H ≠ G + 1 + 1; omega)).trans ((s3 _ nb8 (by omega) 0).trans e8)
    have kH : W4.cell? ⟨H, 0, none⟩ = some (.int .u32 (gg A0 v)) := by rw [hW4]; exact World.cell?_setCell_same' _ _ _ (by rw [e3H]; rfl)
    have k13 : W4.cell? ⟨W.heap.size, 0, none⟩ = some (.int .u32 A0) := by rw [hW4]; exact (World.cell?_setCell_far W3 ⟨H, 0, none⟩ ⟨W.heap.size, 0, none⟩ _ (by show H ≠ W.heap.size; omega)).trans B13
    have z4 : W3.heap.size = W4.heap.size := by rw [hW4, World.size_setCell]
    have hIv4 := Lib.hid (show Iv w p g lp FL top (fun b => b = W.heap.size ∨ NB b) V (E ++ [⟨1, ((at_ + X : Nat) : Int), 0⟩]) W4 by rw [hW4]; exact (hIv2.out.below hB3).far (.inr nb11) (by omega) _)
    have hKO4 : KeepsOthers W W4 := by
      rw [hW4]
      exact ((ko_below B1).trans (KeepsOthers.trans (B := W1.drew) ⟨Nat.le_refl _, fun _ _ h _ => h⟩ (K2.out.1.trans (ko_below hB3)))).trans (KeepsOthers.setCell _ _ _)
    have hkeep : Hid (∀ b, NB b → b ≠ H → W4.heap[b]? = W.heap[b]?) := Lib.hid (fun b hb hn => by
      rw [hW4]
      have q0 := HIv.out.nb hb
      exact (Below.heap_setCell W3 ⟨H, 0, none⟩ _ b hn).trans ((hB3.block b (by omega)).trans ((K2.out.2 b (.inr hb) (show b < W1.drew.heap.size from Nat.lt_of_lt_of_le q0 B1.size)).trans (B1.block b q0))))
    have fH4 : W4.frozen? ⟨H, 0, none⟩ = false := by rw [hW4, World.frozen?_setCell]; exact f3H
    have hEl4 : (E ++ [(⟨1, ((at_ + X : Nat) : Int), 0⟩ : Ev)]).length < 1099511627776 := by rw [List.length_append]; simp; omega
    clear hW4 s2 s3 e5 e6 e8 e9 e11 B13 d13 e3H f3H hL
    cases late
    all_goals
      gi_wp2_with (gi_at_call 78; refine (callsIn_wide.2 (hIv4.out.store hEl4 _ (at_ + X) (by omega) (by omega) _)).mono ?_; rintro e W5 ⟨rfl, hIv5, hKp5⟩)
    all_goals
      have z5 := hKp5.1.size
      have hk5 : ∀ b, NB b → b ≠ H → W5.heap[b]? = W.heap[b]? := fun b hb hn => (hKp5.2 b (.inr hb) (hIv4.out.nb (.inr hb))).trans (hkeep.out b hb hn)
      refine ⟨hKO4.trans hKp5.1, World.cell?_of_block (a := ⟨Bn, 0, none⟩) (hk5 Bn nBn (fun e => hHn e.symm)), ?_, ?_, ?_, ?_, ?_, ?_, ?_, ?_, ?_⟩
      · rw [hvs.out, hsn.out, hev.out, ← List.append_assoc, ← List.append_assoc, HE.out]
        exact hIv5.mono (fun b hb => .inr hb)
      · rw [hvs.out, hsn.out]
        exact (hKp5.cell (.inr nb11) (by omega) 0).trans kH
      · exact (hKp5.frozen (.inr nb11) (by omega) 0).trans fH4
      · exact (World.cell?_of_block (a := ⟨G, 0, none⟩) (hk5 G nb5 (by omega))).trans c5
      · exact (World.cell?_of_block (a := ⟨G + 1, 0, none⟩) (hk5 _ nb6 (by show G + 1 ≠ H; omega))).trans c6
      · exact (World.cell?_of_block (a := ⟨G + 1 + 1, 0, none⟩) (hk5 _ nb8 (by show G + 1 + 1 ≠ H; omega))).trans c8
      · exact (World.cell?_of_block (a := ⟨G + 1 + 1 + 1, 0, none⟩) (hk5 _ nb9 (by show G + 1 + 1 + 1 ≠ H; omega))).trans c9
      · exact (World.cell?_of_block (a := ⟨G + 1 + 1 + 1 + 1, 0, none⟩) (hk5 _ nb10 (by show G + 1 + 1 + 1 + 1 ≠ H; omega))).trans c10
      · exact (World.frozen?_of_block (a := ⟨G + 1 + 1 + 1 + 1, 0, none⟩) (hk5 _ nb10 (by show G + 1 + 1 + 1 + 1 ≠ H; omega))).trans f10
  case done =>
    rintro D ys W hD rfl ⟨hIv, cH, fH, c5, c6, c8, c9, c10, f10⟩ hK
    obtain ⟨A0, hA0⟩ : ∃ A0, (Sa.st gg at_ late ws (Sa.vs ys)).1 = A0 := ⟨_, rfl⟩
    rw [hA0] at cH
    have HIv := Lib.hid hIv
    have zb := hIv.nb nb10
    have zh := hIv.nb nb11
    clear hIv
    gi_wp2
    obtain ⟨Z, hZ⟩ : ∃ Z, W.setCell ⟨G + 1 + 1 + 1 + 1, 0, none⟩ (.int .u32 A0) = Z := ⟨_, rfl⟩
    have hK2 : Z.heap[D]? = some (.deferred (some [])) := by
      rw [← hZ]
      exact (Below.heap_setCell W ⟨G + 1 + 1 + 1 + 1, 0, none⟩ _ D (by show D ≠ G + 1 + 1 + 1 + 1; omega)).trans hK
    have hcZ : Z.cell? ⟨G + 1 + 1 + 1 + 1, 0, none⟩ = some (.int .u32 A0) := by
      rw [← hZ]
      exact World.cell?_setCell_same' _ _ _ (by rw [c10]; rfl)
    have hIZ : Iv w p g lp FL top NB (Sa.st gg at_ late ws (Sa.vs ys)).2 (evs ++ Sa.ev at_ (Sa.vs ys)) Z := by
      rw [← hZ]
      exact HIv.out.far nb10 (by omega) _
    rw [hZ]
    clear hZ
    have hrow : ∀ r, some D = some r → w.heap.size ≤ r ∧ ∃ o : Obj, Z.heap[r]? = some o ∧ o.isCells = false := fun r e => by
      cases e
      exact ⟨by omega, _, hK2, rfl⟩
    have hIP : Iv w p g lp FL top NB (Sa.st gg at_ late ws (Sa.vs ys)).2 (evs ++ Sa.ev at_ (Sa.vs ys)) (Z.putObj D (.deferred none)) := hIZ.grown (grownBy_putObj' Z D _) hrow
    have hPZ : (Z.putObj D (.deferred none)).cell? ⟨G + 1 + 1 + 1 + 1, 0, none⟩ = some (.int .u32 A0) := cell_kept hcZ (grownBy_putObj' Z D (.deferred none)) (fun r e => (hrow r e).2)
    obtain ⟨F', hA', hS'⟩ := hIP.out HA.out.np HA.out.ng
    refine ⟨by simp, .inl ⟨_, _, rfl, run_takeDeferred hK2, ?_⟩⟩
    refine ⟨.agg #[.int .u32 A0], ?_, by rw [hA0], F', hA', hS'⟩
    simp [results, show Try.f63.results = #[.cell 10 32] from rfl, go_sem, hPZ]
  case stop =>
    rintro D c pre W _ _ h _
    exact h.elim
end Go.Proofs.Ytdakbejppnijdaa
