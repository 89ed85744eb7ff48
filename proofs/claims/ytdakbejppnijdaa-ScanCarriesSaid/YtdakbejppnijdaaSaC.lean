/- scan.mask, scan.fill. No condition. -/
import Derived.Test.YtdakbejppnijdaaSaB
namespace Go.Proofs.Ytdakbejppnijdaa
open Go.RowKit Go.Shelf
set_option linter.unusedSimpArgs false
set_option linter.unusedVariables false
attribute [local go_sem] IntKind.wrap_u32' signed_u32 max_u32
attribute [local go_sem ↓] Go.wp_at_zero Go.wp_at_succ
attribute [local go_sem] Oper.semAt_some
attribute [local go_sem] wide_fn wide_all
attribute [local go_sem] Calm.C
attribute [local go_sem low] Calm.al_cell Calm.al_frozen
namespace Sa
def mk (a : Int) : Int := Ct.Sub 0 (Ct.And a 1)
/-- The last word and the words behind some rounds of fill. -/
def fl (at_ has : Nat) (ws : List Int) (pre : List Nat) : Int × List Int :=
  pre.foldl (fun s i => (Ct.Sel (mk (s.2.getD (has + i) 0)) (s.2.getD (at_ + i) 0) s.1, s.2.set (at_ + i) (Ct.Sel (mk (s.2.getD (has + i) 0)) (s.2.getD (at_ + i) 0) s.1))) (0, ws)
theorem fl_nil (at_ has : Nat) (ws : List Int) : fl at_ has ws [] = (0, ws) := rfl
theorem fl_snoc (at_ has : Nat) (ws : List Int) (pre : List Nat) (i : Nat) : fl at_ has ws (pre ++ [i]) = (Ct.Sel (mk ((fl at_ has ws pre).2.getD (has + i) 0)) ((fl at_ has ws pre).2.getD (at_ + i) 0) (fl at_ has ws pre).1, (fl at_ has ws pre).2.set (at_ + i) (Ct.Sel (mk ((fl at_ has ws pre).2.getD (has + i) 0)) ((fl at_ has ws pre).2.getD (at_ + i) 0) (fl at_ has ws pre).1)) := by
  unfold fl
  rw [List.foldl_append]
  rfl
def ef (at_ has : Nat) (pre : List Nat) : List Ev := pre.flatMap fun i => [⟨1, ((has + i : Nat) : Int), 0⟩, ⟨1, ((at_ + i : Nat) : Int), 0⟩, ⟨2, ((at_ + i : Nat) : Int), 0⟩]
theorem ef_snoc (at_ has : Nat) (pre : List Nat) (i : Nat) : ef at_ has (pre ++ [i]) = ef at_ has pre ++ [⟨1, ((has + i : Nat) : Int), 0⟩] ++ [⟨1, ((at_ + i : Nat) : Int), 0⟩] ++ [⟨2, ((at_ + i : Nat) : Int), 0⟩] := by
  unfold ef
  rw [List.flatMap_append]
  simp
theorem ef_len (at_ has : Nat) : ∀ pre : List Nat, (ef at_ has pre).length = 3 * pre.length
  | [] => rfl
  | i :: pre => by
    have := ef_len at_ has pre
    unfold ef at this ⊢
    rw [List.flatMap_cons, List.length_append, this]
    simp
    omega
/-- The word and whether there is one, behind some rounds of met. -/
def mt (at_ has : Nat) (ws : List Int) (pre : List Nat) : Int × Int :=
  pre.foldl (fun s i => (Ct.Sel (mk (ws.getD (has + i) 0)) (ws.getD (at_ + i) 0) s.1, Ct.Or s.2 (mk (ws.getD (has + i) 0)))) (0, 0)
theorem mt_nil (at_ has : Nat) (ws : List Int) : mt at_ has ws [] = (0, 0) := rfl
theorem mt_snoc (at_ has : Nat) (ws : List Int) (pre : List Nat) (i : Nat) : mt at_ has ws (pre ++ [i]) = (Ct.Sel (mk (ws.getD (has + i) 0)) (ws.getD (at_ + i) 0) (mt at_ has ws pre).1, Ct.Or (mt at_ has ws pre).2 (mk (ws.getD (has + i) 0))) := by
  unfold mt
  rw [List.foldl_append]
  rfl
def em (at_ has : Nat) (pre : List Nat) : List Ev := pre.flatMap fun i => [⟨1, ((has + i : Nat) : Int), 0⟩, ⟨1, ((at_ + i : Nat) : Int), 0⟩]
theorem em_snoc (at_ has : Nat) (pre : List Nat) (i : Nat) : em at_ has (pre ++ [i]) = em at_ has pre ++ [⟨1, ((has + i : Nat) : Int), 0⟩] ++ [⟨1, ((at_ + i : Nat) : Int), 0⟩] := by
  unfold em
  rw [List.flatMap_append]
  simp
theorem em_len (at_ has : Nat) : ∀ pre : List Nat, (em at_ has pre).length = 2 * pre.length
  | [] => rfl
  | i :: pre => by
    have := em_len at_ has pre
    unfold em at this ⊢
    rw [List.flatMap_cons, List.length_append, this]
    simp
    omega
end Sa
theorem saMask_any (a : Int) (w : World) : Calls Try.prog 110 #[.agg #[.int .u32 a]] w fun e w' => e = .returned (.agg #[.int .u32 (Sa.mk a)]) ∧ Below w.heap.size w w' := by
  go_enter Try.func110, Try.ntmps110
  go_wp2_with fail
  (refine Calm.go 5 (by kernel_rfl) (by kernel_rfl) (by kernel_rfl) ?_; intro w0 hw0; have hr := Calm.rule hw0; simp only [Calm.heads, Calm.isAlloc]; haveI hnon : Nonempty (Ext (Below w0.heap.size w0)) := ⟨⟨w0, Below.refl _ _⟩⟩; (repeat (go_big_quiet_step (first | (go_at_call 62; exact Ext.calm below_calm (Of_any _ _)) | (go_at_call 76; exact Ext.calm below_calm (And_any _ _ _)) | (go_at_call 90; exact Ext.calm below_calm (Sub_any _ _ _))))); refine wpQuiet_nil ?_; clear hnon hr hw0; clear w0; (repeat refine Calm.n_skip rfl ?_); refine Calm.n_zero ?_; intro WA hbA hsA; simp only [List.drop_succ_cons, List.drop_zero]; obtain ⟨hcA, hfA⟩ := bcell hbA; (try simp only [World.size_alloc, World.size_setCell, drew_size] at hcA hfA); have hzA := hbA.size; have hbhA := Lib.hid hbA; clear hsA hbA; (try simp only [World.size_alloc, World.size_setCell, World.size_drew] at hzA))
  go_wp2_with fail
  ((refine ret_sec rfl rfl (World.cell?_setCell_same' _ _ _ ?_) rfl ⟨rfl, ?_⟩) <;> first | (simp [go_sem, ↓IntWalk.iteOmega, *]; done) | ((repeat' (first | with_reducible exact Below.refl _ _ | with_reducible refine bl_drewN ?_ _ | with_reducible refine bl_drew ?_ | refine bl_set (by (first | omega | (simp; done) | (simp; omega))) ?_ _ | refine bl_alloc (by (first | omega | (simp; done) | (simp; omega))) ?_ _ | refine bl_then (by assumption) ?_ (by (first | omega | (simp; done) | (simp; omega))))); done))
attribute [local irreducible] Sa.fl Sa.ef Sa.mk Ct.Sel
set_option maxRecDepth 100000 in
set_option maxHeartbeats 4000000 in
theorem saFill_any {w : World} {p g lp : Nat} {FL : Nat → Prop} {ws : List Int} {top : Nat} {evs : List Ev} (h : Ar w p g lp FL ws top evs) {gf m : Nat} {xs : List Nat} (hit : Sa.It gf m xs) (Bn : Nat) (hBn : Bn < w.heap.size) (hBf : ¬ AF p g FL Bn) (hBc : w.cell? ⟨Bn, 0, none⟩ = some (.int .i64 m))
    (at_ has : Nat) (hat : at_ + m ≤ top) (hha : has + m ≤ top) (he : evs.length < 900000000000) :
    Calls Try.prog 88 #[.pointer (some ⟨p, 0, none⟩), .int .i64 at_, .int .i64 has, .func (.func gf) #[] #[.pointer (some ⟨Bn, 0, none⟩)]] w fun e w' => (∃ v, e = .returned v) ∧
      ∃ FL', Ar w' p g lp FL' (Sa.fl at_ has ws xs).2 top (evs ++ Sa.ef at_ has xs) ∧ Step (AF p g FL) (AF p g FL') w w' := by
  have htop : (top : Int) ≤ 4194304 := by have := h.ht; have := h.hz; omega
  have HA := Lib.hid h
  have HIT := Lib.hid hit
  have HM := Lib.hid h.most
  have hm := hit.len
  clear h hit
  refine (callsIn_wide (n := 3)).1 ?_
  refine callsIn_of_wp_marks Try.func88 rfl trivial ?_ rfl
  simp only [Try.ntmps88, List.size_toArray, List.length_cons, List.length_nil, Nat.reduceAdd, Nat.reduceSub, Array.replicate_succ, Array.replicate_zero, List.push_toArray, List.append_toArray, List.nil_append, List.cons_append]
  gi_wp2_with (gi_at_call 62; refine (callsIn_wide.2 (Of_any _ _)).mono ?_; rintro e wf ⟨rfl, hb⟩; have hcf := bcell hb; (try simp only [World.size_alloc, World.size_setCell, drew_size] at hcf); have hz := hb.size; (try simp only [World.size_alloc, World.size_setCell, World.size_drew] at hz); have hbh := Lib.hid hb; clear hb; obtain ⟨hc, hf⟩ := hcf)
  refine wpIn_gen _ ?_
  intro W0 hW0
  have hB0 : Below w.heap.size w W0 := by
    rw [hW0]
    (repeat' (first | with_reducible exact Below.refl _ _ | with_reducible refine bl_drewN ?_ _ | with_reducible refine bl_drew ?_ | refine bl_set (by (first | omega | (simp; done) | (simp; omega))) ?_ _ | refine bl_alloc (by (first | omega | (simp; done) | (simp; omega))) ?_ _ | refine bl_then (by assumption) ?_ (by (first | omega | (simp; done) | (simp; omega))) | refine Step.bl (by assumption) (by assumption) (by (first | omega | (simp; done) | (simp; omega))) (by (first | omega | (simp; done) | (simp; omega))) ?_))
  have c4 : W0.cell? ⟨w.heap.size, 0, none⟩ = some (.pointer (some ⟨p, 0, none⟩)) := by rw [hW0]; simp [go_sem, ↓IntWalk.iteOmega, *]
  have c5 : W0.cell? ⟨w.heap.size + 1, 0, none⟩ = some (.int .i64 at_) := by rw [hW0]; simp [go_sem, ↓IntWalk.iteOmega, *]
  have c6 : W0.cell? ⟨w.heap.size + 1 + 1, 0, none⟩ = some (.int .i64 has) := by rw [hW0]; simp [go_sem, ↓IntWalk.iteOmega, *]
  have c8 : W0.cell? ⟨wf.heap.size, 0, none⟩ = some (.int .u32 0) := by rw [hW0]; simp
  have f8 : W0.frozen? ⟨wf.heap.size, 0, none⟩ = false := by rw [hW0]; simp
  have zH : wf.heap.size < W0.heap.size := World.block_lt_of_cell? W0 ⟨_, 0, none⟩ c8
  clear hW0 hc hf hbh
  obtain ⟨G, hG⟩ : ∃ G, w.heap.size = G := ⟨_, rfl⟩
  obtain ⟨H, hH⟩ : ∃ H, wf.heap.size = H := ⟨_, rfl⟩
  simp only [hG, hH] at c4 c5 c6 c8 f8 zH hz ⊢
  obtain ⟨NB, hNB⟩ : ∃ NB : Nat → Prop, NB = fun b => b = Bn ∨ (G ≤ b ∧ b ≤ H) := ⟨_, rfl⟩
  have nBn : NB Bn := by rw [hNB]; exact .inl rfl
  have nb4 : NB G := by rw [hNB]; exact .inr ⟨by omega, by omega⟩
  have nb5 : NB (G + 1) := by rw [hNB]; exact .inr ⟨by omega, by omega⟩
  have nb6 : NB (G + 1 + 1) := by rw [hNB]; exact .inr ⟨by omega, by omega⟩
  have nb8 : NB H := by rw [hNB]; exact .inr ⟨by omega, by omega⟩
  have hI0 : Iv w p g lp FL top NB ws evs W0 := Iv.start HA.out hB0 (fun b hb => by
    rw [hNB] at hb
    rcases hb with rfl | hb
    · exact ⟨by have := hB0.size; omega, hBf⟩
    · exact ⟨by omega, fun hf => by have := HM.out b hf; omega⟩)
  have hBc0 : W0.cell? ⟨Bn, 0, none⟩ = some (.int .i64 m) := (hB0.cell (p := ⟨Bn, 0, none⟩) hBn).trans hBc
  have hBn0 : Bn < W0.heap.size := by have := hB0.size; omega
  have hHn : H ≠ Bn := by omega
  have BxO : Hid (OwnFrom W0.heap.size (fun (pre : List (Fin m)) W => Iv w p g lp FL top NB (Sa.fl at_ has ws (Sa.vs pre)).2 (evs ++ Sa.ef at_ has (Sa.vs pre)) W)) := Lib.hid (fun s A B row hs hg hr => hs.grown hg (fun r e => ⟨by have := (hr r e).1; have := hB0.size; omega, (hr r e).2⟩))
  clear hNB hB0
  refine wpIn_rangeFunc_ownF rfl (by decide) (gf := gf) (lb := #[.pointer (some ⟨Bn, 0, none⟩)]) rfl trivial HIT.out.ent
    (HIT.out.seq Bn W0 hBn0 hBc0) Sa.Kc.trans (Sa.kc_put hBn0) (Below.refl _ _) (fun _ => rfl)
    (fun pre W => (Iv w p g lp FL top NB (Sa.fl at_ has ws (Sa.vs pre)).2 (evs ++ Sa.ef at_ has (Sa.vs pre)) W) ∧ (W.cell? ⟨H, 0, none⟩ = some (.int .u32 (Sa.fl at_ has ws (Sa.vs pre)).1) ∧ W.frozen? ⟨H, 0, none⟩ = false ∧ W.cell? ⟨G, 0, none⟩ = some (.pointer (some ⟨p, 0, none⟩)) ∧ W.cell? ⟨G + 1, 0, none⟩ = some (.int .i64 at_) ∧ W.cell? ⟨G + 1 + 1, 0, none⟩ = some (.int .i64 has)))
    (fun _ _ _ => False)
    (OwnFrom.and BxO.out (Own.from (fun s A B row hs hg hr => ⟨cell_kept hs.1 hg hr, (frozen_kept hs.1 hg hr).trans hs.2.1, cell_kept hs.2.2.1 hg hr, cell_kept hs.2.2.2.1 hg hr, cell_kept hs.2.2.2.2 hg hr⟩) _))
    (fun _ _ _ _ _ hs _ _ => hs)
    ⟨by rw [Sa.vs_nil, Sa.fl_nil]; exact (by simpa [Sa.ef] using hI0), by rw [Sa.vs_nil, Sa.fl_nil]; exact c8, f8, c4, c5, c6⟩
    (fun x => { tmps := #[.pointer (some ⟨p, 0, none⟩), .int .i64 at_, .int .i64 has, .func (.func gf) #[] #[.pointer (some ⟨Bn, 0, none⟩)], .pointer (some ⟨G, 0, none⟩), .pointer (some ⟨G + 1, 0, none⟩), .pointer (some ⟨G + 1 + 1, 0, none⟩), undef, .pointer (some ⟨H, 0, none⟩), .int .i64 (x.val : Int), .agg #[.int .u32 0], .func (.func gf) #[] #[.pointer (some ⟨Bn, 0, none⟩)], .int .i64 (x.val : Int), undef, undef, undef, undef, undef, undef, undef, undef, undef, undef, undef, undef, undef, undef, undef, undef, undef, undef, undef], defers := [] }) ?assign ?body ?done ?stop
  case assign =>
    intro l x W K hK
    dsimp only [Sa.enc]
    gi_wp2
    first | exact hK | (simp; exact hK) | (simpa using hK)
  case body =>
    rintro l pre x W ⟨hIv, cH, fH, c4, c5, c6⟩ hlen
    have hsn := Lib.hid (Sa.fl_snoc at_ has ws (Sa.vs pre) x.val)
    have hev := Lib.hid (Sa.ef_snoc at_ has (Sa.vs pre) x.val)
    have hvs := Lib.hid (Sa.vs_snoc pre x)
    have hEl : (evs ++ Sa.ef at_ has (Sa.vs pre)).length < 1000000000000 := by
      rw [List.length_append, Sa.ef_len, Sa.vs_len]
      omega
    obtain ⟨A0, hA0⟩ : ∃ A0, (Sa.fl at_ has ws (Sa.vs pre)).1 = A0 := ⟨_, rfl⟩
    obtain ⟨V, hV⟩ : ∃ V, (Sa.fl at_ has ws (Sa.vs pre)).2 = V := ⟨_, rfl⟩
    obtain ⟨E, hE⟩ : ∃ E, evs ++ Sa.ef at_ has (Sa.vs pre) = E := ⟨_, rfl⟩
    obtain ⟨X, hX⟩ : ∃ X, x.val = X := ⟨_, rfl⟩
    have hXm : X < m := by rw [← hX]; exact x.isLt
    have HE := Lib.hid hE
    rw [hA0, hV, hX] at hsn
    rw [hX] at hev hvs ⊢
    obtain ⟨v, hv⟩ : ∃ v, V.getD (at_ + X) 0 = v := ⟨_, rfl⟩
    obtain ⟨u, hu⟩ : ∃ u, V.getD (has + X) 0 = u := ⟨_, rfl⟩
    rw [hv, hu] at hsn
    obtain ⟨y, hy⟩ : ∃ y, Ct.Sel (Sa.mk u) v A0 = y := ⟨_, rfl⟩
    rw [hy] at hsn
    rw [hA0] at cH
    rw [hV, hE] at hIv
    rw [hE] at hEl
    clear hA0 hV hE hX
    have HIv := Lib.hid hIv
    have zG := hIv.size
    have y4 := hIv.nb nb4
    have y5 := hIv.nb nb5
    have y6 := hIv.nb nb6
    have y8 := hIv.nb nb8
    clear hIv
    gi_wp2
    refine Rd.go [0, 1, 2, 3, 6, 7, 8, 9, 11, 4, 5, 10, 12] 13 (fun w' => w'.cell? ⟨G, 0, none⟩ = some (.pointer (some ⟨p, 0, none⟩)) ∧ w'.cell? ⟨G + 1, 0, none⟩ = some (.int .i64 at_) ∧ w'.cell? ⟨G + 1 + 1, 0, none⟩ = some (.int .i64 has) ∧ w'.cell? ⟨H, 0, none⟩ = some (.int .u32 A0)) (by kernel_rfl) (by kernel_rfl) ⟨c4, c5, c6, cH⟩ (fun _ _ _ _ _ h => h) (fun ⟨_, _, h⟩ => h) ?_
    ((first | (refine Rd.wk_pure (v := ?_) (by rfl) (by kernel_rfl) (by kernel_rfl) (Or.inl ⟨by rfl, ?_⟩) ?_; rotate_left; (next => (intro w; go_simp; done))) | (refine Rd.wk_pure (v := ?_) (by rfl) (by kernel_rfl) (by kernel_rfl) (Or.inl ⟨by rfl, ?_⟩) ?_; rotate_left; (next => (intro w; go_simp; with_reducible rfl))) | (refine Rd.wk_load (v := ?_) (by rfl) (by kernel_rfl) (by kernel_rfl) (by kernel_rfl) (Or.inl ⟨by rfl, ?_⟩) ?_; rotate_left; (next => (intro w hSw; (try dsimp only at hSw); go_split_ands; go_simp; done))) | (refine Rd.wk_load (v := ?_) (by rfl) (by kernel_rfl) (by kernel_rfl) (by kernel_rfl) (Or.inl ⟨by rfl, ?_⟩) ?_; rotate_left; (next => (intro w hSw; (try dsimp only at hSw); go_split_ands; go_simp; with_reducible rfl)))); (try simp only [Act.put, List.setIfInBounds_toArray, List.set_cons_zero, List.set_cons_succ]))
    ((first | (refine Rd.wk_pure (v := ?_) (by rfl) (by kernel_rfl) (by kernel_rfl) (Or.inl ⟨by rfl, ?_⟩) ?_; rotate_left; (next => (intro w; go_simp; done))) | (refine Rd.wk_pure (v := ?_) (by rfl) (by kernel_rfl) (by kernel_rfl) (Or.inl ⟨by rfl, ?_⟩) ?_; rotate_left; (next => (intro w; go_simp; with_reducible rfl))) | (refine Rd.wk_load (v := ?_) (by rfl) (by kernel_rfl) (by kernel_rfl) (by kernel_rfl) (Or.inl ⟨by rfl, ?_⟩) ?_; rotate_left; (next => (intro w hSw; (try dsimp only at hSw); go_split_ands; go_simp; done))) | (refine Rd.wk_load (v := ?_) (by rfl) (by kernel_rfl) (by kernel_rfl) (by kernel_rfl) (Or.inl ⟨by rfl, ?_⟩) ?_; rotate_left; (next => (intro w hSw; (try dsimp only at hSw); go_split_ands; go_simp; with_reducible rfl)))); (try simp only [Act.put, List.setIfInBounds_toArray, List.set_cons_zero, List.set_cons_succ]))
    ((first | (refine Rd.wk_pure (v := ?_) (by rfl) (by kernel_rfl) (by kernel_rfl) (Or.inl ⟨by rfl, ?_⟩) ?_; rotate_left; (next => (intro w; go_simp; done))) | (refine Rd.wk_pure (v := ?_) (by rfl) (by kernel_rfl) (by kernel_rfl) (Or.inl ⟨by rfl, ?_⟩) ?_; rotate_left; (next => (intro w; go_simp; with_reducible rfl))) | (refine Rd.wk_load (v := ?_) (by rfl) (by kernel_rfl) (by kernel_rfl) (by kernel_rfl) (Or.inl ⟨by rfl, ?_⟩) ?_; rotate_left; (next => (intro w hSw; (try dsimp only at hSw); go_split_ands; go_simp; done))) | (refine Rd.wk_load (v := ?_) (by rfl) (by kernel_rfl) (by kernel_rfl) (by kernel_rfl) (Or.inl ⟨by rfl, ?_⟩) ?_; rotate_left; (next => (intro w hSw; (try dsimp only at hSw); go_split_ands; go_simp; with_reducible rfl)))); (try simp only [Act.put, List.setIfInBounds_toArray, List.set_cons_zero, List.set_cons_succ]))
    ((first | (refine Rd.wk_pure (v := ?_) (by rfl) (by kernel_rfl) (by kernel_rfl) (Or.inl ⟨by rfl, ?_⟩) ?_; rotate_left; (next => (intro w; go_simp; done))) | (refine Rd.wk_pure (v := ?_) (by rfl) (by kernel_rfl) (by kernel_rfl) (Or.inl ⟨by rfl, ?_⟩) ?_; rotate_left; (next => (intro w; go_simp; with_reducible rfl))) | (refine Rd.wk_load (v := ?_) (by rfl) (by kernel_rfl) (by kernel_rfl) (by kernel_rfl) (Or.inl ⟨by rfl, ?_⟩) ?_; rotate_left; (next => (intro w hSw; (try dsimp only at hSw); go_split_ands; go_simp; done))) | (refine Rd.wk_load (v := ?_) (by rfl) (by kernel_rfl) (by kernel_rfl) (by kernel_rfl) (Or.inl ⟨by rfl, ?_⟩) ?_; rotate_left; (next => (intro w hSw; (try dsimp only at hSw); go_split_ands; go_simp; with_reducible rfl)))); (try simp only [Act.put, List.setIfInBounds_toArray, List.set_cons_zero, List.set_cons_succ]))
    ((first | (refine Rd.wk_pure (v := ?_) (by rfl) (by kernel_rfl) (by kernel_rfl) (Or.inl ⟨by rfl, ?_⟩) ?_; rotate_left; (next => (intro w; go_simp; done))) | (refine Rd.wk_pure (v := ?_) (by rfl) (by kernel_rfl) (by kernel_rfl) (Or.inl ⟨by rfl, ?_⟩) ?_; rotate_left; (next => (intro w; go_simp; with_reducible rfl))) | (refine Rd.wk_load (v := ?_) (by rfl) (by kernel_rfl) (by kernel_rfl) (by kernel_rfl) (Or.inl ⟨by rfl, ?_⟩) ?_; rotate_left; (next => (intro w hSw; (try dsimp only at hSw); go_split_ands; go_simp; done))) | (refine Rd.wk_load (v := ?_) (by rfl) (by kernel_rfl) (by kernel_rfl) (by kernel_rfl) (Or.inl ⟨by rfl, ?_⟩) ?_; rotate_left; (next => (intro w hSw; (try dsimp only at hSw); go_split_ands; go_simp; with_reducible rfl)))); (try simp only [Act.put, List.setIfInBounds_toArray, List.set_cons_zero, List.set_cons_succ]))
    ((first | (refine Rd.wk_pure (v := ?_) (by rfl) (by kernel_rfl) (by kernel_rfl) (Or.inl ⟨by rfl, ?_⟩) ?_; rotate_left; (next => (intro w; go_simp; done))) | (refine Rd.wk_pure (v := ?_) (by rfl) (by kernel_rfl) (by kernel_rfl) (Or.inl ⟨by rfl, ?_⟩) ?_; rotate_left; (next => (intro w; go_simp; with_reducible rfl))) | (refine Rd.wk_load (v := ?_) (by rfl) (by kernel_rfl) (by kernel_rfl) (by kernel_rfl) (Or.inl ⟨by rfl, ?_⟩) ?_; rotate_left; (next => (intro w hSw; (try dsimp only at hSw); go_split_ands; go_simp; done))) | (refine Rd.wk_load (v := ?_) (by rfl) (by kernel_rfl) (by kernel_rfl) (by kernel_rfl) (Or.inl ⟨by rfl, ?_⟩) ?_; rotate_left; (next => (intro w hSw; (try dsimp only at hSw); go_split_ands; go_simp; with_reducible rfl)))); (try simp only [Act.put, List.setIfInBounds_toArray, List.set_cons_zero, List.set_cons_succ]))
    ((first | (refine Rd.wk_pure (v := ?_) (by rfl) (by kernel_rfl) (by kernel_rfl) (Or.inl ⟨by rfl, ?_⟩) ?_; rotate_left; (next => (intro w; go_simp; done))) | (refine Rd.wk_pure (v := ?_) (by rfl) (by kernel_rfl) (by kernel_rfl) (Or.inl ⟨by rfl, ?_⟩) ?_; rotate_left; (next => (intro w; go_simp; with_reducible rfl))) | (refine Rd.wk_load (v := ?_) (by rfl) (by kernel_rfl) (by kernel_rfl) (by kernel_rfl) (Or.inl ⟨by rfl, ?_⟩) ?_; rotate_left; (next => (intro w hSw; (try dsimp only at hSw); go_split_ands; go_simp; done))) | (refine Rd.wk_load (v := ?_) (by rfl) (by kernel_rfl) (by kernel_rfl) (by kernel_rfl) (Or.inl ⟨by rfl, ?_⟩) ?_; rotate_left; (next => (intro w hSw; (try dsimp only at hSw); go_split_ands; go_simp; with_reducible rfl)))); (try simp only [Act.put, List.setIfInBounds_toArray, List.set_cons_zero, List.set_cons_succ]))
    ((first | (refine Rd.wk_pure (v := ?_) (by rfl) (by kernel_rfl) (by kernel_rfl) (Or.inl ⟨by rfl, ?_⟩) ?_; rotate_left; (next => (intro w; go_simp; done))) | (refine Rd.wk_pure (v := ?_) (by rfl) (by kernel_rfl) (by kernel_rfl) (Or.inl ⟨by rfl, ?_⟩) ?_; rotate_left; (next => (intro w; go_simp; with_reducible rfl))) | (refine Rd.wk_load (v := ?_) (by rfl) (by kernel_rfl) (by kernel_rfl) (by kernel_rfl) (Or.inl ⟨by rfl, ?_⟩) ?_; rotate_left; (next => (intro w hSw; (try dsimp only at hSw); go_split_ands; go_simp; done))) | (refine Rd.wk_load (v := ?_) (by rfl) (by kernel_rfl) (by kernel_rfl) (by kernel_rfl) (Or.inl ⟨by rfl, ?_⟩) ?_; rotate_left; (next => (intro w hSw; (try dsimp only at hSw); go_split_ands; go_simp; with_reducible rfl)))); (try simp only [Act.put, List.setIfInBounds_toArray, List.set_cons_zero, List.set_cons_succ]))
    ((first | (refine Rd.wk_pure (v := ?_) (by rfl) (by kernel_rfl) (by kernel_rfl) (Or.inl ⟨by rfl, ?_⟩) ?_; rotate_left; (next => (intro w; go_simp; done))) | (refine Rd.wk_pure (v := ?_) (by rfl) (by kernel_rfl) (by kernel_rfl) (Or.inl ⟨by rfl, ?_⟩) ?_; rotate_left; (next => (intro w; go_simp; with_reducible rfl))) | (refine Rd.wk_load (v := ?_) (by rfl) (by kernel_rfl) (by kernel_rfl) (by kernel_rfl) (Or.inl ⟨by rfl, ?_⟩) ?_; rotate_left; (next => (intro w hSw; (try dsimp only at hSw); go_split_ands; go_simp; done))) | (refine Rd.wk_load (v := ?_) (by rfl) (by kernel_rfl) (by kernel_rfl) (by kernel_rfl) (Or.inl ⟨by rfl, ?_⟩) ?_; rotate_left; (next => (intro w hSw; (try dsimp only at hSw); go_split_ands; go_simp; with_reducible rfl)))); (try simp only [Act.put, List.setIfInBounds_toArray, List.set_cons_zero, List.set_cons_succ]))
    (refine Rd.wk_call (by rfl) (by kernel_rfl) (by rfl) ?_; go_simp)
    have hL := (HIv.out.below (bl_drew (Below.refl _ _))).load (by omega) (IntKind.i64.wrap ((has : Int) + (X : Int))) (has + X) (by rw [IntWalk.i64_in _ (by omega)]; omega) (by omega)
    rw [hu] at hL
    refine hL.mono ?_
    rintro e W2 ⟨rfl, hIv2, hKp2⟩
    have hIv2 := Lib.hid hIv2
    have s2 : ∀ b, NB b → ∀ o, W2.cell? ⟨b, o, none⟩ = W.cell? ⟨b, o, none⟩ := fun b hb o => hKp2.cell hb (HIv.out.nb hb) o
    have q2 : ∀ b, NB b → W2.heap[b]? = W.heap[b]? := fun b hb => hKp2.2 b hb (HIv.out.nb hb)
    have k2 : KeepsOthers W W2 := KeepsOthers.trans (B := W.drew) ⟨Nat.le_refl _, fun _ _ h _ => h⟩ hKp2.1
    refine ⟨⟨(s2 _ nb4 0).trans c4, (s2 _ nb5 0).trans c5, (s2 _ nb6 0).trans c6, (s2 _ nb8 0).trans cH⟩, ?_⟩
    (try simp only [Act.put, List.setIfInBounds_toArray, List.set_cons_zero, List.set_cons_succ])
    (refine Rd.wk_call (by rfl) (by kernel_rfl) (by rfl) ?_; go_simp)
    refine (saMask_any _ _).mono ?_
    rintro e W3 ⟨rfl, hB3⟩
    have hIv3 := Lib.hid (hIv2.out.below hB3)
    have q3 : ∀ b, NB b → W3.heap[b]? = W.heap[b]? := fun b hb => (hB3.block b (hIv2.out.nb hb)).trans (q2 b hb)
    have k3 := k2.trans (ko_below hB3)
    have s3 : ∀ b, NB b → ∀ o, W3.cell? ⟨b, o, none⟩ = W.cell? ⟨b, o, none⟩ := fun b hb o => World.cell?_of_block (a := ⟨b, o, none⟩) (q3 b hb)
    refine ⟨⟨(s3 _ nb4 0).trans c4, (s3 _ nb5 0).trans c5, (s3 _ nb6 0).trans c6, (s3 _ nb8 0).trans cH⟩, ?_⟩
    (try simp only [Act.put, List.setIfInBounds_toArray, List.set_cons_zero, List.set_cons_succ])
    clear hL hKp2 s2 q2 k2
    (refine Rd.wk_call (by rfl) (by kernel_rfl) (by rfl) ?_; go_simp)
    have hL := hIv3.out.load (by rw [List.length_append]; simp; omega) (IntKind.i64.wrap ((at_ : Int) + (X : Int))) (at_ + X) (by rw [IntWalk.i64_in _ (by omega)]; omega) (by omega)
    rw [hv] at hL
    refine hL.mono ?_
    rintro e W4 ⟨rfl, hIv4, hKp4⟩
    have hIv4 := Lib.hid hIv4
    have q4 : ∀ b, NB b → W4.heap[b]? = W.heap[b]? := fun b hb => (hKp4.2 b hb (hIv3.out.nb hb)).trans (q3 b hb)
    have k4 := k3.trans hKp4.1
    have s4 : ∀ b, NB b → ∀ o, W4.cell? ⟨b, o, none⟩ = W.cell? ⟨b, o, none⟩ := fun b hb o => World.cell?_of_block (a := ⟨b, o, none⟩) (q4 b hb)
    refine ⟨⟨(s4 _ nb4 0).trans c4, (s4 _ nb5 0).trans c5, (s4 _ nb6 0).trans c6, (s4 _ nb8 0).trans cH⟩, ?_⟩
    (try simp only [Act.put, List.setIfInBounds_toArray, List.set_cons_zero, List.set_cons_succ])
    clear hL hKp4 s3 q3 k3
    (refine Rd.wk_call (by rfl) (by kernel_rfl) (by rfl) ?_; go_simp)
    have hSel := Sel_any (Sa.mk u) v A0 W4
    rw [hy] at hSel
    refine hSel.mono ?_
    rintro e W5 ⟨rfl, hB5⟩
    have hIv5 := Lib.hid (hIv4.out.below hB5)
    have q5 : ∀ b, NB b → W5.heap[b]? = W.heap[b]? := fun b hb => (hB5.block b (hIv4.out.nb hb)).trans (q4 b hb)
    have k5 := k4.trans (ko_below hB5)
    have s5 : ∀ b, NB b → ∀ o, W5.cell? ⟨b, o, none⟩ = W.cell? ⟨b, o, none⟩ := fun b hb o => World.cell?_of_block (a := ⟨b, o, none⟩) (q5 b hb)
    refine ⟨⟨(s5 _ nb4 0).trans c4, (s5 _ nb5 0).trans c5, (s5 _ nb6 0).trans c6, (s5 _ nb8 0).trans cH⟩, ?_⟩
    (try simp only [Act.put, List.setIfInBounds_toArray, List.set_cons_zero, List.set_cons_succ])
    clear hSel s4 q4 k4
    have e3H := (s5 _ nb8 0).trans cH
    have f3H : W5.frozen? ⟨H, 0, none⟩ = false := (World.frozen?_of_block (a := ⟨H, 0, none⟩) (q5 _ nb8)).trans fH
    (refine Rd.wk_last (by rfl) (by kernel_rfl) (by kernel_rfl) (by rfl) ?_; go_simp)
    refine rd_gen (W5.setCell { block := H, off := 0 } (Value.int IntKind.u32 y)) ?_
    intro W6 hW6
    have z5 := hIv5.out.size
    have hIv6 := Lib.hid (show Iv w p g lp FL top NB V (E ++ [⟨1, ((has + X : Nat) : Int), 0⟩] ++ [⟨1, ((at_ + X : Nat) : Int), 0⟩]) W6 by rw [hW6]; exact hIv5.out.far nb8 (by omega) _)
    have q6 : Hid (∀ b, NB b → b ≠ H → W6.heap[b]? = W.heap[b]?) := Lib.hid (fun b hb hn => by
      rw [hW6]
      exact (Below.heap_setCell W5 ⟨H, 0, none⟩ _ b hn).trans (q5 b hb))
    have k6 : KeepsOthers W W6 := by
      rw [hW6]
      exact k5.trans (KeepsOthers.setCell _ _ _)
    have kH : W6.cell? ⟨H, 0, none⟩ = some (.int .u32 y) := by rw [hW6]; exact World.cell?_setCell_same' _ _ _ (by rw [e3H]; rfl)
    have fH6 : W6.frozen? ⟨H, 0, none⟩ = false := by rw [hW6, World.frozen?_setCell]; exact f3H
    have g4 : W6.cell? ⟨G, 0, none⟩ = some (.pointer (some ⟨p, 0, none⟩)) := (World.cell?_of_block (a := ⟨G, 0, none⟩) (q6.out _ nb4 (by show G ≠ H; omega))).trans c4
    have g5 : W6.cell? ⟨G + 1, 0, none⟩ = some (.int .i64 at_) := (World.cell?_of_block (a := ⟨G + 1, 0, none⟩) (q6.out _ nb5 (by show G + 1 ≠ H; omega))).trans c5
    have g6 : W6.cell? ⟨G + 1 + 1, 0, none⟩ = some (.int .i64 has) := (World.cell?_of_block (a := ⟨G + 1 + 1, 0, none⟩) (q6.out _ nb6 (by show G + 1 + 1 ≠ H; omega))).trans c6
    clear hW6 s5 q5 k5 e3H f3H
    gi_wp2_with (gi_at_call 78; refine (callsIn_wide.2 (hIv6.out.store (by rw [List.length_append, List.length_append]; simp; omega) _ (at_ + X) (by omega) (by omega) _)).mono ?_; rintro e W7 ⟨rfl, hIv7, hKp7⟩)
    have hk7 : ∀ b, NB b → b ≠ H → W7.heap[b]? = W.heap[b]? := fun b hb hn => (hKp7.2 b hb (hIv6.out.nb hb)).trans (q6.out b hb hn)
    refine ⟨k6.trans hKp7.1, World.cell?_of_block (a := ⟨Bn, 0, none⟩) (hk7 Bn nBn (fun e => hHn e.symm)), ?_, ?_, ?_, ?_, ?_, ?_⟩
    · rw [hvs.out, hsn.out, hev.out, ← List.append_assoc, ← List.append_assoc, ← List.append_assoc, HE.out]
      exact hIv7
    · rw [hvs.out, hsn.out]
      exact (hKp7.cell nb8 (hIv6.out.nb nb8) 0).trans kH
    · exact (hKp7.frozen nb8 (hIv6.out.nb nb8) 0).trans fH6
    · exact (World.cell?_of_block (a := ⟨G, 0, none⟩) (hk7 G nb4 (by show G ≠ H; omega))).trans c4
    · exact (World.cell?_of_block (a := ⟨G + 1, 0, none⟩) (hk7 _ nb5 (by show G + 1 ≠ H; omega))).trans c5
    · exact (World.cell?_of_block (a := ⟨G + 1 + 1, 0, none⟩) (hk7 _ nb6 (by show G + 1 + 1 ≠ H; omega))).trans c6
  case done =>
    rintro D ys W hD rfl ⟨hIv, cH, fH, c4, c5, c6⟩ hK
    have HIv := Lib.hid hIv
    clear hIv
    gi_wp2
    have hrow : ∀ r, some D = some r → w.heap.size ≤ r ∧ ∃ o : Obj, W.heap[r]? = some o ∧ o.isCells = false := fun r e => by
      cases e
      exact ⟨by omega, _, hK, rfl⟩
    obtain ⟨F', hA', hS'⟩ := (HIv.out.grown (grownBy_putObj' W D (.deferred none)) hrow).out HA.out.np HA.out.ng
    refine ⟨by simp, .inl ⟨_, _, rfl, run_takeDeferred hK, ?_⟩⟩
    exact ⟨_, results_none rfl _ _ _, ⟨_, rfl⟩, F', hA', hS'⟩
  case stop =>
    rintro D c pre W _ _ h _
    exact h.elim
end Go.Proofs.Ytdakbejppnijdaa
