/- scan.met. No condition. -/
import Derived.Test.YtdakbejppnijdaaSaC
import Derived.Deep.RegionHeld3
namespace Go.Proofs.Ytdakbejppnijdaa
open Go.RowKit Go.Shelf
set_option linter.unusedSimpArgs false
set_option linter.unusedVariables false
attribute [local go_sem] IntKind.wrap_u32' signed_u32 max_u32
attribute [local go_sem ↓] Go.wp_at_zero Go.wp_at_succ
attribute [local go_sem] Oper.semAt_some
attribute [local go_sem] wide_fn wide_all
attribute [local go_sem] Calm.C
attribute [local go_sem low] Calm.al_cell Calm.al_frozen
attribute [local irreducible] Sa.mt Sa.em Sa.mk Ct.Sel Ct.Or
set_option maxRecDepth 100000 in
set_option maxHeartbeats 4000000 in
theorem saMet_any {w : World} {p g lp : Nat} {FL : Nat → Prop} {ws : List Int} {top : Nat} {evs : List Ev} (h : Ar w p g lp FL ws top evs) {gf m : Nat} {xs : List Nat} (hit : Sa.It gf m xs) (Bn : Nat) (hBn : Bn < w.heap.size) (hBf : ¬ AF p g FL Bn) (hBc : w.cell? ⟨Bn, 0, none⟩ = some (.int .i64 m))
    (at_ has : Nat) (hat : at_ + m ≤ top) (hha : has + m ≤ top) (he : evs.length < 900000000000) :
    Calls Try.prog 86 #[.pointer (some ⟨p, 0, none⟩), .int .i64 at_, .int .i64 has, .func (.func gf) #[] #[.pointer (some ⟨Bn, 0, none⟩)]] w fun e w' => e = .returned (.tuple #[.agg #[.int .u32 (Sa.mt at_ has ws xs).1], .agg #[.int .u32 (Sa.mt at_ has ws xs).2]]) ∧
      ∃ FL', Ar w' p g lp FL' ws top (evs ++ Sa.em at_ has xs) ∧ Step (AF p g FL) (AF p g FL') w w' := by
  have htop : (top : Int) ≤ 4194304 := by have := h.ht; have := h.hz; omega
  have HA := Lib.hid h
  have HIT := Lib.hid hit
  have HM := Lib.hid h.most
  have hm := hit.len
  clear h hit
  refine (callsIn_wide (n := 3)).1 ?_
  refine callsIn_of_wp_marks Try.func86 rfl trivial ?_ rfl
  simp only [Try.ntmps86, List.size_toArray, List.length_cons, List.length_nil, Nat.reduceAdd, Nat.reduceSub, Array.replicate_succ, Array.replicate_zero, List.push_toArray, List.append_toArray, List.nil_append, List.cons_append]
  gi_wp2_with (gi_at_call 62; refine (callsIn_wide.2 (Of_any _ _)).mono ?_; rintro e wf ⟨rfl, hb⟩; have hcf := bcell hb; (try simp only [World.size_alloc, World.size_setCell, drew_size] at hcf); have hz := hb.size; (try simp only [World.size_alloc, World.size_setCell, World.size_drew] at hz); have hbh := Lib.hid hb; clear hb; obtain ⟨hc, hf⟩ := hcf)
  refine wpIn_gen _ ?_
  intro W0 hW0
  have hB0 : Below w.heap.size w W0 := by
    rw [hW0]
    (repeat' (first | with_reducible exact Below.refl _ _ | with_reducible refine bl_drewN ?_ _ | with_reducible refine bl_drew ?_ | refine bl_set (by (first | omega | (simp; done) | (simp; omega))) ?_ _ | refine bl_alloc (by (first | omega | (simp; done) | (simp; omega))) ?_ _ | refine bl_then (by assumption) ?_ (by (first | omega | (simp; done) | (simp; omega))) | refine Step.bl (by assumption) (by assumption) (by (first | omega | (simp; done) | (simp; omega))) (by (first | omega | (simp; done) | (simp; omega))) ?_))
  have c4 : W0.cell? ⟨w.heap.size, 0, none⟩ = some (.pointer (some ⟨p, 0, none⟩)) := by rw [hW0]; simp [go_sem, ↓IntWalk.iteOmega, *]
  have c5 : W0.cell? ⟨w.heap.size + 1, 0, none⟩ = some (.int .i64 at_) := by rw [hW0]; simp [go_sem, ↓IntWalk.iteOmega, *]
  have c6 : W0.cell? ⟨w.heap.size + 1 + 1, 0, none⟩ = some (.int .i64 has) := by rw [hW0]; simp [go_sem, ↓IntWalk.iteOmega, *]
  have c8 : W0.cell? ⟨w.heap.size + 1 + 1 + 1, 0, none⟩ = some (.int .u32 0) := by rw [hW0]; simp [go_sem, ↓IntWalk.iteOmega, *]
  have f8 : W0.frozen? ⟨w.heap.size + 1 + 1 + 1, 0, none⟩ = false := by rw [hW0]; simp [go_sem, ↓IntWalk.iteOmega, *]; first | done | (intro hle; omega)
  have c9 : W0.cell? ⟨w.heap.size + 1 + 1 + 1 + 1, 0, none⟩ = some (.int .u32 0) := by rw [hW0]; simp [go_sem, ↓IntWalk.iteOmega, *]
  have f9 : W0.frozen? ⟨w.heap.size + 1 + 1 + 1 + 1, 0, none⟩ = false := by rw [hW0]; simp [go_sem, ↓IntWalk.iteOmega, *]; first | done | (intro hle; omega)
  have cH : W0.cell? ⟨wf.heap.size, 0, none⟩ = some (.int .u32 0) := by rw [hW0]; simp [go_sem, ↓IntWalk.iteOmega]
  have fH : W0.frozen? ⟨wf.heap.size, 0, none⟩ = false := by rw [hW0]; simp [go_sem, ↓IntWalk.iteOmega]
  have cI : W0.cell? ⟨wf.heap.size + 1, 0, none⟩ = some (.int .u32 0) := by rw [hW0]; simp [go_sem, ↓IntWalk.iteOmega]
  have fI : W0.frozen? ⟨wf.heap.size + 1, 0, none⟩ = false := by rw [hW0]; simp [go_sem, ↓IntWalk.iteOmega]
  have zH : wf.heap.size + 1 < W0.heap.size := World.block_lt_of_cell? W0 ⟨_, 0, none⟩ cI
  have hGH : w.heap.size + 1 + 1 + 1 + 1 + 1 ≤ wf.heap.size := by omega
  clear hW0 hc hf hbh hz
  clear hc hf hbh hz
  obtain ⟨G, hG⟩ : ∃ G, w.heap.size = G := ⟨_, rfl⟩
  obtain ⟨H, hH⟩ : ∃ H, wf.heap.size = H := ⟨_, rfl⟩
  simp only [hG, hH] at c4 c5 c6 c8 f8 c9 f9 cH fH cI fI zH hGH ⊢
  obtain ⟨NB, hNB⟩ : ∃ NB : Nat → Prop, NB = fun b => b = Bn ∨ (G ≤ b ∧ b ≤ H + 1) := ⟨_, rfl⟩
  have nBn : NB Bn := by rw [hNB]; exact .inl rfl
  have nb4 : NB G := by rw [hNB]; exact .inr ⟨by omega, by omega⟩
  have nb5 : NB (G + 1) := by rw [hNB]; exact .inr ⟨by omega, by omega⟩
  have nb6 : NB (G + 1 + 1) := by rw [hNB]; exact .inr ⟨by omega, by omega⟩
  have nb8 : NB (G + 1 + 1 + 1) := by rw [hNB]; exact .inr ⟨by omega, by omega⟩
  have nb9 : NB (G + 1 + 1 + 1 + 1) := by rw [hNB]; exact .inr ⟨by omega, by omega⟩
  have nbH : NB H := by rw [hNB]; exact .inr ⟨by omega, by omega⟩
  have nbI : NB (H + 1) := by rw [hNB]; exact .inr ⟨by omega, by omega⟩
  have hI0 : Iv w p g lp FL top NB ws evs W0 := Iv.start HA.out hB0 (fun b hb => by
    rw [hNB] at hb
    rcases hb with rfl | hb
    · exact ⟨by have := hB0.size; omega, hBf⟩
    · exact ⟨by omega, fun hf => by have := HM.out b hf; omega⟩)
  have hBc0 : W0.cell? ⟨Bn, 0, none⟩ = some (.int .i64 m) := (hB0.cell (p := ⟨Bn, 0, none⟩) hBn).trans hBc
  have hBn0 : Bn < W0.heap.size := by have := hB0.size; omega
  have hHn : H ≠ Bn := by omega
  have hIn : H + 1 ≠ Bn := by omega
  have BxO : Hid (OwnFrom W0.heap.size (fun (pre : List (Fin m)) W => Iv w p g lp FL top NB ws (evs ++ Sa.em at_ has (Sa.vs pre)) W)) := Lib.hid (fun s A B row hs hg hr => hs.grown hg (fun r e => ⟨by have := (hr r e).1; have := hB0.size; omega, (hr r e).2⟩))
  clear hNB hB0
  refine wpIn_rangeFunc_ownF rfl (by decide) (gf := gf) (lb := #[.pointer (some ⟨Bn, 0, none⟩)]) rfl trivial HIT.out.ent
    (HIT.out.seq Bn W0 hBn0 hBc0) Sa.Kc.trans (Sa.kc_put hBn0) (Below.refl _ _) (fun _ => rfl)
    (fun pre W => (Iv w p g lp FL top NB ws (evs ++ Sa.em at_ has (Sa.vs pre)) W) ∧ (W.cell? ⟨H, 0, none⟩ = some (.int .u32 (Sa.mt at_ has ws (Sa.vs pre)).1) ∧ W.frozen? ⟨H, 0, none⟩ = false ∧ W.cell? ⟨H + 1, 0, none⟩ = some (.int .u32 (Sa.mt at_ has ws (Sa.vs pre)).2) ∧ W.frozen? ⟨H + 1, 0, none⟩ = false ∧ W.cell? ⟨G, 0, none⟩ = some (.pointer (some ⟨p, 0, none⟩)) ∧ W.cell? ⟨G + 1, 0, none⟩ = some (.int .i64 at_) ∧ W.cell? ⟨G + 1 + 1, 0, none⟩ = some (.int .i64 has) ∧ W.cell? ⟨G + 1 + 1 + 1, 0, none⟩ = some (.int .u32 0) ∧ W.frozen? ⟨G + 1 + 1 + 1, 0, none⟩ = false ∧ W.cell? ⟨G + 1 + 1 + 1 + 1, 0, none⟩ = some (.int .u32 0) ∧ W.frozen? ⟨G + 1 + 1 + 1 + 1, 0, none⟩ = false))
    (fun _ _ _ => False)
    (OwnFrom.and BxO.out (Own.from (fun s A B row hs hg hr => by
      obtain ⟨a1, a2, a3, a4, a5, a6, a7, a8, a9, a10, a11⟩ := hs
      exact ⟨cell_kept a1 hg hr, (frozen_kept a1 hg hr).trans a2, cell_kept a3 hg hr, (frozen_kept a3 hg hr).trans a4, cell_kept a5 hg hr, cell_kept a6 hg hr, cell_kept a7 hg hr, cell_kept a8 hg hr, (frozen_kept a8 hg hr).trans a9, cell_kept a10 hg hr, (frozen_kept a10 hg hr).trans a11⟩) _))
    (fun _ _ _ _ _ hs _ _ => hs)
    ⟨by rw [Sa.vs_nil]; exact (by simpa [Sa.em] using hI0), by rw [Sa.vs_nil, Sa.mt_nil]; exact cH, fH, by rw [Sa.vs_nil, Sa.mt_nil]; exact cI, fI, c4, c5, c6, c8, f8, c9, f9⟩
    (fun x => { tmps := #[.pointer (some ⟨p, 0, none⟩), .int .i64 at_, .int .i64 has, .func (.func gf) #[] #[.pointer (some ⟨Bn, 0, none⟩)], .pointer (some ⟨G, 0, none⟩), .pointer (some ⟨G + 1, 0, none⟩), .pointer (some ⟨G + 1 + 1, 0, none⟩), undef, .pointer (some ⟨G + 1 + 1 + 1, 0, none⟩), .pointer (some ⟨G + 1 + 1 + 1 + 1, 0, none⟩), .pointer (some ⟨H, 0, none⟩), .pointer (some ⟨H + 1, 0, none⟩), .int .i64 (x.val : Int), undef, .agg #[.int .u32 0], .agg #[.int .u32 0], .func (.func gf) #[] #[.pointer (some ⟨Bn, 0, none⟩)], .int .i64 (x.val : Int), undef, undef, undef, undef, undef, undef, undef, undef, undef, undef, undef, undef, undef, undef, undef, undef, undef, undef, undef], defers := [] }) ?assign ?body ?done ?stop
  case assign =>
    intro l x W K hK
    dsimp only [Sa.enc]
    gi_wp2
    first | exact hK | (simp; exact hK) | (simpa using hK)
  case body =>
    rintro l pre x W ⟨hIv, cH, fH, cI, fI, c4, c5, c6, c8, f8, c9, f9⟩ hlen
    have hsn := Lib.hid (Sa.mt_snoc at_ has ws (Sa.vs pre) x.val)
    have hev := Lib.hid (Sa.em_snoc at_ has (Sa.vs pre) x.val)
    have hvs := Lib.hid (Sa.vs_snoc pre x)
    have hEl : (evs ++ Sa.em at_ has (Sa.vs pre)).length < 1000000000000 := by
      rw [List.length_append, Sa.em_len, Sa.vs_len]
      omega
    obtain ⟨A0, hA0⟩ : ∃ A0, (Sa.mt at_ has ws (Sa.vs pre)).1 = A0 := ⟨_, rfl⟩
    obtain ⟨D0, hD0⟩ : ∃ D0, (Sa.mt at_ has ws (Sa.vs pre)).2 = D0 := ⟨_, rfl⟩
    obtain ⟨E, hE⟩ : ∃ E, evs ++ Sa.em at_ has (Sa.vs pre) = E := ⟨_, rfl⟩
    obtain ⟨X, hX⟩ : ∃ X, x.val = X := ⟨_, rfl⟩
    have hXm : X < m := by rw [← hX]; exact x.isLt
    have HE := Lib.hid hE
    rw [hA0, hD0, hX] at hsn
    rw [hX] at hev hvs ⊢
    obtain ⟨v, hv⟩ : ∃ v, ws.getD (at_ + X) 0 = v := ⟨_, rfl⟩
    obtain ⟨u, hu⟩ : ∃ u, ws.getD (has + X) 0 = u := ⟨_, rfl⟩
    rw [hv, hu] at hsn
    obtain ⟨k, hk⟩ : ∃ k, Sa.mk u = k := ⟨_, rfl⟩
    rw [hk] at hsn
    obtain ⟨y, hy⟩ : ∃ y, Ct.Sel k v A0 = y := ⟨_, rfl⟩
    obtain ⟨o, ho⟩ : ∃ o, Ct.Or D0 k = o := ⟨_, rfl⟩
    rw [hy, ho] at hsn
    rw [hA0] at cH
    rw [hD0] at cI
    rw [hE] at hIv hEl
    clear hA0 hD0 hE hX
    have HIv := Lib.hid hIv
    have zG := hIv.size
    have y4 := hIv.nb nb4
    have y5 := hIv.nb nb5
    have y6 := hIv.nb nb6
    have yH := hIv.nb nbH
    have yI := hIv.nb nbI
    have hL := HIv.out.load (by omega) ((has : Int) + (X : Int)) (has + X) (by omega) (by omega)
    have hM := saMask_any u
    rw [hu] at hL
    rw [hk] at hM
    have HL := Lib.hid hL
    have HMk := Lib.hid hM
    clear hIv hL hM
    gi_wp2_with (first | (gi_at_call 77; refine (callsIn_wide.2 HL.out).mono ?_; rintro e W2 ⟨rfl, hIv2, hKp2⟩) | (gi_at_call 110; refine (callsIn_wide.2 (HMk.out _)).mono ?_; rintro e W3 ⟨rfl, hB3⟩))
    refine wpIn_gen _ ?_
    intro W4 hW4
    have hIv3 := Lib.hid (hIv2.below hB3)
    have z3 := hB3.size
    have z2 := hKp2.1.size
    have B4 : Below W3.heap.size W3 W4 := by
      rw [hW4]
      (repeat' (first | with_reducible exact Below.refl _ _ | with_reducible refine bl_drewN ?_ _ | with_reducible refine bl_drew ?_ | refine bl_set (by (first | omega | (simp; done) | (simp; omega))) ?_ _ | refine bl_alloc (by (first | omega | (simp; done) | (simp; omega))) ?_ _ | refine bl_then (by assumption) ?_ (by (first | omega | (simp; done) | (simp; omega))) | refine Step.bl (by assumption) (by assumption) (by (first | omega | (simp; done) | (simp; omega))) (by (first | omega | (simp; done) | (simp; omega))) ?_))
    have d13 : W4.cell? ⟨W3.heap.size, 0, none⟩ = some (.int .u32 k) := by rw [hW4]; simp
    have z4 : W3.heap.size < W4.heap.size := World.block_lt_of_cell? W4 ⟨_, 0, none⟩ d13
    clear hW4
    have hIv4 := Lib.hid (hIv3.out.add W3.heap.size (Nat.le_refl _) z4 B4)
    have q4 : ∀ b, NB b → W4.heap[b]? = W.heap[b]? := fun b hb => (B4.block b (hIv3.out.nb hb)).trans ((hB3.block b (hIv2.nb hb)).trans (hKp2.2 b hb (HIv.out.nb hb)))
    have k4 : KeepsOthers W W4 := hKp2.1.trans ((ko_below hB3).trans (ko_below B4))
    have s4 : ∀ b, NB b → ∀ o, W4.cell? ⟨b, o, none⟩ = W.cell? ⟨b, o, none⟩ := fun b hb o => World.cell?_of_block (a := ⟨b, o, none⟩) (q4 b hb)
    obtain ⟨K, hKK⟩ : ∃ K, W3.heap.size = K := ⟨_, rfl⟩
    rw [hKK] at d13 z4 hIv4 ⊢
    have hKH : H + 1 < K := by omega
    clear hIv2 hKp2 hB3 hIv3 B4 hKK
    refine Rd.go [0, 1, 2, 3, 4, 6, 5, 7] 8 (fun w' => w'.cell? ⟨G, 0, none⟩ = some (.pointer (some ⟨p, 0, none⟩)) ∧ w'.cell? ⟨G + 1, 0, none⟩ = some (.int .i64 at_) ∧ w'.cell? ⟨K, 0, none⟩ = some (.int .u32 k) ∧ w'.cell? ⟨H, 0, none⟩ = some (.int .u32 A0)) (by kernel_rfl) (by kernel_rfl) ⟨(s4 _ nb4 0).trans c4, (s4 _ nb5 0).trans c5, d13, (s4 _ nbH 0).trans cH⟩ (fun _ _ _ _ _ h => h) (fun ⟨_, _, h⟩ => h) ?_
    ((first | (refine Rd.wk_pure (v := ?_) (by rfl) (by kernel_rfl) (by kernel_rfl) (Or.inl ⟨by rfl, ?_⟩) ?_; rotate_left; (next => (intro w; go_simp; done))) | (refine Rd.wk_pure (v := ?_) (by rfl) (by kernel_rfl) (by kernel_rfl) (Or.inl ⟨by rfl, ?_⟩) ?_; rotate_left; (next => (intro w; go_simp; with_reducible rfl))) | (refine Rd.wk_load (v := ?_) (by rfl) (by kernel_rfl) (by kernel_rfl) (by kernel_rfl) (Or.inl ⟨by rfl, ?_⟩) ?_; rotate_left; (next => (intro w hSw; (try dsimp only at hSw); go_split_ands; go_simp; done))) | (refine Rd.wk_load (v := ?_) (by rfl) (by kernel_rfl) (by kernel_rfl) (by kernel_rfl) (Or.inl ⟨by rfl, ?_⟩) ?_; rotate_left; (next => (intro w hSw; (try dsimp only at hSw); go_split_ands; go_simp; with_reducible rfl)))); (try simp only [Act.put, List.setIfInBounds_toArray, List.set_cons_zero, List.set_cons_succ]))
    ((first | (refine Rd.wk_pure (v := ?_) (by rfl) (by kernel_rfl) (by kernel_rfl) (Or.inl ⟨by rfl, ?_⟩) ?_; rotate_left; (next => (intro w; go_simp; done))) | (refine Rd.wk_pure (v := ?_) (by rfl) (by kernel_rfl) (by kernel_rfl) (Or.inl ⟨by rfl, ?_⟩) ?_; rotate_left; (next => (intro w; go_simp; with_reducible rfl))) | (refine Rd.wk_load (v := ?_) (by rfl) (by kernel_rfl) (by kernel_rfl) (by kernel_rfl) (Or.inl ⟨by rfl, ?_⟩) ?_; rotate_left; (next => (intro w hSw; (try dsimp only at hSw); go_split_ands; go_simp; done))) | (refine Rd.wk_load (v := ?_) (by rfl) (by kernel_rfl) (by kernel_rfl) (by kernel_rfl) (Or.inl ⟨by rfl, ?_⟩) ?_; rotate_left; (next => (intro w hSw; (try dsimp only at hSw); go_split_ands; go_simp; with_reducible rfl)))); (try simp only [Act.put, List.setIfInBounds_toArray, List.set_cons_zero, List.set_cons_succ]))
    ((first | (refine Rd.wk_pure (v := ?_) (by rfl) (by kernel_rfl) (by kernel_rfl) (Or.inl ⟨by rfl, ?_⟩) ?_; rotate_left; (next => (intro w; go_simp; done))) | (refine Rd.wk_pure (v := ?_) (by rfl) (by kernel_rfl) (by kernel_rfl) (Or.inl ⟨by rfl, ?_⟩) ?_; rotate_left; (next => (intro w; go_simp; with_reducible rfl))) | (refine Rd.wk_load (v := ?_) (by rfl) (by kernel_rfl) (by kernel_rfl) (by kernel_rfl) (Or.inl ⟨by rfl, ?_⟩) ?_; rotate_left; (next => (intro w hSw; (try dsimp only at hSw); go_split_ands; go_simp; done))) | (refine Rd.wk_load (v := ?_) (by rfl) (by kernel_rfl) (by kernel_rfl) (by kernel_rfl) (Or.inl ⟨by rfl, ?_⟩) ?_; rotate_left; (next => (intro w hSw; (try dsimp only at hSw); go_split_ands; go_simp; with_reducible rfl)))); (try simp only [Act.put, List.setIfInBounds_toArray, List.set_cons_zero, List.set_cons_succ]))
    ((first | (refine Rd.wk_pure (v := ?_) (by rfl) (by kernel_rfl) (by kernel_rfl) (Or.inl ⟨by rfl, ?_⟩) ?_; rotate_left; (next => (intro w; go_simp; done))) | (refine Rd.wk_pure (v := ?_) (by rfl) (by kernel_rfl) (by kernel_rfl) (Or.inl ⟨by rfl, ?_⟩) ?_; rotate_left; (next => (intro w; go_simp; with_reducible rfl))) | (refine Rd.wk_load (v := ?_) (by rfl) (by kernel_rfl) (by kernel_rfl) (by kernel_rfl) (Or.inl ⟨by rfl, ?_⟩) ?_; rotate_left; (next => (intro w hSw; (try dsimp only at hSw); go_split_ands; go_simp; done))) | (refine Rd.wk_load (v := ?_) (by rfl) (by kernel_rfl) (by kernel_rfl) (by kernel_rfl) (Or.inl ⟨by rfl, ?_⟩) ?_; rotate_left; (next => (intro w hSw; (try dsimp only at hSw); go_split_ands; go_simp; with_reducible rfl)))); (try simp only [Act.put, List.setIfInBounds_toArray, List.set_cons_zero, List.set_cons_succ]))
    ((first | (refine Rd.wk_pure (v := ?_) (by rfl) (by kernel_rfl) (by kernel_rfl) (Or.inl ⟨by rfl, ?_⟩) ?_; rotate_left; (next => (intro w; go_simp; done))) | (refine Rd.wk_pure (v := ?_) (by rfl) (by kernel_rfl) (by kernel_rfl) (Or.inl ⟨by rfl, ?_⟩) ?_; rotate_left; (next => (intro w; go_simp; with_reducible rfl))) | (refine Rd.wk_load (v := ?_) (by rfl) (by kernel_rfl) (by kernel_rfl) (by kernel_rfl) (Or.inl ⟨by rfl, ?_⟩) ?_; rotate_left; (next => (intro w hSw; (try dsimp only at hSw); go_split_ands; go_simp; done))) | (refine Rd.wk_load (v := ?_) (by rfl) (by kernel_rfl) (by kernel_rfl) (by kernel_rfl) (Or.inl ⟨by rfl, ?_⟩) ?_; rotate_left; (next => (intro w hSw; (try dsimp only at hSw); go_split_ands; go_simp; with_reducible rfl)))); (try simp only [Act.put, List.setIfInBounds_toArray, List.set_cons_zero, List.set_cons_succ]))
    ((first | (refine Rd.wk_pure (v := ?_) (by rfl) (by kernel_rfl) (by kernel_rfl) (Or.inl ⟨by rfl, ?_⟩) ?_; rotate_left; (next => (intro w; go_simp; done))) | (refine Rd.wk_pure (v := ?_) (by rfl) (by kernel_rfl) (by kernel_rfl) (Or.inl ⟨by rfl, ?_⟩) ?_; rotate_left; (next => (intro w; go_simp; with_reducible rfl))) | (refine Rd.wk_load (v := ?_) (by rfl) (by kernel_rfl) (by kernel_rfl) (by kernel_rfl) (Or.inl ⟨by rfl, ?_⟩) ?_; rotate_left; (next => (intro w hSw; (try dsimp only at hSw); go_split_ands; go_simp; done))) | (refine Rd.wk_load (v := ?_) (by rfl) (by kernel_rfl) (by kernel_rfl) (by kernel_rfl) (Or.inl ⟨by rfl, ?_⟩) ?_; rotate_left; (next => (intro w hSw; (try dsimp only at hSw); go_split_ands; go_simp; with_reducible rfl)))); (try simp only [Act.put, List.setIfInBounds_toArray, List.set_cons_zero, List.set_cons_succ]))
    (refine Rd.wk_call (by rfl) (by kernel_rfl) (by rfl) ?_; go_simp)
    have hL := (hIv4.out.below (bl_drew (Below.refl _ _))).load (by rw [List.length_append]; simp; omega) (IntKind.i64.wrap ((at_ : Int) + (X : Int))) (at_ + X) (by rw [IntWalk.i64_in _ (by omega)]; omega) (by omega)
    rw [hv] at hL
    refine hL.mono ?_
    rintro e W5 ⟨rfl, hIv5, hKp5⟩
    have hIv5 := Lib.hid hIv5
    have q5 : ∀ b, NB b → W5.heap[b]? = W.heap[b]? := fun b hb => (hKp5.2 b (.inr hb) (hIv4.out.nb (.inr hb))).trans (q4 b hb)
    have k5 := k4.trans (KeepsOthers.trans (B := W4.drew) ⟨Nat.le_refl _, fun _ _ h _ => h⟩ hKp5.1)
    have s5 : ∀ b, NB b → ∀ o, W5.cell? ⟨b, o, none⟩ = W.cell? ⟨b, o, none⟩ := fun b hb o => World.cell?_of_block (a := ⟨b, o, none⟩) (q5 b hb)
    have d5 := (hKp5.cell (.inl rfl) (show K < W4.drew.heap.size from z4) 0).trans d13
    refine ⟨⟨(s5 _ nb4 0).trans c4, (s5 _ nb5 0).trans c5, d5, (s5 _ nbH 0).trans cH⟩, ?_⟩
    (try simp only [Act.put, List.setIfInBounds_toArray, List.set_cons_zero, List.set_cons_succ])
    clear hL hKp5 s4 q4 k4
    (refine Rd.wk_call (by rfl) (by kernel_rfl) (by rfl) ?_; go_simp)
    have hSel := Sel_any k v A0 W5
    rw [hy] at hSel
    refine hSel.mono ?_
    rintro e W6 ⟨rfl, hB6⟩
    have hIv6 := Lib.hid (hIv5.out.below hB6)
    have q6 : ∀ b, NB b → W6.heap[b]? = W.heap[b]? := fun b hb => (hB6.block b (hIv5.out.nb (.inr hb))).trans (q5 b hb)
    have k6 := k5.trans (ko_below hB6)
    have s6 : ∀ b, NB b → ∀ o, W6.cell? ⟨b, o, none⟩ = W.cell? ⟨b, o, none⟩ := fun b hb o => World.cell?_of_block (a := ⟨b, o, none⟩) (q6 b hb)
    have d6 := (hB6.cell (p := ⟨K, 0, none⟩) (hIv5.out.nb (.inl rfl))).trans d5
    refine ⟨⟨(s6 _ nb4 0).trans c4, (s6 _ nb5 0).trans c5, d6, (s6 _ nbH 0).trans cH⟩, ?_⟩
    (try simp only [Act.put, List.setIfInBounds_toArray, List.set_cons_zero, List.set_cons_succ])
    clear hSel s5 q5 k5 d5
    have e3H := (s6 _ nbH 0).trans cH
    have f3H : W6.frozen? ⟨H, 0, none⟩ = false := (World.frozen?_of_block (a := ⟨H, 0, none⟩) (q6 _ nbH)).trans fH
    (refine Rd.wk_last (by rfl) (by kernel_rfl) (by kernel_rfl) (by rfl) ?_; go_simp)
    refine rd_gen (W6.setCell { block := H, off := 0 } (Value.int IntKind.u32 y)) ?_
    intro W7 hW7
    have z6 := hIv6.out.size
    have hIv7 := Lib.hid (show Iv w p g lp FL top (fun b => b = K ∨ NB b) ws (E ++ [⟨1, ((has + X : Nat) : Int), 0⟩] ++ [⟨1, ((at_ + X : Nat) : Int), 0⟩]) W7 by rw [hW7]; exact hIv6.out.far (.inr nbH) (by omega) _)
    have q7 : Hid (∀ b, NB b → b ≠ H → W7.heap[b]? = W.heap[b]?) := Lib.hid (fun b hb hn => by
      rw [hW7]
      exact (Below.heap_setCell W6 ⟨H, 0, none⟩ _ b hn).trans (q6 b hb))
    have k7 : KeepsOthers W W7 := by
      rw [hW7]
      exact k6.trans (KeepsOthers.setCell _ _ _)
    have kH : W7.cell? ⟨H, 0, none⟩ = some (.int .u32 y) := by rw [hW7]; exact World.cell?_setCell_same' _ _ _ (by rw [e3H]; rfl)
    have fH7 : W7.frozen? ⟨H, 0, none⟩ = false := by rw [hW7, World.frozen?_setCell]; exact f3H
    have kI : W7.cell? ⟨H + 1, 0, none⟩ = some (.int .u32 D0) := (World.cell?_of_block (a := ⟨H + 1, 0, none⟩) (q7.out _ nbI (by show H + 1 ≠ H; omega))).trans cI
    have fI7 : W7.frozen? ⟨H + 1, 0, none⟩ = false := (World.frozen?_of_block (a := ⟨H + 1, 0, none⟩) (q7.out _ nbI (by show H + 1 ≠ H; omega))).trans fI
    have d7 : W7.cell? ⟨K, 0, none⟩ = some (.int .u32 k) := by rw [hW7]; exact (World.cell?_setCell_far W6 ⟨H, 0, none⟩ ⟨K, 0, none⟩ _ (by show H ≠ K; omega)).trans d6
    have yI7 := hIv7.out.nb (.inr nbI)
    have hOr := Or_any D0 k
    rw [ho] at hOr
    have HOr := Lib.hid hOr
    clear hW7 s6 q6 k6 d6 e3H f3H hOr
    gi_wp2_with (gi_at_call 66; refine (callsIn_wide.2 (HOr.out _)).mono ?_; rintro e W8 ⟨rfl, hB8⟩; have kI8 : W8.cell? ⟨H + 1, 0, none⟩ = some (.int .u32 D0) := (hB8.cell (p := ⟨H + 1, 0, none⟩) yI7).trans kI; have fI8 : W8.frozen? ⟨H + 1, 0, none⟩ = false := (hB8.frozen (p := ⟨H + 1, 0, none⟩) yI7).trans fI7)
    refine rd_gen (W8.setCell { block := H + 1, off := 0 } (Value.int IntKind.u32 o)) ?_
    intro W9 hW9
    have z8 := hB8.size
    have hIv9 : Iv w p g lp FL top NB ws (E ++ [⟨1, ((has + X : Nat) : Int), 0⟩] ++ [⟨1, ((at_ + X : Nat) : Int), 0⟩]) W9 := by
      rw [hW9]
      exact ((hIv7.out.below hB8).mono (fun b hb => .inr hb)).far nbI (by omega) _
    have q9 : ∀ b, NB b → b ≠ H → b ≠ H + 1 → W9.heap[b]? = W.heap[b]? := fun b hb hn hn' => by
      rw [hW9]
      exact (Below.heap_setCell W8 ⟨H + 1, 0, none⟩ _ b hn').trans ((hB8.block b (hIv7.out.nb (.inr hb))).trans (q7.out b hb hn))
    have k9 : KeepsOthers W W9 := by
      rw [hW9]
      exact (k7.trans (ko_below hB8)).trans (KeepsOthers.setCell _ _ _)
    refine ⟨k9, World.cell?_of_block (a := ⟨Bn, 0, none⟩) (q9 Bn nBn (fun e => hHn e.symm) (fun e => hIn e.symm)), ?_, ?_, ?_, ?_, ?_, ?_, ?_, ?_, ?_, ?_, ?_, ?_⟩
    · rw [hvs.out, hev.out, ← List.append_assoc, ← List.append_assoc, HE.out]
      exact hIv9
    · rw [hvs.out, hsn.out, hW9]
      exact (World.cell?_setCell_far W8 ⟨H + 1, 0, none⟩ ⟨H, 0, none⟩ _ (by show H + 1 ≠ H; omega)).trans ((hB8.cell (p := ⟨H, 0, none⟩) (hIv7.out.nb (.inr nbH))).trans kH)
    · rw [hW9, World.frozen?_setCell]
      exact (hB8.frozen (p := ⟨H, 0, none⟩) (hIv7.out.nb (.inr nbH))).trans fH7
    · rw [hvs.out, hsn.out, hW9]
      exact World.cell?_setCell_same' _ _ _ (by rw [kI8]; rfl)
    · rw [hW9, World.frozen?_setCell]
      exact fI8
    · exact (World.cell?_of_block (a := ⟨G, 0, none⟩) (q9 G nb4 (by show G ≠ H; omega) (by show G ≠ H + 1; omega))).trans c4
    · exact (World.cell?_of_block (a := ⟨G + 1, 0, none⟩) (q9 _ nb5 (by show G + 1 ≠ H; omega) (by show G + 1 ≠ H + 1; omega))).trans c5
    · exact (World.cell?_of_block (a := ⟨G + 1 + 1, 0, none⟩) (q9 _ nb6 (by show G + 1 + 1 ≠ H; omega) (by show G + 1 + 1 ≠ H + 1; omega))).trans c6
    · exact (World.cell?_of_block (a := ⟨G + 1 + 1 + 1, 0, none⟩) (q9 _ nb8 (by show G + 1 + 1 + 1 ≠ H; omega) (by show G + 1 + 1 + 1 ≠ H + 1; omega))).trans c8
    · exact (World.frozen?_of_block (a := ⟨G + 1 + 1 + 1, 0, none⟩) (q9 _ nb8 (by show G + 1 + 1 + 1 ≠ H; omega) (by show G + 1 + 1 + 1 ≠ H + 1; omega))).trans f8
    · exact (World.cell?_of_block (a := ⟨G + 1 + 1 + 1 + 1, 0, none⟩) (q9 _ nb9 (by show G + 1 + 1 + 1 + 1 ≠ H; omega) (by show G + 1 + 1 + 1 + 1 ≠ H + 1; omega))).trans c9
    · exact (World.frozen?_of_block (a := ⟨G + 1 + 1 + 1 + 1, 0, none⟩) (q9 _ nb9 (by show G + 1 + 1 + 1 + 1 ≠ H; omega) (by show G + 1 + 1 + 1 + 1 ≠ H + 1; omega))).trans f9
  case done =>
    rintro D ys W hD rfl ⟨hIv, cH, fH, cI, fI, c4, c5, c6, c8, f8, c9, f9⟩ hK
    obtain ⟨A0, hA0⟩ : ∃ A0, (Sa.mt at_ has ws (Sa.vs ys)).1 = A0 := ⟨_, rfl⟩
    obtain ⟨D0, hD0⟩ : ∃ D0, (Sa.mt at_ has ws (Sa.vs ys)).2 = D0 := ⟨_, rfl⟩
    rw [hA0] at cH
    rw [hD0] at cI
    have HIv := Lib.hid hIv
    have y8 := hIv.nb nb8
    have y9 := hIv.nb nb9
    have yH := hIv.nb nbH
    have yI := hIv.nb nbI
    clear hIv
    gi_wp2
    refine wpIn_wide.2 ?_
    refine wp_region_noPanic ?_
    refine Rd.goW [0, 1, 2] 3 (fun w' => w'.cell? ⟨H, 0, none⟩ = some (.int .u32 A0) ∧ w'.cell? ⟨H + 1, 0, none⟩ = some (.int .u32 D0)) (by kernel_rfl) (by kernel_rfl) ⟨cH, cI⟩ (fun _ _ _ _ _ h => h) ?_
    ((first | (refine Rd.wk_pure (v := ?_) (by rfl) (by kernel_rfl) (by kernel_rfl) (Or.inl ⟨by rfl, ?_⟩) ?_; rotate_left; (next => (intro w; go_simp; done))) | (refine Rd.wk_pure (v := ?_) (by rfl) (by kernel_rfl) (by kernel_rfl) (Or.inl ⟨by rfl, ?_⟩) ?_; rotate_left; (next => (intro w; go_simp; with_reducible rfl))) | (refine Rd.wk_load (v := ?_) (by rfl) (by kernel_rfl) (by kernel_rfl) (by kernel_rfl) (Or.inl ⟨by rfl, ?_⟩) ?_; rotate_left; (next => (intro w hSw; (try dsimp only at hSw); go_split_ands; go_simp; done))) | (refine Rd.wk_load (v := ?_) (by rfl) (by kernel_rfl) (by kernel_rfl) (by kernel_rfl) (Or.inl ⟨by rfl, ?_⟩) ?_; rotate_left; (next => (intro w hSw; (try dsimp only at hSw); go_split_ands; go_simp; with_reducible rfl)))); (try simp only [Act.put, List.setIfInBounds_toArray, List.set_cons_zero, List.set_cons_succ]))
    ((first | (refine Rd.wk_pure (v := ?_) (by rfl) (by kernel_rfl) (by kernel_rfl) (Or.inl ⟨by rfl, ?_⟩) ?_; rotate_left; (next => (intro w; go_simp; done))) | (refine Rd.wk_pure (v := ?_) (by rfl) (by kernel_rfl) (by kernel_rfl) (Or.inl ⟨by rfl, ?_⟩) ?_; rotate_left; (next => (intro w; go_simp; with_reducible rfl))) | (refine Rd.wk_load (v := ?_) (by rfl) (by kernel_rfl) (by kernel_rfl) (by kernel_rfl) (Or.inl ⟨by rfl, ?_⟩) ?_; rotate_left; (next => (intro w hSw; (try dsimp only at hSw); go_split_ands; go_simp; done))) | (refine Rd.wk_load (v := ?_) (by rfl) (by kernel_rfl) (by kernel_rfl) (by kernel_rfl) (Or.inl ⟨by rfl, ?_⟩) ?_; rotate_left; (next => (intro w hSw; (try dsimp only at hSw); go_split_ands; go_simp; with_reducible rfl)))); (try simp only [Act.put, List.setIfInBounds_toArray, List.set_cons_zero, List.set_cons_succ]))
    have d8 : W.drew.cell? ⟨G + 1 + 1 + 1, 0, none⟩ = some (.int .u32 0) := c8
    have e8 : W.drew.frozen? ⟨G + 1 + 1 + 1, 0, none⟩ = false := f8
    (refine Rd.wk_call (by rfl) (by kernel_rfl) (by rfl) ?_; go_simp)
    (try simp only [Act.put, List.setIfInBounds_toArray, List.set_cons_zero, List.set_cons_succ])
    have d9 : (W.drew.setCell ⟨G + 1 + 1 + 1, 0, none⟩ (.int .u32 A0)).cell? ⟨G + 1 + 1 + 1 + 1, 0, none⟩ = some (.int .u32 0) := (World.cell?_setCell_far W.drew ⟨G + 1 + 1 + 1, 0, none⟩ ⟨G + 1 + 1 + 1 + 1, 0, none⟩ _ (by show G + 1 + 1 + 1 ≠ G + 1 + 1 + 1 + 1; omega)).trans c9
    have e9 : (W.drew.setCell ⟨G + 1 + 1 + 1, 0, none⟩ (.int .u32 A0)).frozen? ⟨G + 1 + 1 + 1 + 1, 0, none⟩ = false := by rw [World.frozen?_setCell]; exact f9
    (refine Rd.wk_last (by rfl) (by kernel_rfl) (by kernel_rfl) (by rfl) ?_; go_simp)
    refine NoPanic.normal ?_
    obtain ⟨Z, hZ⟩ : ∃ Z, (W.drew.setCell ⟨G + 1 + 1 + 1, 0, none⟩ (.int .u32 A0)).setCell ⟨G + 1 + 1 + 1 + 1, 0, none⟩ (.int .u32 D0) = Z := ⟨_, rfl⟩
    have hDW : D < W.heap.size := (Array.getElem?_eq_some_iff.1 hK).1
    have hK2 : Z.heap[D]? = some (.deferred (some [])) := by
      rw [← hZ]
      exact (Below.heap_setCell _ ⟨G + 1 + 1 + 1 + 1, 0, none⟩ _ D (by show D ≠ G + 1 + 1 + 1 + 1; omega)).trans ((Below.heap_setCell _ ⟨G + 1 + 1 + 1, 0, none⟩ _ D (by show D ≠ G + 1 + 1 + 1; omega)).trans hK)
    have a8 := d8
    have hc8 : Z.cell? ⟨G + 1 + 1 + 1, 0, none⟩ = some (.int .u32 A0) := by
      rw [← hZ]
      exact (World.cell?_setCell_far _ ⟨G + 1 + 1 + 1 + 1, 0, none⟩ ⟨G + 1 + 1 + 1, 0, none⟩ _ (by show G + 1 + 1 + 1 + 1 ≠ G + 1 + 1 + 1; omega)).trans (World.cell?_setCell_same' _ _ _ (by rw [a8]; rfl))
    have hc9 : Z.cell? ⟨G + 1 + 1 + 1 + 1, 0, none⟩ = some (.int .u32 D0) := by
      rw [← hZ]
      exact World.cell?_setCell_same' _ _ _ (by rw [d9]; rfl)
    have hIZ : Iv w p g lp FL top NB ws (evs ++ Sa.em at_ has (Sa.vs ys)) Z := by
      rw [← hZ]
      exact ((HIv.out.below (bl_drew (Below.refl _ _))).far nb8 (by omega) _).far nb9 (by omega) _
    rw [show ((W.setCell ⟨G + 1 + 1 + 1, 0, none⟩ (.int .u32 A0)).setCell ⟨G + 1 + 1 + 1 + 1, 0, none⟩ (.int .u32 D0)).drew = (W.drew.setCell ⟨G + 1 + 1 + 1, 0, none⟩ (.int .u32 A0)).setCell ⟨G + 1 + 1 + 1 + 1, 0, none⟩ (.int .u32 D0) from rfl, hZ]
    clear hZ
    have hrow : ∀ r, some D = some r → w.heap.size ≤ r ∧ ∃ o : Obj, Z.heap[r]? = some o ∧ o.isCells = false := fun r e => by
      cases e
      exact ⟨by omega, _, hK2, rfl⟩
    have hP8 : (Z.putObj D (.deferred none)).cell? ⟨G + 1 + 1 + 1, 0, none⟩ = some (.int .u32 A0) := cell_kept hc8 (grownBy_putObj' Z D (.deferred none)) (fun r e => (hrow r e).2)
    have hP9 : (Z.putObj D (.deferred none)).cell? ⟨G + 1 + 1 + 1 + 1, 0, none⟩ = some (.int .u32 D0) := cell_kept hc9 (grownBy_putObj' Z D (.deferred none)) (fun r e => (hrow r e).2)
    obtain ⟨F', hA', hS'⟩ := (hIZ.grown (grownBy_putObj' Z D (.deferred none)) hrow).out HA.out.np HA.out.ng
    gi_wp2
    refine ⟨by simp, .inl ⟨_, _, rfl, run_takeDeferred hK2, ?_⟩⟩
    refine ⟨.tuple #[.agg #[.int .u32 A0], .agg #[.int .u32 D0]], ?_, by rw [hA0, hD0], F', hA', hS'⟩
    simp [results, show Try.f86.results = #[.cell 8 32, .cell 9 32] from rfl, go_sem, hP8, hP9]
  case stop =>
    rintro D c pre W _ _ h _
    exact h.elim
end Go.Proofs.Ytdakbejppnijdaa
