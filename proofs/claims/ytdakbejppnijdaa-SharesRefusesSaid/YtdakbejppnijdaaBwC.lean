/- shares.curve. No condition. -/
import Derived.Test.YtdakbejppnijdaaBwI
import Derived.RangeFuncFrom
import Derived.Test.YtdakbejppnijdaaWords
namespace Go.Proofs.Ytdakbejppnijdaa
open Go.RowKit Go.Shelf
set_option linter.unusedSimpArgs false
set_option linter.unusedVariables false
attribute [local go_sem] Oper.semAt_some
attribute [local go_sem] Calm.C
attribute [local go_sem low] Calm.al_cell Calm.al_frozen
namespace Bw
def cvl (kk : Nat) (l : List (Nat × Nat)) : Nat := l.foldl (fun v x => Gf.T (v ^^^ (x.2 % 256)) kk) 0
theorem cvl_nil (kk : Nat) : cvl kk [] = 0 := rfl
theorem cvl_snoc (kk : Nat) (l : List (Nat × Nat)) (x : Nat × Nat) : cvl kk (l ++ [x]) = Gf.T (cvl kk l ^^^ (x.2 % 256)) kk := by simp [cvl]
theorem cvl_lt (kk : Nat) (l : List (Nat × Nat)) : cvl kk l < 256 := by
  rcases List.eq_nil_or_concat l with h | ⟨m, x, h⟩
  · subst h; exact (by decide : 0 < 256)
  · subst h
    rw [List.concat_eq_append, cvl_snoc]
    exact Gf.T_lt _ _ (Gf.xor_lt _ _ (cvl_lt kk m) (Nat.mod_lt _ (by decide)))
termination_by l.length
decreasing_by subst h; simp
end Bw
theorem cl_new (w : World) (v : Value) (t : TypeId) : (w.alloc (.cells #[v] t)).cell? ⟨w.heap.size, 0, none⟩ = some v ∧ (w.alloc (.cells #[v] t)).frozen? ⟨w.heap.size, 0, none⟩ = false := by simp
theorem cl_kept {W : World} {a : Addr} {v : Value} (o : Obj) (h : W.cell? a = some v) : (W.alloc o).cell? a = some v := cell_kept h (World.grownBy_alloc W o none) (fun r e => by cases e)
set_option maxRecDepth 100000 in
set_option maxHeartbeats 4000000 in
theorem sCurve_any {w : World} {A : Option Addr} {m : Nat} {f : Nat → Nat} (hA : Sj.Cl .u8 w A m f) (hf : ∀ i, f i < 256) (hm : m ≤ 1000) (c : Nat) (a : Int) (kk : Nat) (hk : kk < 256) :
    Calls Try.prog 79 #[.agg #[.int .u32 a], .slice A m c, .int .u8 kk] w fun e w' => e = .returned (.agg #[.int .u32 (Ct.Xor a (Bw.cvl kk (Bw.bks f m) : Nat))]) ∧ Below w.heap.size w w' := by
  refine (callsIn_wide (n := 3)).1 ?_
  refine callsIn_of_wp_marks Try.func79 rfl trivial ?_ rfl
  simp only [Try.ntmps79, List.size_toArray, List.length_cons, List.length_nil, Nat.reduceAdd, Nat.reduceSub, Array.replicate_succ, Array.replicate_zero, List.push_toArray, List.append_toArray, List.nil_append, List.cons_append]
  gi_wp2_with (refine ⟨trivial, ?_⟩; gi_at_call 109; refine (callsIn_wide.2 (bwMake_any _ _ _ _)).mono ?_; rintro e w' ⟨rfl, rfl⟩)
  obtain ⟨G, hG⟩ : ∃ G, w.heap.size = G := ⟨_, rfl⟩
  obtain ⟨W0, hW0⟩ : ∃ W0, (((((w.alloc (Obj.cells #[Value.int IntKind.u32 a] 32)).alloc (Obj.cells #[Value.int IntKind.u8 ↑kk] 5)).alloc (Obj.cells #[Value.int IntKind.u32 0] 32)).alloc (Obj.cells #[Value.int IntKind.u8 0] 5)).alloc (Obj.cells #[Value.slice A m c] 47)) = W0 := ⟨_, rfl⟩
  have hs0 : W0.heap.size = G + 1 + 1 + 1 + 1 + 1 := by rw [← hW0]; simp [hG]
  have b0 : Blk W0 G 32 #[.int .u32 a] := by rw [← hW0]; exact ((((Blk.newAt hG).alloc _).alloc _).alloc _).alloc _
  have b1 : Blk W0 (G + 1) 5 #[.int .u8 kk] := by rw [← hW0]; exact (((Blk.newAt (by simp [hG])).alloc _).alloc _).alloc _
  have b2 : Blk W0 (G + 1 + 1) 32 #[.int .u32 0] := by rw [← hW0]; exact ((Blk.newAt (by simp [hG])).alloc _).alloc _
  have b3 : Blk W0 (G + 1 + 1 + 1) 5 #[.int .u8 0] := by rw [← hW0]; exact (Blk.newAt (by simp [hG])).alloc _
  have b4 : Blk W0 (G + 1 + 1 + 1 + 1) 47 #[.slice A m c] := by rw [← hW0]; exact Blk.newAt (by simp [hG])
  have hB0 : Below w.heap.size w W0 := by
    rw [← hW0]
    refine bl_alloc (by simp; omega) (bl_alloc (by simp; omega) (bl_alloc (by simp; omega) (bl_alloc (by simp) (bl_alloc (Nat.le_refl _) (Below.refl _ _) _) _) _) _) _
  obtain ⟨b, o, hbs, hcells⟩ : ∃ b o, b < W0.heap.size ∧ b ≠ G + 1 + 1 + 1 ∧ ∀ i, i < m → A = some ⟨b, o, none⟩ ∧ W0.cell? ⟨b, o + i, none⟩ = some (.int .u8 (f i : Nat)) := by
    by_cases h0 : 0 < m
    · obtain ⟨b, o, hAe, hlt, hc⟩ := hA h0
      exact ⟨b, o, by omega, by omega, fun i hi => ⟨hAe, (hB0.cell (p := ⟨b, o + i, none⟩) hlt).trans (hc i hi)⟩⟩
    · exact ⟨G, 0, by omega, by omega, fun i hi => absurd hi (by omega)⟩
  obtain ⟨hbne, hcells⟩ := hcells
  rw [hG, hW0]
  clear hW0 hA
  refine wpIn_rangeFunc_ownF rfl (by decide) (gf := 122) (lb := #[.pointer (some ⟨G + 1 + 1 + 1 + 1, 0, none⟩)]) rfl trivial (enters_of Try.func122 (by kernel_rfl) rfl)
    (bw_stops 2 (by decide) (G + 1 + 1 + 1 + 1) b o m c A f hf (by omega) W0 (by omega) hbs (b4.cell 0) hcells) Kc.trans (kc_put (by omega) hbs) (Below.refl _ _) (fun _ => rfl)
    (fun pre W => (W.cell? ⟨G + 1 + 1 + 1, 0, none⟩ = some (.int .u8 (Bw.cvl kk pre : Nat)) ∧ W.frozen? ⟨G + 1 + 1 + 1, 0, none⟩ = false ∧ W.cell? ⟨G + 1, 0, none⟩ = some (.int .u8 kk) ∧ W.cell? ⟨G, 0, none⟩ = some (.int .u32 a) ∧ W.cell? ⟨G + 1 + 1, 0, none⟩ = some (.int .u32 0) ∧ W.frozen? ⟨G + 1 + 1, 0, none⟩ = false) ∧ Below w.heap.size w W)
    (fun _ _ _ => False)
    (OwnFrom.and (Own.from (fun s A B row hs hg hr => ⟨cell_kept hs.1 hg hr, (frozen_kept hs.1 hg hr).trans hs.2.1, cell_kept hs.2.2.1 hg hr, cell_kept hs.2.2.2.1 hg hr, cell_kept hs.2.2.2.2.1 hg hr, (frozen_kept hs.2.2.2.2.1 hg hr).trans hs.2.2.2.2.2⟩) _) (ownFrom_below (Nat.le_refl _) (by omega)))
    (fun _ _ _ _ _ hs _ _ => hs)
    ⟨⟨b3.cell 0, b3.frozen 0, b1.cell 0, b0.cell 0, b2.cell 0, b2.frozen 0⟩, hB0⟩
    (fun x => { tmps := #[.agg #[.int .u32 a], .slice A m c, .int .u8 kk, .pointer (some ⟨G, 0, none⟩), undef, .pointer (some ⟨G + 1, 0, none⟩), .pointer (some ⟨G + 1 + 1, 0, none⟩), .pointer (some ⟨G + 1 + 1 + 1, 0, none⟩), undef, .int .u8 ((x.2 % 256 : Nat) : Int), .slice A m c, .func (.func 122) #[] #[.pointer (some ⟨G + 1 + 1 + 1 + 1, 0, none⟩)], .int .i64 (x.1 : Int), .int .u8 ((x.2 % 256 : Nat) : Int), undef, undef, undef, undef, undef, undef, undef, undef, undef, undef], defers := [] }) ?assign ?body ?done ?stop
  case assign =>
    intro l x W K hK
    dsimp only [Bw.encs]
    gi_wp2
    first | exact hK | (simp; exact hK) | (simpa using hK)
  case body =>
    rintro l pre x W ⟨⟨hc, hf1, h5, h3, h6, hf6⟩, hB⟩ hlen
    have hv := Bw.cvl_lt kk pre
    have hx : x.2 % 256 < 256 := Nat.mod_lt _ (by decide)
    have hsn := Lib.hid (Bw.cvl_snoc kk pre x)
    obtain ⟨X, hX⟩ : ∃ X, x.2 % 256 = X := ⟨_, rfl⟩
    obtain ⟨V, hV⟩ : ∃ V, Bw.cvl kk pre = V := ⟨_, rfl⟩
    rw [hX, hV] at hsn
    rw [hX] at hx ⊢
    rw [hV] at hv hc
    have hxor := u8_xor V X hv hx
    have hxl := Gf.xor_lt V X hv hx
    gi_wp2_with (refine ⟨trivial, ?_⟩; gi_at_call 70; refine (callsIn_wide.2 (sTimes_any (V ^^^ X) kk hxl hk _)).mono ?_; rintro e w' ⟨rfl, hw⟩; replace hw := hw.symm; subst hw)
    refine ⟨KeepsOthers.setCell _ _ _, ⟨World.cell?_setCell_far W ⟨G + 1 + 1 + 1, 0, none⟩ ⟨G + 1 + 1 + 1 + 1, 0, none⟩ _ (by show G + 1 + 1 + 1 ≠ G + 1 + 1 + 1 + 1; omega), fun i => World.cell?_setCell_far W ⟨G + 1 + 1 + 1, 0, none⟩ ⟨b, i, none⟩ _ (fun h => hbne h.symm)⟩, ⟨?_, by rw [World.frozen?_setCell]; exact hf1, ?_, ?_, ?_, by rw [World.frozen?_setCell]; exact hf6⟩, hB.setCell (p := ⟨G + 1 + 1 + 1, 0, none⟩) (by show w.heap.size ≤ G + 1 + 1 + 1; omega) _⟩
    · rw [World.cell?_setCell_same' _ _ _ (by rw [hc]; rfl), hsn.out]
    · exact (World.cell?_setCell_far W ⟨G + 1 + 1 + 1, 0, none⟩ ⟨G + 1, 0, none⟩ _ (by show G + 1 + 1 + 1 ≠ G + 1; omega)).trans h5
    · exact (World.cell?_setCell_far W ⟨G + 1 + 1 + 1, 0, none⟩ ⟨G, 0, none⟩ _ (by show G + 1 + 1 + 1 ≠ G; omega)).trans h3
    · exact (World.cell?_setCell_far W ⟨G + 1 + 1 + 1, 0, none⟩ ⟨G + 1 + 1, 0, none⟩ _ (by show G + 1 + 1 + 1 ≠ G + 1 + 1; omega)).trans h6
  case done =>
    rintro D ys W hD rfl ⟨⟨hc, hf1, h5, h3, h6, hf6⟩, hB⟩ hK
    have hv := Bw.cvl_lt kk (Bw.bks f m)
    obtain ⟨V, hV⟩ : ∃ V, Bw.cvl kk (Bw.bks f m) = V := ⟨_, rfl⟩
    rw [hV] at hv hc
    have hsW : G + 1 + 1 + 1 < W.heap.size := World.block_lt_of_cell? W ⟨G + 1 + 1 + 1, 0, none⟩ hc
    have hvm : (V : Int) % 4294967296 = (V : Int) := by omega
    gi_wp2
    refine wpIn_wide.2 ?_
    (refine Calm.go 5 (by kernel_rfl) (by kernel_rfl) (by kernel_rfl) ?_; intro w0 hw0; have hr := Calm.rule hw0; simp only [Calm.heads, Calm.isAlloc]; haveI hnon : Nonempty (Ext (Below w0.heap.size w0)) := ⟨⟨w0, Below.refl _ _⟩⟩; (repeat (go_big_quiet_step (first | (go_at_call 62; exact Ext.calm below_calm (Of_any _ _)) | (go_at_call 82; exact Ext.calm below_calm (Xor_any _ _ _))))); refine wpQuiet_nil ?_; clear hnon hr hw0; clear w0; (repeat refine Calm.n_skip rfl ?_); refine Calm.n_zero ?_; intro WA hbA hsA; simp only [List.drop_succ_cons, List.drop_zero]; obtain ⟨hcA, hfA⟩ := bcell hbA; (try simp only [World.size_alloc, World.size_setCell, drew_size] at hcA hfA); have hzA := hbA.size; have hbhA := Lib.hid hbA; clear hsA hbA; (try simp only [World.size_alloc, World.size_setCell, World.size_drew] at hzA))
    go_wp2_with fail
    have hDs : D < W.heap.size := by
      rcases Nat.lt_or_ge D W.heap.size with h | h
      · exact h
      · rw [Array.getElem?_eq_none h] at hK; cases hK
    obtain ⟨X, hX⟩ : ∃ X, WA.setCell ⟨G + 1 + 1, 0, none⟩ (.int .u32 (Ct.Xor a (V : Int))) = X := ⟨_, rfl⟩
    have hK2 : X.heap[D]? = some (.deferred (some [])) := by
      rw [← hX]
      exact (Below.heap_setCell WA ⟨G + 1 + 1, 0, none⟩ _ D (by show D ≠ G + 1 + 1; omega)).trans ((hbhA.out.block D hDs).trans hK)
    have h6A : WA.cell? ⟨G + 1 + 1, 0, none⟩ = some (.int .u32 0) := (hbhA.out.cell (p := ⟨G + 1 + 1, 0, none⟩) (by show G + 1 + 1 < _; omega)).trans h6
    have hcX : X.cell? ⟨G + 1 + 1, 0, none⟩ = some (.int .u32 (Ct.Xor a (V : Int))) := by
      rw [← hX]
      exact World.cell?_setCell_same' _ _ _ (by rw [h6A]; rfl)
    have hBX : Below w.heap.size w X := by
      rw [← hX]
      exact bl_set (by omega) (bl_then hbhA hB (by omega)) _
    rw [hX]
    gi_wp2
    refine ⟨by simp, .inl ⟨_, _, rfl, run_takeDeferred hK2, ?_⟩⟩
    have hPX : (X.putObj D (.deferred none)).cell? ⟨G + 1 + 1, 0, none⟩ = some (.int .u32 (Ct.Xor a (V : Int))) := ((belowK_b (w := W0) (Nat.le_refl _) X D _ _ hD hK2 rfl rfl).cell (p := ⟨G + 1 + 1, 0, none⟩) (by show G + 1 + 1 < _; omega)).trans hcX
    have hPB : Below w.heap.size w (X.putObj D (.deferred none)) := hBX.trans (belowK_b (w := w) (Nat.le_refl _) X D _ _ (by omega) hK2 rfl rfl)
    refine ⟨.agg #[.int .u32 (Ct.Xor a (V : Int))], ?_, by rw [hV], hPB⟩
    simp [results, show Try.f79.results = #[.cell 6 32] from rfl, go_sem, hPX]
  case stop =>
    rintro D c pre W _ _ h _
    exact h.elim
end Go.Proofs.Ytdakbejppnijdaa
