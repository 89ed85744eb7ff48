/- SeekSpans: the law's call. No condition. -/
import Derived.Test.YtcaaapfminenoaaSpR
import Derived.Test.YtcaaapfminenoaaSpP
import Derived.Test.YtcaaapfminenoaaRef01
import Derived.Deep.AppendLies
namespace Go.Proofs.Ytcaaapfminenoaa
open Go.RowKit
set_option linter.unusedSimpArgs false
set_option linter.unusedVariables false
attribute [local go_sem] IntKind.wrap_u32' signed_u32 max_u32
attribute [local go_sem ↓] Go.wp_at_zero Go.wp_at_succ
attribute [local go_sem] Calm.C
attribute [local go_sem low] Calm.al_cell Calm.al_frozen
attribute [local irreducible] Sk.inn Sk.ins Sk.mo Sk.kc Sk.rmv Sk.rin Sk.rcl Sk.has
theorem Try.infoSpan : (Try.prog.info? 91).map (fun i => (i.zero, i.size, i.bytes)) = some (some (.agg #[.int .u32 0, .int .u32 0]), 2, 8) := by kernel_rfl
theorem Try.infoWeight : (Try.prog.info? 95).map (fun i => (i.zero, i.size, i.bytes)) = some (some (.agg #[.int .u32 0, .int .u32 0, .int .u32 0]), 3, 12) := by kernel_rfl
def rowCells (sz : Nat) (f : Nat → Nat → Int) (k : Nat) : List Value := (List.range (k * sz)).map fun j => .int .u32 (f (j / sz) (j % sz))
theorem rowCells2 (f : Nat → Nat → Int) (k : Nat) : rowCells 2 f (k + 1) = rowCells 2 f k ++ [.int .u32 (f k 0), .int .u32 (f k 1)] := by
  unfold rowCells
  rw [show (k + 1) * 2 = k * 2 + 1 + 1 by omega, List.range_succ, List.range_succ, List.map_append, List.map_append, List.append_assoc]
  simp only [List.map_cons, List.map_nil, List.cons_append, List.nil_append]
  rw [show k * 2 / 2 = k by omega, show k * 2 % 2 = 0 by omega, show (k * 2 + 1) / 2 = k by omega, show (k * 2 + 1) % 2 = 1 by omega]
theorem rowCells3 (f : Nat → Nat → Int) (k : Nat) : rowCells 3 f (k + 1) = rowCells 3 f k ++ [.int .u32 (f k 0), .int .u32 (f k 1), .int .u32 (f k 2)] := by
  unfold rowCells
  rw [show (k + 1) * 3 = k * 3 + 1 + 1 + 1 by omega, List.range_succ, List.range_succ, List.range_succ, List.map_append, List.map_append, List.map_append, List.append_assoc, List.append_assoc]
  simp only [List.map_cons, List.map_nil, List.cons_append, List.nil_append]
  rw [show k * 3 / 3 = k by omega, show k * 3 % 3 = 0 by omega, show (k * 3 + 1) / 3 = k by omega, show (k * 3 + 1) % 3 = 1 by omega, show (k * 3 + 2) / 3 = k by omega, show (k * 3 + 2) % 3 = 2 by omega]
theorem tab_own {w : World} {base n cap sz : Nat} {e : TypeId} {A : Option Addr} {f : Nat → Nat → Int} (hs : 0 < sz) (h : w.ownsRow base e sz (.slice A n cap) n (rowCells sz f n)) : Tab w A n sz f := fun hn => by
  rcases h.2 with ⟨_, h0⟩ | ⟨g, cap', cur, hv, _, hg, _⟩
  · omega
  · injection hv with h1 h2 h3
    subst h1
    refine ⟨g, 0, rfl, ?_, fun i c hi hc => ?_⟩
    · exact (Array.getElem?_eq_some_iff.1 hg).1
    · have hj : i * sz + c < n * sz := by
        have : (i + 1) * sz ≤ n * sz := Nat.mul_le_mul_right sz hi
        rw [Nat.add_mul, Nat.one_mul] at this
        omega
      rw [Nat.zero_add, h.cellAt (i * sz + c) hj]
      unfold rowCells
      rw [List.getElem?_map, List.getElem?_range hj]
      simp only [Option.map_some]
      rw [Nat.mul_comm i sz, Nat.mul_add_div hs, Nat.mul_add_mod, Nat.div_eq_of_lt hc, Nat.mod_eq_of_lt hc, Nat.add_zero]
theorem alloc2_new (w : World) (o1 o2 : Obj) : ((w.alloc o1).alloc o2).heap[w.heap.size + 1]? = some o2 := by
  have := heap_alloc_new (w.alloc o1) o2
  rwa [World.size_alloc] at this
theorem own_apart {w : World} {b1 b2 s1 s2 n1 n2 : Nat} {e1 e2 : TypeId} {v1 v2 : Value} {xs1 xs2 : List Value} (h1 : w.ownsRow b1 e1 s1 v1 n1 xs1) (h2 : w.ownsRow b2 e2 s2 v2 n2 xs2) (hne : e1 ≠ e2) : v1.ownBlock = none ∨ v1.ownBlock ≠ v2.ownBlock := by
  rcases h1.2 with ⟨rfl, _⟩ | ⟨g1, c1, cur1, rfl, _, k1, _⟩
  · exact .inl rfl
  · refine .inr ?_
    rcases h2.2 with ⟨rfl, _⟩ | ⟨g2, c2, cur2, rfl, _, k2, _⟩
    · intro h; cases h
    · intro h
      simp only [Value.ownBlock, Option.some.injEq] at h
      subst h
      rw [k1] at k2
      simp only [Option.some.injEq, Obj.cells.injEq] at k2
      exact hne k2.2.1
set_option maxRecDepth 20000 in
set_option maxHeartbeats 4000000 in
theorem SeekSpans_any (w : World) (A : Option Addr) (n c : Nat) (f : Nat → Nat → Int) (h : Tab w A n 3 f) (hn : n ≤ 9223372036854775807) (hf : Sk.Wd f) (x : Int) (hx : 0 ≤ x ∧ x < 4294967296) :
    Calls Try.prog 14 #[.slice A n c, .int .u32 x] w fun e w' => e = .returned (.bool true) ∧ Below w.heap.size w w' := by
  by_cases h60 : 60 < n
  · clear h
    go_enter Try.func14, Try.ntmps14
    go_wp2_with (first | (go_at_call 48; refine (awake06_any _).mono ?_; rintro e w1 ⟨rfl, hb⟩; have hcf := bcell hb; (try simp only [World.size_alloc, World.size_setCell, World.size_drew] at hcf); have hz := hb.size; (try simp only [World.size_alloc, World.size_setCell, World.size_drew] at hz); have hbh := Lib.hid hb; clear hb; obtain ⟨hc, hf⟩ := hcf))
    go_ret
    refine ⟨rfl, ?_⟩
    (repeat' (first | exact Below.refl _ _ | refine bl_set (by (first | omega | (simp; done) | (simp; omega))) ?_ _ | refine bl_alloc (by (first | omega | (simp; done) | (simp; omega))) ?_ _ | refine bl_drewN ?_ _ | refine bl_drew ?_ | refine bl_then (by assumption) ?_ (by (first | omega | (simp; done) | (simp; omega))) | refine Step.bl (by assumption) (by assumption) (by (first | omega | (simp; done) | (simp; omega))) (by (first | omega | (simp; done) | (simp; omega))) ?_))
  have F1 := Lib.hid (Sk.spans_eq f hf x hx n).1.1
  have F2 := Lib.hid (Sk.spans_eq f hf x hx n).2.1
  have F3 := Lib.hid (Sk.spans_eq f hf x hx n).2.2.1
  have HT := Lib.hid h
  obtain ⟨B, off, hA⟩ := h.at
  have HA := Lib.hid hA
  obtain ⟨i5, hi5, hz50, hz51, hz52⟩ := info_parts Try.infoSpan
  obtain ⟨i6, hi6, hz60, hz61, hz62⟩ := info_parts Try.infoWeight
  clear hf hx h hA
  go_enter Try.func14, Try.ntmps14
  go_wp2_with (first | (go_at_call 48; refine (awake06_any _).mono ?_; rintro e w1 ⟨rfl, hb⟩; have hcf := bcell hb; (try simp only [World.size_alloc, World.size_setCell, World.size_drew] at hcf); have hz := hb.size; (try simp only [World.size_alloc, World.size_setCell, World.size_drew] at hz); have hbh := Lib.hid hb; clear hb; obtain ⟨hc, hf⟩ := hcf))
  have hbw := hbh
  clear hc hf hbh
  go_loopw [5, 6, 20] (fun s5 s6 i wr => ∃ (k : Nat) (v5 v6 : Value), k ≤ n ∧ i = .int .i64 k ∧ s5 = v5 ∧ s6 = v6 ∧ wr.ownsRow w.heap.size 91 2 v5 k (rowCells 2 f k) ∧ wr.ownsRow w.heap.size 95 3 v6 k (rowCells 3 f k) ∧ Below w.heap.size w wr) (fun _ _ i _ => n - (intOf i).toNat)
  case atStart => exact ⟨0, _, _, Nat.zero_le _, rfl, rfl, rfl, World.ownsRow_nil _ _ _ _, World.ownsRow_nil _ _ _ _, hbw.out⟩
  case round =>
    obtain ⟨k, v5, v6, hk, rfl, rfl, rfl, hO5, hO6, hW⟩ := hrel
    have hWs := hW.size
    have HW := Lib.hid hW
    have HO5 := Lib.hid hO5
    have HO6 := Lib.hid hO6
    clear hO5 hO6 hbw
    by_cases hkn : k < n
    · obtain ⟨rfl, hB, hcell⟩ := HA.out (by omega)
      have g0 : wr.cell? ⟨B, off + k * 3, none⟩ = some (.int .u32 (f k 0)) := (hW.cell (p := ⟨B, off + k * 3, none⟩) hB).trans (hcell k 0 hkn (by decide))
      have g1 : wr.cell? ⟨B, off + k * 3 + 1, none⟩ = some (.int .u32 (f k 1)) := (hW.cell (p := ⟨B, off + k * 3 + 1, none⟩) hB).trans (hcell k 1 hkn (by decide))
      have g2 : wr.cell? ⟨B, off + k * 3 + 2, none⟩ = some (.int .u32 (f k 2)) := (hW.cell (p := ⟨B, off + k * 3 + 2, none⟩) hB).trans (hcell k 2 hkn (by decide))
      have hr2 := Lib.hid (rowCells2 f k)
      have hr3 := Lib.hid (rowCells3 f k)
      have hap := Lib.hid (own_apart HO6.out HO5.out (by decide))
      have hl5 := Lib.hid (own_lt HO5.out)
      have hl6 := Lib.hid (own_lt HO6.out)
      clear hW hcell
      go_wp2_with (first | (at_builtin; refine wpList_append_lies _ (by rfl) _ _ 88 (by rfl) w.heap.size 91 i5 _ 2 8 Try.underlying88 hi5 hz50 hz51 hz52 (by rfl) (by decide) _ k (rowCells 2 f k) (by rfl) ((HO5.out.alloc _).alloc _) ⟨wr.heap.size + 1, 0, none⟩ 1 1 [.int .u32 (f k 0), .int .u32 (f k 1)] (by rfl) (by rfl) (World.news_of_block (alloc2_new wr _ _)) (by simp [Value.oneCell']) (by decide) (by simp only [maxLen]; omega) (by omega) (by simp; omega) (wr.heap.size + 1 + 1) (by simp) ?_; intro ga capa wa hown1 hg1 hat1 hlt1; have hOa := Lib.hid hown1; have hGa := Lib.hid hg1; clear hown1 hg1 hat1; have a0 : wa.cell? ⟨wr.heap.size, 0, none⟩ = some (.int .u32 (f k 0)) := World.grownBy.cell hGa.out (by simp [go_sem, ↓IntWalk.iteOmega, *]) (fun h => Nat.lt_irrefl _ (hl5.out _ h.symm)); have a1 : wa.cell? ⟨wr.heap.size, 1, none⟩ = some (.int .u32 (f k 1)) := World.grownBy.cell hGa.out (by simp [go_sem, ↓IntWalk.iteOmega, *]) (fun h => Nat.lt_irrefl _ (hl5.out _ h.symm)); have a2 : wa.cell? ⟨wr.heap.size, 2, none⟩ = some (.int .u32 (f k 2)) := World.grownBy.cell hGa.out (by simp [go_sem, ↓IntWalk.iteOmega, *]) (fun h => Nat.lt_irrefl _ (hl5.out _ h.symm)); have hza := hGa.out.size; (try simp only [World.size_alloc, World.size_setCell, World.size_drew] at hza); have hOb := Lib.hid (((HO6.out.alloc _).alloc _).kept hGa.out hap.out)) | (at_builtin; refine wpList_append_lies _ (by rfl) _ _ 89 (by rfl) w.heap.size 95 i6 _ 3 12 Try.underlying89 hi6 hz60 hz61 hz62 (by rfl) (by decide) _ k (rowCells 3 f k) (by rfl) (hOb.out.alloc _) ⟨wa.heap.size, 0, none⟩ 1 1 [.int .u32 (f k 0), .int .u32 (f k 1), .int .u32 (f k 2)] (by rfl) (by rfl) (World.news_of_block (heap_alloc_new _ _)) (by simp [Value.oneCell']) (by decide) (by simp only [maxLen]; omega) (by omega) (by simp; omega) (wa.heap.size + 1) (by simp) ?_; intro gb capb wb hown1 hg1 hat1 hlt1; have hOw := Lib.hid hown1; have hGb := Lib.hid hg1; clear hown1 hg1 hat1))
      refine ⟨⟨k + 1, _, _, by omega, by go_num, rfl, rfl, ?_, by rw [hr3.out]; exact hOw.out, ?_⟩, by simp [intOf]; omega⟩
      · rw [hr2.out]
        exact (hOa.out.alloc _).kept hGb.out (own_apart hOa.out hOb.out (by decide))
      · refine bl_grown hGb (own_base HO6.out) (by simp; omega) ?_
        refine bl_alloc (by omega) ?_ _
        refine bl_grown hGa (own_base HO5.out) (by simp; omega) ?_
        have HW' := HW
        (repeat' (first | exact Below.refl _ _ | refine bl_set (by (first | omega | (simp; done) | (simp; omega))) ?_ _ | refine bl_alloc (by (first | omega | (simp; done) | (simp; omega))) ?_ _ | refine bl_drewN ?_ _ | refine bl_drew ?_ | refine bl_then (by assumption) ?_ (by (first | omega | (simp; done) | (simp; omega))) | refine Step.bl (by assumption) (by assumption) (by (first | omega | (simp; done) | (simp; omega))) (by (first | omega | (simp; done) | (simp; omega))) ?_))
    · have hge : n ≤ k := by omega
      have hkn' : k = n := by omega
      obtain ⟨A5, c5, rfl⟩ := own_slice HO5.out
      obtain ⟨A6, c6, rfl⟩ := own_slice HO6.out
      have h5 := HO5.out
      have h6 := HO6.out
      rw [hkn'] at h5 h6
      have T5 := Lib.hid (tab_own (by decide) h5)
      have T6 := Lib.hid (tab_own (by decide) h6)
      have HTr := Lib.hid (HT.out.belowB hW)
      have HKN := Lib.hid hkn'
      clear h5 h6 hkn' hW
      go_wp2_with (first | (go_at_call 16; refine (Of_any _ _).mono ?_; rintro e w1 ⟨rfl, hb⟩; have hcf := bcell hb; (try simp only [World.size_alloc, World.size_setCell, World.size_drew] at hcf); have hz := hb.size; (try simp only [World.size_alloc, World.size_setCell, World.size_drew] at hz); have hbh := Lib.hid hb; clear hb; obtain ⟨hc, hf⟩ := hcf) | (go_at_call 68; refine (kMap_any _ _ _ _ f (HTr.out.belowB (by (repeat' (first | exact Below.refl _ _ | refine bl_set (by (first | omega | (simp; done) | (simp; omega))) ?_ _ | refine bl_alloc (by (first | omega | (simp; done) | (simp; omega))) ?_ _ | refine bl_drewN ?_ _ | refine bl_drew ?_ | refine bl_then (by assumption) ?_ (by (first | omega | (simp; done) | (simp; omega))) | refine Step.bl (by assumption) (by assumption) (by (first | omega | (simp; done) | (simp; omega))) (by (first | omega | (simp; done) | (simp; omega))) ?_)))) (by omega) _).mono ?_; rintro e wj ⟨rfl, hb⟩; have hcf_j := bcell hb; have hz_j := hb.size; (try simp only [World.size_alloc, World.size_setCell, World.size_drew] at hz_j hcf_j); have hbh_j := Lib.hid hb; clear hb; obtain ⟨hc_j, hf_j⟩ := hcf_j) | (go_at_call 69; refine (rMap_any _ _ _ _ f (HTr.out.belowB (by (repeat' (first | exact Below.refl _ _ | refine bl_set (by (first | omega | (simp; done) | (simp; omega))) ?_ _ | refine bl_alloc (by (first | omega | (simp; done) | (simp; omega))) ?_ _ | refine bl_drewN ?_ _ | refine bl_drew ?_ | refine bl_then (by assumption) ?_ (by (first | omega | (simp; done) | (simp; omega))) | refine Step.bl (by assumption) (by assumption) (by (first | omega | (simp; done) | (simp; omega))) (by (first | omega | (simp; done) | (simp; omega))) ?_)))) (by omega) _).mono ?_; rintro e w2 ⟨rfl, hb⟩; have hcf_2 := bcell hb; have hz_2 := hb.size; (try simp only [World.size_alloc, World.size_setCell, World.size_drew] at hz_2 hcf_2); have hbh_2 := Lib.hid hb; clear hb; obtain ⟨hc_2, hf_2⟩ := hcf_2))
      have hs0 : ∀ m : Ext (Below w2.heap.size w2), m.w.cell? ⟨wj.heap.size, 0, none⟩ = some (.int .u32 (Sk.mo f x n)) := Ext.rd (by simp [go_sem, ↓IntWalk.iteOmega, *])
      have hs1 : ∀ m : Ext (Below w2.heap.size w2), m.w.cell? ⟨wj.heap.size + 1, 0, none⟩ = some (.int .u32 (Sk.ins f x n)) := Ext.rd (by simp [go_sem, ↓IntWalk.iteOmega, *])
      have T52 := Lib.hid (T5.out.belowB (w' := w2) (by (repeat' (first | exact Below.refl _ _ | refine bl_set (by (first | omega | (simp; done) | (simp; omega))) ?_ _ | refine bl_alloc (by (first | omega | (simp; done) | (simp; omega))) ?_ _ | refine bl_drewN ?_ _ | refine bl_drew ?_ | refine bl_then (by assumption) ?_ (by (first | omega | (simp; done) | (simp; omega))) | refine Step.bl (by assumption) (by assumption) (by (first | omega | (simp; done) | (simp; omega))) (by (first | omega | (simp; done) | (simp; omega))) ?_))))
      have T62 := Lib.hid (T6.out.belowB (w' := w2) (by (repeat' (first | exact Below.refl _ _ | refine bl_set (by (first | omega | (simp; done) | (simp; omega))) ?_ _ | refine bl_alloc (by (first | omega | (simp; done) | (simp; omega))) ?_ _ | refine bl_drewN ?_ _ | refine bl_drew ?_ | refine bl_then (by assumption) ?_ (by (first | omega | (simp; done) | (simp; omega))) | refine Step.bl (by assumption) (by assumption) (by (first | omega | (simp; done) | (simp; omega))) (by (first | omega | (simp; done) | (simp; omega))) ?_))))
      have hBW : Hid (Below w.heap.size w w2) := by
        refine Lib.hid ?_
        have hW' := HW.out
        (repeat' (first | exact Below.refl _ _ | refine bl_set (by (first | omega | (simp; done) | (simp; omega))) ?_ _ | refine bl_alloc (by (first | omega | (simp; done) | (simp; omega))) ?_ _ | refine bl_drewN ?_ _ | refine bl_drew ?_ | refine bl_then (by assumption) ?_ (by (first | omega | (simp; done) | (simp; omega))) | refine Step.bl (by assumption) (by assumption) (by (first | omega | (simp; done) | (simp; omega))) (by (first | omega | (simp; done) | (simp; omega))) ?_))
      have hBWs := hBW.out.size
      rw [HKN.out]
      clear hc_j hf_j hc_2 hf_2 hbh_j hbh_2
      haveI hnon : Nonempty (Ext (Below w2.heap.size w2)) := ⟨⟨w2.drew, below_start _⟩⟩
      refine wp_region_calm (S := Below w2.heap.size w2) (by kernel_rfl) (by kernel_rfl) (below_start _) ?_
      repeat (go_big_quiet_step (first | (go_at_call 16; exact Ext.calm below_calm (Of_any _ _)) | (go_at_call 25; exact Ext.calm_same (All_any _ _)) | (go_at_call 51; (refine Ext.calm below_calm (is06_true _ _ _ ?_)); (first | with_reducible exact F1.out | with_reducible exact F2.out | with_reducible exact F3.out)) | (go_at_call 70; exact Ext.calm below_calm (kIn_any _ _ _ _ f (T52.out.belowB (Ext.h _)) (by omega) _)) | (go_at_call 72; exact Ext.calm below_calm (kClass_any _ _ _ _ f (T62.out.belowB (Ext.h _)) (by omega) _)) | (go_at_call 71; exact Ext.calm below_calm (rIn_any _ _ _ _ f (T52.out.belowB (Ext.h _)) (by omega) _)) | (go_at_call 73; exact Ext.calm below_calm (rClass_any _ _ _ _ f (T62.out.belowB (Ext.h _)) (by omega) _))))
      refine wpQuiet_nil ?_
      rintro _ ⟨m1, rfl⟩
      have hbn := Lib.hid m1.h
      go_wp2_with fail
      go_ret
      exact ⟨rfl, bl_then hbn hBW.out hBWs⟩
end Go.Proofs.Ytcaaapfminenoaa
