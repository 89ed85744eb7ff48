/- What a table says of a word: rows. No condition. -/
import Derived.Test.YtcaaapfminenoaaSk
namespace Go.Proofs.Ytcaaapfminenoaa
open Go.RowKit
set_option linter.unusedSimpArgs false
set_option linter.unusedVariables false
attribute [local go_sem] IntKind.wrap_u32' signed_u32 max_u32
attribute [local go_sem ↓] Go.wp_at_zero Go.wp_at_succ
attribute [local go_sem] Calm.C
attribute [local go_sem low] Calm.al_cell Calm.al_frozen
attribute [local irreducible] Sk.fo Sk.ff Sk.wid
theorem Try.infoSecF : (Try.prog.info? 26).map (fun i => (i.zero, i.size, i.bytes)) = some (some (.agg #[.int .u32 0]), 1, 8) := by kernel_rfl
theorem ret_tmp_sec {fn : Func} {R : Ending → World → Prop} {a : Act} {w : World} {t u : Tmp} {bd : Addr} {x : Value} {y : Int} (hr : fn.results = #[.tmp t, .cell u 26])
    (ht : a.tmps.getD t undef = x) (hu : a.tmps.getD u undef = .pointer (some bd)) (hc' : w.cell? bd = some (.int .u32 y)) (hd : a.defers = [])
    (hR : R (.returned (.tuple #[x, .agg #[.int .u32 y]])) w) : bodyPost Try.prog fn R .ret a w := by
  refine bodyPost_ret (v := .tuple #[x, .agg #[.int .u32 y]]) ?_ hd hR
  have ht' : a.tmps[t]?.getD undef = x := by simpa using ht
  have hu' : a.tmps[u]?.getD undef = .pointer (some bd) := by simpa using hu
  simp [results, hr, ht', hu', go_sem, hc']
theorem own_made {w : World} {base W g cap : Nat} {e : TypeId} {z : Value} (h : w.ownsRow base e 1 (.slice (some ⟨g, 0, none⟩) W cap) W (madeCells #[z] (W * 1)).toList) :
    base ≤ g ∧ g < w.heap.size ∧ (∀ c, c < W → w.cell? ⟨g, c, none⟩ = some z) ∧ ∀ j, w.frozen? ⟨g, j, none⟩ = false := by
  refine ⟨own_base h g rfl, own_lt h g rfl, fun c hc => ?_, own_frozen h⟩
  rw [h.cellAt c (by omega), toList_madeCells_one, List.getElem?_replicate, if_pos (by omega)]
theorem bl_none {w W : World} (h : w.grownBy W none) : Below w.heap.size w W := bl_grown (Lib.hid h) (fun k hk => by cases hk) (Nat.le_refl _) (Below.refl _ _)
theorem Rowz.lift {w w' : World} {A : Option Addr} {n : Nat} {R : Nat → Nat} {f : Nat → Nat → Int} {B off : Nat} {Ai : Nat → Option Addr} {ci : Nat → Nat} (h : Rowz w A n R f B off Ai ci) (hb : Below w.heap.size w w') : Rowz w' A n R f B off Ai ci := h.below (Lib.hid hb)
set_option maxHeartbeats 800000 in
theorem kWidth_any (w : World) (KA RA : Option Addr) (nk kc n rc : Nat) (R : Nat → Nat) (f : Nat → Nat → Int) (B off : Nat) (Ai : Nat → Option Addr) (ci : Nat → Nat) (h : Rowz w RA n R f B off Ai ci) (hn : n ≤ 1000) :
    Calls Try.prog 79 #[.agg #[.slice KA nk kc, .slice RA n rc]] w fun e w' => e = .returned (.int .i64 (Sk.wid n R : Nat)) ∧ Below w.heap.size w w' := by
  by_cases h0 : n = 0
  · have hE : Sk.wid n R = 0 := by unfold Sk.wid; rw [if_pos h0]
    rw [hE]
    subst h0
    clear h
    go_enter Try.func79, Try.ntmps79
    go_wp2_with fail
    go_ret
    refine ⟨rfl, ?_⟩
    (repeat' (first | exact Below.refl _ _ | refine bl_set (by (first | omega | (simp; done) | (simp; omega))) ?_ _ | refine bl_alloc (by (first | omega | (simp; done) | (simp; omega))) ?_ _ | refine bl_drewN ?_ _ | refine bl_drew ?_ | refine bl_then (by assumption) ?_ (by (first | omega | (simp; done) | (simp; omega))) | refine Step.bl (by assumption) (by assumption) (by (first | omega | (simp; done) | (simp; omega))) (by (first | omega | (simp; done) | (simp; omega))) ?_))
  · have hE : Sk.wid n R = R 0 := by unfold Sk.wid; rw [if_neg h0]
    rw [hE]
    obtain ⟨rfl, hB⟩ := h.at_ (by omega)
    have g0 := h.cell 0 (by omega)
    rw [Nat.add_zero] at g0
    clear h
    go_enter Try.func79, Try.ntmps79
    go_wp2_with fail
    go_ret
    refine ⟨rfl, ?_⟩
    (repeat' (first | exact Below.refl _ _ | refine bl_set (by (first | omega | (simp; done) | (simp; omega))) ?_ _ | refine bl_alloc (by (first | omega | (simp; done) | (simp; omega))) ?_ _ | refine bl_drewN ?_ _ | refine bl_drew ?_ | refine bl_then (by assumption) ?_ (by (first | omega | (simp; done) | (simp; omega))) | refine Step.bl (by assumption) (by assumption) (by (first | omega | (simp; done) | (simp; omega))) (by (first | omega | (simp; done) | (simp; omega))) ?_))
set_option maxRecDepth 20000 in
set_option maxHeartbeats 4000000 in
theorem kFind_any (w : World) (KA RA : Option Addr) (nk kc n rc : Nat) (K : Nat → Nat → Int) (R : Nat → Nat) (f : Nat → Nat → Int) (hK : Tab w KA nk 1 K) (B off : Nat) (Ai : Nat → Option Addr) (ci : Nat → Nat) (h : Rowz w RA n R f B off Ai ci) (hnk : nk ≤ 1000) (hn : n ≤ 1000)
    (hW : Sk.wid n R ≤ 1000) (key : Int) :
    Calls Try.prog 49 #[.agg #[.slice KA nk kc, .slice RA n rc], .agg #[.int .u32 key]] w fun e w' => ∃ g, e = .returned (.tuple #[.slice (some ⟨g, 0, none⟩) (Sk.wid n R) (Sk.wid n R), .agg #[.int .u32 (Sk.ff key (fun i => K i 0) nk)]]) ∧
      w.heap.size ≤ g ∧ g < w'.heap.size ∧ (∀ c, c < Sk.wid n R → w'.cell? ⟨g, c, none⟩ = some (.int .u32 (Sk.fo key (fun i => K i 0) n (Sk.wid n R) R f nk c))) ∧ Below w.heap.size w w' := by
  obtain ⟨KB, koff, hA⟩ := hK.at
  have HA := Lib.hid hA
  have HR := Lib.hid h
  have HWd := Lib.hid (fun W' hb => kWidth_any W' KA RA nk kc n rc R f B off Ai ci (h.lift hb) hn)
  obtain ⟨W, hWW⟩ : ∃ W, Sk.wid n R = W := ⟨_, rfl⟩
  rw [hWW] at hW
  obtain ⟨i0, hi, hz0, hz1, hz2⟩ := info_parts Try.infoSecF
  clear hA h hK
  go_enter Try.func49, Try.ntmps49
  rw [hWW]
  go_wp2_with (first | (go_at_call 79; refine (HWd.out _ (by (repeat' (first | exact Below.refl _ _ | refine bl_set (by (first | omega | (simp; done) | (simp; omega))) ?_ _ | refine bl_alloc (by (first | omega | (simp; done) | (simp; omega))) ?_ _ | refine bl_drewN ?_ _ | refine bl_drew ?_ | refine bl_then (by assumption) ?_ (by (first | omega | (simp; done) | (simp; omega))) | refine Step.bl (by assumption) (by assumption) (by (first | omega | (simp; done) | (simp; omega))) (by (first | omega | (simp; done) | (simp; omega))) ?_)))).mono ?_; rintro e wa ⟨rfl, hb⟩; rw [hWW]; have hcf_a := bcell hb; have hz_a := hb.size; (try simp only [World.size_alloc, World.size_setCell, World.size_drew] at hz_a hcf_a); have hbh_a := Lib.hid hb; clear hb; obtain ⟨hc_a, hf_a⟩ := hcf_a) |
    (refine wpList_make_full _ (by rfl) _ _ 37 (by rfl) w.heap.size 26 i0 _ 1 Try.underlying37 hi hz0 hz1 .i64 .i64 _ _ W (by rfl) (by rfl) (by rfl) (by rfl) (by rw [hz2]; omega) (by simp only [maxLen]; omega) (by omega) ?_; intro wm hown hgr; obtain ⟨hm1, hm2, hm3, hm4⟩ := own_made hown; have hbm := bl_none hgr; have hcf_m := bcell hbm; have hz_m := hbm.size; have hbh_m := Lib.hid hbm; clear hbm hown hgr; obtain ⟨hc_m, hf_m⟩ := hcf_m) | first | (go_at_call 16; refine (Of_any _ _).mono ?_; rintro e wf ⟨rfl, hb⟩; have hcf_wf := bcell hb; (try simp only [World.size_alloc, World.size_setCell, World.size_drew] at hcf_wf); have hz_wf := hb.size; (try simp only [World.size_alloc, World.size_setCell, World.size_drew] at hz_wf); have hbh_wf := Lib.hid hb; clear hb; obtain ⟨hc_wf, hf_wf⟩ := hcf_wf))
  have hBf : Hid (Below w.heap.size w (wf.alloc (.cells #[.int .u32 0] 26))) := by
    refine Lib.hid ?_
    (repeat' (first | exact Below.refl _ _ | refine bl_set (by (first | omega | (simp; done) | (simp; omega))) ?_ _ | refine bl_alloc (by (first | omega | (simp; done) | (simp; omega))) ?_ _ | refine bl_drewN ?_ _ | refine bl_drew ?_ | refine bl_then (by assumption) ?_ (by (first | omega | (simp; done) | (simp; omega))) | refine Step.bl (by assumption) (by assumption) (by (first | omega | (simp; done) | (simp; omega))) (by (first | omega | (simp; done) | (simp; omega))) ?_))
  obtain ⟨g, hg⟩ : ∃ g, wa.heap.size = g := ⟨_, rfl⟩
  rw [hg] at hm1 hm2 hm3 hm4
  rw [hg]
  go_loopw [20] (fun i wr => ∃ k : Nat, k ≤ nk ∧ i = .int .i64 k ∧ wr.cell? ⟨w.heap.size, 0, none⟩ = some (.slice KA nk kc) ∧ wr.cell? ⟨w.heap.size, 1, none⟩ = some (.slice RA n rc) ∧ wr.cell? ⟨w.heap.size + 1, 0, none⟩ = some (.int .u32 key) ∧ wr.cell? ⟨w.heap.size + 2, 0, none⟩ = some (.int .u32 0) ∧
      wr.cell? ⟨wf.heap.size, 0, none⟩ = some (.int .u32 (Sk.ff key (fun i => K i 0) k)) ∧ (∀ c, c < W → wr.cell? ⟨g, c, none⟩ = some (.int .u32 (Sk.fo key (fun i => K i 0) n W R f k c))) ∧ (∀ j, wr.frozen? ⟨g, j, none⟩ = false) ∧
      wr.frozen? ⟨wf.heap.size, 0, none⟩ = false ∧ wr.frozen? ⟨w.heap.size + 2, 0, none⟩ = false ∧ wf.heap.size < wr.heap.size ∧ Below w.heap.size w wr) (fun i _ => nk - (intOf i).toNat)
  case atStart =>
    obtain ⟨hc3, hf3⟩ := Calm.al_rule wf (.cells #[.int .u32 0] 26)
    have hgf : g < wf.heap.size := by omega
    have e1 : ∀ c, c < W → wf.cell? ⟨g, c, none⟩ = some (.int .u32 0) := fun c hc => (hbh_wf.out.cell (p := ⟨g, c, none⟩) hm2).trans (hm3 c hc)
    have e2 : ∀ j, wf.frozen? ⟨g, j, none⟩ = false := fun j => (hbh_wf.out.frozen (p := ⟨g, j, none⟩) hm2).trans (hm4 j)
    refine ⟨0, by omega, rfl, ?_, ?_, ?_, ?_, ?_, ?_, ?_, ?_, ?_, ?_, ?_⟩
    case refine_6 => intro c hc; rw [Sk.fo_zero]; clear hc_m hc_wf hc_a hm3; simp [go_sem, ↓IntWalk.iteOmega, *]
    case refine_7 => intro j; clear hf_m hf_wf hf_a hm4; simp [go_sem, ↓IntWalk.iteOmega, *]
    all_goals first | (simp [go_sem]; done) | (rw [Sk.ff_zero]; simp [go_sem]; done) | (simp [go_sem, ↓IntWalk.iteOmega, *]; done) | (repeat' (first | exact Below.refl _ _ | refine bl_set (by (first | omega | (simp; done) | (simp; omega))) ?_ _ | refine bl_alloc (by (first | omega | (simp; done) | (simp; omega))) ?_ _ | refine bl_drewN ?_ _ | refine bl_drew ?_ | refine bl_then (by assumption) ?_ (by (first | omega | (simp; done) | (simp; omega))) | refine Step.bl (by assumption) (by assumption) (by (first | omega | (simp; done) | (simp; omega))) (by (first | omega | (simp; done) | (simp; omega))) ?_))
  case round =>
    obtain ⟨k, hk, rfl, hc1, hc2, hc3, hc4, hc5, hc6, hf1, hf2, hf3, hlt, hW0⟩ := hrel
    have hWs := hW0.size
    by_cases hkm : k < nk
    · obtain ⟨rfl, hB, hcell⟩ := HA.out (by omega)
      have g0 : wr.cell? ⟨KB, koff + k, none⟩ = some (.int .u32 (K k 0)) := (hW0.cell (p := ⟨KB, koff + k, none⟩) hB).trans (by simpa using hcell k 0 hkm (by decide))
      have hd1 := Lib.hid (Sk.ff_succ key (fun i => K i 0) k)
      have hd2 := Lib.hid (Sk.fo_succ key (fun i => K i 0) n W R f k)
      have HRr := Lib.hid (HR.out.lift hW0)
      have HW := Lib.hid hW0
      clear hW0 hcell
      by_cases hkn : k < n
      · obtain ⟨rfl, hRB⟩ := HRr.out.at_ (by omega)
        have g1 := HRr.out.cell k hkn
        have g2 := HRr.out.cap k hkn
        obtain ⟨r, hr⟩ : ∃ r, R k = r := ⟨_, rfl⟩
        rw [hr] at g1 g2
        go_wp2_with fail
        (refine Calm.go 5 (by kernel_rfl) (by kernel_rfl) (by kernel_rfl) ?_; intro w0 hw0; have hr := Calm.rule hw0; simp only [Calm.heads, Calm.isAlloc]; haveI hnon : Nonempty (Ext (Below w0.heap.size w0)) := ⟨⟨w0, Below.refl _ _⟩⟩; (repeat (go_big_quiet_step (first | (go_at_call 16; exact Ext.calm below_calm (Of_any _ _)) | (go_at_call 28; exact Ext.calm below_calm (Eq_any _ _ _))))); refine wpQuiet_nil ?_; clear hnon hr hw0; clear w0; (repeat refine Calm.n_skip rfl ?_); refine Calm.n_new rfl ?_; intro pA1 hpA1 hqA1; (repeat refine Calm.n_skip rfl ?_); refine Calm.n_zero ?_; intro WA hbA hsA; simp only [List.drop_succ_cons, List.drop_zero]; obtain ⟨hcA, hfA⟩ := bcell hbA; (try simp only [World.size_alloc, World.size_setCell, World.size_drew] at hcA hfA); have hzA := hbA.size; have hbhA := Lib.hid hbA; obtain ⟨hxA1, hyA1, hlA1⟩ := Calm.boxed hsA (p := pA1) (.head _) (by first | exact box_sec | exact box_sec3); clear hqA1; clear hsA hbA; (try simp only [World.size_alloc, World.size_setCell, World.size_drew] at hzA hpA1))
        go_wp2_with (first | (go_at_call 22; refine (Or_any _ _ _).mono ?_; rintro e wo ⟨rfl, hb⟩; have hcf_wo := bcell hb; (try simp only [World.size_alloc, World.size_setCell, World.size_drew] at hcf_wo); have hz_wo := hb.size; (try simp only [World.size_alloc, World.size_setCell, World.size_drew] at hz_wo); have hbh_wo := Lib.hid hb; clear hb; obtain ⟨hc_wo, hf_wo⟩ := hcf_wo))
        have hpg : g < wf.heap.size := by omega
        obtain ⟨W1, hW1⟩ : ∃ W1, wo.setCell ⟨wf.heap.size, 0, none⟩ (.int .u32 (Ct.Or (Sk.ff key (fun i => K i 0) k) (Ct.Eq key (K k 0)))) = W1 := ⟨_, rfl⟩
        have HW1 := Lib.hid hW1
        clear hW1
        have a1 : W1.cell? ⟨w.heap.size, 0, none⟩ = some (.slice (some ⟨KB, koff, none⟩) nk kc) := by rw [← HW1.out]; simp [go_sem, ↓IntWalk.iteOmega, *]
        have a2 : W1.cell? ⟨w.heap.size, 1, none⟩ = some (.slice (some ⟨B, off, none⟩) n rc) := by rw [← HW1.out]; simp [go_sem, ↓IntWalk.iteOmega, *]
        have a3 : W1.cell? ⟨w.heap.size + 1, 0, none⟩ = some (.int .u32 key) := by rw [← HW1.out]; simp [go_sem, ↓IntWalk.iteOmega, *]
        have a4 : W1.cell? ⟨w.heap.size + 2, 0, none⟩ = some (.int .u32 0) := by rw [← HW1.out]; simp [go_sem, ↓IntWalk.iteOmega, *]
        have a5 : W1.cell? ⟨wf.heap.size, 0, none⟩ = some (.int .u32 (Sk.ff key (fun i => K i 0) (k + 1))) := by rw [← HW1.out, hd1.out]; simp [go_sem, ↓IntWalk.iteOmega, *]
        have a6 : ∀ c, c < W → W1.cell? ⟨g, c, none⟩ = some (.int .u32 (Sk.fo key (fun i => K i 0) n W R f k c)) := by intro c hc; rw [← HW1.out]; clear hc_m hc_wf hc_a hm3; simp [go_sem, ↓IntWalk.iteOmega, *]
        have a7 : ∀ j, W1.frozen? ⟨g, j, none⟩ = false := by intro j; rw [← HW1.out]; clear hf_m hf_wf hf_a hm4; simp [go_sem, ↓IntWalk.iteOmega, *]
        have a8 : W1.frozen? ⟨wf.heap.size, 0, none⟩ = false := by rw [← HW1.out]; simp [go_sem, ↓IntWalk.iteOmega, *]
        have a9 : W1.frozen? ⟨w.heap.size + 2, 0, none⟩ = false := by rw [← HW1.out]; simp [go_sem, ↓IntWalk.iteOmega, *]
        have a10 : wr.heap.size ≤ W1.heap.size := by rw [← HW1.out]; simp; omega
        have a11 : Hid (Below w.heap.size w W1) := by
          refine Lib.hid ?_
          rw [← HW1.out]
          have HW' := HW
          (repeat' (first | exact Below.refl _ _ | refine bl_set (by (first | omega | (simp; done) | (simp; omega))) ?_ _ | refine bl_alloc (by (first | omega | (simp; done) | (simp; omega))) ?_ _ | refine bl_drewN ?_ _ | refine bl_drew ?_ | refine bl_then (by assumption) ?_ (by (first | omega | (simp; done) | (simp; omega))) | refine Step.bl (by assumption) (by assumption) (by (first | omega | (simp; done) | (simp; omega))) (by (first | omega | (simp; done) | (simp; omega))) ?_))
        have a12 : W1.cell? ⟨pA1, 0, none⟩ = some (.int .u32 (Ct.Eq key (K k 0))) := by rw [← HW1.out]; simp [go_sem, ↓IntWalk.iteOmega, *]
        have a13 : pA1 < W1.heap.size := by rw [← HW1.out]; simp; omega
        rw [HW1.out]
        clear HW1 hcA hfA hbhA hxA1 hyA1 hc_wo hf_wo hbh_wo
        have hs0 := Ext.rd a2
        have hs1 : ∀ m : Ext (Below W1.heap.size W1), m.w.cell? ⟨B, off + k, none⟩ = some (.slice (Ai k) r (ci k)) := Ext.rd (by rw [← hr]; exact (HR.out.lift a11.out).cell k hkn)
        haveI hnon : Nonempty (Ext (Below W1.heap.size W1)) := ⟨⟨W1.drew, below_start _⟩⟩
        rcases (by omega : r < W ∨ r = W ∨ W < r) with hrw | hrw | hrw
        · have hM : min (R k) W = r := by omega
          have hMW : r ≤ W := by omega
          refine wp_region_calm (S := Below W1.heap.size W1) (by kernel_rfl) (by kernel_rfl) (below_start _) ?_
          repeat (go_big_quiet_step (fail))
          refine wpQuiet_nil ?_
          rintro _ ⟨m1, rfl⟩
          have hz1 := m1.h.size
          have b1 := hs0 m1
          have b0 := Ext.rd a1 m1
          have b3 := Ext.rd a3 m1
          have b4 := Ext.rd a4 m1
          have b5 := Ext.rd a5 m1
          have b6 : ∀ c, c < W → m1.w.cell? ⟨g, c, none⟩ = some (.int .u32 (Sk.fo key (fun i => K i 0) n W R f k c)) := fun c hc => Ext.rd (a6 c hc) m1
          have b7 : ∀ j, m1.w.frozen? ⟨g, j, none⟩ = false := fun j => (m1.h.frozen (p := ⟨g, j, none⟩) (by show g < _; omega)).trans (a7 j)
          have b8 : m1.w.frozen? ⟨wf.heap.size, 0, none⟩ = false := (m1.h.frozen (p := ⟨wf.heap.size, 0, none⟩) (by show wf.heap.size < _; omega)).trans a8
          have b9 : m1.w.frozen? ⟨w.heap.size + 2, 0, none⟩ = false := (m1.h.frozen (p := ⟨w.heap.size + 2, 0, none⟩) (by show w.heap.size + 2 < _; omega)).trans a9
          have b11 : Below w.heap.size w m1.w := bl_then (Lib.hid m1.h) a11.out (by omega)
          have b12 := Ext.rd a12 m1
          have b13 : pA1 < m1.w.heap.size := by omega
          have b14 : wr.heap.size ≤ m1.w.heap.size := by omega
          generalize m1.w = W2 at b1 b0 b3 b4 b5 b6 b7 b8 b9 b11 b12 b13 b14 ⊢
          clear hs0 hs1 a1 a2 a3 a4 a5 a6 a7 a8 a9 a10 a11 a12 a13 hnon hz1
          go_wp2_with fail
          go_loopw [53] (fun j ws => ∃ q : Nat, q ≤ r ∧ j = .int .i64 q ∧ ws.cell? ⟨w.heap.size, 0, none⟩ = some (.slice (some ⟨KB, koff, none⟩) nk kc) ∧ ws.cell? ⟨w.heap.size, 1, none⟩ = some (.slice (some ⟨B, off, none⟩) n rc) ∧ ws.cell? ⟨w.heap.size + 1, 0, none⟩ = some (.int .u32 key) ∧ ws.cell? ⟨w.heap.size + 2, 0, none⟩ = some (.int .u32 0) ∧
              ws.cell? ⟨wf.heap.size, 0, none⟩ = some (.int .u32 (Sk.ff key (fun i => K i 0) (k + 1))) ∧ (∀ c, c < W → ws.cell? ⟨g, c, none⟩ = some (.int .u32 (if c < q then Sk.fo key (fun i => K i 0) n W R f (k + 1) c else Sk.fo key (fun i => K i 0) n W R f k c))) ∧ (∀ j, ws.frozen? ⟨g, j, none⟩ = false) ∧
              ws.frozen? ⟨wf.heap.size, 0, none⟩ = false ∧ ws.frozen? ⟨w.heap.size + 2, 0, none⟩ = false ∧ Below w.heap.size w ws ∧ ws.cell? ⟨pA1, 0, none⟩ = some (.int .u32 (Ct.Eq key (K k 0))) ∧ pA1 < ws.heap.size ∧ wr.heap.size ≤ ws.heap.size) (fun j _ => r - (intOf j).toNat)
          case atStart =>
            exact ⟨0, by omega, rfl, b0, b1, b3, b4, b5, fun c hc => by rw [if_neg (by omega)]; exact b6 c hc, b7, b8, b9, b11, b12, b13, b14⟩
          case round =>
            obtain ⟨q, hq, rfl, d1, d2, d3, d4, d5, d6, d7, d8, d9, d10, d11, d12, d13⟩ := hrel
            clear b0 b1 b3 b4 b5 b6 b7 b8 b9 b11 b12 b13 b14
            by_cases hqM : q < r
            · obtain ⟨b', o', hAi, hlt', hrow⟩ := (HR.out.lift d10).row k hkn (by omega)
              have e0 := hrow q (by omega)
              have e1 := d6 q (by omega)
              rw [if_neg (Nat.lt_irrefl q)] at e1
              have hd3 := hd2.out q
              rw [if_pos ⟨hkn, by omega⟩] at hd3
              have Hd3 := Lib.hid hd3
              have D6 := Lib.hid d6
              have hD10 := Lib.hid d10
              clear hrow hd3 d6 d10
              rw [hAi]
              go_wp2_with fail
              (refine Calm.go 12 (by kernel_rfl) (by kernel_rfl) (by kernel_rfl) ?_; intro w0 hw0; have hr := Calm.rule hw0; simp only [Calm.heads, Calm.isAlloc]; haveI hnon : Nonempty (Ext (Below w0.heap.size w0)) := ⟨⟨w0, Below.refl _ _⟩⟩; (repeat (go_big_quiet_step (first | (go_at_call 16; exact Ext.calm below_calm (Of_any _ _)) | (go_at_call 20; exact Ext.calm below_calm (And_any _ _ _)) | (go_at_call 22; exact Ext.calm below_calm (Or_any _ _ _))))); refine wpQuiet_nil ?_; clear hnon hr hw0; clear w0; (repeat refine Calm.n_skip rfl ?_); refine Calm.n_zero ?_; intro WB hbB hsB; simp only [List.drop_succ_cons, List.drop_zero]; obtain ⟨hcB, hfB⟩ := bcell hbB; (try simp only [World.size_alloc, World.size_setCell, World.size_drew] at hcB hfB); have hzB := hbB.size; have hbhB := Lib.hid hbB; clear hsB hbB; (try simp only [World.size_alloc, World.size_setCell, World.size_drew] at hzB))
              go_wp2_with fail
              go_roundw
              case rel =>
                refine ⟨q + 1, by omega, by go_num, ?_, ?_, ?_, ?_, ?_, ?_, ?_, ?_, ?_, ?_, ?_, ?_, ?_⟩
                case refine_6 =>
                  intro c hc
                  by_cases hcq : c = q
                  · subst hcq
                    rw [if_pos (Nat.lt_succ_self _), Hd3.out]
                    simp [go_sem, ↓IntWalk.iteOmega, *]
                  · have e2 := D6.out c hc
                    rcases Nat.lt_or_ge c q with hcl | hcl
                    · rw [if_pos hcl] at e2
                      rw [if_pos (by omega), ← e2]
                      clear e1 e2
                      simp [go_sem, ↓IntWalk.iteOmega, *]
                    · rw [if_neg (by omega)] at e2
                      rw [if_neg (by omega), ← e2]
                      clear e1 e2
                      simp [go_sem, ↓IntWalk.iteOmega, *]
                case refine_7 => intro j; simp [go_sem, ↓IntWalk.iteOmega, *]
                all_goals first | (simp [go_sem, ↓IntWalk.iteOmega, *]; done) | (simp; omega) | (have HW' := hD10.out; (repeat' (first | exact Below.refl _ _ | refine bl_set (by (first | omega | (simp; done) | (simp; omega))) ?_ _ | refine bl_alloc (by (first | omega | (simp; done) | (simp; omega))) ?_ _ | refine bl_drewN ?_ _ | refine bl_drew ?_ | refine bl_then (by assumption) ?_ (by (first | omega | (simp; done) | (simp; omega))) | refine Step.bl (by assumption) (by assumption) (by (first | omega | (simp; done) | (simp; omega))) (by (first | omega | (simp; done) | (simp; omega))) ?_)))
              case measure => simp [intOf]; omega
            · have hge : r ≤ q := by omega
              have HQ := Lib.hid (show q = r by omega)
              have D6 := Lib.hid d6
              have hD10 := Lib.hid d10
              clear d6 d10
              go_wp2_with fail
              refine ⟨⟨k + 1, by omega, by go_num, d1, d2, d3, d4, d5, ?_, d7, d8, d9, by omega, hD10.out⟩, ?_⟩
              · intro c hc
                rw [D6.out c hc]
                by_cases hcq : c < q
                · rw [if_pos hcq]
                · rw [if_neg hcq, hd2.out c, if_neg (fun h => hcq (by have := HQ.out; omega))]
              · simp [intOf]; omega
        · have hM : min (R k) W = W := by omega
          have hMW : W ≤ W := by omega
          refine wp_region_calm (S := Below W1.heap.size W1) (by kernel_rfl) (by kernel_rfl) (below_start _) ?_
          repeat (go_big_quiet_step (fail))
          refine wpQuiet_nil ?_
          rintro _ ⟨m1, rfl⟩
          have hz1 := m1.h.size
          have b1 := hs0 m1
          have b0 := Ext.rd a1 m1
          have b3 := Ext.rd a3 m1
          have b4 := Ext.rd a4 m1
          have b5 := Ext.rd a5 m1
          have b6 : ∀ c, c < W → m1.w.cell? ⟨g, c, none⟩ = some (.int .u32 (Sk.fo key (fun i => K i 0) n W R f k c)) := fun c hc => Ext.rd (a6 c hc) m1
          have b7 : ∀ j, m1.w.frozen? ⟨g, j, none⟩ = false := fun j => (m1.h.frozen (p := ⟨g, j, none⟩) (by show g < _; omega)).trans (a7 j)
          have b8 : m1.w.frozen? ⟨wf.heap.size, 0, none⟩ = false := (m1.h.frozen (p := ⟨wf.heap.size, 0, none⟩) (by show wf.heap.size < _; omega)).trans a8
          have b9 : m1.w.frozen? ⟨w.heap.size + 2, 0, none⟩ = false := (m1.h.frozen (p := ⟨w.heap.size + 2, 0, none⟩) (by show w.heap.size + 2 < _; omega)).trans a9
          have b11 : Below w.heap.size w m1.w := bl_then (Lib.hid m1.h) a11.out (by omega)
          have b12 := Ext.rd a12 m1
          have b13 : pA1 < m1.w.heap.size := by omega
          have b14 : wr.heap.size ≤ m1.w.heap.size := by omega
          generalize m1.w = W2 at b1 b0 b3 b4 b5 b6 b7 b8 b9 b11 b12 b13 b14 ⊢
          clear hs0 hs1 a1 a2 a3 a4 a5 a6 a7 a8 a9 a10 a11 a12 a13 hnon hz1
          go_wp2_with fail
          go_loopw [53] (fun j ws => ∃ q : Nat, q ≤ W ∧ j = .int .i64 q ∧ ws.cell? ⟨w.heap.size, 0, none⟩ = some (.slice (some ⟨KB, koff, none⟩) nk kc) ∧ ws.cell? ⟨w.heap.size, 1, none⟩ = some (.slice (some ⟨B, off, none⟩) n rc) ∧ ws.cell? ⟨w.heap.size + 1, 0, none⟩ = some (.int .u32 key) ∧ ws.cell? ⟨w.heap.size + 2, 0, none⟩ = some (.int .u32 0) ∧
              ws.cell? ⟨wf.heap.size, 0, none⟩ = some (.int .u32 (Sk.ff key (fun i => K i 0) (k + 1))) ∧ (∀ c, c < W → ws.cell? ⟨g, c, none⟩ = some (.int .u32 (if c < q then Sk.fo key (fun i => K i 0) n W R f (k + 1) c else Sk.fo key (fun i => K i 0) n W R f k c))) ∧ (∀ j, ws.frozen? ⟨g, j, none⟩ = false) ∧
              ws.frozen? ⟨wf.heap.size, 0, none⟩ = false ∧ ws.frozen? ⟨w.heap.size + 2, 0, none⟩ = false ∧ Below w.heap.size w ws ∧ ws.cell? ⟨pA1, 0, none⟩ = some (.int .u32 (Ct.Eq key (K k 0))) ∧ pA1 < ws.heap.size ∧ wr.heap.size ≤ ws.heap.size) (fun j _ => W - (intOf j).toNat)
          case atStart =>
            exact ⟨0, by omega, rfl, b0, b1, b3, b4, b5, fun c hc => by rw [if_neg (by omega)]; exact b6 c hc, b7, b8, b9, b11, b12, b13, b14⟩
          case round =>
            obtain ⟨q, hq, rfl, d1, d2, d3, d4, d5, d6, d7, d8, d9, d10, d11, d12, d13⟩ := hrel
            clear b0 b1 b3 b4 b5 b6 b7 b8 b9 b11 b12 b13 b14
            by_cases hqM : q < W
            · obtain ⟨b', o', hAi, hlt', hrow⟩ := (HR.out.lift d10).row k hkn (by omega)
              have e0 := hrow q (by omega)
              have e1 := d6 q (by omega)
              rw [if_neg (Nat.lt_irrefl q)] at e1
              have hd3 := hd2.out q
              rw [if_pos ⟨hkn, by omega⟩] at hd3
              have Hd3 := Lib.hid hd3
              have D6 := Lib.hid d6
              have hD10 := Lib.hid d10
              clear hrow hd3 d6 d10
              rw [hAi]
              go_wp2_with fail
              (refine Calm.go 12 (by kernel_rfl) (by kernel_rfl) (by kernel_rfl) ?_; intro w0 hw0; have hr := Calm.rule hw0; simp only [Calm.heads, Calm.isAlloc]; haveI hnon : Nonempty (Ext (Below w0.heap.size w0)) := ⟨⟨w0, Below.refl _ _⟩⟩; (repeat (go_big_quiet_step (first | (go_at_call 16; exact Ext.calm below_calm (Of_any _ _)) | (go_at_call 20; exact Ext.calm below_calm (And_any _ _ _)) | (go_at_call 22; exact Ext.calm below_calm (Or_any _ _ _))))); refine wpQuiet_nil ?_; clear hnon hr hw0; clear w0; (repeat refine Calm.n_skip rfl ?_); refine Calm.n_zero ?_; intro WB hbB hsB; simp only [List.drop_succ_cons, List.drop_zero]; obtain ⟨hcB, hfB⟩ := bcell hbB; (try simp only [World.size_alloc, World.size_setCell, World.size_drew] at hcB hfB); have hzB := hbB.size; have hbhB := Lib.hid hbB; clear hsB hbB; (try simp only [World.size_alloc, World.size_setCell, World.size_drew] at hzB))
              go_wp2_with fail
              go_roundw
              case rel =>
                refine ⟨q + 1, by omega, by go_num, ?_, ?_, ?_, ?_, ?_, ?_, ?_, ?_, ?_, ?_, ?_, ?_, ?_⟩
                case refine_6 =>
                  intro c hc
                  by_cases hcq : c = q
                  · subst hcq
                    rw [if_pos (Nat.lt_succ_self _), Hd3.out]
                    simp [go_sem, ↓IntWalk.iteOmega, *]
                  · have e2 := D6.out c hc
                    rcases Nat.lt_or_ge c q with hcl | hcl
                    · rw [if_pos hcl] at e2
                      rw [if_pos (by omega), ← e2]
                      clear e1 e2
                      simp [go_sem, ↓IntWalk.iteOmega, *]
                    · rw [if_neg (by omega)] at e2
                      rw [if_neg (by omega), ← e2]
                      clear e1 e2
                      simp [go_sem, ↓IntWalk.iteOmega, *]
                case refine_7 => intro j; simp [go_sem, ↓IntWalk.iteOmega, *]
                all_goals first | (simp [go_sem, ↓IntWalk.iteOmega, *]; done) | (simp; omega) | (have HW' := hD10.out; (repeat' (first | exact Below.refl _ _ | refine bl_set (by (first | omega | (simp; done) | (simp; omega))) ?_ _ | refine bl_alloc (by (first | omega | (simp; done) | (simp; omega))) ?_ _ | refine bl_drewN ?_ _ | refine bl_drew ?_ | refine bl_then (by assumption) ?_ (by (first | omega | (simp; done) | (simp; omega))) | refine Step.bl (by assumption) (by assumption) (by (first | omega | (simp; done) | (simp; omega))) (by (first | omega | (simp; done) | (simp; omega))) ?_)))
              case measure => simp [intOf]; omega
            · have hge : W ≤ q := by omega
              have HQ := Lib.hid (show q = W by omega)
              have D6 := Lib.hid d6
              have hD10 := Lib.hid d10
              clear d6 d10
              go_wp2_with fail
              refine ⟨⟨k + 1, by omega, by go_num, d1, d2, d3, d4, d5, ?_, d7, d8, d9, by omega, hD10.out⟩, ?_⟩
              · intro c hc
                rw [D6.out c hc]
                by_cases hcq : c < q
                · rw [if_pos hcq]
                · rw [if_neg hcq, hd2.out c, if_neg (fun h => hcq (by have := HQ.out; omega))]
              · simp [intOf]; omega
        · have hM : min (R k) W = W := by omega
          have hMW : W ≤ W := by omega
          refine wp_region_calm (S := Below W1.heap.size W1) (by kernel_rfl) (by kernel_rfl) (below_start _) ?_
          repeat (go_big_quiet_step (fail))
          refine wpQuiet_nil ?_
          rintro _ ⟨m1, rfl⟩
          have hz1 := m1.h.size
          have b1 := hs0 m1
          have b0 := Ext.rd a1 m1
          have b3 := Ext.rd a3 m1
          have b4 := Ext.rd a4 m1
          have b5 := Ext.rd a5 m1
          have b6 : ∀ c, c < W → m1.w.cell? ⟨g, c, none⟩ = some (.int .u32 (Sk.fo key (fun i => K i 0) n W R f k c)) := fun c hc => Ext.rd (a6 c hc) m1
          have b7 : ∀ j, m1.w.frozen? ⟨g, j, none⟩ = false := fun j => (m1.h.frozen (p := ⟨g, j, none⟩) (by show g < _; omega)).trans (a7 j)
          have b8 : m1.w.frozen? ⟨wf.heap.size, 0, none⟩ = false := (m1.h.frozen (p := ⟨wf.heap.size, 0, none⟩) (by show wf.heap.size < _; omega)).trans a8
          have b9 : m1.w.frozen? ⟨w.heap.size + 2, 0, none⟩ = false := (m1.h.frozen (p := ⟨w.heap.size + 2, 0, none⟩) (by show w.heap.size + 2 < _; omega)).trans a9
          have b11 : Below w.heap.size w m1.w := bl_then (Lib.hid m1.h) a11.out (by omega)
          have b12 := Ext.rd a12 m1
          have b13 : pA1 < m1.w.heap.size := by omega
          have b14 : wr.heap.size ≤ m1.w.heap.size := by omega
          generalize m1.w = W2 at b1 b0 b3 b4 b5 b6 b7 b8 b9 b11 b12 b13 b14 ⊢
          clear hs0 hs1 a1 a2 a3 a4 a5 a6 a7 a8 a9 a10 a11 a12 a13 hnon hz1
          go_wp2_with fail
          go_loopw [53] (fun j ws => ∃ q : Nat, q ≤ W ∧ j = .int .i64 q ∧ ws.cell? ⟨w.heap.size, 0, none⟩ = some (.slice (some ⟨KB, koff, none⟩) nk kc) ∧ ws.cell? ⟨w.heap.size, 1, none⟩ = some (.slice (some ⟨B, off, none⟩) n rc) ∧ ws.cell? ⟨w.heap.size + 1, 0, none⟩ = some (.int .u32 key) ∧ ws.cell? ⟨w.heap.size + 2, 0, none⟩ = some (.int .u32 0) ∧
              ws.cell? ⟨wf.heap.size, 0, none⟩ = some (.int .u32 (Sk.ff key (fun i => K i 0) (k + 1))) ∧ (∀ c, c < W → ws.cell? ⟨g, c, none⟩ = some (.int .u32 (if c < q then Sk.fo key (fun i => K i 0) n W R f (k + 1) c else Sk.fo key (fun i => K i 0) n W R f k c))) ∧ (∀ j, ws.frozen? ⟨g, j, none⟩ = false) ∧
              ws.frozen? ⟨wf.heap.size, 0, none⟩ = false ∧ ws.frozen? ⟨w.heap.size + 2, 0, none⟩ = false ∧ Below w.heap.size w ws ∧ ws.cell? ⟨pA1, 0, none⟩ = some (.int .u32 (Ct.Eq key (K k 0))) ∧ pA1 < ws.heap.size ∧ wr.heap.size ≤ ws.heap.size) (fun j _ => W - (intOf j).toNat)
          case atStart =>
            exact ⟨0, by omega, rfl, b0, b1, b3, b4, b5, fun c hc => by rw [if_neg (by omega)]; exact b6 c hc, b7, b8, b9, b11, b12, b13, b14⟩
          case round =>
            obtain ⟨q, hq, rfl, d1, d2, d3, d4, d5, d6, d7, d8, d9, d10, d11, d12, d13⟩ := hrel
            clear b0 b1 b3 b4 b5 b6 b7 b8 b9 b11 b12 b13 b14
            by_cases hqM : q < W
            · obtain ⟨b', o', hAi, hlt', hrow⟩ := (HR.out.lift d10).row k hkn (by omega)
              have e0 := hrow q (by omega)
              have e1 := d6 q (by omega)
              rw [if_neg (Nat.lt_irrefl q)] at e1
              have hd3 := hd2.out q
              rw [if_pos ⟨hkn, by omega⟩] at hd3
              have Hd3 := Lib.hid hd3
              have D6 := Lib.hid d6
              have hD10 := Lib.hid d10
              clear hrow hd3 d6 d10
              rw [hAi]
              go_wp2_with fail
              (refine Calm.go 12 (by kernel_rfl) (by kernel_rfl) (by kernel_rfl) ?_; intro w0 hw0; have hr := Calm.rule hw0; simp only [Calm.heads, Calm.isAlloc]; haveI hnon : Nonempty (Ext (Below w0.heap.size w0)) := ⟨⟨w0, Below.refl _ _⟩⟩; (repeat (go_big_quiet_step (first | (go_at_call 16; exact Ext.calm below_calm (Of_any _ _)) | (go_at_call 20; exact Ext.calm below_calm (And_any _ _ _)) | (go_at_call 22; exact Ext.calm below_calm (Or_any _ _ _))))); refine wpQuiet_nil ?_; clear hnon hr hw0; clear w0; (repeat refine Calm.n_skip rfl ?_); refine Calm.n_zero ?_; intro WB hbB hsB; simp only [List.drop_succ_cons, List.drop_zero]; obtain ⟨hcB, hfB⟩ := bcell hbB; (try simp only [World.size_alloc, World.size_setCell, World.size_drew] at hcB hfB); have hzB := hbB.size; have hbhB := Lib.hid hbB; clear hsB hbB; (try simp only [World.size_alloc, World.size_setCell, World.size_drew] at hzB))
              go_wp2_with fail
              go_roundw
              case rel =>
                refine ⟨q + 1, by omega, by go_num, ?_, ?_, ?_, ?_, ?_, ?_, ?_, ?_, ?_, ?_, ?_, ?_, ?_⟩
                case refine_6 =>
                  intro c hc
                  by_cases hcq : c = q
                  · subst hcq
                    rw [if_pos (Nat.lt_succ_self _), Hd3.out]
                    simp [go_sem, ↓IntWalk.iteOmega, *]
                  · have e2 := D6.out c hc
                    rcases Nat.lt_or_ge c q with hcl | hcl
                    · rw [if_pos hcl] at e2
                      rw [if_pos (by omega), ← e2]
                      clear e1 e2
                      simp [go_sem, ↓IntWalk.iteOmega, *]
                    · rw [if_neg (by omega)] at e2
                      rw [if_neg (by omega), ← e2]
                      clear e1 e2
                      simp [go_sem, ↓IntWalk.iteOmega, *]
                case refine_7 => intro j; simp [go_sem, ↓IntWalk.iteOmega, *]
                all_goals first | (simp [go_sem, ↓IntWalk.iteOmega, *]; done) | (simp; omega) | (have HW' := hD10.out; (repeat' (first | exact Below.refl _ _ | refine bl_set (by (first | omega | (simp; done) | (simp; omega))) ?_ _ | refine bl_alloc (by (first | omega | (simp; done) | (simp; omega))) ?_ _ | refine bl_drewN ?_ _ | refine bl_drew ?_ | refine bl_then (by assumption) ?_ (by (first | omega | (simp; done) | (simp; omega))) | refine Step.bl (by assumption) (by assumption) (by (first | omega | (simp; done) | (simp; omega))) (by (first | omega | (simp; done) | (simp; omega))) ?_)))
              case measure => simp [intOf]; omega
            · have hge : W ≤ q := by omega
              have HQ := Lib.hid (show q = W by omega)
              have D6 := Lib.hid d6
              have hD10 := Lib.hid d10
              clear d6 d10
              go_wp2_with fail
              refine ⟨⟨k + 1, by omega, by go_num, d1, d2, d3, d4, d5, ?_, d7, d8, d9, by omega, hD10.out⟩, ?_⟩
              · intro c hc
                rw [D6.out c hc]
                by_cases hcq : c < q
                · rw [if_pos hcq]
                · rw [if_neg hcq, hd2.out c, if_neg (fun h => hcq (by have := HQ.out; omega))]
              · simp [intOf]; omega
      · go_wp2_with fail
        (refine Calm.go 5 (by kernel_rfl) (by kernel_rfl) (by kernel_rfl) ?_; intro w0 hw0; have hr := Calm.rule hw0; simp only [Calm.heads, Calm.isAlloc]; haveI hnon : Nonempty (Ext (Below w0.heap.size w0)) := ⟨⟨w0, Below.refl _ _⟩⟩; (repeat (go_big_quiet_step (first | (go_at_call 16; exact Ext.calm below_calm (Of_any _ _)) | (go_at_call 28; exact Ext.calm below_calm (Eq_any _ _ _))))); refine wpQuiet_nil ?_; clear hnon hr hw0; clear w0; (repeat refine Calm.n_skip rfl ?_); refine Calm.n_new rfl ?_; intro pA1 hpA1 hqA1; (repeat refine Calm.n_skip rfl ?_); refine Calm.n_zero ?_; intro WA hbA hsA; simp only [List.drop_succ_cons, List.drop_zero]; obtain ⟨hcA, hfA⟩ := bcell hbA; (try simp only [World.size_alloc, World.size_setCell, World.size_drew] at hcA hfA); have hzA := hbA.size; have hbhA := Lib.hid hbA; obtain ⟨hxA1, hyA1, hlA1⟩ := Calm.boxed hsA (p := pA1) (.head _) (by first | exact box_sec | exact box_sec3); clear hqA1; clear hsA hbA; (try simp only [World.size_alloc, World.size_setCell, World.size_drew] at hzA hpA1))
        go_wp2_with (first | (go_at_call 22; refine (Or_any _ _ _).mono ?_; rintro e wo ⟨rfl, hb⟩; have hcf_wo := bcell hb; (try simp only [World.size_alloc, World.size_setCell, World.size_drew] at hcf_wo); have hz_wo := hb.size; (try simp only [World.size_alloc, World.size_setCell, World.size_drew] at hz_wo); have hbh_wo := Lib.hid hb; clear hb; obtain ⟨hc_wo, hf_wo⟩ := hcf_wo))
        have hpg : g < wf.heap.size := by omega
        obtain ⟨W1, hW1⟩ : ∃ W1, wo.setCell ⟨wf.heap.size, 0, none⟩ (.int .u32 (Ct.Or (Sk.ff key (fun i => K i 0) k) (Ct.Eq key (K k 0)))) = W1 := ⟨_, rfl⟩
        have HW1 := Lib.hid hW1
        clear hW1
        have a1 : W1.cell? ⟨w.heap.size, 0, none⟩ = some (.slice (some ⟨KB, koff, none⟩) nk kc) := by rw [← HW1.out]; simp [go_sem, ↓IntWalk.iteOmega, *]
        have a2 : W1.cell? ⟨w.heap.size, 1, none⟩ = some (.slice RA n rc) := by rw [← HW1.out]; simp [go_sem, ↓IntWalk.iteOmega, *]
        have a3 : W1.cell? ⟨w.heap.size + 1, 0, none⟩ = some (.int .u32 key) := by rw [← HW1.out]; simp [go_sem, ↓IntWalk.iteOmega, *]
        have a4 : W1.cell? ⟨w.heap.size + 2, 0, none⟩ = some (.int .u32 0) := by rw [← HW1.out]; simp [go_sem, ↓IntWalk.iteOmega, *]
        have a5 : W1.cell? ⟨wf.heap.size, 0, none⟩ = some (.int .u32 (Sk.ff key (fun i => K i 0) (k + 1))) := by rw [← HW1.out, hd1.out]; simp [go_sem, ↓IntWalk.iteOmega, *]
        have a6 : ∀ c, c < W → W1.cell? ⟨g, c, none⟩ = some (.int .u32 (Sk.fo key (fun i => K i 0) n W R f k c)) := by intro c hc; rw [← HW1.out]; clear hc_m hc_wf hc_a hm3; simp [go_sem, ↓IntWalk.iteOmega, *]
        have a7 : ∀ j, W1.frozen? ⟨g, j, none⟩ = false := by intro j; rw [← HW1.out]; clear hf_m hf_wf hf_a hm4; simp [go_sem, ↓IntWalk.iteOmega, *]
        have a8 : W1.frozen? ⟨wf.heap.size, 0, none⟩ = false := by rw [← HW1.out]; simp [go_sem, ↓IntWalk.iteOmega, *]
        have a9 : W1.frozen? ⟨w.heap.size + 2, 0, none⟩ = false := by rw [← HW1.out]; simp [go_sem, ↓IntWalk.iteOmega, *]
        have a10 : wr.heap.size ≤ W1.heap.size := by rw [← HW1.out]; simp; omega
        have a11 : Hid (Below w.heap.size w W1) := by
          refine Lib.hid ?_
          rw [← HW1.out]
          have HW' := HW
          (repeat' (first | exact Below.refl _ _ | refine bl_set (by (first | omega | (simp; done) | (simp; omega))) ?_ _ | refine bl_alloc (by (first | omega | (simp; done) | (simp; omega))) ?_ _ | refine bl_drewN ?_ _ | refine bl_drew ?_ | refine bl_then (by assumption) ?_ (by (first | omega | (simp; done) | (simp; omega))) | refine Step.bl (by assumption) (by assumption) (by (first | omega | (simp; done) | (simp; omega))) (by (first | omega | (simp; done) | (simp; omega))) ?_))
        have a12 : W1.cell? ⟨pA1, 0, none⟩ = some (.int .u32 (Ct.Eq key (K k 0))) := by rw [← HW1.out]; simp [go_sem, ↓IntWalk.iteOmega, *]
        have a13 : pA1 < W1.heap.size := by rw [← HW1.out]; simp; omega
        rw [HW1.out]
        clear HW1 hcA hfA hbhA hxA1 hyA1 hc_wo hf_wo hbh_wo
        refine ⟨⟨k + 1, by omega, by go_num, a1, a2, a3, a4, a5, ?_, a7, a8, a9, by omega, a11.out⟩, ?_⟩
        · intro c hc
          rw [hd2.out c, if_neg (fun h => hkn h.1)]
          exact a6 c hc
        · simp [intOf]; omega
    · have hge : nk ≤ k := by omega
      have hE := Lib.hid (show k = nk by omega)
      have HW := Lib.hid hW0
      clear hW0
      go_wp2_with fail
      go_region_held3 (fun w' => w'.cell? ⟨wf.heap.size, 0, none⟩ = some (.int .u32 (Sk.ff key (fun i => K i 0) k))) ((simp [go_sem, ↓IntWalk.iteOmega, *]; done)) (fail)
      all_goals go_wp2_with fail
      all_goals
        have hgf : g < wf.heap.size := by omega
        refine ret_tmp_sec (x := .slice (some ⟨g, 0, none⟩) W W) (y := Sk.ff key (fun i => K i 0) k) rfl rfl rfl (by simp [go_sem, ↓IntWalk.iteOmega, *]) rfl ?_
        refine ⟨g, by rw [hE.out], hm1, by simp; omega, ?_, ?_⟩
        · intro c hc
          have e1 := hc6 c hc
          rw [hE.out] at e1
          rw [← e1]
          clear e1
          simp [go_sem, ↓IntWalk.iteOmega, *]
        · have HW' := HW
          (repeat' (first | exact Below.refl _ _ | refine bl_set (by (first | omega | (simp; done) | (simp; omega))) ?_ _ | refine bl_alloc (by (first | omega | (simp; done) | (simp; omega))) ?_ _ | refine bl_drewN ?_ _ | refine bl_drew ?_ | refine bl_then (by assumption) ?_ (by (first | omega | (simp; done) | (simp; omega))) | refine Step.bl (by assumption) (by assumption) (by (first | omega | (simp; done) | (simp; omega))) (by (first | omega | (simp; done) | (simp; omega))) ?_))
end Go.Proofs.Ytcaaapfminenoaa
