/- What the document says of a word: runs, spans and weights. No condition. -/
import Derived.Test.YtcaaapfminenoaaSp
namespace Go.Proofs.Ytcaaapfminenoaa
open Go.RowKit
set_option linter.unusedSimpArgs false
set_option linter.unusedVariables false
attribute [local go_sem] IntKind.wrap_u32' signed_u32 max_u32
attribute [local go_sem ↓] Go.wp_at_zero Go.wp_at_succ
attribute [local go_sem] Calm.C
attribute [local go_sem low] Calm.al_cell Calm.al_frozen
attribute [local irreducible] Sk.rmv Sk.rin Sk.rcl
set_option maxHeartbeats 400000 in
theorem rHas_any (a b x : Int) (w : World) : Calls Try.prog 87 #[.agg #[.int .u32 a, .int .u32 b], .int .u32 x] w fun e w' => e = .returned (.bool (Sk.has a b x)) ∧ Below w.heap.size w w' := by
  unfold Sk.has
  by_cases h1 : a ≤ x
  · go_enter Try.func87, Try.ntmps87
    go_wp2_with fail
    go_ret
    exact ⟨by simp [h1], by (repeat' (first | exact Below.refl _ _ | refine bl_set (by (first | omega | (simp; done) | (simp; omega))) ?_ _ | refine bl_alloc (by (first | omega | (simp; done) | (simp; omega))) ?_ _ | refine bl_drewN ?_ _ | refine bl_drew ?_ | refine bl_then (by assumption) ?_ (by (first | omega | (simp; done) | (simp; omega))) | refine Step.bl (by assumption) (by assumption) (by (first | omega | (simp; done) | (simp; omega))) (by (first | omega | (simp; done) | (simp; omega))) ?_))⟩
  · go_enter Try.func87, Try.ntmps87
    go_wp2_with fail
    go_ret
    exact ⟨by rw [show decide (a ≤ x) = false from decide_eq_false (by omega)]; rfl, by (repeat' (first | exact Below.refl _ _ | refine bl_set (by (first | omega | (simp; done) | (simp; omega))) ?_ _ | refine bl_alloc (by (first | omega | (simp; done) | (simp; omega))) ?_ _ | refine bl_drewN ?_ _ | refine bl_drew ?_ | refine bl_then (by assumption) ?_ (by (first | omega | (simp; done) | (simp; omega))) | refine Step.bl (by assumption) (by assumption) (by (first | omega | (simp; done) | (simp; omega))) (by (first | omega | (simp; done) | (simp; omega))) ?_))⟩
attribute [local irreducible] Sk.has
set_option maxRecDepth 20000 in
set_option maxHeartbeats 1600000 in
theorem rIn_any (w : World) (A : Option Addr) (n c : Nat) (f : Nat → Nat → Int) (h : Tab w A n 2 f) (hn : n ≤ 1000) (x : Int) :
    Calls Try.prog 71 #[.slice A n c, .int .u32 x] w fun e w' => e = .returned (.bool (Sk.rin f x n)) ∧ Below w.heap.size w w' := by
  obtain ⟨B, off, hA⟩ := h.at
  have HA := Lib.hid hA
  have hstop : ∀ k, Sk.rin f x k = true → ∀ j, Sk.rin f x (k + j) = true := fun k hk j => by
    induction j with
    | zero => exact hk
    | succ j ih =>
      show Sk.rin f x ((k + j) + 1) = true
      rw [Sk.rin_succ, ih]
      simp
  have HS := Lib.hid hstop
  clear hA h hstop
  go_enter Try.func71, Try.ntmps71
  go_wp2_with fail
  go_loopw [5] (fun i wr => ∃ k : Nat, k ≤ n ∧ i = .int .i64 k ∧ Sk.rin f x k = false ∧ Below w.heap.size w wr) (fun i _ => n - (intOf i).toNat)
  case atStart => exact ⟨0, by omega, rfl, by rw [Sk.rin_zero], Below.refl _ _⟩
  case round =>
    obtain ⟨k, hk, rfl, hf0, hW⟩ := hrel
    have hWs := hW.size
    by_cases hkm : k < n
    · obtain ⟨rfl, hB, hcell⟩ := HA.out (by omega)
      have g0 : wr.cell? ⟨B, off + k * 2, none⟩ = some (.int .u32 (f k 0)) := (hW.cell (p := ⟨B, off + k * 2, none⟩) hB).trans (hcell k 0 hkm (by decide))
      have g1 : wr.cell? ⟨B, off + k * 2 + 1, none⟩ = some (.int .u32 (f k 1)) := (hW.cell (p := ⟨B, off + k * 2 + 1, none⟩) hB).trans (hcell k 1 hkm (by decide))
      have hd1 := Sk.rin_succ f x k
      rw [hf0] at hd1
      have HW := Lib.hid hW
      clear hW hcell
      cases hh : Sk.has (f k 0) (f k 1) x
      · rw [hh] at hd1
        have HD := Lib.hid hd1
        clear hd1
        go_wp2_with (first | (go_at_call 87; refine (rHas_any _ _ _ _).mono ?_; rintro e w1 ⟨rfl, hb⟩; have hcf := bcell hb; (try simp only [World.size_alloc, World.size_setCell, World.size_drew] at hcf); have hz := hb.size; (try simp only [World.size_alloc, World.size_setCell, World.size_drew] at hz); have hbh := Lib.hid hb; clear hb; obtain ⟨hc, hf⟩ := hcf))
        refine ⟨⟨k + 1, by omega, by go_num, by rw [HD.out]; rfl, ?_⟩, by simp [intOf]; omega⟩
        have HW' := HW.out
        (repeat' (first | exact Below.refl _ _ | refine bl_set (by (first | omega | (simp; done) | (simp; omega))) ?_ _ | refine bl_alloc (by (first | omega | (simp; done) | (simp; omega))) ?_ _ | refine bl_drewN ?_ _ | refine bl_drew ?_ | refine bl_then (by assumption) ?_ (by (first | omega | (simp; done) | (simp; omega))) | refine Step.bl (by assumption) (by assumption) (by (first | omega | (simp; done) | (simp; omega))) (by (first | omega | (simp; done) | (simp; omega))) ?_))
      · rw [hh, if_pos rfl] at hd1
        have HD := Lib.hid hd1
        clear hd1
        have hE : Sk.rin f x n = true := by
          have := HS.out (k + 1) HD.out (n - (k + 1))
          rw [show k + 1 + (n - (k + 1)) = n by omega] at this
          exact this
        have HE := Lib.hid hE
        clear hE
        go_wp2_with (first | (go_at_call 87; refine (rHas_any _ _ _ _).mono ?_; rintro e w1 ⟨rfl, hb⟩; have hcf := bcell hb; (try simp only [World.size_alloc, World.size_setCell, World.size_drew] at hcf); have hz := hb.size; (try simp only [World.size_alloc, World.size_setCell, World.size_drew] at hz); have hbh := Lib.hid hb; clear hb; obtain ⟨hc, hf⟩ := hcf))
        go_ret
        refine ⟨by rw [HE.out]; rfl, ?_⟩
        have HW' := HW.out
        (repeat' (first | exact Below.refl _ _ | refine bl_set (by (first | omega | (simp; done) | (simp; omega))) ?_ _ | refine bl_alloc (by (first | omega | (simp; done) | (simp; omega))) ?_ _ | refine bl_drewN ?_ _ | refine bl_drew ?_ | refine bl_then (by assumption) ?_ (by (first | omega | (simp; done) | (simp; omega))) | refine Step.bl (by assumption) (by assumption) (by (first | omega | (simp; done) | (simp; omega))) (by (first | omega | (simp; done) | (simp; omega))) ?_))
    · have hge : n ≤ k := by omega
      have HF := Lib.hid (show Sk.rin f x n = false by rw [show n = k by omega]; exact hf0)
      clear hf0
      go_wp2_with fail
      go_ret
      exact ⟨by rw [HF.out]; rfl, hW⟩
set_option maxRecDepth 20000 in
set_option maxHeartbeats 1600000 in
theorem rClass_any (w : World) (A : Option Addr) (n c : Nat) (f : Nat → Nat → Int) (h : Tab w A n 3 f) (hn : n ≤ 1000) (x : Int) :
    Calls Try.prog 73 #[.slice A n c, .int .u32 x] w fun e w' => e = .returned (.int .u32 (Sk.rcl f x n)) ∧ Below w.heap.size w w' := by
  obtain ⟨B, off, hA⟩ := h.at
  have HA := Lib.hid hA
  clear hA h
  go_enter Try.func73, Try.ntmps73
  go_wp2_with fail
  go_loopw [5, 6] (fun a5 i wr => ∃ k : Nat, k ≤ n ∧ i = .int .i64 k ∧ a5 = .int .u32 (Sk.rcl f x k) ∧ Below w.heap.size w wr) (fun _ i _ => n - (intOf i).toNat)
  case atStart => exact ⟨0, by omega, rfl, by rw [Sk.rcl_zero], Below.refl _ _⟩
  case round =>
    obtain ⟨k, hk, rfl, rfl, hW⟩ := hrel
    have hWs := hW.size
    by_cases hkm : k < n
    · obtain ⟨rfl, hB, hcell⟩ := HA.out (by omega)
      have g0 : wr.cell? ⟨B, off + k * 3, none⟩ = some (.int .u32 (f k 0)) := (hW.cell (p := ⟨B, off + k * 3, none⟩) hB).trans (hcell k 0 hkm (by decide))
      have g1 : wr.cell? ⟨B, off + k * 3 + 1, none⟩ = some (.int .u32 (f k 1)) := (hW.cell (p := ⟨B, off + k * 3 + 1, none⟩) hB).trans (hcell k 1 hkm (by decide))
      have g2 : wr.cell? ⟨B, off + k * 3 + 2, none⟩ = some (.int .u32 (f k 2)) := (hW.cell (p := ⟨B, off + k * 3 + 2, none⟩) hB).trans (hcell k 2 hkm (by decide))
      have hBs : B < wr.heap.size := by omega
      have hd1 := Sk.rcl_succ f x k
      have HW := Lib.hid hW
      clear hW hcell
      cases hh : Sk.has (f k 0) (f k 1) x
      all_goals
        rw [hh] at hd1
        have HD := Lib.hid hd1
        clear hd1
        go_wp2_with (first | (go_at_call 87; refine (rHas_any _ _ _ _).mono ?_; rintro e w1 ⟨rfl, hb⟩; have hcf := bcell hb; (try simp only [World.size_alloc, World.size_setCell, World.size_drew] at hcf); have hz := hb.size; (try simp only [World.size_alloc, World.size_setCell, World.size_drew] at hz); have hbh := Lib.hid hb; clear hb; obtain ⟨hc, hf⟩ := hcf))
        refine ⟨⟨k + 1, by omega, by go_num, by rw [HD.out]; rfl, ?_⟩, by simp [intOf]; omega⟩
        have HW' := HW.out
        (repeat' (first | exact Below.refl _ _ | refine bl_set (by (first | omega | (simp; done) | (simp; omega))) ?_ _ | refine bl_alloc (by (first | omega | (simp; done) | (simp; omega))) ?_ _ | refine bl_drewN ?_ _ | refine bl_drew ?_ | refine bl_then (by assumption) ?_ (by (first | omega | (simp; done) | (simp; omega))) | refine Step.bl (by assumption) (by assumption) (by (first | omega | (simp; done) | (simp; omega))) (by (first | omega | (simp; done) | (simp; omega))) ?_))
    · have hge : n ≤ k := by omega
      have HE := Lib.hid (show k = n by omega)
      go_wp2_with fail
      go_ret
      exact ⟨by rw [← HE.out]; rfl, hW⟩
set_option maxRecDepth 20000 in
set_option maxHeartbeats 1600000 in
theorem rMap_any (w : World) (A : Option Addr) (n c : Nat) (f : Nat → Nat → Int) (h : Tab w A n 3 f) (hn : n ≤ 1000) (x : Int) :
    Calls Try.prog 69 #[.slice A n c, .int .u32 x] w fun e w' => e = .returned (.tuple #[.int .u32 (Sk.rmv f x n), .bool (Sk.rin f x n)]) ∧ Below w.heap.size w w' := by
  obtain ⟨B, off, hA⟩ := h.at
  have HA := Lib.hid hA
  clear hA h
  go_enter Try.func69, Try.ntmps69
  go_wp2_with fail
  go_loopw [6] (fun i wr => ∃ j : Nat, j ≤ n ∧ i = .int .i64 ((j : Int) - 1) ∧ Sk.rmv f x n = Sk.rmv f x j ∧ Sk.rin f x n = Sk.rin f x j ∧ Below w.heap.size w wr) (fun i _ => (intOf i + 1).toNat)
  case atStart => exact ⟨n, Nat.le_refl _, rfl, rfl, rfl, Below.refl _ _⟩
  case round =>
    obtain ⟨j, hj, rfl, hv, ha, hW⟩ := hrel
    have hWs := hW.size
    have HV := Lib.hid hv
    have HAA := Lib.hid ha
    clear hv ha
    rcases Nat.eq_zero_or_pos j with rfl | hj0
    · have q0 : ((0 : Nat) : Int) - 1 = -1 := rfl
      go_wp2_with fail
      refine ret_tmp2 (x := .int .u32 x) (y := .bool false) rfl rfl rfl rfl ?_
      exact ⟨by rw [HV.out, HAA.out, Sk.rmv_zero, Sk.rin_zero], hW⟩
    · obtain ⟨k, rfl⟩ : ∃ k, j = k + 1 := ⟨j - 1, by omega⟩
      have hkm : k < n := by omega
      have q0 : ((k + 1 : Nat) : Int) - 1 = (k : Int) := by omega
      rw [q0]
      obtain ⟨rfl, hB, hcell⟩ := HA.out (by omega)
      have g0 : wr.cell? ⟨B, off + k * 3, none⟩ = some (.int .u32 (f k 0)) := (hW.cell (p := ⟨B, off + k * 3, none⟩) hB).trans (hcell k 0 hkm (by decide))
      have g1 : wr.cell? ⟨B, off + k * 3 + 1, none⟩ = some (.int .u32 (f k 1)) := (hW.cell (p := ⟨B, off + k * 3 + 1, none⟩) hB).trans (hcell k 1 hkm (by decide))
      have g2 : wr.cell? ⟨B, off + k * 3 + 2, none⟩ = some (.int .u32 (f k 2)) := (hW.cell (p := ⟨B, off + k * 3 + 2, none⟩) hB).trans (hcell k 2 hkm (by decide))
      have hBs : B < wr.heap.size := by omega
      have hd1 := Sk.rmv_succ f x k
      have hd2 := Sk.rin_succ f x k
      have HW := Lib.hid hW
      clear hW hcell
      cases hh : Sk.has (f k 0) (f k 1) x
      · rw [hh] at hd1 hd2
        have HD1 := Lib.hid hd1
        have HD2 := Lib.hid hd2
        clear hd1 hd2
        go_wp2_with (first | (go_at_call 87; refine (rHas_any _ _ _ _).mono ?_; rintro e w1 ⟨rfl, hb⟩; have hcf := bcell hb; (try simp only [World.size_alloc, World.size_setCell, World.size_drew] at hcf); have hz := hb.size; (try simp only [World.size_alloc, World.size_setCell, World.size_drew] at hz); have hbh := Lib.hid hb; clear hb; obtain ⟨hc, hf⟩ := hcf))
        refine ⟨⟨k, by omega, by go_num, (by rw [HV.out, HD1.out]; try rfl), (by rw [HAA.out, HD2.out]; try rfl), ?_⟩, by first | (simp [intOf]; done) | (simp [intOf]; omega)⟩
        have HW' := HW.out
        (repeat' (first | exact Below.refl _ _ | refine bl_set (by (first | omega | (simp; done) | (simp; omega))) ?_ _ | refine bl_alloc (by (first | omega | (simp; done) | (simp; omega))) ?_ _ | refine bl_drewN ?_ _ | refine bl_drew ?_ | refine bl_then (by assumption) ?_ (by (first | omega | (simp; done) | (simp; omega))) | refine Step.bl (by assumption) (by assumption) (by (first | omega | (simp; done) | (simp; omega))) (by (first | omega | (simp; done) | (simp; omega))) ?_))
      · rw [hh, if_pos rfl] at hd1 hd2
        have HD1 := Lib.hid hd1
        have HD2 := Lib.hid hd2
        clear hd1 hd2
        go_wp2_with (first | (go_at_call 87; refine (rHas_any _ _ _ _).mono ?_; rintro e w1 ⟨rfl, hb⟩; have hcf := bcell hb; (try simp only [World.size_alloc, World.size_setCell, World.size_drew] at hcf); have hz := hb.size; (try simp only [World.size_alloc, World.size_setCell, World.size_drew] at hz); have hbh := Lib.hid hb; clear hb; obtain ⟨hc, hf⟩ := hcf))
        have hs0 : ∀ m : Ext (Below w1.heap.size w1), m.w.cell? ⟨B, off + k * 3, none⟩ = some (.int .u32 (f k 0)) := Ext.rd (by simp [go_sem, ↓IntWalk.iteOmega, *])
        have hs2 : ∀ m : Ext (Below w1.heap.size w1), m.w.cell? ⟨B, off + k * 3 + 2, none⟩ = some (.int .u32 (f k 2)) := Ext.rd (by simp [go_sem, ↓IntWalk.iteOmega, *])
        haveI hnon : Nonempty (Ext (Below w1.heap.size w1)) := ⟨⟨w1.drew, below_start _⟩⟩
        refine wp_region_calm (S := Below w1.heap.size w1) (by kernel_rfl) (by kernel_rfl) (below_start _) ?_
        repeat (go_big_quiet_step (fail))
        refine wpQuiet_nil ?_
        rintro _ ⟨m1, rfl⟩
        have hb1n := Lib.hid m1.h
        go_wp2_with fail
        refine ret_tmp2 (x := .int .u32 ((f k 2 + (x - f k 0)) % 4294967296)) (y := .bool true) rfl rfl rfl rfl ?_
        refine ⟨by rw [HV.out, HAA.out, HD1.out, HD2.out, show (f k 2 + (x - f k 0) % 4294967296) % 4294967296 = (f k 2 + (x - f k 0)) % 4294967296 by omega], ?_⟩
        have HW' := HW.out
        refine bl_then hb1n ?_ (by omega)
        (repeat' (first | exact Below.refl _ _ | refine bl_set (by (first | omega | (simp; done) | (simp; omega))) ?_ _ | refine bl_alloc (by (first | omega | (simp; done) | (simp; omega))) ?_ _ | refine bl_drewN ?_ _ | refine bl_drew ?_ | refine bl_then (by assumption) ?_ (by (first | omega | (simp; done) | (simp; omega))) | refine Step.bl (by assumption) (by assumption) (by (first | omega | (simp; done) | (simp; omega))) (by (first | omega | (simp; done) | (simp; omega))) ?_))
end Go.Proofs.Ytcaaapfminenoaa
