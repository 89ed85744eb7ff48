/- script.Fits. No condition. -/
import Derived.Test.YtflapbnbeipddaaScF
namespace Go.Proofs.Ytflapbnbeipddaa
open Go.RowKit
set_option linter.unusedSimpArgs false
set_option linter.unusedVariables false
attribute [local go_sem] IntKind.wrap_u32' signed_u32 max_u32
attribute [local go_sem ↓] Go.wp_at_zero Go.wp_at_succ
attribute [local go_sem] Calm.C
attribute [local go_sem low] Calm.al_cell Calm.al_frozen
attribute [local go_sem] Sc.S_size
namespace Sc
def fo : Nat → Nat
  | 0 => 0
  | 1 => 1
  | 2 => 2
  | 3 => 5
  | 4 => 3
  | 5 => 7
  | _ => 10
def to : Nat → Nat
  | 0 => 4
  | 1 => 6
  | 2 => 8
  | _ => 9
theorem seven {p : Nat → Prop} (h0 : p 0) (h1 : p 1) (h2 : p 2) (h3 : p 3) (h4 : p 4) (h5 : p 5) (h6 : p 6) : ∀ j, j < 7 → p j := fun j hj => by
  match j with
  | 0 => exact h0
  | 1 => exact h1
  | 2 => exact h2
  | 3 => exact h3
  | 4 => exact h4
  | 5 => exact h5
  | 6 => exact h6
  | j + 7 => omega
theorem four {p : Nat → Prop} (h0 : p 0) (h1 : p 1) (h2 : p 2) (h3 : p 3) : ∀ j, j < 4 → p j := fun j hj => by
  match j with
  | 0 => exact h0
  | 1 => exact h1
  | 2 => exact h2
  | 3 => exact h3
  | j + 4 => omega
theorem fcs_at (g : Nat) : ∀ j, j < 7 → (fcs g)[j * 2]? = some (.pointer (some ⟨g, fo j, none⟩)) ∧ (fcs g)[j * 2 + 1]? = some (.int .i64 (siz j : Nat)) := seven ⟨rfl, rfl⟩ ⟨rfl, rfl⟩ ⟨rfl, rfl⟩ ⟨rfl, rfl⟩ ⟨rfl, rfl⟩ ⟨rfl, rfl⟩ ⟨rfl, rfl⟩
theorem tcs_at (g : Nat) : ∀ j, j < 4 → (tcs g)[j]? = some (.pointer (some ⟨g, to j, none⟩)) := four rfl rfl rfl rfl
theorem ops_num (o : Op) : ∀ j, j < 7 → (ops o)[fo j]? = some (.int .i64 (num o j)) := seven rfl rfl rfl rfl rfl rfl rfl
theorem ops_txt (o : Op) : ∀ j, j < 4 → (ops o)[to j]? = some (.string (S (txt o j))) := four rfl rfl rfl rfl
theorem siz_le : ∀ j, j < 7 → siz j ≤ 4 := seven (by decide) (by decide) (by decide) (by decide) (by decide) (by decide) (by decide)
theorem fo_le : ∀ j, j < 7 → fo j ≤ 10 := seven (by decide) (by decide) (by decide) (by decide) (by decide) (by decide) (by decide)
theorem to_le : ∀ j, j < 4 → to j ≤ 10 := four (by decide) (by decide) (by decide) (by decide)
def nok (o : Op) (j : Nat) : Prop := 0 ≤ num o j ∧ num o j < ((256 ^ siz j : Nat) : Int)
noncomputable instance (o : Op) : Decidable (fit o) := Classical.propDecidable _
end Sc
theorem wp_gen {P : Program} {c : Code} {Q : Exit → Act → World → Prop} {a : Act} (w : World) (h : ∀ W, W = w → Code.wp P c Q a W) : Code.wp P c Q a w := h w rfl
namespace Sc
theorem pw_z (z : Nat) : (2 : Int) ^ (8 * z) = ((256 ^ z : Nat) : Int) := by rw [show (2 : Int) ^ (8 * z) = ((2 : Int) ^ 8) ^ z from by rw [Int.pow_mul]]; simp
theorem pw_le (z : Nat) (h : z ≤ 4) : 256 ^ z ≤ 4294967296 := Nat.le_trans (Nat.pow_le_pow_right (by decide) h) (by decide)
end Sc
set_option maxRecDepth 20000 in
set_option maxHeartbeats 4000000 in
theorem scFits_any (o : Sc.Op) (w : World) :
    Calls Try.prog 20 #[.agg (Sc.ops o)] w fun e w' => e = .returned (.bool (decide (Sc.fit o))) ∧ Below w.heap.size w w' := by
  go_enter Try.func20, Try.ntmps20
  go_wp2_with (go_at_call 55; refine (scFields_any w.heap.size _).mono ?_; rintro e wf ⟨rfl, hfb, hbf⟩; have HFB := Lib.hid hfb; have HBF := Lib.hid hbf; clear hfb hbf)
  have hG := Lib.hid ((Blk.new w 34 (Sc.ops o)).below HBF.out (by simp))
  have hB := HFB.out
  rw [World.size_alloc] at hB
  have hW : Below w.heap.size w wf := bl_then HBF (bl_alloc (Nat.le_refl _) (Below.refl _ _) _) (by simp)
  have hWs : w.heap.size + 1 < wf.heap.size := hB.lt
  have HB := Lib.hid hB
  have HW := Lib.hid hW
  clear hB hW HFB HBF
  obtain ⟨G, hGs⟩ : ∃ G, w.heap.size = G := ⟨_, rfl⟩
  rw [hGs] at HB hG hWs HW
  simp only [World.size_alloc, hGs]
  go_loopw [9] (fun i wr => ∃ (j : Nat), j ≤ 7 ∧ i = .int .i64 (j : Int) ∧ (∀ i, i < j → Sc.nok o i) ∧ Blk wr G 34 (Sc.ops o) ∧ Blk wr (G + 1) 95 (Sc.fcs G) ∧ Below G w wr) (fun i _ => 7 - (intOf i).toNat)
  case atStart => exact ⟨0, Nat.zero_le _, rfl, fun i h => absurd h (Nat.not_lt_zero i), hG.out, HB.out, HW.out⟩
  case round =>
    obtain ⟨j, hk, rfl, hok, hb1, hb2, hb3⟩ := hrel
    have HOK := Lib.hid hok
    have H1 := Lib.hid hb1
    have H2 := Lib.hid hb2
    have H3 := Lib.hid hb3
    have hsz := hb2.lt
    clear hok hG HB HW hWs
    by_cases hlt : j < 7
    · have c0 := (hb2.cell (j * 2)).trans (Sc.fcs_at G j hlt).1
      have c1 := (hb2.cell (j * 2 + 1)).trans (Sc.fcs_at G j hlt).2
      have c2 := (hb1.cell (Sc.fo j)).trans (Sc.ops_num o j hlt)
      have hz4 := Sc.siz_le j hlt
      have hnk : Hid (Sc.nok o j ↔ (0 ≤ Sc.num o j ∧ Sc.num o j < ((256 ^ Sc.siz j : Nat) : Int))) := Lib.hid Iff.rfl
      clear hb1 hb2 hb3
      have hpw := Sc.pw_z (Sc.siz j)
      have hpl := Sc.pw_le (Sc.siz j) hz4
      generalize Sc.num o j = x at *
      generalize Sc.siz j = z at *
      generalize Sc.fo j = f at *
      obtain ⟨D, hD⟩ : ∃ D : Nat, 256 ^ z = D := ⟨_, rfl⟩
      rw [hD] at hpw hpl hnk
      clear hD
      rcases (by omega : x < 0 ∨ (0 ≤ x ∧ x < D) ∨ (0 ≤ x ∧ (D : Int) ≤ x)) with hx | ⟨hx, hx2⟩ | ⟨hx, hx2⟩
      all_goals
        first
          | have hd : decide (x < 0) = true := decide_eq_true hx
          | have hd : decide (x < 0) = false := decide_eq_false (by omega)
        go_wp2_with fail
        refine wp_gen _ (fun W hW => ?_)
        have d0 : W.cell? ⟨wr.heap.size, 0, none⟩ = some (.pointer (some ⟨G, f, none⟩)) := by rw [hW]; simp [go_sem, ↓IntWalk.iteOmega, *]
        have d1 : W.cell? ⟨wr.heap.size, 1, none⟩ = some (.int .i64 z) := by rw [hW]; simp [go_sem, ↓IntWalk.iteOmega, *]
        have d2 : W.cell? ⟨G, f, none⟩ = some (.int .i64 x) := by rw [hW]; simp [go_sem, ↓IntWalk.iteOmega, *]
        have hWb : Hid (Below wr.heap.size wr W) := by refine Lib.hid ?_; rw [hW]; (repeat' (first | with_reducible exact Below.refl _ _ | with_reducible refine bl_drewN ?_ _ | with_reducible refine bl_drew ?_ | refine bl_set (by (first | omega | (simp; done) | (simp; omega))) ?_ _ | refine bl_alloc (by (first | omega | (simp; done) | (simp; omega))) ?_ _ | refine bl_then (by assumption) ?_ (by (first | omega | (simp; done) | (simp; omega))) | refine Step.bl (by assumption) (by assumption) (by (first | omega | (simp; done) | (simp; omega))) (by (first | omega | (simp; done) | (simp; omega))) ?_))
        clear hW c0 c1 c2
        have s0 : ∀ m : Ext (Below W.heap.size W), m.w.cell? ⟨wr.heap.size, 0, none⟩ = some (.pointer (some ⟨G, f, none⟩)) := Ext.rd d0
        have s1 : ∀ m : Ext (Below W.heap.size W), m.w.cell? ⟨wr.heap.size, 1, none⟩ = some (.int .i64 z) := Ext.rd d1
        have s2 : ∀ m : Ext (Below W.heap.size W), m.w.cell? ⟨G, f, none⟩ = some (.int .i64 x) := Ext.rd d2
        clear d0 d1 d2
        haveI hne : Nonempty (Ext (Below W.heap.size W)) := ⟨⟨W.drew, below_start _⟩⟩
        refine wp_region_calm (S := Below W.heap.size W) (by kernel_rfl) (by kernel_rfl) (below_start _) ?_
        repeat (go_big_quiet_step (fail))
        refine wpQuiet_nil ?_
        rintro _ ⟨m1, rfl⟩
        have hb1 := Lib.hid m1.h
        generalize m1.w = W2 at *
        clear s0 s1 s2 hne
        have hzb := hWb.out.size
        have hzW := hb1.out.size
        go_wp2
      · go_ret
        refine ⟨?_, hGs ▸ bl_then hb1 (bl_then hWb H3.out (by omega)) (by omega)⟩
        rw [decide_eq_false (show ¬ Sc.fit o from fun h => by have := hnk.out.1 (h.1 j hlt); omega)]
        rfl
      · refine ⟨⟨j + 1, by omega, by go_num, fun i hi => ?_, ?_, ?_, bl_then hb1 (bl_then hWb H3.out (by omega)) (by omega)⟩, by simp [intOf]; omega⟩
        · by_cases e : i = j
          · subst e
            exact hnk.out.2 ⟨by omega, by omega⟩
          · exact HOK.out i (by omega)
        · exact (H1.out.belowH hWb (by omega)).belowH hb1 (by omega)
        · exact (H2.out.belowH hWb (by omega)).belowH hb1 (by omega)
      · go_ret
        refine ⟨?_, hGs ▸ bl_then hb1 (bl_then hWb H3.out (by omega)) (by omega)⟩
        rw [decide_eq_false (show ¬ Sc.fit o from fun h => by have := hnk.out.1 (h.1 j hlt); omega)]
        rfl
    · have hge : (7 : Int) ≤ j := by omega
      have HOK7 : Hid (∀ i, i < 7 → Sc.nok o i) := Lib.hid fun i hi => HOK.out i (by omega)
      clear hb1 hb2 hb3 HOK
      go_wp2_with (go_at_call 56; refine (scTexts_any G _).mono ?_; rintro e wt ⟨rfl, htb, hbt⟩; have HTB := Lib.hid htb; have HBT := Lib.hid hbt; clear htb hbt)
      have I1 := Lib.hid (H1.out.belowH HBT (by omega))
      have I3 := Lib.hid (bl_then HBT H3.out (by omega))
      have hts := HTB.out.lt
      obtain ⟨T, hT⟩ : ∃ T, wr.heap.size = T := ⟨_, rfl⟩
      rw [hT] at HTB hsz hts ⊢
      clear H1 H2 H3 HBT
      go_loopw [32] (fun i wr => ∃ (j : Nat), j ≤ 4 ∧ i = .int .i64 (j : Int) ∧ (∀ i, i < j → (Sc.txt o i).length < 65536) ∧ Blk wr G 34 (Sc.ops o) ∧ Blk wr T 98 (Sc.tcs G) ∧ Below G w wr) (fun i _ => 4 - (intOf i).toNat)
      case atStart => exact ⟨0, Nat.zero_le _, rfl, fun i h => absurd h (Nat.not_lt_zero i), I1.out, HTB.out, I3.out⟩
      case round =>
        obtain ⟨q, hq, rfl, hok, hb1, hb2, hb3⟩ := hrel
        have HOK := Lib.hid hok
        have H1 := Lib.hid hb1
        have H2 := Lib.hid hb2
        have H3 := Lib.hid hb3
        have hsz4 := hb2.lt
        clear hok HTB I1 I3 hts
        by_cases hlt4 : q < 4
        · have c0 := (hb2.cell q).trans (Sc.tcs_at G q hlt4)
          have c2 := (hb1.cell (Sc.to q)).trans (Sc.ops_txt o q hlt4)
          clear hb1 hb2 hb3
          have hnk := Lib.hid (fun h : Sc.fit o => h.2 q hlt4)
          obtain ⟨x, hx⟩ : ∃ x, Sc.txt o q = x := ⟨_, rfl⟩
          rw [hx] at c2 hnk
          generalize Sc.to q = f at *
          by_cases hl : x.length < 65536
          · go_wp2_with fail
            go_roundw
            case rel =>
              refine ⟨q + 1, by omega, by go_num, fun i hi => ?_, H1.out, H2.out, H3.out⟩
              by_cases e : i = q
              · subst e
                rw [hx]
                exact hl
              · exact HOK.out i (by omega)
            case measure => simp [intOf]; omega
          · go_wp2_with fail
            go_ret
            refine ⟨?_, hGs ▸ H3.out⟩
            rw [decide_eq_false (show ¬ Sc.fit o from fun h => by have := hnk.out h; omega)]
            rfl
        · have hge4 : (4 : Int) ≤ q := by omega
          clear hb1 hb2 hb3
          go_wp2_with fail
          go_ret
          have hf : Sc.fit o := ⟨fun i hi => HOK7.out i hi, fun i hi => HOK.out i (by omega)⟩
          refine ⟨?_, hGs ▸ H3.out⟩
          rw [decide_eq_true hf]
          rfl
end Go.Proofs.Ytflapbnbeipddaa
