/- An arena: a new one. No condition. -/
import Derived.Test.YtdakbejppnijdaaArL
namespace Go.Proofs.Ytdakbejppnijdaa
open Go.RowKit
set_option linter.unusedSimpArgs false
set_option linter.unusedVariables false
attribute [local go_sem] IntKind.wrap_u32' signed_u32 max_u32
attribute [local go_sem ↓] Go.wp_at_zero Go.wp_at_succ
attribute [local go_sem] Calm.C
attribute [local go_sem low] Calm.al_cell Calm.al_frozen
theorem Try.infoSecA : (Try.prog.info? 32).map (fun i => (i.zero, i.size, i.bytes)) = some (some (.agg #[.int .u32 0]), 1, 8) := by kernel_rfl
theorem run_make_sec (n : Nat) (hn : n ≤ 4194304) (w : World) : (Instr.makeSlice 98 (.int .i64 n) (.int .i64 n)).run Try.prog w = .ok (.slice (some ⟨w.heap.size, 0, none⟩) n n) (w.alloc (.cells (wcells (List.replicate n 0)) 32)) := by
  obtain ⟨i0, hi, hz0, hz1, hz2⟩ := info_parts Try.infoSecA
  have hr := run_make (P := Try.prog) w 98 32 i0 (.agg #[.int .u32 0]) Try.underlying98 hi hz0 .i64 .i64 n n (by omega) (Int.le_refl _) (by rw [hz2]; omega) (by omega)
  simp only [Int.toNat_natCast, hz1, Nat.mul_one] at hr
  rw [hr]
  have e : madeCells (Value.agg #[.int .u32 0]).cells n = wcells (List.replicate n 0) := by
    apply Array.toList_inj.1
    rw [show (Value.agg #[.int .u32 0]).cells = #[.int .u32 0] from rfl, toList_madeCells_one]
    unfold wcells
    simp
  rw [e]
def arCells (g lp N : Nat) : Array Value := #[.slice (some ⟨g, 0, none⟩) N N, .int .i64 0, .pointer (some ⟨lp, 0, none⟩)]
theorem ar_newA {w w1 : World} {FL : Nat → Prop} {lp N : Nat} (hN : N ≤ 4194304) (HL : Lg w1 FL lp []) (hlow : ∀ i, FL i → w.heap.size ≤ i) (hb : Below w.heap.size w w1) :
    Ar ((w1.alloc (.cells (wcells (List.replicate N 0)) 32)).alloc (.cells (arCells w1.heap.size lp N) 100)) (w1.heap.size + 1) w1.heap.size lp FL (List.replicate N 0) 0 [] ∧
      (∀ i, AF (w1.heap.size + 1) w1.heap.size FL i → w.heap.size ≤ i) ∧ Below w.heap.size w ((w1.alloc (.cells (wcells (List.replicate N 0)) 32)).alloc (.cells (arCells w1.heap.size lp N) 100)) := by
  have hz := hb.size
  have hp := Blk.new (w1.alloc (.cells (wcells (List.replicate N 0)) 32)) 100 (arCells w1.heap.size lp N)
  rw [World.size_alloc] at hp
  refine ⟨⟨?_, (Blk.new w1 _ _).alloc _, (HL.alloc _).alloc _, fun hf => ?_, fun hf => ?_, by simp, by simp; omega⟩, ?_, ?_⟩
  · rw [List.length_replicate]; exact hp
  · have := HL.most _ hf; omega
  · have := HL.most _ hf; omega
  · rintro i (rfl | rfl | hf)
    · omega
    · omega
    · exact hlow i hf
  · exact (hb.alloc hz _).alloc (by simp; omega) _
theorem ar_newB {w X w1 : World} {FL : Nat → Prop} {lp N : Nat} (hN : N ≤ 4194304) (HL : Lg w1 FL lp []) (hlow : ∀ i, FL i → (X.alloc (.cells (wcells (List.replicate N 0)) 32)).heap.size ≤ i) (hb0 : Below w.heap.size w X) (hb : Below (X.alloc (.cells (wcells (List.replicate N 0)) 32)).heap.size (X.alloc (.cells (wcells (List.replicate N 0)) 32)) w1) :
    Ar (w1.alloc (.cells (arCells X.heap.size lp N) 100)) w1.heap.size X.heap.size lp FL (List.replicate N 0) 0 [] ∧
      (∀ i, AF w1.heap.size X.heap.size FL i → w.heap.size ≤ i) ∧ Below w.heap.size w (w1.alloc (.cells (arCells X.heap.size lp N) 100)) := by
  have hz := hb.size
  have hz0 := hb0.size
  simp only [World.size_alloc] at hz hlow
  have hp := Blk.new w1 100 (arCells X.heap.size lp N)
  refine ⟨⟨?_, ((Blk.new X _ _).below hb (by simp)).alloc _, HL.alloc _, fun hf => ?_, fun hf => ?_, by simp, by simp; omega⟩, ?_, ?_⟩
  · rw [List.length_replicate]; exact hp
  · have := HL.most _ hf; omega
  · have := hlow _ hf; omega
  · rintro i (rfl | rfl | hf)
    · omega
    · omega
    · have := hlow i hf; omega
  · exact (bl_then (Lib.hid hb) (hb0.alloc hz0 _) (by simp; omega)).alloc (by omega) _
set_option maxRecDepth 10000 in
set_option maxHeartbeats 1600000 in
theorem ANew_any (words : Int) (N : Nat) (hN : (if 4194304 < (if words < 0 then 0 else words) then 4194304 else (if words < 0 then 0 else words)) = (N : Int)) (w : World) :
    Calls Try.prog 27 #[.int .i64 words] w fun e w' => ∃ p g lp FL, e = .returned (.pointer (some ⟨p, 0, none⟩)) ∧ Ar w' p g lp FL (List.replicate N 0) 0 [] ∧ (∀ i, AF p g FL i → w.heap.size ≤ i) ∧ Below w.heap.size w w' := by
  have hN4 : N ≤ 4194304 := by
    have : (N : Int) ≤ 4194304 := by rw [← hN]; split <;> omega
    omega
  have hmk := run_make_sec N hN4
  obtain ⟨M, hM⟩ : ∃ M, (if words < 0 then (0 : Int) else words) = M := ⟨_, rfl⟩
  rw [hM] at hN
  go_enter Try.func27, Try.ntmps27
  go_wp2_with fail
  go_region_held3 (fun w' => w.heap.size ≤ w'.heap.size) ((first | assumption | omega | (simp; done) | (simp; omega))) ((go_at_call 68; refine (NewLog_any _).mono ?_; rintro e w1 ⟨lp, FL, rfl, hL1, hlow1, hb⟩; have hz := hb.size; (try simp only [World.size_alloc, World.size_setCell, World.size_drew] at hz hlow1); have HL := Lib.hid hL1; have HLow := Lib.hid hlow1; have HB := Lib.hid hb; clear hL1 hlow1 hb))
  all_goals (go_wp2_with fail)
  all_goals
    go_ret
    first
    | (obtain ⟨h1, h2, h3⟩ := ar_newA (w := w) hN4 HL.out (fun i hi => Nat.le_trans (by first | assumption | omega) (HLow.out i hi)) (by (repeat' (first | with_reducible exact Below.refl _ _ | with_reducible refine bl_drewN ?_ _ | with_reducible refine bl_drew ?_ | refine bl_set (by (first | omega | (simp; done) | (simp; omega))) ?_ _ | refine bl_alloc (by (first | omega | (simp; done) | (simp; omega))) ?_ _ | refine bl_then (by assumption) ?_ (by (first | omega | (simp; done) | (simp; omega))) | refine Step.bl (by assumption) (by assumption) (by (first | omega | (simp; done) | (simp; omega))) (by (first | omega | (simp; done) | (simp; omega))) ?_)))
       exact ⟨_, _, _, _, rfl, h1, h2, h3⟩)
    | (obtain ⟨h1, h2, h3⟩ := ar_newB (w := w) (X := w) hN4 HL.out (fun i hi => Nat.le_trans (by simp) (HLow.out i hi)) (Below.refl _ _) (by (repeat' (first | with_reducible exact Below.refl _ _ | with_reducible refine bl_drewN ?_ _ | with_reducible refine bl_drew ?_ | refine bl_set (by (first | omega | (simp; done) | (simp; omega))) ?_ _ | refine bl_alloc (by (first | omega | (simp; done) | (simp; omega))) ?_ _ | refine bl_then (by assumption) ?_ (by (first | omega | (simp; done) | (simp; omega))) | refine Step.bl (by assumption) (by assumption) (by (first | omega | (simp; done) | (simp; omega))) (by (first | omega | (simp; done) | (simp; omega))) ?_)))
       exact ⟨_, _, _, _, rfl, h1, h2, h3⟩)
end Go.Proofs.Ytdakbejppnijdaa
