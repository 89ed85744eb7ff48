/- The document's Fits; the law's short. No condition. -/
import Derived.Test.YtflapbnbeipddaaScG
namespace Go.Proofs.Ytflapbnbeipddaa
open Go.RowKit
set_option linter.unusedSimpArgs false
set_option linter.unusedVariables false
attribute [local go_sem] IntKind.wrap_u32' signed_u32 max_u32
attribute [local go_sem ↓] Go.wp_at_zero Go.wp_at_succ
attribute [local go_sem] Calm.C
attribute [local go_sem low] Calm.al_cell Calm.al_frozen
attribute [local go_sem] Sc.S_size Sc.ops
namespace Sc
def wd (o : Op) : Prop := ∀ j, j < 7 → -9223372036854775808 ≤ num o j ∧ num o j ≤ 9223372036854775807
def sh (o : Op) : Prop := ∀ j, j < 4 → (txt o j).length ≤ 2000
noncomputable instance (o : Op) : Decidable (sh o) := Classical.propDecidable _
theorem fit_all (o : Op) : fit o ↔ (nok o 0 ∧ nok o 1 ∧ nok o 2 ∧ nok o 3 ∧ nok o 4 ∧ nok o 5 ∧ nok o 6) ∧ (txt o 0).length < 65536 ∧ (txt o 1).length < 65536 ∧ (txt o 2).length < 65536 ∧ (txt o 3).length < 65536 :=
  ⟨fun h => ⟨⟨h.1 0 (by decide), h.1 1 (by decide), h.1 2 (by decide), h.1 3 (by decide), h.1 4 (by decide), h.1 5 (by decide), h.1 6 (by decide)⟩, h.2 0 (by decide), h.2 1 (by decide), h.2 2 (by decide), h.2 3 (by decide)⟩,
   fun ⟨⟨a, b, c, d, e, f, g⟩, h, i, j, k⟩ => ⟨seven a b c d e f g, four h i j k⟩⟩
end Sc
theorem scSize_q (n : Int) (hn : n ≤ 9223372036854775807) (w : World) (q : Bool) (c : Nat) (hc : c ≤ 4) (hq : decide (0 ≤ n ∧ n < ((256 ^ c : Nat) : Int)) = q) :
    Calls Try.prog 57 #[.int .i64 n, .int .i64 (c : Int)] w fun e w' => e = .returned (.bool q) ∧ Below w.heap.size w w' := hq ▸ scSize_c n hn c (by omega) w
set_option maxRecDepth 20000 in
set_option maxHeartbeats 4000000 in
theorem rScFits_any (o : Sc.Op) (hw : Sc.wd o) (hs : Sc.sh o) (w : World) :
    Calls Try.prog 21 #[.agg (Sc.ops o)] w fun e w' => e = .returned (.bool (decide (Sc.fit o))) ∧ Below w.heap.size w w' := by
  obtain ⟨b0, h0⟩ : ∃ b, decide (0 ≤ o.k ∧ o.k < ((256 ^ 1 : Nat) : Int)) = b := ⟨_, rfl⟩
  obtain ⟨b1, h1⟩ : ∃ b, decide (0 ≤ o.p ∧ o.p < ((256 ^ 1 : Nat) : Int)) = b := ⟨_, rfl⟩
  obtain ⟨b2, h2⟩ : ∃ b, decide (0 ≤ o.c ∧ o.c < ((256 ^ 2 : Nat) : Int)) = b := ⟨_, rfl⟩
  obtain ⟨b3, h3⟩ : ∃ b, decide (0 ≤ o.o ∧ o.o < ((256 ^ 2 : Nat) : Int)) = b := ⟨_, rfl⟩
  obtain ⟨b4, h4⟩ : ∃ b, decide (0 ≤ o.l ∧ o.l < ((256 ^ 4 : Nat) : Int)) = b := ⟨_, rfl⟩
  obtain ⟨b5, h5⟩ : ∃ b, decide (0 ≤ o.it ∧ o.it < ((256 ^ 4 : Nat) : Int)) = b := ⟨_, rfl⟩
  obtain ⟨b6, h6⟩ : ∃ b, decide (0 ≤ o.on ∧ o.on < ((256 ^ 4 : Nat) : Int)) = b := ⟨_, rfl⟩
  have u0 := (hw 0 (by decide)).2
  have u1 := (hw 1 (by decide)).2
  have u2 := (hw 2 (by decide)).2
  have u3 := (hw 3 (by decide)).2
  have u4 := (hw 4 (by decide)).2
  have u5 := (hw 5 (by decide)).2
  have u6 := (hw 6 (by decide)).2
  have t0 := hs 0 (by decide)
  have t1 := hs 1 (by decide)
  have t2 := hs 2 (by decide)
  have t3 := hs 3 (by decide)
  have c0 : ∀ w, Calls Try.prog 57 #[.int .i64 o.k, .int .i64 1] w fun e w' => e = .returned (.bool b0) ∧ Below w.heap.size w w' := fun w => scSize_q o.k u0 w b0 1 (by decide) h0
  have c1 : ∀ w, Calls Try.prog 57 #[.int .i64 o.p, .int .i64 1] w fun e w' => e = .returned (.bool b1) ∧ Below w.heap.size w w' := fun w => scSize_q o.p u1 w b1 1 (by decide) h1
  have c2 : ∀ w, Calls Try.prog 57 #[.int .i64 o.c, .int .i64 2] w fun e w' => e = .returned (.bool b2) ∧ Below w.heap.size w w' := fun w => scSize_q o.c u2 w b2 2 (by decide) h2
  have c3 : ∀ w, Calls Try.prog 57 #[.int .i64 o.o, .int .i64 2] w fun e w' => e = .returned (.bool b3) ∧ Below w.heap.size w w' := fun w => scSize_q o.o u3 w b3 2 (by decide) h3
  have c4 : ∀ w, Calls Try.prog 57 #[.int .i64 o.l, .int .i64 4] w fun e w' => e = .returned (.bool b4) ∧ Below w.heap.size w w' := fun w => scSize_q o.l u4 w b4 4 (by decide) h4
  have c5 : ∀ w, Calls Try.prog 57 #[.int .i64 o.it, .int .i64 4] w fun e w' => e = .returned (.bool b5) ∧ Below w.heap.size w w' := fun w => scSize_q o.it u5 w b5 4 (by decide) h5
  have c6 : ∀ w, Calls Try.prog 57 #[.int .i64 o.on, .int .i64 4] w fun e w' => e = .returned (.bool b6) ∧ Below w.heap.size w w' := fun w => scSize_q o.on u6 w b6 4 (by decide) h6
  have d0 : ∀ w, Calls Try.prog 57 #[.int .i64 (o.s.length : Int), .int .i64 2] w fun e w' => e = .returned (.bool true) ∧ Below w.heap.size w w' := fun w => scSize_q _ (by simp only [Sc.txt] at t0; omega) w true 2 (by decide) (by simp only [Sc.txt] at t0; exact decide_eq_true (by omega))
  have d1 : ∀ w, Calls Try.prog 57 #[.int .i64 (o.sa.length : Int), .int .i64 2] w fun e w' => e = .returned (.bool true) ∧ Below w.heap.size w w' := fun w => scSize_q _ (by simp only [Sc.txt] at t1; omega) w true 2 (by decide) (by simp only [Sc.txt] at t1; exact decide_eq_true (by omega))
  have d2 : ∀ w, Calls Try.prog 57 #[.int .i64 (o.r.length : Int), .int .i64 2] w fun e w' => e = .returned (.bool true) ∧ Below w.heap.size w w' := fun w => scSize_q _ (by simp only [Sc.txt] at t2; omega) w true 2 (by decide) (by simp only [Sc.txt] at t2; exact decide_eq_true (by omega))
  have d3 : ∀ w, Calls Try.prog 57 #[.int .i64 (o.ot.length : Int), .int .i64 2] w fun e w' => e = .returned (.bool true) ∧ Below w.heap.size w w' := fun w => scSize_q _ (by simp only [Sc.txt] at t3; omega) w true 2 (by decide) (by simp only [Sc.txt] at t3; exact decide_eq_true (by omega))
  have HF : Hid (decide (Sc.fit o) = (b0 && b1 && b2 && b3 && b4 && b5 && b6)) := by
    refine Lib.hid ?_
    rw [← h0, ← h1, ← h2, ← h3, ← h4, ← h5, ← h6]
    simp only [← Bool.decide_and]
    refine decide_eq_decide.2 ⟨fun h => ?_, fun h => ?_⟩
    · obtain ⟨⟨a, b, c, d, e, f, g⟩, _⟩ := (Sc.fit_all o).1 h
      exact ⟨⟨⟨⟨⟨⟨a, b⟩, c⟩, d⟩, e⟩, f⟩, g⟩
    · obtain ⟨⟨⟨⟨⟨⟨a, b⟩, c⟩, d⟩, e⟩, f⟩, g⟩ := h
      simp only [Sc.txt] at t0 t1 t2 t3
      exact (Sc.fit_all o).2 ⟨⟨a, b, c, d, e, f, g⟩, by show o.s.length < _; omega, by show o.sa.length < _; omega, by show o.r.length < _; omega, by show o.ot.length < _; omega⟩
  have C0 := Lib.hid c0
  have C1 := Lib.hid c1
  have C2 := Lib.hid c2
  have C3 := Lib.hid c3
  have C4 := Lib.hid c4
  have C5 := Lib.hid c5
  have C6 := Lib.hid c6
  have D0 := Lib.hid d0
  have D1 := Lib.hid d1
  have D2 := Lib.hid d2
  have D3 := Lib.hid d3
  clear c0 c1 c2 c3 c4 c5 c6 d0 d1 d2 d3 h0 h1 h2 h3 h4 h5 h6 u0 u1 u2 u3 u4 u5 u6 t0 t1 t2 t3 hw hs
  go_enter Try.func21, Try.ntmps21
  go_wp2_with (first
    | (go_at_call 57; (with_reducible refine (C0.out _).mono ?_); rintro e w1 ⟨rfl, hb⟩; have hcf := bcell hb; have hz := hb.size; (try simp only [World.size_alloc, World.size_setCell, World.size_drew] at hz); have hbh := Lib.hid hb; clear hb; obtain ⟨hc, hf⟩ := hcf)
    | (go_at_call 57; (with_reducible refine (C1.out _).mono ?_); rintro e w1 ⟨rfl, hb⟩; have hcf := bcell hb; have hz := hb.size; (try simp only [World.size_alloc, World.size_setCell, World.size_drew] at hz); have hbh := Lib.hid hb; clear hb; obtain ⟨hc, hf⟩ := hcf)
    | (go_at_call 57; (with_reducible refine (C2.out _).mono ?_); rintro e w1 ⟨rfl, hb⟩; have hcf := bcell hb; have hz := hb.size; (try simp only [World.size_alloc, World.size_setCell, World.size_drew] at hz); have hbh := Lib.hid hb; clear hb; obtain ⟨hc, hf⟩ := hcf)
    | (go_at_call 57; (with_reducible refine (C3.out _).mono ?_); rintro e w1 ⟨rfl, hb⟩; have hcf := bcell hb; have hz := hb.size; (try simp only [World.size_alloc, World.size_setCell, World.size_drew] at hz); have hbh := Lib.hid hb; clear hb; obtain ⟨hc, hf⟩ := hcf)
    | (go_at_call 57; (with_reducible refine (C4.out _).mono ?_); rintro e w1 ⟨rfl, hb⟩; have hcf := bcell hb; have hz := hb.size; (try simp only [World.size_alloc, World.size_setCell, World.size_drew] at hz); have hbh := Lib.hid hb; clear hb; obtain ⟨hc, hf⟩ := hcf)
    | (go_at_call 57; (with_reducible refine (C5.out _).mono ?_); rintro e w1 ⟨rfl, hb⟩; have hcf := bcell hb; have hz := hb.size; (try simp only [World.size_alloc, World.size_setCell, World.size_drew] at hz); have hbh := Lib.hid hb; clear hb; obtain ⟨hc, hf⟩ := hcf)
    | (go_at_call 57; (with_reducible refine (C6.out _).mono ?_); rintro e w1 ⟨rfl, hb⟩; have hcf := bcell hb; have hz := hb.size; (try simp only [World.size_alloc, World.size_setCell, World.size_drew] at hz); have hbh := Lib.hid hb; clear hb; obtain ⟨hc, hf⟩ := hcf)
    | (go_at_call 57; (with_reducible refine (D0.out _).mono ?_); rintro e w1 ⟨rfl, hb⟩; have hcf := bcell hb; have hz := hb.size; (try simp only [World.size_alloc, World.size_setCell, World.size_drew] at hz); have hbh := Lib.hid hb; clear hb; obtain ⟨hc, hf⟩ := hcf)
    | (go_at_call 57; (with_reducible refine (D1.out _).mono ?_); rintro e w1 ⟨rfl, hb⟩; have hcf := bcell hb; have hz := hb.size; (try simp only [World.size_alloc, World.size_setCell, World.size_drew] at hz); have hbh := Lib.hid hb; clear hb; obtain ⟨hc, hf⟩ := hcf)
    | (go_at_call 57; (with_reducible refine (D2.out _).mono ?_); rintro e w1 ⟨rfl, hb⟩; have hcf := bcell hb; have hz := hb.size; (try simp only [World.size_alloc, World.size_setCell, World.size_drew] at hz); have hbh := Lib.hid hb; clear hb; obtain ⟨hc, hf⟩ := hcf)
    | (go_at_call 57; (with_reducible refine (D3.out _).mono ?_); rintro e w1 ⟨rfl, hb⟩; have hcf := bcell hb; have hz := hb.size; (try simp only [World.size_alloc, World.size_setCell, World.size_drew] at hz); have hbh := Lib.hid hb; clear hb; obtain ⟨hc, hf⟩ := hcf))
  all_goals
    go_ret
    refine ⟨?_, ?_⟩
    · rw [HF.out]
      clear C0 C1 C2 C3 C4 C5 C6 D0 D1 D2 D3 HF
      first
        | (simp [*]; done)
        | (have hq : b6 = false := by rename (!b6) = true => hq0; simpa using hq0
           simp [*]; done)
        | (have hq : b6 = true := by rename (!b6) = false => hq0; simpa using hq0
           simp [*]; done)
    · (repeat' (first | with_reducible exact Below.refl _ _ | with_reducible refine bl_drewN ?_ _ | with_reducible refine bl_drew ?_ | refine bl_set (by (first | omega | (simp; done) | (simp; omega))) ?_ _ | refine bl_alloc (by (first | omega | (simp; done) | (simp; omega))) ?_ _ | refine bl_then (by assumption) ?_ (by (first | omega | (simp; done) | (simp; omega))) | refine Step.bl (by assumption) (by assumption) (by (first | omega | (simp; done) | (simp; omega))) (by (first | omega | (simp; done) | (simp; omega))) ?_))
set_option maxRecDepth 20000 in
set_option maxHeartbeats 4000000 in
theorem scShort_any (o : Sc.Op) (w : World) (hl : ∀ j, j < 4 → (Sc.txt o j).length ≤ 9223372036854775807) :
    Calls Try.prog 19 #[.agg (Sc.ops o)] w fun e w' => e = .returned (.bool (decide (Sc.sh o))) ∧ Below w.heap.size w w' := by
  have t0 := hl 0 (by decide)
  have t1 := hl 1 (by decide)
  have t2 := hl 2 (by decide)
  have t3 := hl 3 (by decide)
  obtain ⟨b0, h0⟩ : ∃ b, decide ((o.s.length : Int) ≤ 2000) = b := ⟨_, rfl⟩
  obtain ⟨b1, h1⟩ : ∃ b, decide ((o.sa.length : Int) ≤ 2000) = b := ⟨_, rfl⟩
  obtain ⟨b2, h2⟩ : ∃ b, decide ((o.r.length : Int) ≤ 2000) = b := ⟨_, rfl⟩
  obtain ⟨b3, h3⟩ : ∃ b, decide ((o.ot.length : Int) ≤ 2000) = b := ⟨_, rfl⟩
  simp only [Sc.txt] at t0 t1 t2 t3
  have HF : Hid (decide (Sc.sh o) = (b0 && b1 && b2 && b3)) := by
    refine Lib.hid ?_
    rw [← h0, ← h1, ← h2, ← h3]
    simp only [← Bool.decide_and]
    refine decide_eq_decide.2 ⟨fun h => ?_, fun h => ?_⟩
    · have q0 := h 0 (by decide)
      have q1 := h 1 (by decide)
      have q2 := h 2 (by decide)
      have q3 := h 3 (by decide)
      simp only [Sc.txt] at q0 q1 q2 q3
      omega
    · exact Sc.four (by show o.s.length ≤ _; omega) (by show o.sa.length ≤ _; omega) (by show o.r.length ≤ _; omega) (by show o.ot.length ≤ _; omega)
  clear hl
  go_enter Try.func19, Try.ntmps19
  go_wp2_with fail
  all_goals
    go_ret
    refine ⟨?_, ?_⟩
    · rw [HF.out]
      simp [*]
    · (repeat' (first | with_reducible exact Below.refl _ _ | with_reducible refine bl_drewN ?_ _ | with_reducible refine bl_drew ?_ | refine bl_set (by (first | omega | (simp; done) | (simp; omega))) ?_ _ | refine bl_alloc (by (first | omega | (simp; done) | (simp; omega))) ?_ _ | refine bl_then (by assumption) ?_ (by (first | omega | (simp; done) | (simp; omega))) | refine Step.bl (by assumption) (by assumption) (by (first | omega | (simp; done) | (simp; omega))) (by (first | omega | (simp; done) | (simp; omega))) ?_))
end Go.Proofs.Ytflapbnbeipddaa
