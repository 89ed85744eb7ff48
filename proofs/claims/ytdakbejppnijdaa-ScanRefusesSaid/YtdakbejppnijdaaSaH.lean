/- The law of scan: ScanRefuses. No condition. -/
import Derived.Test.YtdakbejppnijdaaSaG
import Derived.Test.YtdakbejppnijdaaHeld
namespace Go.Proofs.Ytdakbejppnijdaa
open Go.RowKit
set_option linter.unusedSimpArgs false
set_option linter.unusedVariables false
attribute [local go_sem] IntKind.wrap_u32' signed_u32 max_u32
attribute [local go_sem ↓] Go.wp_at_zero Go.wp_at_succ
attribute [local go_sem] Calm.C
attribute [local go_sem low] Calm.al_cell Calm.al_frozen
namespace Sa
def Is (b : Bool) (P : Prop) : Prop := b = true ↔ P
/-- The law's state: the arena, and the box of n, in which all began. -/
def Now (w0 : World) (n : Int) (p g lp : Nat) (F : Nat → Prop) (ws : List Int) (top : Nat) (E : List Ev) (W : World) : Prop :=
  Ar W p g lp F ws top E ∧ Below w0.heap.size w0 W ∧ (∀ i, AF p g F i → w0.heap.size + 1 ≤ i) ∧ W.cell? ⟨w0.heap.size, 0, none⟩ = some (.int .i64 n) ∧ w0.heap.size < W.heap.size
namespace Now
variable {w0 W W' : World} {n : Int} {p g lp : Nat} {F F' : Nat → Prop} {ws ws' : List Int} {top : Nat} {E E' : List Ev}
theorem step (h : Now w0 n p g lp F ws top E W) (hA : Ar W' p g lp F' ws' top E') (hs : Step (AF p g F) (AF p g F') W W') : Now w0 n p g lp F' ws' top E' W' := by
  obtain ⟨h1, h2, h3, h4, h5⟩ := h
  exact ⟨hA, hs.below h2 (Nat.le_of_lt h5) (fun i hi => Nat.le_of_succ_le (h3 i hi)), hs.low h5 h3, (old_cell hs h5 (fun hf => absurd (h3 _ hf) (Nat.not_succ_le_self _))).trans h4, Nat.lt_of_lt_of_le h5 hs.size⟩
theorem below (h : Now w0 n p g lp F ws top E W) (hb : Below W.heap.size W W') : Now w0 n p g lp F ws top E W' := h.step (h.1.below (Lib.hid hb)) (Step.of_below h.1.most hb)
theorem alloc (h : Now w0 n p g lp F ws top E W) (o : Obj) : Now w0 n p g lp F ws top E (W.alloc o) := h.below ((Below.refl _ _).alloc (Nat.le_refl _) o)
end Now
end Sa
theorem saSums_n {w0 W : World} {nn : Int} {p g lp : Nat} {F : Nat → Prop} {ws : List Int} {top : Nat} {E : List Ev} (h : Sa.Now w0 nn p g lp F ws top E W) (he : E.length < 900000000000) (at_ n : Int) (b : Bool) (hb : Sa.Is b (0 ≤ at_ ∧ 0 ≤ n ∧ at_ + n ≤ top)) :
    Calls Try.prog 18 #[.pointer (some ⟨p, 0, none⟩), .int .i64 at_, .int .i64 n] W fun e w' => ∃ x, e = .returned (.tuple #[.agg #[.int .u32 x], .bool b]) ∧ ∃ F' ws' E', Sa.Now w0 nn p g lp F' ws' top E' w' ∧ (E'.length : Int) = E.length + (if b then 2 * n else 0) := by
  cases b with
  | false =>
    refine (saSums_f h.1 at_ n (fun hc => by have := hb.2 hc; cases this)).mono ?_
    rintro e w' ⟨rfl, hbl⟩
    exact ⟨0, rfl, _, _, _, h.below hbl, by simp⟩
  | true =>
    have hc := hb.1 rfl
    obtain ⟨at_, rfl⟩ : ∃ k : Nat, at_ = k := ⟨at_.toNat, by omega⟩
    obtain ⟨n, rfl⟩ : ∃ k : Nat, n = k := ⟨n.toNat, by omega⟩
    refine (saSums_t h.1 he at_ n (by omega)).mono ?_
    rintro e w' ⟨rfl, F', hA, hs⟩
    refine ⟨_, rfl, _, _, _, h.step hA hs, ?_⟩
    rw [List.length_append, Sa.ev_len, Sa.us_len]
    simp
theorem saBefore_n {w0 W : World} {nn : Int} {p g lp : Nat} {F : Nat → Prop} {ws : List Int} {top : Nat} {E : List Ev} (h : Sa.Now w0 nn p g lp F ws top E W) (he : E.length < 900000000000) (at_ n : Int) (b : Bool) (hb : Sa.Is b (0 ≤ at_ ∧ 0 ≤ n ∧ at_ + n ≤ top)) :
    Calls Try.prog 19 #[.pointer (some ⟨p, 0, none⟩), .int .i64 at_, .int .i64 n] W fun e w' => ∃ x, e = .returned (.tuple #[.agg #[.int .u32 x], .bool b]) ∧ ∃ F' ws' E', Sa.Now w0 nn p g lp F' ws' top E' w' ∧ (E'.length : Int) = E.length + (if b then 2 * n else 0) := by
  cases b with
  | false =>
    refine (saBefore_f h.1 at_ n (fun hc => by have := hb.2 hc; cases this)).mono ?_
    rintro e w' ⟨rfl, hbl⟩
    exact ⟨0, rfl, _, _, _, h.below hbl, by simp⟩
  | true =>
    have hc := hb.1 rfl
    obtain ⟨at_, rfl⟩ : ∃ k : Nat, at_ = k := ⟨at_.toNat, by omega⟩
    obtain ⟨n, rfl⟩ : ∃ k : Nat, n = k := ⟨n.toNat, by omega⟩
    refine (saBefore_t h.1 he at_ n (by omega)).mono ?_
    rintro e w' ⟨rfl, F', hA, hs⟩
    refine ⟨_, rfl, _, _, _, h.step hA hs, ?_⟩
    rw [List.length_append, Sa.ev_len, Sa.us_len]
    simp
theorem saOrs_n {w0 W : World} {nn : Int} {p g lp : Nat} {F : Nat → Prop} {ws : List Int} {top : Nat} {E : List Ev} (h : Sa.Now w0 nn p g lp F ws top E W) (he : E.length < 900000000000) (at_ n : Int) (b : Bool) (hb : Sa.Is b (0 ≤ at_ ∧ 0 ≤ n ∧ at_ + n ≤ top)) :
    Calls Try.prog 20 #[.pointer (some ⟨p, 0, none⟩), .int .i64 at_, .int .i64 n] W fun e w' => ∃ x, e = .returned (.tuple #[.agg #[.int .u32 x], .bool b]) ∧ ∃ F' ws' E', Sa.Now w0 nn p g lp F' ws' top E' w' ∧ (E'.length : Int) = E.length + (if b then 2 * n else 0) := by
  cases b with
  | false =>
    refine (saOrs_f h.1 at_ n (fun hc => by have := hb.2 hc; cases this)).mono ?_
    rintro e w' ⟨rfl, hbl⟩
    exact ⟨0, rfl, _, _, _, h.below hbl, by simp⟩
  | true =>
    have hc := hb.1 rfl
    obtain ⟨at_, rfl⟩ : ∃ k : Nat, at_ = k := ⟨at_.toNat, by omega⟩
    obtain ⟨n, rfl⟩ : ∃ k : Nat, n = k := ⟨n.toNat, by omega⟩
    refine (saOrs_t h.1 he at_ n (by omega)).mono ?_
    rintro e w' ⟨rfl, F', hA, hs⟩
    refine ⟨_, rfl, _, _, _, h.step hA hs, ?_⟩
    rw [List.length_append, Sa.ev_len, Sa.us_len]
    simp
theorem saBehind_n {w0 W : World} {nn : Int} {p g lp : Nat} {F : Nat → Prop} {ws : List Int} {top : Nat} {E : List Ev} (h : Sa.Now w0 nn p g lp F ws top E W) (he : E.length < 900000000000) (at_ n : Int) (b : Bool) (hb : Sa.Is b (0 ≤ at_ ∧ 0 ≤ n ∧ at_ + n ≤ top)) :
    Calls Try.prog 22 #[.pointer (some ⟨p, 0, none⟩), .int .i64 at_, .int .i64 n] W fun e w' => ∃ x, e = .returned (.tuple #[.agg #[.int .u32 x], .bool b]) ∧ ∃ F' ws' E', Sa.Now w0 nn p g lp F' ws' top E' w' ∧ (E'.length : Int) = E.length + (if b then 2 * n else 0) := by
  cases b with
  | false =>
    refine (saBehind_f h.1 at_ n (fun hc => by have := hb.2 hc; cases this)).mono ?_
    rintro e w' ⟨rfl, hbl⟩
    exact ⟨0, rfl, _, _, _, h.below hbl, by simp⟩
  | true =>
    have hc := hb.1 rfl
    obtain ⟨at_, rfl⟩ : ∃ k : Nat, at_ = k := ⟨at_.toNat, by omega⟩
    obtain ⟨n, rfl⟩ : ∃ k : Nat, n = k := ⟨n.toNat, by omega⟩
    refine (saBehind_t h.1 he at_ n (by omega)).mono ?_
    rintro e w' ⟨rfl, F', hA, hs⟩
    refine ⟨_, rfl, _, _, _, h.step hA hs, ?_⟩
    rw [List.length_append, Sa.ev_len, Sa.ds_len]
    simp
theorem saFirst_n {w0 W : World} {nn : Int} {p g lp : Nat} {F : Nat → Prop} {ws : List Int} {top : Nat} {E : List Ev} (h : Sa.Now w0 nn p g lp F ws top E W) (he : E.length < 900000000000) (at_ has n : Int) (b : Bool) (hb : Sa.Is b (Sa.Two top at_ has n)) :
    Calls Try.prog 36 #[.pointer (some ⟨p, 0, none⟩), .int .i64 at_, .int .i64 has, .int .i64 n] W fun e w' => ∃ x, ∃ y, e = .returned (.tuple #[.agg #[.int .u32 x], .agg #[.int .u32 y], .bool b]) ∧ ∃ F' ws' E', Sa.Now w0 nn p g lp F' ws' top E' w' ∧ (E'.length : Int) = E.length + (if b then 2 * n else 0) := by
  cases b with
  | false =>
    refine (saFirst_f h.1 at_ has n (fun hc => by have := hb.2 hc; cases this)).mono ?_
    rintro e w' ⟨rfl, hbl⟩
    exact ⟨0, 0, rfl, _, _, _, h.below hbl, by simp⟩
  | true =>
    have hc := hb.1 rfl
    obtain ⟨⟨_, _, _⟩, ⟨_, _, _⟩, _⟩ := id hc
    obtain ⟨at_, rfl⟩ : ∃ k : Nat, at_ = k := ⟨at_.toNat, by omega⟩
    obtain ⟨has, rfl⟩ : ∃ k : Nat, has = k := ⟨has.toNat, by omega⟩
    obtain ⟨n, rfl⟩ : ∃ k : Nat, n = k := ⟨n.toNat, by omega⟩
    refine (saFirst_t h.1 he at_ has n hc).mono ?_
    rintro e w' ⟨rfl, F', hA, hs⟩
    refine ⟨_, _, rfl, _, _, _, h.step hA hs, ?_⟩
    rw [List.length_append, Sa.em_len, Sa.ds_len]
    simp
theorem saLast_n {w0 W : World} {nn : Int} {p g lp : Nat} {F : Nat → Prop} {ws : List Int} {top : Nat} {E : List Ev} (h : Sa.Now w0 nn p g lp F ws top E W) (he : E.length < 900000000000) (at_ has n : Int) (b : Bool) (hb : Sa.Is b (Sa.Two top at_ has n)) :
    Calls Try.prog 37 #[.pointer (some ⟨p, 0, none⟩), .int .i64 at_, .int .i64 has, .int .i64 n] W fun e w' => ∃ x, ∃ y, e = .returned (.tuple #[.agg #[.int .u32 x], .agg #[.int .u32 y], .bool b]) ∧ ∃ F' ws' E', Sa.Now w0 nn p g lp F' ws' top E' w' ∧ (E'.length : Int) = E.length + (if b then 2 * n else 0) := by
  cases b with
  | false =>
    refine (saLast_f h.1 at_ has n (fun hc => by have := hb.2 hc; cases this)).mono ?_
    rintro e w' ⟨rfl, hbl⟩
    exact ⟨0, 0, rfl, _, _, _, h.below hbl, by simp⟩
  | true =>
    have hc := hb.1 rfl
    obtain ⟨⟨_, _, _⟩, ⟨_, _, _⟩, _⟩ := id hc
    obtain ⟨at_, rfl⟩ : ∃ k : Nat, at_ = k := ⟨at_.toNat, by omega⟩
    obtain ⟨has, rfl⟩ : ∃ k : Nat, has = k := ⟨has.toNat, by omega⟩
    obtain ⟨n, rfl⟩ : ∃ k : Nat, n = k := ⟨n.toNat, by omega⟩
    refine (saLast_t h.1 he at_ has n hc).mono ?_
    rintro e w' ⟨rfl, F', hA, hs⟩
    refine ⟨_, _, rfl, _, _, _, h.step hA hs, ?_⟩
    rw [List.length_append, Sa.em_len, Sa.us_len]
    simp
theorem saCarry_n {w0 W : World} {nn : Int} {p g lp : Nat} {F : Nat → Prop} {ws : List Int} {top : Nat} {E : List Ev} (h : Sa.Now w0 nn p g lp F ws top E W) (he : E.length < 900000000000) (at_ has n : Int) (b : Bool) (hb : Sa.Is b (Sa.Two top at_ has n)) :
    Calls Try.prog 41 #[.pointer (some ⟨p, 0, none⟩), .int .i64 at_, .int .i64 has, .int .i64 n] W fun e w' => e = .returned (.bool b) ∧ ∃ F' ws' E', Sa.Now w0 nn p g lp F' ws' top E' w' ∧ (E'.length : Int) = E.length + (if b then 3 * n else 0) := by
  cases b with
  | false =>
    refine (saCarry_f h.1 at_ has n (fun hc => by have := hb.2 hc; cases this)).mono ?_
    rintro e w' ⟨rfl, hbl⟩
    exact ⟨rfl, _, _, _, h.below hbl, by simp⟩
  | true =>
    have hc := hb.1 rfl
    obtain ⟨⟨_, _, _⟩, ⟨_, _, _⟩, _⟩ := id hc
    obtain ⟨at_, rfl⟩ : ∃ k : Nat, at_ = k := ⟨at_.toNat, by omega⟩
    obtain ⟨has, rfl⟩ : ∃ k : Nat, has = k := ⟨has.toNat, by omega⟩
    obtain ⟨n, rfl⟩ : ∃ k : Nat, n = k := ⟨n.toNat, by omega⟩
    refine (saCarry_t h.1 he at_ has n hc).mono ?_
    rintro e w' ⟨rfl, F', hA, hs⟩
    refine ⟨rfl, _, _, _, h.step hA hs, ?_⟩
    rw [List.length_append, Sa.ef_len, Sa.us_len]
    simp
theorem saBack_n {w0 W : World} {nn : Int} {p g lp : Nat} {F : Nat → Prop} {ws : List Int} {top : Nat} {E : List Ev} (h : Sa.Now w0 nn p g lp F ws top E W) (he : E.length < 900000000000) (at_ has n : Int) (b : Bool) (hb : Sa.Is b (Sa.Two top at_ has n)) :
    Calls Try.prog 40 #[.pointer (some ⟨p, 0, none⟩), .int .i64 at_, .int .i64 has, .int .i64 n] W fun e w' => e = .returned (.bool b) ∧ ∃ F' ws' E', Sa.Now w0 nn p g lp F' ws' top E' w' ∧ (E'.length : Int) = E.length + (if b then 3 * n else 0) := by
  cases b with
  | false =>
    refine (saBack_f h.1 at_ has n (fun hc => by have := hb.2 hc; cases this)).mono ?_
    rintro e w' ⟨rfl, hbl⟩
    exact ⟨rfl, _, _, _, h.below hbl, by simp⟩
  | true =>
    have hc := hb.1 rfl
    obtain ⟨⟨_, _, _⟩, ⟨_, _, _⟩, _⟩ := id hc
    obtain ⟨at_, rfl⟩ : ∃ k : Nat, at_ = k := ⟨at_.toNat, by omega⟩
    obtain ⟨has, rfl⟩ : ∃ k : Nat, has = k := ⟨has.toNat, by omega⟩
    obtain ⟨n, rfl⟩ : ∃ k : Nat, n = k := ⟨n.toNat, by omega⟩
    refine (saBack_t h.1 he at_ has n hc).mono ?_
    rintro e w' ⟨rfl, F', hA, hs⟩
    refine ⟨rfl, _, _, _, h.step hA hs, ?_⟩
    rw [List.length_append, Sa.ef_len, Sa.ds_len]
    simp
set_option maxRecDepth 10000 in
set_option maxHeartbeats 800000 in
theorem saWithin_any (G : Nat) (at_ n : Int) (b : Bool) (hb : Sa.Is b (0 ≤ at_ ∧ 0 ≤ n ∧ at_ + n ≤ 20)) (w : World) (hc : w.cell? ⟨G, 0, none⟩ = some (.int .i64 n)) :
    Calls Try.prog 45 #[.int .i64 at_, .pointer (some ⟨G, 0, none⟩)] w fun e w' => e = .returned (.bool b) ∧ w' = w := by
  rcases (by omega : n < 0 ∨ (0 ≤ n ∧ 20 < n) ∨ (0 ≤ n ∧ n ≤ 20 ∧ at_ < 0) ∨ (0 ≤ n ∧ n ≤ 20 ∧ 0 ≤ at_ ∧ 20 - n < at_) ∨ (0 ≤ n ∧ n ≤ 20 ∧ 0 ≤ at_ ∧ at_ ≤ 20 - n)) with h | h | h | h | h
  all_goals
    have hb' : b = decide (0 ≤ at_ ∧ 0 ≤ n ∧ at_ + n ≤ 20) := by
      cases b with
      | false => exact (decide_eq_false (fun hc => by have := hb.2 hc; cases this)).symm
      | true => exact (decide_eq_true (hb.1 rfl)).symm
    first
      | rw [decide_eq_true (by omega)] at hb'
      | rw [decide_eq_false (by omega)] at hb'
    subst hb'
    first | have := decide_eq_true (show 0 ≤ n by omega) | have := decide_eq_false (show ¬ (0 ≤ n) by omega) | skip
    first | have := decide_eq_true (show n ≤ 20 by omega) | have := decide_eq_false (show ¬ (n ≤ 20) by omega) | skip
    first | have := decide_eq_true (show 0 ≤ at_ by omega) | have := decide_eq_false (show ¬ (0 ≤ at_) by omega) | skip
    first | have := decide_eq_true (show at_ ≤ 20 - n by omega) | have := decide_eq_false (show ¬ (at_ ≤ 20 - n) by omega) | skip
    clear hb
    go_enter Try.func45, Try.ntmps45
    go_wp2_with fail
    go_ret
    exact ⟨rfl, rfl⟩
end Go.Proofs.Ytdakbejppnijdaa
