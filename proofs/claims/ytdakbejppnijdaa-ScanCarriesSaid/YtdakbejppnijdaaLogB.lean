/- The calls on a log that stand over note: Load, Store, Take, Give, Blind, Released. The log has fewer than 2^40 events. -/
import Derived.Test.YtdakbejppnijdaaLog
namespace Go.Proofs.Ytdakbejppnijdaa
open Go.RowKit
set_option linter.unusedSimpArgs false
set_option linter.unusedVariables false
attribute [local go_sem] IntKind.wrap_u32' signed_u32 max_u32
attribute [local go_sem ↓] Go.wp_at_zero Go.wp_at_succ
theorem i64_max : IntKind.i64.max = 9223372036854775807 := by decide
set_option maxHeartbeats 400000 in
theorem count_any (n : Int) (h0 : -9223372036854775808 ≤ n) (h1 : n ≤ 9223372036854775807) (w : World) : Calls Try.prog 106 #[.int .i64 n] w fun e w' => e = .returned (.int .u32 (Ct.count n)) ∧ w = w' := by
  have hfin : ∀ m : Int, m = Ct.count n → Ending.returned (.int .u32 m) = Ending.returned (.int .u32 (Ct.count n)) := fun m h => by rw [h]
  have HF := Lib.hid hfin
  clear hfin
  rcases Int.lt_trichotomy n 0 with hn | hn | hn
  · go_enter Try.func106, Try.ntmps106
    go_wp2
    go_ret
    exact ⟨HF.out _ (by unfold Ct.count; rw [if_pos (by omega)]), rfl⟩
  · subst hn
    go_enter Try.func106, Try.ntmps106
    go_wp2
    go_ret
    exact ⟨HF.out _ (by decide), rfl⟩
  · rcases Int.lt_trichotomy n 4294967295 with hm | hm | hm
    · go_enter Try.func106, Try.ntmps106
      go_wp2
      go_ret
      exact ⟨HF.out _ (by unfold Ct.count; rw [if_neg (by omega), if_neg (by omega)]; omega), rfl⟩
    · subst hm
      go_enter Try.func106, Try.ntmps106
      go_wp2
      go_ret
      exact ⟨HF.out _ (by decide), rfl⟩
    · go_enter Try.func106, Try.ntmps106
      go_wp2
      go_ret
      exact ⟨HF.out _ (by unfold Ct.count; rw [if_neg (by omega), if_pos (by omega)]), rfl⟩
set_option maxHeartbeats 400000 in
theorem LLoad_any (w : World) (F : Nat → Prop) (p : Nat) (evs : List Ev) (i : Int) (hL : Lg w F p evs) (hn : evs.length < 1099511627776) :
    Calls Try.prog 107 #[.pointer (some ⟨p, 0, none⟩), .int .i64 i] w fun e w' => e = .returned (.tuple #[]) ∧ ∃ F', Lg w' F' p (evs ++ [⟨1, i, 0⟩]) ∧ Step F F' w w' := by
  go_enter Try.func107, Try.ntmps107
  go_wp2_with (go_at_call 103; refine (note_any _ F p evs 1 i 0 hL hn).mono ?_; rintro e w1 ⟨rfl, F1, hL1, hs1⟩)
  go_end0
  exact ⟨rfl, F1, hL1, hs1⟩
set_option maxHeartbeats 400000 in
theorem LStore_any (w : World) (F : Nat → Prop) (p : Nat) (evs : List Ev) (i : Int) (hL : Lg w F p evs) (hn : evs.length < 1099511627776) :
    Calls Try.prog 108 #[.pointer (some ⟨p, 0, none⟩), .int .i64 i] w fun e w' => e = .returned (.tuple #[]) ∧ ∃ F', Lg w' F' p (evs ++ [⟨2, i, 0⟩]) ∧ Step F F' w w' := by
  go_enter Try.func108, Try.ntmps108
  go_wp2_with (go_at_call 103; refine (note_any _ F p evs 2 i 0 hL hn).mono ?_; rintro e w1 ⟨rfl, F1, hL1, hs1⟩)
  go_end0
  exact ⟨rfl, F1, hL1, hs1⟩
set_option maxHeartbeats 400000 in
theorem LTake_any (w : World) (F : Nat → Prop) (p : Nat) (evs : List Ev) (i n : Int) (hL : Lg w F p evs) (hn : evs.length < 1099511627776) (h0 : -9223372036854775808 ≤ n) (h1 : n ≤ 9223372036854775807) :
    Calls Try.prog 74 #[.pointer (some ⟨p, 0, none⟩), .int .i64 i, .int .i64 n] w fun e w' => e = .returned (.tuple #[]) ∧ ∃ F', Lg w' F' p (evs ++ [⟨4, i, Ct.count n⟩]) ∧ Step F F' w w' := by
  go_enter Try.func74, Try.ntmps74
  go_wp2_with (first | (go_at_call 106; refine (count_any n h0 h1 _).mono ?_; rintro e w1 ⟨rfl, rfl⟩) | (go_at_call 103; refine (note_any _ F p evs 4 i (Ct.count n) hL hn).mono ?_; rintro e w1 ⟨rfl, F1, hL1, hs1⟩))
  go_end0
  exact ⟨rfl, F1, hL1, hs1⟩
set_option maxHeartbeats 400000 in
theorem LGive_any (w : World) (F : Nat → Prop) (p : Nat) (evs : List Ev) (i n : Int) (hL : Lg w F p evs) (hn : evs.length < 1099511627776) (h0 : -9223372036854775808 ≤ n) (h1 : n ≤ 9223372036854775807) :
    Calls Try.prog 117 #[.pointer (some ⟨p, 0, none⟩), .int .i64 i, .int .i64 n] w fun e w' => e = .returned (.tuple #[]) ∧ ∃ F', Lg w' F' p (evs ++ [⟨5, i, Ct.count n⟩]) ∧ Step F F' w w' := by
  go_enter Try.func117, Try.ntmps117
  go_wp2_with (first | (go_at_call 106; refine (count_any n h0 h1 _).mono ?_; rintro e w1 ⟨rfl, rfl⟩) | (go_at_call 103; refine (note_any _ F p evs 5 i (Ct.count n) hL hn).mono ?_; rintro e w1 ⟨rfl, F1, hL1, hs1⟩))
  go_end0
  exact ⟨rfl, F1, hL1, hs1⟩
/-! ### the copies -/
def evDef : Ev := ⟨0, 0, 0⟩
theorem evCells_get (l : List Ev) : ∀ i, i < l.length → (evCells l)[i * 3]? = some (.int .i64 (l.getD i evDef).k) ∧ (evCells l)[i * 3 + 1]? = some (.int .i64 (l.getD i evDef).i) ∧ (evCells l)[i * 3 + 2]? = some (.int .u32 (l.getD i evDef).v) := by
  induction l with
  | nil => intro i h; simp at h
  | cons e l ih =>
    intro i h
    have hc : evCells (e :: l) = [.int .i64 e.k, .int .i64 e.i, .int .u32 e.v] ++ evCells l := by simp [evCells]
    cases i with
    | zero => rw [hc]; simp
    | succ i =>
      have := ih i (by simpa using h)
      rw [hc]
      refine ⟨?_, ?_, ?_⟩
      · rw [List.getElem?_append_right (by simp; omega)]; simp only [List.length_cons, List.length_nil]; rw [show (i + 1) * 3 - 3 = i * 3 by omega]; simpa using this.1
      · rw [List.getElem?_append_right (by simp; omega)]; simp only [List.length_cons, List.length_nil]; rw [show (i + 1) * 3 + 1 - 3 = i * 3 + 1 by omega]; simpa using this.2.1
      · rw [List.getElem?_append_right (by simp; omega)]; simp only [List.length_cons, List.length_nil]; rw [show (i + 1) * 3 + 2 - 3 = i * 3 + 2 by omega]; simpa using this.2.2
theorem evCells_set (l : List Ev) (v : Int) : ∀ i, i < l.length → (evCells l).set (i * 3 + 2) (.int .u32 v) = evCells (l.set i ⟨(l.getD i evDef).k, (l.getD i evDef).i, v⟩) := by
  induction l with
  | nil => intro i h; simp at h
  | cons e l ih =>
    intro i h
    have hc : ∀ (e : Ev) (l : List Ev), evCells (e :: l) = .int .i64 e.k :: .int .i64 e.i :: .int .u32 e.v :: evCells l := fun e l => by simp [evCells]
    cases i with
    | zero => simp [hc]
    | succ i =>
      have := ih i (by simpa using h)
      rw [hc, show (i + 1) * 3 + 2 = i * 3 + 2 + 1 + 1 + 1 by omega]
      simp only [List.set_cons_succ, List.getD_cons_succ]
      rw [hc, this]
def blind1 (e : Ev) : Ev := if e.k = 3 then ⟨e.k, e.i, 0⟩ else e
def blind (l : List Ev) : List Ev := l.map blind1
/-- The first k are blind. -/
def mix (l : List Ev) (k : Nat) : List Ev := blind (l.take k) ++ l.drop k
theorem mix_length (l : List Ev) (k : Nat) : (mix l k).length = l.length := by simp [mix, blind]; omega
theorem mix_zero (l : List Ev) : mix l 0 = l := by simp [mix, blind]
theorem mix_full (l : List Ev) (k : Nat) (h : l.length ≤ k) : mix l k = blind l := by simp [mix, List.take_of_length_le h, List.drop_eq_nil_of_le h]
theorem mix_at (l : List Ev) (k : Nat) (h : k < l.length) : (mix l k).getD k evDef = l.getD k evDef := by
  have hl : (blind (l.take k)).length = k := by simp [blind]; omega
  unfold mix
  rw [List.getD_eq_getElem?_getD, List.getD_eq_getElem?_getD, List.getElem?_append_right (by omega), hl, List.getElem?_drop]
  simp
theorem mix_succ (l : List Ev) (k : Nat) (h : k < l.length) : mix l (k + 1) = (mix l k).set k (blind1 (l.getD k evDef)) := by
  have hl : (blind (l.take k)).length = k := by simp [blind]; omega
  unfold mix
  rw [List.set_append_right _ _ (by omega), hl, Nat.sub_self, List.drop_eq_getElem_cons h, List.set_cons_zero, List.take_succ_eq_append_getElem h]
  simp only [blind, List.map_append, List.map_cons, List.map_nil, List.append_assoc, List.cons_append, List.nil_append, List.getD_eq_getElem?_getD, List.getElem?_eq_getElem h, Option.getD_some]
theorem mix_same (l : List Ev) (k : Nat) (h : k < l.length) (hk : (l.getD k evDef).k ≠ 3) : mix l (k + 1) = mix l k := by
  rw [mix_succ l k h]
  unfold blind1
  rw [if_neg hk, ← mix_at l k h]
  refine List.ext_getElem (by simp) fun i h1 h2 => ?_
  rw [List.getElem_set]
  split
  · subst_vars; rw [List.getD_eq_getElem?_getD, List.getElem?_eq_getElem h2]; rfl
  · rfl
set_option maxHeartbeats 1000000 in
theorem Blind_any (w : World) (F : Nat → Prop) (p : Nat) (evs : List Ev) (hL : Lg w F p evs) (hn : evs.length < 1099511627776) :
    Calls Try.prog 49 #[.pointer (some ⟨p, 0, none⟩)] w fun e w' => ∃ v, e = .returned v ∧ w'.ownsRow w.heap.size 78 3 v evs.length (evCells (blind evs)) ∧ Below w.heap.size w w' := by
  go_enter Try.func49, Try.ntmps49
  go_wp2_with (go_at_call 92; refine (Events_any _ F p evs hL hn).mono ?_; rintro e w1 ⟨v, rfl, hown, hb⟩; obtain ⟨A, c, rfl⟩ := own_slice hown; have HO := Lib.hid hown; have HB := Lib.hid hb; clear hown hb)
  go_loopw [9] (fun i wr => ∃ (k : Nat), k ≤ evs.length ∧ i = .int .i64 k ∧ wr.ownsRow w.heap.size 78 3 (.slice A evs.length c) evs.length (evCells (mix evs k)) ∧ Below w.heap.size w wr) (fun i _ => evs.length - (intOf i).toNat)
  case atStart => exact ⟨0, Nat.zero_le _, rfl, by rw [mix_zero]; exact HO.out, HB.out⟩
  case round =>
    obtain ⟨k, hk, rfl, hO, hW⟩ := hrel
    have HW := Lib.hid hW
    clear hW
    by_cases hlt : k < evs.length
    · obtain ⟨g, cap, hv, hgb, hgl⟩ := hO.form (by omega)
      injection hv with hv1 hv2 hv3
      subst hv1
      subst hv3
      have hml : k < (mix evs k).length := by rw [mix_length]; exact hlt
      have hc := evCells_get (mix evs k) k hml
      have h0 := (hO.cellAt (k * 3) (by omega)).trans hc.1
      have h2 := (hO.cellAt (k * 3 + 2) (by omega)).trans hc.2.2
      have hfz := fun j => own_frozen hO j
      rw [mix_at evs k hlt] at h0 h2
      have HC := Lib.hid (evCells_set (mix evs k) 0 k hml)
      have hs := hO.stored (k * 3 + 2) (.int .u32 0)
      have HS := Lib.hid hs.1
      have HG := Lib.hid hs.2
      have HM1 : (evs.getD k evDef).k ≠ 3 → mix evs (k + 1) = mix evs k := mix_same evs k hlt
      have HM2 : mix evs (k + 1) = (mix evs k).set k (blind1 (evs.getD k evDef)) := mix_succ evs k hlt
      have HMA := mix_at evs k hlt
      have HM1 := Lib.hid HM1
      have HM2 := Lib.hid HM2
      have HMA := Lib.hid HMA
      have HO1 := Lib.hid hO
      clear hO hc hs
      obtain ⟨ek, hek⟩ : ∃ ek, (evs.getD k evDef).k = ek := ⟨_, rfl⟩
      rw [hek] at h0
      have HEK := Lib.hid hek
      clear hek
      by_cases h3 : ek = 3
      · subst h3
        go_wp2_with fail
        go_roundw
        case rel =>
          refine ⟨k + 1, by omega, by go_num, ?_, bl_grown HG (own_base HO1.out) HW.out.size HW.out⟩
          have h5 := HS.out
          rw [HC.out, HMA.out] at h5
          rw [HM2.out]
          unfold blind1
          rw [if_pos HEK.out]
          exact h5
        case measure => simp [intOf]; omega
      · go_wp2_with fail
        go_roundw
        case rel =>
          refine ⟨k + 1, by omega, by go_num, ?_, HW.out⟩
          rw [HM1.out (by rw [HEK.out]; exact h3)]
          exact HO1.out
        case measure => simp [intOf]; omega
    · have hge : evs.length ≤ k := by omega
      have HO1 := Lib.hid hO
      clear hO
      go_wp2_with fail
      go_ret
      refine ⟨_, rfl, ?_, HW.out⟩
      have := HO1.out
      rwa [mix_full evs k hge] at this
end Go.Proofs.Ytdakbejppnijdaa
