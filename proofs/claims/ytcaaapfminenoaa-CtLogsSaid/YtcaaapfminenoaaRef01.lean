/- The calls of the reference of layer 1. Words are below 2^32; the numbers of a move are within 64. -/
import Derived.Test.YtcaaapfminenoaaKit
import Derived.Test.YtcaaapfminenoaaCtPlain
namespace Go.Proofs.Ytcaaapfminenoaa
open Go.RowKit
set_option linter.unusedSimpArgs false
set_option linter.unusedVariables false
attribute [local go_sem] IntKind.wrap_u32' signed_u32 max_u32
attribute [local go_sem ↓] Go.wp_at_zero Go.wp_at_succ
set_option maxHeartbeats 400000 in
theorem All_any (b : Bool) (w : World) : Calls Try.prog 25 #[.bool b] w fun e w' => e = .returned (.int .u32 (Ct.Mask b)) ∧ w = w' := by
  cases b
  all_goals
    go_enter Try.func25, Try.ntmps25
    go_wp2_with fail
    go_ret
    exact ⟨rfl, rfl⟩
theorem pow_nat (k : Nat) (h : k < 32) : (2 : Int) ^ k ≤ 2147483648 ∧ (0 : Int) < 2 ^ k := by
  have h1 : (2 : Nat) ^ k ≤ 2 ^ 31 := Nat.pow_le_pow_right (by decide) (by omega)
  have h2 : ((2 ^ k : Nat) : Int) = (2 : Int) ^ k := by simp
  have h3 : (0 : Int) < 2 ^ k := Int.pow_pos (by decide)
  omega
theorem pow_nat' (k : Nat) (h : k < 31) : (2 : Int) ^ k ≤ 1073741824 := by
  have h1 : (2 : Nat) ^ k ≤ 2 ^ 30 := Nat.pow_le_pow_right (by decide) (by omega)
  have h2 : ((2 ^ k : Nat) : Int) = (2 : Int) ^ k := by simp
  omega
set_option maxHeartbeats 400000 in
theorem pow_any (n : Int) (h0 : 0 ≤ n) (h : n < 32) (w : World) : Calls Try.prog 88 #[.int .i64 n] w fun e w' => e = .returned (.int .u32 (2 ^ n.toNat)) ∧ w = w' := by
  obtain ⟨m, rfl⟩ := Int.eq_ofNat_of_zero_le h0
  go_enter Try.func88, Try.ntmps88
  go_wp2
  go_loop [3, 4] (fun p i => ∃ k : Nat, k ≤ m ∧ i = .int .i64 k ∧ p = .int .u32 (2 ^ k)) (fun _ i => m - (intOf i).toNat)
  case atStart => exact ⟨0, Nat.zero_le _, rfl, rfl⟩
  case round =>
    obtain ⟨k, hk, rfl, rfl⟩ := hrel
    by_cases hlt : k < m
    · have hp := pow_nat k (by omega)
      have hp2 := pow_nat' k (by omega)
      go_wp2
      go_round
      case rel => exact ⟨k + 1, by omega, by go_num, by rw [Int.pow_succ]; congr 1; omega⟩
      case measure => simp [intOf]; omega
    · obtain rfl : k = m := by omega
      go_wp2
      go_ret
      exact ⟨by simp, rfl⟩
set_option maxHeartbeats 400000 in
theorem Bit_any (v n : Int) (h0 : 0 ≤ v) (h1 : v < 4294967296) (w : World) : Calls Try.prog 74 #[.int .u32 v, .int .i64 n] w fun e w' => e = .returned (.bool (Rf.bit v n)) ∧ w = w' := by
  by_cases hn : 0 ≤ n
  · by_cases hl : n < 32
    · obtain ⟨m, rfl⟩ := Int.eq_ofNat_of_zero_le hn
      have hp := pow_nat m (by omega)
      have hb : Rf.bit v m = decide (v / 2 ^ m % 2 = 1) := by simp [Rf.bit, hn, hl]
      rw [hb]
      clear hb
      go_enter Try.func74, Try.ntmps74
      go_wp2_with (go_at_call 88; refine (pow_any _ (by omega) (by omega) _).mono ?_; rintro e w1 ⟨rfl, rfl⟩)
      go_ret
      exact ⟨congrArg (fun x => Ending.returned (.bool x)) (by rw [Int.tdiv_eq_ediv_of_nonneg h0]; rfl), rfl⟩
    · have hb : Rf.bit v n = false := by simp [Rf.bit, hl]
      rw [hb]
      go_enter Try.func74, Try.ntmps74
      go_wp2_with fail
      go_ret
      exact ⟨rfl, rfl⟩
  · have hb : Rf.bit v n = false := by simp [Rf.bit, hn]
    rw [hb]
    go_enter Try.func74, Try.ntmps74
    go_wp2_with fail
    go_ret
    exact ⟨rfl, rfl⟩
def bools (l : List Bool) : List Value := l.map Value.bool
theorem bools_set (l : List Bool) (k : Nat) (b : Bool) : (bools l).toArray.setIfInBounds k (.bool b) = (bools (l.set k b)).toArray := by simp [bools, List.map_set]
theorem bools_get (l : List Bool) (k : Nat) (h : k < l.length) : (bools l).toArray[k]? = some (.bool (l.getD k false)) := by simp [bools, List.getElem?_eq_getElem h, List.getD_eq_getElem?_getD]
set_option maxHeartbeats 400000 in
theorem Word_any (l : List Bool) (hl : l.length = 32) (w : World) : Calls Try.prog 75 #[.agg (bools l).toArray] w fun e w' => e = .returned (.int .u32 (Rf.word l)) ∧ Below w.heap.size w w' := by
  have hg := fun k h => bools_get l k (by rw [hl]; exact h)
  have hb := Blk.new w 103 (bools l).toArray
  have HL := Lib.hid hl
  clear hl
  go_enter Try.func75, Try.ntmps75
  go_wp2_with fail
  go_loop [3, 4] (fun s i => ∃ k : Nat, k ≤ 32 ∧ i = .int .i64 k ∧ s = .int .u32 (Rf.wsum l k)) (fun _ i => 32 - (intOf i).toNat)
  case atStart => exact ⟨0, Nat.zero_le _, rfl, rfl⟩
  case round =>
    obtain ⟨k, hk, rfl, rfl⟩ := hrel
    by_cases hlt : k < 32
    · have hc := (hb.cell k).trans (hg k hlt)
      cases hb' : l.getD k false
      all_goals
        rw [hb'] at hc
        have Hb' := Lib.hid hb'
        clear hb'
        go_wp2_with (go_at_call 88; refine (pow_any _ (by omega) (by omega) _).mono ?_; rintro e w1 ⟨rfl, rfl⟩)
        go_round
        case rel => exact ⟨k + 1, by omega, by go_num, by simp only [Rf.wsum]; rw [Hb'.out]; simp⟩
        case measure => simp [intOf]; omega
    · obtain rfl : k = 32 := by omega
      go_wp2
      go_ret
      refine ⟨rfl, ?_⟩
      (repeat' (first | exact Below.refl _ _ | refine bl_set (by (first | omega | (simp; done) | (simp; omega))) ?_ _ | refine bl_alloc (by (first | omega | (simp; done) | (simp; omega))) ?_ _ | refine bl_drewN ?_ _ | refine bl_drew ?_ | refine bl_then (by assumption) ?_ (by (first | omega | (simp; done) | (simp; omega))) | refine Step.bl (by assumption) (by assumption) (by (first | omega | (simp; done) | (simp; omega))) (by (first | omega | (simp; done) | (simp; omega))) ?_))
theorem Try.infoBools : (Try.prog.info? 103).map (·.size) = some 32 := by kernel_rfl
theorem bools_tab_zero (g : Nat → Bool) : (bools (Rf.tab g 32 0)).toArray = #[.bool false, .bool false, .bool false, .bool false, .bool false, .bool false, .bool false, .bool false, .bool false, .bool false, .bool false, .bool false, .bool false, .bool false, .bool false, .bool false, .bool false, .bool false, .bool false, .bool false, .bool false, .bool false, .bool false, .bool false, .bool false, .bool false, .bool false, .bool false, .bool false, .bool false, .bool false, .bool false] := by
  rw [Rf.tab_zero]; rfl
set_option maxHeartbeats 1000000 in
theorem Move_any (a n : Int) (h0 : 0 ≤ a) (h1 : a < 4294967296) (h2 : -64 ≤ n) (h3 : n ≤ 64) (w : World) : Calls Try.prog 34 #[.int .u32 a, .int .i64 n] w fun e w' => e = .returned (.int .u32 (Rf.move a n)) ∧ Below w.heap.size w w' := by
  obtain ⟨g, hg⟩ : ∃ g : Nat → Bool, g = fun i : Nat => Rf.bit a (i + n) := ⟨_, rfl⟩
  have hfin : Rf.move a n = Rf.word (Rf.tab g 32 32) := by rw [Rf.tab_full, hg]; rfl
  rw [hfin]
  have hgk : ∀ k : Nat, Rf.bit a (k + n) = g k := fun k => by rw [hg]
  have Hg := Lib.hid hg
  clear hg hfin
  have h00 := bools_tab_zero g
  go_enter Try.func34, Try.ntmps34
  go_wp2_with fail
  go_loopw [6] (fun i wr => ∃ k : Nat, k ≤ 32 ∧ i = .int .i64 k ∧ Blk wr w.heap.size 103 (bools (Rf.tab g 32 k)).toArray ∧ Below w.heap.size w wr) (fun i _ => 32 - (intOf i).toNat)
  case atStart =>
    refine ⟨0, Nat.zero_le _, rfl, ?_, ?_⟩
    · rw [h00]; exact Blk.new _ _ _
    · (repeat' (first | exact Below.refl _ _ | refine bl_set (by (first | omega | (simp; done) | (simp; omega))) ?_ _ | refine bl_alloc (by (first | omega | (simp; done) | (simp; omega))) ?_ _ | refine bl_drewN ?_ _ | refine bl_drew ?_ | refine bl_then (by assumption) ?_ (by (first | omega | (simp; done) | (simp; omega))) | refine Step.bl (by assumption) (by assumption) (by (first | omega | (simp; done) | (simp; omega))) (by (first | omega | (simp; done) | (simp; omega))) ?_))
  case round =>
    obtain ⟨k, hk, rfl, hB, hW⟩ := hrel
    have hWs := hW.size
    have hlt0 := hB.lt
    have HW := Lib.hid hW
    clear hW h00
    by_cases hlt : k < 32
    · have hc := (hB.cell k).trans (bools_get _ k (by rw [Rf.tab_length]; exact hlt))
      have hf := hB.frozen k
      have hgk' := hgk k
      have HB := Lib.hid hB
      clear hB hgk
      go_wp2_with (first | (go_at_call 74; refine (Bit_any _ _ (by omega) (by omega) _).mono ?_; rintro e w1 ⟨rfl, rfl⟩))
      go_roundw
      case rel =>
        refine ⟨k + 1, by omega, by go_num, ?_, bl_set (Nat.le_refl _) HW.out _⟩
        rw [← Rf.tab_succ, ← bools_set]
        first | exact HB.out.set_ k _ | (rw [← hgk']; exact HB.out.set_ k _)
      case measure => simp [intOf]; omega
    · obtain rfl : k = 32 := by omega
      clear hgk
      have HB := Lib.hid hB
      clear hB
      go_wp2_with (first | (go_at_call 75; refine' Calls.mono (Word_any _ ?_ _) ?_; (next => simp [Rf.tab_length]); rintro e w1 ⟨rfl, hb⟩; have hcf := bcell hb; have hz := hb.size; (try simp only [World.size_alloc, World.size_setCell, World.size_drew] at hz); have hbh := Lib.hid hb; clear hb; obtain ⟨hc, hf⟩ := hcf) | (refine wpList_load_row (by rfl) 103 _ (by rfl) w.heap.size (by rfl) 103 _ (0, 0) _ HB.out Try.underlying103 (by rfl) (by simp [bools, Rf.tab_length, Try.infoBools]) ?_))
      go_ret
      refine ⟨rfl, ?_⟩
      have HW' := HW
      (repeat' (first | exact Below.refl _ _ | refine bl_set (by (first | omega | (simp; done) | (simp; omega))) ?_ _ | refine bl_alloc (by (first | omega | (simp; done) | (simp; omega))) ?_ _ | refine bl_drewN ?_ _ | refine bl_drew ?_ | refine bl_then (by assumption) ?_ (by (first | omega | (simp; done) | (simp; omega))) | refine Step.bl (by assumption) (by assumption) (by (first | omega | (simp; done) | (simp; omega))) (by (first | omega | (simp; done) | (simp; omega))) ?_))
set_option maxHeartbeats 2000000 in
theorem Both0_any (a b : Int) (h0 : 0 ≤ a) (h1 : a < 4294967296) (h2 : 0 ≤ b) (h3 : b < 4294967296) (w : World) : Calls Try.prog 21 #[.int .u32 a, .int .u32 b, .int .i64 0] w fun e w' => e = .returned (.int .u32 (Rf.both a b 0)) ∧ Below w.heap.size w w' := by
  obtain ⟨g, hg⟩ : ∃ g : Nat → Bool, g = fun i : Nat => (Rf.bit a i && Rf.bit b i) := ⟨_, rfl⟩
  have hfin : Rf.both a b 0 = Rf.word (Rf.tab g 32 32) := by rw [Rf.tab_full, hg]; rfl
  rw [hfin]
  have Hgk : Hid (∀ k : Nat, g k = (Rf.bit a k && Rf.bit b k)) := fun k => by rw [hg]
  clear hg hfin
  have h00 := bools_tab_zero g
  go_enter Try.func21, Try.ntmps21
  go_wp2_with fail
  go_loopw [8] (fun i wr => ∃ k : Nat, k ≤ 32 ∧ i = .int .i64 k ∧ Blk wr w.heap.size 103 (bools (Rf.tab g 32 k)).toArray ∧ Below w.heap.size w wr) (fun i _ => 32 - (intOf i).toNat)
  case atStart =>
    refine ⟨0, Nat.zero_le _, rfl, ?_, ?_⟩
    · rw [h00]; exact Blk.new _ _ _
    · (repeat' (first | exact Below.refl _ _ | refine bl_set (by (first | omega | (simp; done) | (simp; omega))) ?_ _ | refine bl_alloc (by (first | omega | (simp; done) | (simp; omega))) ?_ _ | refine bl_drewN ?_ _ | refine bl_drew ?_ | refine bl_then (by assumption) ?_ (by (first | omega | (simp; done) | (simp; omega))) | refine Step.bl (by assumption) (by assumption) (by (first | omega | (simp; done) | (simp; omega))) (by (first | omega | (simp; done) | (simp; omega))) ?_))
  case round =>
    obtain ⟨k, hk, rfl, hB, hW⟩ := hrel
    have hWs := hW.size
    have hlt0 := hB.lt
    have HW := Lib.hid hW
    clear hW h00
    by_cases hlt : k < 32
    · have hc := (hB.cell k).trans (bools_get _ k (by rw [Rf.tab_length]; exact hlt))
      have hf := hB.frozen k
      have HB := Lib.hid hB
      clear hB
      have hgk := Hgk.out k
      cases hx : Rf.bit a k
      all_goals
        cases hy : Rf.bit b k
        all_goals
          rw [hx, hy] at hgk
          have Hgk' := Lib.hid hgk
          clear hgk
          go_wp2_with (first | (go_at_call 74; refine (Bit_any _ _ (by omega) (by omega) _).mono ?_; rintro e w1 ⟨rfl, rfl⟩))
          go_roundw
          case rel =>
            refine ⟨k + 1, by omega, by go_num, ?_, bl_set (Nat.le_refl _) HW.out _⟩
            rw [← Rf.tab_succ, ← bools_set, Hgk'.out]
            exact HB.out.set_ k _
          case measure => simp [intOf]; omega
    · obtain rfl : k = 32 := by omega
      have HB := Lib.hid hB
      clear hB
      go_wp2_with (first | (go_at_call 75; refine' Calls.mono (Word_any _ ?_ _) ?_; (next => simp [Rf.tab_length]); rintro e w1 ⟨rfl, hb⟩; have hcf := bcell hb; have hz := hb.size; (try simp only [World.size_alloc, World.size_setCell, World.size_drew] at hz); have hbh := Lib.hid hb; clear hb; obtain ⟨hc, hf⟩ := hcf) | (refine wpList_load_row (by rfl) 103 _ (by rfl) w.heap.size (by rfl) 103 _ (0, 0) _ HB.out Try.underlying103 (by rfl) (by simp [bools, Rf.tab_length, Try.infoBools]) ?_))
      go_ret
      refine ⟨rfl, ?_⟩
      (repeat' (first | exact Below.refl _ _ | refine bl_set (by (first | omega | (simp; done) | (simp; omega))) ?_ _ | refine bl_alloc (by (first | omega | (simp; done) | (simp; omega))) ?_ _ | refine bl_drewN ?_ _ | refine bl_drew ?_ | refine bl_then (by assumption) ?_ (by (first | omega | (simp; done) | (simp; omega))) | refine Step.bl (by assumption) (by assumption) (by (first | omega | (simp; done) | (simp; omega))) (by (first | omega | (simp; done) | (simp; omega))) ?_))
set_option maxHeartbeats 2000000 in
theorem Both1_any (a b : Int) (h0 : 0 ≤ a) (h1 : a < 4294967296) (h2 : 0 ≤ b) (h3 : b < 4294967296) (w : World) : Calls Try.prog 21 #[.int .u32 a, .int .u32 b, .int .i64 1] w fun e w' => e = .returned (.int .u32 (Rf.both a b 1)) ∧ Below w.heap.size w w' := by
  obtain ⟨g, hg⟩ : ∃ g : Nat → Bool, g = fun i : Nat => (Rf.bit a i || Rf.bit b i) := ⟨_, rfl⟩
  have hfin : Rf.both a b 1 = Rf.word (Rf.tab g 32 32) := by rw [Rf.tab_full, hg]; rfl
  rw [hfin]
  have Hgk : Hid (∀ k : Nat, g k = (Rf.bit a k || Rf.bit b k)) := fun k => by rw [hg]
  clear hg hfin
  have h00 := bools_tab_zero g
  go_enter Try.func21, Try.ntmps21
  go_wp2_with fail
  go_loopw [8] (fun i wr => ∃ k : Nat, k ≤ 32 ∧ i = .int .i64 k ∧ Blk wr w.heap.size 103 (bools (Rf.tab g 32 k)).toArray ∧ Below w.heap.size w wr) (fun i _ => 32 - (intOf i).toNat)
  case atStart =>
    refine ⟨0, Nat.zero_le _, rfl, ?_, ?_⟩
    · rw [h00]; exact Blk.new _ _ _
    · (repeat' (first | exact Below.refl _ _ | refine bl_set (by (first | omega | (simp; done) | (simp; omega))) ?_ _ | refine bl_alloc (by (first | omega | (simp; done) | (simp; omega))) ?_ _ | refine bl_drewN ?_ _ | refine bl_drew ?_ | refine bl_then (by assumption) ?_ (by (first | omega | (simp; done) | (simp; omega))) | refine Step.bl (by assumption) (by assumption) (by (first | omega | (simp; done) | (simp; omega))) (by (first | omega | (simp; done) | (simp; omega))) ?_))
  case round =>
    obtain ⟨k, hk, rfl, hB, hW⟩ := hrel
    have hWs := hW.size
    have hlt0 := hB.lt
    have HW := Lib.hid hW
    clear hW h00
    by_cases hlt : k < 32
    · have hc := (hB.cell k).trans (bools_get _ k (by rw [Rf.tab_length]; exact hlt))
      have hf := hB.frozen k
      have HB := Lib.hid hB
      clear hB
      have hgk := Hgk.out k
      cases hx : Rf.bit a k
      all_goals
        cases hy : Rf.bit b k
        all_goals
          rw [hx, hy] at hgk
          have Hgk' := Lib.hid hgk
          clear hgk
          go_wp2_with (first | (go_at_call 74; refine (Bit_any _ _ (by omega) (by omega) _).mono ?_; rintro e w1 ⟨rfl, rfl⟩))
          go_roundw
          case rel =>
            refine ⟨k + 1, by omega, by go_num, ?_, bl_set (Nat.le_refl _) HW.out _⟩
            rw [← Rf.tab_succ, ← bools_set, Hgk'.out]
            exact HB.out.set_ k _
          case measure => simp [intOf]; omega
    · obtain rfl : k = 32 := by omega
      have HB := Lib.hid hB
      clear hB
      go_wp2_with (first | (go_at_call 75; refine' Calls.mono (Word_any _ ?_ _) ?_; (next => simp [Rf.tab_length]); rintro e w1 ⟨rfl, hb⟩; have hcf := bcell hb; have hz := hb.size; (try simp only [World.size_alloc, World.size_setCell, World.size_drew] at hz); have hbh := Lib.hid hb; clear hb; obtain ⟨hc, hf⟩ := hcf) | (refine wpList_load_row (by rfl) 103 _ (by rfl) w.heap.size (by rfl) 103 _ (0, 0) _ HB.out Try.underlying103 (by rfl) (by simp [bools, Rf.tab_length, Try.infoBools]) ?_))
      go_ret
      refine ⟨rfl, ?_⟩
      (repeat' (first | exact Below.refl _ _ | refine bl_set (by (first | omega | (simp; done) | (simp; omega))) ?_ _ | refine bl_alloc (by (first | omega | (simp; done) | (simp; omega))) ?_ _ | refine bl_drewN ?_ _ | refine bl_drew ?_ | refine bl_then (by assumption) ?_ (by (first | omega | (simp; done) | (simp; omega))) | refine Step.bl (by assumption) (by assumption) (by (first | omega | (simp; done) | (simp; omega))) (by (first | omega | (simp; done) | (simp; omega))) ?_))
set_option maxHeartbeats 2000000 in
theorem Both2_any (a b : Int) (h0 : 0 ≤ a) (h1 : a < 4294967296) (h2 : 0 ≤ b) (h3 : b < 4294967296) (w : World) : Calls Try.prog 21 #[.int .u32 a, .int .u32 b, .int .i64 2] w fun e w' => e = .returned (.int .u32 (Rf.both a b 2)) ∧ Below w.heap.size w w' := by
  obtain ⟨g, hg⟩ : ∃ g : Nat → Bool, g = fun i : Nat => (Rf.bit a i != Rf.bit b i) := ⟨_, rfl⟩
  have hfin : Rf.both a b 2 = Rf.word (Rf.tab g 32 32) := by rw [Rf.tab_full, hg]; rfl
  rw [hfin]
  have Hgk : Hid (∀ k : Nat, g k = (Rf.bit a k != Rf.bit b k)) := fun k => by rw [hg]
  clear hg hfin
  have h00 := bools_tab_zero g
  go_enter Try.func21, Try.ntmps21
  go_wp2_with fail
  go_loopw [8] (fun i wr => ∃ k : Nat, k ≤ 32 ∧ i = .int .i64 k ∧ Blk wr w.heap.size 103 (bools (Rf.tab g 32 k)).toArray ∧ Below w.heap.size w wr) (fun i _ => 32 - (intOf i).toNat)
  case atStart =>
    refine ⟨0, Nat.zero_le _, rfl, ?_, ?_⟩
    · rw [h00]; exact Blk.new _ _ _
    · (repeat' (first | exact Below.refl _ _ | refine bl_set (by (first | omega | (simp; done) | (simp; omega))) ?_ _ | refine bl_alloc (by (first | omega | (simp; done) | (simp; omega))) ?_ _ | refine bl_drewN ?_ _ | refine bl_drew ?_ | refine bl_then (by assumption) ?_ (by (first | omega | (simp; done) | (simp; omega))) | refine Step.bl (by assumption) (by assumption) (by (first | omega | (simp; done) | (simp; omega))) (by (first | omega | (simp; done) | (simp; omega))) ?_))
  case round =>
    obtain ⟨k, hk, rfl, hB, hW⟩ := hrel
    have hWs := hW.size
    have hlt0 := hB.lt
    have HW := Lib.hid hW
    clear hW h00
    by_cases hlt : k < 32
    · have hc := (hB.cell k).trans (bools_get _ k (by rw [Rf.tab_length]; exact hlt))
      have hf := hB.frozen k
      have HB := Lib.hid hB
      clear hB
      have hgk := Hgk.out k
      cases hx : Rf.bit a k
      all_goals
        cases hy : Rf.bit b k
        all_goals
          rw [hx, hy] at hgk
          have Hgk' := Lib.hid hgk
          clear hgk
          go_wp2_with (first | (go_at_call 74; refine (Bit_any _ _ (by omega) (by omega) _).mono ?_; rintro e w1 ⟨rfl, rfl⟩))
          go_roundw
          case rel =>
            refine ⟨k + 1, by omega, by go_num, ?_, bl_set (Nat.le_refl _) HW.out _⟩
            rw [← Rf.tab_succ, ← bools_set, Hgk'.out]
            exact HB.out.set_ k _
          case measure => simp [intOf]; omega
    · obtain rfl : k = 32 := by omega
      have HB := Lib.hid hB
      clear hB
      go_wp2_with (first | (go_at_call 75; refine' Calls.mono (Word_any _ ?_ _) ?_; (next => simp [Rf.tab_length]); rintro e w1 ⟨rfl, hb⟩; have hcf := bcell hb; have hz := hb.size; (try simp only [World.size_alloc, World.size_setCell, World.size_drew] at hz); have hbh := Lib.hid hb; clear hb; obtain ⟨hc, hf⟩ := hcf) | (refine wpList_load_row (by rfl) 103 _ (by rfl) w.heap.size (by rfl) 103 _ (0, 0) _ HB.out Try.underlying103 (by rfl) (by simp [bools, Rf.tab_length, Try.infoBools]) ?_))
      go_ret
      refine ⟨rfl, ?_⟩
      (repeat' (first | exact Below.refl _ _ | refine bl_set (by (first | omega | (simp; done) | (simp; omega))) ?_ _ | refine bl_alloc (by (first | omega | (simp; done) | (simp; omega))) ?_ _ | refine bl_drewN ?_ _ | refine bl_drew ?_ | refine bl_then (by assumption) ?_ (by (first | omega | (simp; done) | (simp; omega))) | refine Step.bl (by assumption) (by assumption) (by (first | omega | (simp; done) | (simp; omega))) (by (first | omega | (simp; done) | (simp; omega))) ?_))
set_option maxHeartbeats 2000000 in
theorem RSel_any (m a b : Int) (h0 : 0 ≤ a) (h1 : a < 4294967296) (h2 : 0 ≤ b) (h3 : b < 4294967296) (h4 : 0 ≤ m) (h5 : m < 4294967296) (w : World) : Calls Try.prog 32 #[.int .u32 m, .int .u32 a, .int .u32 b] w fun e w' => e = .returned (.int .u32 (Rf.sel m a b)) ∧ Below w.heap.size w w' := by
  obtain ⟨g, hg⟩ : ∃ g : Nat → Bool, g = fun i : Nat => (if Rf.bit m i then Rf.bit a i else Rf.bit b i) := ⟨_, rfl⟩
  have hfin : Rf.sel m a b = Rf.word (Rf.tab g 32 32) := by rw [Rf.tab_full, hg]; rfl
  rw [hfin]
  have Hgk : Hid (∀ k : Nat, g k = (if Rf.bit m k then Rf.bit a k else Rf.bit b k)) := fun k => by rw [hg]
  clear hg hfin
  have h00 := bools_tab_zero g
  go_enter Try.func32, Try.ntmps32
  go_wp2_with fail
  go_loopw [8] (fun i wr => ∃ k : Nat, k ≤ 32 ∧ i = .int .i64 k ∧ Blk wr w.heap.size 103 (bools (Rf.tab g 32 k)).toArray ∧ Below w.heap.size w wr) (fun i _ => 32 - (intOf i).toNat)
  case atStart =>
    refine ⟨0, Nat.zero_le _, rfl, ?_, ?_⟩
    · rw [h00]; exact Blk.new _ _ _
    · (repeat' (first | exact Below.refl _ _ | refine bl_set (by (first | omega | (simp; done) | (simp; omega))) ?_ _ | refine bl_alloc (by (first | omega | (simp; done) | (simp; omega))) ?_ _ | refine bl_drewN ?_ _ | refine bl_drew ?_ | refine bl_then (by assumption) ?_ (by (first | omega | (simp; done) | (simp; omega))) | refine Step.bl (by assumption) (by assumption) (by (first | omega | (simp; done) | (simp; omega))) (by (first | omega | (simp; done) | (simp; omega))) ?_))
  case round =>
    obtain ⟨k, hk, rfl, hB, hW⟩ := hrel
    have hWs := hW.size
    have hlt0 := hB.lt
    have HW := Lib.hid hW
    clear hW h00
    by_cases hlt : k < 32
    · have hc := (hB.cell k).trans (bools_get _ k (by rw [Rf.tab_length]; exact hlt))
      have hf := hB.frozen k
      have HB := Lib.hid hB
      clear hB
      have hgk := Hgk.out k
      cases hx : Rf.bit m k
      all_goals
        rw [hx] at hgk
        simp only [Bool.false_eq_true, if_true, if_false] at hgk
        have Hgk' := Lib.hid hgk
        clear hgk
        go_wp2_with (first | (go_at_call 74; refine (Bit_any _ _ (by omega) (by omega) _).mono ?_; rintro e w1 ⟨rfl, rfl⟩))
        go_roundw
        case rel =>
          refine ⟨k + 1, by omega, by go_num, ?_, ?_⟩
          · rw [← Rf.tab_succ, ← bools_set, Hgk'.out]
            first | exact HB.out.set_ k _ | (have hh := (HB.out.set_ k (.bool (Rf.bit b k))).set_ k (.bool (Rf.bit a k)); simpa using hh)
          · have HW' := HW.out
            first | exact bl_set (Nat.le_refl _) HW' _ | exact bl_set (Nat.le_refl _) (bl_set (Nat.le_refl _) HW' _) _
        case measure => simp [intOf]; omega
    · obtain rfl : k = 32 := by omega
      have HB := Lib.hid hB
      clear hB
      go_wp2_with (first | (go_at_call 75; refine' Calls.mono (Word_any _ ?_ _) ?_; (next => simp [Rf.tab_length]); rintro e w1 ⟨rfl, hb⟩; have hcf := bcell hb; have hz := hb.size; (try simp only [World.size_alloc, World.size_setCell, World.size_drew] at hz); have hbh := Lib.hid hb; clear hb; obtain ⟨hc, hf⟩ := hcf) | (refine wpList_load_row (by rfl) 103 _ (by rfl) w.heap.size (by rfl) 103 _ (0, 0) _ HB.out Try.underlying103 (by rfl) (by simp [bools, Rf.tab_length, Try.infoBools]) ?_))
      go_ret
      refine ⟨rfl, ?_⟩
      (repeat' (first | exact Below.refl _ _ | refine bl_set (by (first | omega | (simp; done) | (simp; omega))) ?_ _ | refine bl_alloc (by (first | omega | (simp; done) | (simp; omega))) ?_ _ | refine bl_drewN ?_ _ | refine bl_drew ?_ | refine bl_then (by assumption) ?_ (by (first | omega | (simp; done) | (simp; omega))) | refine Step.bl (by assumption) (by assumption) (by (first | omega | (simp; done) | (simp; omega))) (by (first | omega | (simp; done) | (simp; omega))) ?_))
end Go.Proofs.Ytcaaapfminenoaa
