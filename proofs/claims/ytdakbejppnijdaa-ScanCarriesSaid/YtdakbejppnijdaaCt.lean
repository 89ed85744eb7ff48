/- The calls of package ct on words: what each hands back; nothing that was there is written. No condition. -/
import Derived.Test.YtdakbejppnijdaaKit
import Derived.Test.YtdakbejppnijdaaCtDef
namespace Go.Proofs.Ytdakbejppnijdaa
open Go.RowKit
set_option linter.unusedSimpArgs false
set_option linter.unusedVariables false
attribute [local go_sem] IntKind.wrap_u32' signed_u32 max_u32
attribute [local go_sem ↓] Go.wp_at_zero Go.wp_at_succ
set_option maxHeartbeats 400000 in
theorem Of_any (n : Int) (w : World) : Calls Try.prog 62 #[.int .u32 n] w fun e w' => e = .returned (.agg #[.int .u32 n]) ∧ Below w.heap.size w w' := by
  go_enter Try.func62, Try.ntmps62
  go_wp2
  refine ret_sec rfl rfl (by simp) rfl ⟨rfl, ?_⟩
  (repeat' (first | with_reducible exact Below.refl _ _ | with_reducible refine bl_drewN ?_ _ | with_reducible refine bl_drew ?_ | refine bl_set (by (first | omega | (simp; done) | (simp; omega))) ?_ _ | refine bl_alloc (by (first | omega | (simp; done) | (simp; omega))) ?_ _ | refine bl_then (by assumption) ?_ (by (first | omega | (simp; done) | (simp; omega))) | refine Step.bl (by assumption) (by assumption) (by (first | omega | (simp; done) | (simp; omega))) (by (first | omega | (simp; done) | (simp; omega))) ?_))
set_option maxHeartbeats 400000 in
theorem And_any (a : Int) (b : Int) (w : World) : Calls Try.prog 76 #[.agg #[.int .u32 a], .agg #[.int .u32 b]] w fun e w' => e = .returned (.agg #[.int .u32 (Ct.And a b)]) ∧ Below w.heap.size w w' := by
  go_enter Try.func76, Try.ntmps76
  go_wp2_with (first | (go_at_call 62; refine (Of_any _ _).mono ?_; rintro e w1 ⟨rfl, hb⟩; have hcf := bcell hb; have hz := hb.size; (try simp only [World.size_alloc, World.size_setCell, World.size_drew] at hz); have hbh := Lib.hid hb; clear hb; obtain ⟨hc, hf⟩ := hcf))
  all_goals ((refine ret_sec rfl rfl (World.cell?_setCell_same' _ _ _ ?_) rfl ⟨rfl, ?_⟩) <;> first | (simp [go_sem, ↓IntWalk.iteOmega, *]; done) | ((repeat' (first | with_reducible exact Below.refl _ _ | with_reducible refine bl_drewN ?_ _ | with_reducible refine bl_drew ?_ | refine bl_set (by (first | omega | (simp; done) | (simp; omega))) ?_ _ | refine bl_alloc (by (first | omega | (simp; done) | (simp; omega))) ?_ _ | refine bl_then (by assumption) ?_ (by (first | omega | (simp; done) | (simp; omega))))); done))
set_option maxHeartbeats 400000 in
theorem Or_any (a : Int) (b : Int) (w : World) : Calls Try.prog 66 #[.agg #[.int .u32 a], .agg #[.int .u32 b]] w fun e w' => e = .returned (.agg #[.int .u32 (Ct.Or a b)]) ∧ Below w.heap.size w w' := by
  go_enter Try.func66, Try.ntmps66
  go_wp2_with (first | (go_at_call 62; refine (Of_any _ _).mono ?_; rintro e w1 ⟨rfl, hb⟩; have hcf := bcell hb; have hz := hb.size; (try simp only [World.size_alloc, World.size_setCell, World.size_drew] at hz); have hbh := Lib.hid hb; clear hb; obtain ⟨hc, hf⟩ := hcf))
  all_goals ((refine ret_sec rfl rfl (World.cell?_setCell_same' _ _ _ ?_) rfl ⟨rfl, ?_⟩) <;> first | (simp [go_sem, ↓IntWalk.iteOmega, *]; done) | ((repeat' (first | with_reducible exact Below.refl _ _ | with_reducible refine bl_drewN ?_ _ | with_reducible refine bl_drew ?_ | refine bl_set (by (first | omega | (simp; done) | (simp; omega))) ?_ _ | refine bl_alloc (by (first | omega | (simp; done) | (simp; omega))) ?_ _ | refine bl_then (by assumption) ?_ (by (first | omega | (simp; done) | (simp; omega))))); done))
set_option maxHeartbeats 400000 in
theorem Xor_any (a : Int) (b : Int) (w : World) : Calls Try.prog 82 #[.agg #[.int .u32 a], .agg #[.int .u32 b]] w fun e w' => e = .returned (.agg #[.int .u32 (Ct.Xor a b)]) ∧ Below w.heap.size w w' := by
  go_enter Try.func82, Try.ntmps82
  go_wp2_with (first | (go_at_call 62; refine (Of_any _ _).mono ?_; rintro e w1 ⟨rfl, hb⟩; have hcf := bcell hb; have hz := hb.size; (try simp only [World.size_alloc, World.size_setCell, World.size_drew] at hz); have hbh := Lib.hid hb; clear hb; obtain ⟨hc, hf⟩ := hcf))
  all_goals ((refine ret_sec rfl rfl (World.cell?_setCell_same' _ _ _ ?_) rfl ⟨rfl, ?_⟩) <;> first | (simp [go_sem, ↓IntWalk.iteOmega, *]; done) | ((repeat' (first | with_reducible exact Below.refl _ _ | with_reducible refine bl_drewN ?_ _ | with_reducible refine bl_drew ?_ | refine bl_set (by (first | omega | (simp; done) | (simp; omega))) ?_ _ | refine bl_alloc (by (first | omega | (simp; done) | (simp; omega))) ?_ _ | refine bl_then (by assumption) ?_ (by (first | omega | (simp; done) | (simp; omega))))); done))
set_option maxHeartbeats 400000 in
theorem Add_any (a : Int) (b : Int) (w : World) : Calls Try.prog 65 #[.agg #[.int .u32 a], .agg #[.int .u32 b]] w fun e w' => e = .returned (.agg #[.int .u32 (Ct.Add a b)]) ∧ Below w.heap.size w w' := by
  go_enter Try.func65, Try.ntmps65
  go_wp2_with (first | (go_at_call 62; refine (Of_any _ _).mono ?_; rintro e w1 ⟨rfl, hb⟩; have hcf := bcell hb; have hz := hb.size; (try simp only [World.size_alloc, World.size_setCell, World.size_drew] at hz); have hbh := Lib.hid hb; clear hb; obtain ⟨hc, hf⟩ := hcf))
  all_goals ((refine ret_sec rfl rfl (World.cell?_setCell_same' _ _ _ ?_) rfl ⟨rfl, ?_⟩) <;> first | (simp [go_sem, ↓IntWalk.iteOmega, *]; done) | ((repeat' (first | with_reducible exact Below.refl _ _ | with_reducible refine bl_drewN ?_ _ | with_reducible refine bl_drew ?_ | refine bl_set (by (first | omega | (simp; done) | (simp; omega))) ?_ _ | refine bl_alloc (by (first | omega | (simp; done) | (simp; omega))) ?_ _ | refine bl_then (by assumption) ?_ (by (first | omega | (simp; done) | (simp; omega))))); done))
set_option maxHeartbeats 400000 in
theorem Sub_any (a : Int) (b : Int) (w : World) : Calls Try.prog 90 #[.agg #[.int .u32 a], .agg #[.int .u32 b]] w fun e w' => e = .returned (.agg #[.int .u32 (Ct.Sub a b)]) ∧ Below w.heap.size w w' := by
  go_enter Try.func90, Try.ntmps90
  go_wp2_with (first | (go_at_call 62; refine (Of_any _ _).mono ?_; rintro e w1 ⟨rfl, hb⟩; have hcf := bcell hb; have hz := hb.size; (try simp only [World.size_alloc, World.size_setCell, World.size_drew] at hz); have hbh := Lib.hid hb; clear hb; obtain ⟨hc, hf⟩ := hcf))
  all_goals ((refine ret_sec rfl rfl (World.cell?_setCell_same' _ _ _ ?_) rfl ⟨rfl, ?_⟩) <;> first | (simp [go_sem, ↓IntWalk.iteOmega, *]; done) | ((repeat' (first | with_reducible exact Below.refl _ _ | with_reducible refine bl_drewN ?_ _ | with_reducible refine bl_drew ?_ | refine bl_set (by (first | omega | (simp; done) | (simp; omega))) ?_ _ | refine bl_alloc (by (first | omega | (simp; done) | (simp; omega))) ?_ _ | refine bl_then (by assumption) ?_ (by (first | omega | (simp; done) | (simp; omega))))); done))
set_option maxHeartbeats 400000 in
theorem Not_any (a : Int) (w : World) : Calls Try.prog 114 #[.agg #[.int .u32 a]] w fun e w' => e = .returned (.agg #[.int .u32 (Ct.Not a)]) ∧ Below w.heap.size w w' := by
  go_enter Try.func114, Try.ntmps114
  go_wp2_with (first | (go_at_call 62; refine (Of_any _ _).mono ?_; rintro e w1 ⟨rfl, hb⟩; have hcf := bcell hb; have hz := hb.size; (try simp only [World.size_alloc, World.size_setCell, World.size_drew] at hz); have hbh := Lib.hid hb; clear hb; obtain ⟨hc, hf⟩ := hcf))
  all_goals ((refine ret_sec rfl rfl (World.cell?_setCell_same' _ _ _ ?_) rfl ⟨rfl, ?_⟩) <;> first | (simp [go_sem, ↓IntWalk.iteOmega, *]; done) | ((repeat' (first | with_reducible exact Below.refl _ _ | with_reducible refine bl_drewN ?_ _ | with_reducible refine bl_drew ?_ | refine bl_set (by (first | omega | (simp; done) | (simp; omega))) ?_ _ | refine bl_alloc (by (first | omega | (simp; done) | (simp; omega))) ?_ _ | refine bl_then (by assumption) ?_ (by (first | omega | (simp; done) | (simp; omega))))); done))
set_option maxHeartbeats 400000 in
theorem spread_any (v : Int) (w : World) : Calls Try.prog 128 #[.int .u32 v] w fun e w' => e = .returned (.agg #[.int .u32 (Ct.spread v)]) ∧ Below w.heap.size w w' := by
  go_enter Try.func128, Try.ntmps128
  go_wp2_with (first | (go_at_call 62; refine (Of_any _ _).mono ?_; rintro e w1 ⟨rfl, hb⟩; have hcf := bcell hb; have hz := hb.size; (try simp only [World.size_alloc, World.size_setCell, World.size_drew] at hz); have hbh := Lib.hid hb; clear hb; obtain ⟨hc, hf⟩ := hcf))
  all_goals ((refine ret_sec rfl rfl (World.cell?_setCell_same' _ _ _ ?_) rfl ⟨rfl, ?_⟩) <;> first | (simp [go_sem, ↓IntWalk.iteOmega, *]; done) | ((repeat' (first | with_reducible exact Below.refl _ _ | with_reducible refine bl_drewN ?_ _ | with_reducible refine bl_drew ?_ | refine bl_set (by (first | omega | (simp; done) | (simp; omega))) ?_ _ | refine bl_alloc (by (first | omega | (simp; done) | (simp; omega))) ?_ _ | refine bl_then (by assumption) ?_ (by (first | omega | (simp; done) | (simp; omega))))); done))
set_option maxHeartbeats 400000 in
theorem Zero_any (a : Int) (w : World) : Calls Try.prog 115 #[.agg #[.int .u32 a]] w fun e w' => e = .returned (.agg #[.int .u32 (Ct.Zero a)]) ∧ Below w.heap.size w w' := by
  go_enter Try.func115, Try.ntmps115
  go_wp2_with (first | (go_at_call 128; refine (spread_any _ _).mono ?_; rintro e w1 ⟨rfl, hb⟩; have hcf := bcell hb; have hz := hb.size; (try simp only [World.size_alloc, World.size_setCell, World.size_drew] at hz); have hbh := Lib.hid hb; clear hb; obtain ⟨hc, hf⟩ := hcf) | (go_at_call 114; refine (Not_any _ _).mono ?_; rintro e w1 ⟨rfl, hb⟩; have hcf := bcell hb; have hz := hb.size; (try simp only [World.size_alloc, World.size_setCell, World.size_drew] at hz); have hbh := Lib.hid hb; clear hb; obtain ⟨hc, hf⟩ := hcf))
  all_goals ((refine ret_sec rfl rfl (World.cell?_setCell_same' _ _ _ ?_) rfl ⟨rfl, ?_⟩) <;> first | (simp [go_sem, ↓IntWalk.iteOmega, *]; done) | ((repeat' (first | with_reducible exact Below.refl _ _ | with_reducible refine bl_drewN ?_ _ | with_reducible refine bl_drew ?_ | refine bl_set (by (first | omega | (simp; done) | (simp; omega))) ?_ _ | refine bl_alloc (by (first | omega | (simp; done) | (simp; omega))) ?_ _ | refine bl_then (by assumption) ?_ (by (first | omega | (simp; done) | (simp; omega))))); done))
set_option maxHeartbeats 400000 in
theorem Eq_any (a : Int) (b : Int) (w : World) : Calls Try.prog 124 #[.agg #[.int .u32 a], .agg #[.int .u32 b]] w fun e w' => e = .returned (.agg #[.int .u32 (Ct.Eq a b)]) ∧ Below w.heap.size w w' := by
  go_enter Try.func124, Try.ntmps124
  go_wp2_with (first | (go_at_call 82; refine (Xor_any _ _ _).mono ?_; rintro e w1 ⟨rfl, hb⟩; have hcf := bcell hb; have hz := hb.size; (try simp only [World.size_alloc, World.size_setCell, World.size_drew] at hz); have hbh := Lib.hid hb; clear hb; obtain ⟨hc, hf⟩ := hcf) | (go_at_call 115; refine (Zero_any _ _).mono ?_; rintro e w1 ⟨rfl, hb⟩; have hcf := bcell hb; have hz := hb.size; (try simp only [World.size_alloc, World.size_setCell, World.size_drew] at hz); have hbh := Lib.hid hb; clear hb; obtain ⟨hc, hf⟩ := hcf))
  all_goals ((refine ret_sec rfl rfl (World.cell?_setCell_same' _ _ _ ?_) rfl ⟨rfl, ?_⟩) <;> first | (simp [go_sem, ↓IntWalk.iteOmega, *]; done) | ((repeat' (first | with_reducible exact Below.refl _ _ | with_reducible refine bl_drewN ?_ _ | with_reducible refine bl_drew ?_ | refine bl_set (by (first | omega | (simp; done) | (simp; omega))) ?_ _ | refine bl_alloc (by (first | omega | (simp; done) | (simp; omega))) ?_ _ | refine bl_then (by assumption) ?_ (by (first | omega | (simp; done) | (simp; omega))))); done))
set_option maxHeartbeats 400000 in
theorem Lt_any (a : Int) (b : Int) (w : World) : Calls Try.prog 131 #[.agg #[.int .u32 a], .agg #[.int .u32 b]] w fun e w' => e = .returned (.agg #[.int .u32 (Ct.Lt a b)]) ∧ Below w.heap.size w w' := by
  go_enter Try.func131, Try.ntmps131
  go_wp2_with (first | (go_at_call 128; refine (spread_any _ _).mono ?_; rintro e w1 ⟨rfl, hb⟩; have hcf := bcell hb; have hz := hb.size; (try simp only [World.size_alloc, World.size_setCell, World.size_drew] at hz); have hbh := Lib.hid hb; clear hb; obtain ⟨hc, hf⟩ := hcf))
  all_goals ((refine ret_sec rfl rfl (World.cell?_setCell_same' _ _ _ ?_) rfl ⟨rfl, ?_⟩) <;> first | (simp [go_sem, ↓IntWalk.iteOmega, *]; done) | ((repeat' (first | with_reducible exact Below.refl _ _ | with_reducible refine bl_drewN ?_ _ | with_reducible refine bl_drew ?_ | refine bl_set (by (first | omega | (simp; done) | (simp; omega))) ?_ _ | refine bl_alloc (by (first | omega | (simp; done) | (simp; omega))) ?_ _ | refine bl_then (by assumption) ?_ (by (first | omega | (simp; done) | (simp; omega))))); done))
set_option maxHeartbeats 400000 in
theorem Sel_any (m : Int) (a : Int) (b : Int) (w : World) : Calls Try.prog 111 #[.agg #[.int .u32 m], .agg #[.int .u32 a], .agg #[.int .u32 b]] w fun e w' => e = .returned (.agg #[.int .u32 (Ct.Sel m a b)]) ∧ Below w.heap.size w w' := by
  go_enter Try.func111, Try.ntmps111
  go_wp2_with (first | (go_at_call 62; refine (Of_any _ _).mono ?_; rintro e w1 ⟨rfl, hb⟩; have hcf := bcell hb; have hz := hb.size; (try simp only [World.size_alloc, World.size_setCell, World.size_drew] at hz); have hbh := Lib.hid hb; clear hb; obtain ⟨hc, hf⟩ := hcf))
  all_goals ((refine ret_sec rfl rfl (World.cell?_setCell_same' _ _ _ ?_) rfl ⟨rfl, ?_⟩) <;> first | (simp [go_sem, ↓IntWalk.iteOmega, *]; done) | ((repeat' (first | with_reducible exact Below.refl _ _ | with_reducible refine bl_drewN ?_ _ | with_reducible refine bl_drew ?_ | refine bl_set (by (first | omega | (simp; done) | (simp; omega))) ?_ _ | refine bl_alloc (by (first | omega | (simp; done) | (simp; omega))) ?_ _ | refine bl_then (by assumption) ?_ (by (first | omega | (simp; done) | (simp; omega))))); done))
set_option maxHeartbeats 400000 in
theorem Shl_any (a n : Int) (w : World) : Calls Try.prog 121 #[.agg #[.int .u32 a], .int .i64 n] w fun e w' => e = .returned (.agg #[.int .u32 (Ct.Shl a n)]) ∧ Below w.heap.size w w' := by
  by_cases h1 : 31 < n
  · rw [show Ct.Shl a n = 0 by unfold Ct.Shl; rw [if_pos h1]]
    go_enter Try.func121, Try.ntmps121
    go_wp2_with (first | (go_at_call 62; refine (Of_any _ _).mono ?_; rintro e w1 ⟨rfl, hb⟩; have hcf := bcell hb; have hz := hb.size; (try simp only [World.size_alloc, World.size_setCell, World.size_drew] at hz); have hbh := Lib.hid hb; clear hb; obtain ⟨hc, hf⟩ := hcf))
    ((refine ret_sec rfl rfl (World.cell?_setCell_same' _ _ _ ?_) rfl ⟨rfl, ?_⟩) <;> first | (simp [go_sem, ↓IntWalk.iteOmega, *]; done) | ((repeat' (first | with_reducible exact Below.refl _ _ | with_reducible refine bl_drewN ?_ _ | with_reducible refine bl_drew ?_ | refine bl_set (by (first | omega | (simp; done) | (simp; omega))) ?_ _ | refine bl_alloc (by (first | omega | (simp; done) | (simp; omega))) ?_ _ | refine bl_then (by assumption) ?_ (by (first | omega | (simp; done) | (simp; omega))))); done))
  · by_cases h2 : n < 1
    · rw [show Ct.Shl a n = a by unfold Ct.Shl; rw [if_neg h1, if_pos h2]]
      go_enter Try.func121, Try.ntmps121
      go_wp2_with (first | (go_at_call 62; refine (Of_any _ _).mono ?_; rintro e w1 ⟨rfl, hb⟩; have hcf := bcell hb; have hz := hb.size; (try simp only [World.size_alloc, World.size_setCell, World.size_drew] at hz); have hbh := Lib.hid hb; clear hb; obtain ⟨hc, hf⟩ := hcf))
      refine ret_sec rfl rfl ?_ rfl ⟨rfl, ?_⟩ <;> first | (simp [go_sem, ↓IntWalk.iteOmega, *]; done) | ((repeat' (first | with_reducible exact Below.refl _ _ | with_reducible refine bl_drewN ?_ _ | with_reducible refine bl_drew ?_ | refine bl_set (by (first | omega | (simp; done) | (simp; omega))) ?_ _ | refine bl_alloc (by (first | omega | (simp; done) | (simp; omega))) ?_ _ | refine bl_then (by assumption) ?_ (by (first | omega | (simp; done) | (simp; omega))) | refine Step.bl (by assumption) (by assumption) (by (first | omega | (simp; done) | (simp; omega))) (by (first | omega | (simp; done) | (simp; omega))) ?_)); done)
    · rw [show Ct.Shl a n = (a * 2 ^ n.toNat) % 4294967296 by unfold Ct.Shl; rw [if_neg h1, if_neg h2]]
      go_enter Try.func121, Try.ntmps121
      go_wp2_with (first | (go_at_call 62; refine (Of_any _ _).mono ?_; rintro e w1 ⟨rfl, hb⟩; have hcf := bcell hb; have hz := hb.size; (try simp only [World.size_alloc, World.size_setCell, World.size_drew] at hz); have hbh := Lib.hid hb; clear hb; obtain ⟨hc, hf⟩ := hcf))
      ((refine ret_sec rfl rfl (World.cell?_setCell_same' _ _ _ ?_) rfl ⟨rfl, ?_⟩) <;> first | (simp [go_sem, ↓IntWalk.iteOmega, *]; done) | ((repeat' (first | with_reducible exact Below.refl _ _ | with_reducible refine bl_drewN ?_ _ | with_reducible refine bl_drew ?_ | refine bl_set (by (first | omega | (simp; done) | (simp; omega))) ?_ _ | refine bl_alloc (by (first | omega | (simp; done) | (simp; omega))) ?_ _ | refine bl_then (by assumption) ?_ (by (first | omega | (simp; done) | (simp; omega))))); done))
set_option maxHeartbeats 400000 in
theorem Shr_any (a n : Int) (w : World) : Calls Try.prog 104 #[.agg #[.int .u32 a], .int .i64 n] w fun e w' => e = .returned (.agg #[.int .u32 (Ct.Shr a n)]) ∧ Below w.heap.size w w' := by
  by_cases h1 : 31 < n
  · rw [show Ct.Shr a n = 0 by unfold Ct.Shr; rw [if_pos h1]]
    go_enter Try.func104, Try.ntmps104
    go_wp2_with (first | (go_at_call 62; refine (Of_any _ _).mono ?_; rintro e w1 ⟨rfl, hb⟩; have hcf := bcell hb; have hz := hb.size; (try simp only [World.size_alloc, World.size_setCell, World.size_drew] at hz); have hbh := Lib.hid hb; clear hb; obtain ⟨hc, hf⟩ := hcf))
    ((refine ret_sec rfl rfl (World.cell?_setCell_same' _ _ _ ?_) rfl ⟨rfl, ?_⟩) <;> first | (simp [go_sem, ↓IntWalk.iteOmega, *]; done) | ((repeat' (first | with_reducible exact Below.refl _ _ | with_reducible refine bl_drewN ?_ _ | with_reducible refine bl_drew ?_ | refine bl_set (by (first | omega | (simp; done) | (simp; omega))) ?_ _ | refine bl_alloc (by (first | omega | (simp; done) | (simp; omega))) ?_ _ | refine bl_then (by assumption) ?_ (by (first | omega | (simp; done) | (simp; omega))))); done))
  · by_cases h2 : n < 1
    · rw [show Ct.Shr a n = a by unfold Ct.Shr; rw [if_neg h1, if_pos h2]]
      go_enter Try.func104, Try.ntmps104
      go_wp2_with (first | (go_at_call 62; refine (Of_any _ _).mono ?_; rintro e w1 ⟨rfl, hb⟩; have hcf := bcell hb; have hz := hb.size; (try simp only [World.size_alloc, World.size_setCell, World.size_drew] at hz); have hbh := Lib.hid hb; clear hb; obtain ⟨hc, hf⟩ := hcf))
      refine ret_sec rfl rfl ?_ rfl ⟨rfl, ?_⟩ <;> first | (simp [go_sem, ↓IntWalk.iteOmega, *]; done) | ((repeat' (first | with_reducible exact Below.refl _ _ | with_reducible refine bl_drewN ?_ _ | with_reducible refine bl_drew ?_ | refine bl_set (by (first | omega | (simp; done) | (simp; omega))) ?_ _ | refine bl_alloc (by (first | omega | (simp; done) | (simp; omega))) ?_ _ | refine bl_then (by assumption) ?_ (by (first | omega | (simp; done) | (simp; omega))) | refine Step.bl (by assumption) (by assumption) (by (first | omega | (simp; done) | (simp; omega))) (by (first | omega | (simp; done) | (simp; omega))) ?_)); done)
    · rw [show Ct.Shr a n = a / 2 ^ n.toNat by unfold Ct.Shr; rw [if_neg h1, if_neg h2]]
      go_enter Try.func104, Try.ntmps104
      go_wp2_with (first | (go_at_call 62; refine (Of_any _ _).mono ?_; rintro e w1 ⟨rfl, hb⟩; have hcf := bcell hb; have hz := hb.size; (try simp only [World.size_alloc, World.size_setCell, World.size_drew] at hz); have hbh := Lib.hid hb; clear hb; obtain ⟨hc, hf⟩ := hcf))
      ((refine ret_sec rfl rfl (World.cell?_setCell_same' _ _ _ ?_) rfl ⟨rfl, ?_⟩) <;> first | (simp [go_sem, ↓IntWalk.iteOmega, *]; done) | ((repeat' (first | with_reducible exact Below.refl _ _ | with_reducible refine bl_drewN ?_ _ | with_reducible refine bl_drew ?_ | refine bl_set (by (first | omega | (simp; done) | (simp; omega))) ?_ _ | refine bl_alloc (by (first | omega | (simp; done) | (simp; omega))) ?_ _ | refine bl_then (by assumption) ?_ (by (first | omega | (simp; done) | (simp; omega))))); done))
end Go.Proofs.Ytdakbejppnijdaa
