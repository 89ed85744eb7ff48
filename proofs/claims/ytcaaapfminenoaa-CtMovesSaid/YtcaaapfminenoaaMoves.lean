/- Layer 1: words moved and turned round: the law's call. The number is any int. -/
import Derived.Test.YtcaaapfminenoaaLaw01
namespace Go.Proofs.Ytcaaapfminenoaa
open Go.RowKit
set_option linter.unusedSimpArgs false
set_option linter.unusedVariables false
attribute [local go_sem] IntKind.wrap_u32' signed_u32 max_u32
def Ct.Rot (a r : Int) : Int := Ct.Or (Ct.Shr a r) (a * 2 ^ (32 - r).toNat % 4294967296)
theorem and31 (n : Int) : bits .and .i64 n 31 = n % 32 := by
  unfold bits
  have h1 : ((BitVec.ofInt IntKind.i64.bits n) &&& (BitVec.ofInt IntKind.i64.bits 31)).toNat = (n % 32).toNat := by
    show ((BitVec.ofInt 64 n) &&& (BitVec.ofInt 64 31)).toNat = _
    rw [BitVec.toNat_and, show (BitVec.ofInt 64 31).toNat = 31 by decide, nat_mask5, BitVec.toNat_ofInt]
    omega
  show IntKind.i64.wrap (((BitVec.ofInt IntKind.i64.bits n) &&& (BitVec.ofInt IntKind.i64.bits 31)).toNat : Int) = _
  rw [h1, IntKind.wrap_i64]
  omega
set_option maxHeartbeats 1000000 in
theorem Rot_any (a n r : Int) (hr : n % 32 = r) (w : World) : Calls Try.prog 36 #[.agg #[.int .u32 a], .int .i64 n] w fun e w' => e = .returned (.agg #[.int .u32 (Ct.Rot a r)]) ∧ Below w.heap.size w w' := by
  have hb : bits .and .i64 n 31 = r := by rw [and31, hr]
  have h0 : 0 ≤ r := by omega
  have h1 : r < 32 := by omega
  have hw : IntKind.i64.wrap (32 - r) = 32 - r := by rw [IntKind.wrap_i64]; omega
  clear hr
  go_enter Try.func36, Try.ntmps36
  go_wp2_with fail
  go_region_held3 (fun w' => w'.cell? ⟨w.heap.size, 0, none⟩ = some (.int .u32 a)) ((simp [go_sem, ↓IntWalk.iteOmega, *]; done)) (first | (go_at_call 16; refine (Of_any _ _).mono ?_; rintro e w1 ⟨rfl, hb⟩; have hcf := bcell hb; have hz := hb.size; (try simp only [World.size_alloc, World.size_setCell, World.size_drew] at hz); have hbh := Lib.hid hb; clear hb; obtain ⟨hc, hf⟩ := hcf) | (go_at_call 35; refine (Shr_any _ _ _).mono ?_; rintro e w1 ⟨rfl, hb⟩; have hcf := bcell hb; have hz := hb.size; (try simp only [World.size_alloc, World.size_setCell, World.size_drew] at hz); have hbh := Lib.hid hb; clear hb; obtain ⟨hc, hf⟩ := hcf) | (go_at_call 22; refine (Or_any _ _ _).mono ?_; rintro e w1 ⟨rfl, hb⟩; have hcf := bcell hb; have hz := hb.size; (try simp only [World.size_alloc, World.size_setCell, World.size_drew] at hz); have hbh := Lib.hid hb; clear hb; obtain ⟨hc, hf⟩ := hcf))
  go_wp2_with fail
  ((refine ret_sec rfl rfl (World.cell?_setCell_same' _ _ _ ?_) rfl ⟨rfl, ?_⟩) <;> first | (simp [go_sem, ↓IntWalk.iteOmega, *]; done) | ((repeat' (first | exact Below.refl _ _ | refine bl_set (by (first | omega | (simp; done) | (simp; omega))) ?_ _ | refine bl_alloc (by (first | omega | (simp; done) | (simp; omega))) ?_ _ | refine bl_drewN ?_ _ | refine bl_drew ?_ | refine bl_then (by assumption) ?_ (by (first | omega | (simp; done) | (simp; omega))))); done))
set_option maxHeartbeats 1000000 in
theorem RRot_any (a n r : Int) (hr : n % 32 = r) (ha : 0 ≤ a) (ha' : a < 4294967296) (w : World) : Calls Try.prog 37 #[.int .u32 a, .int .i64 n] w fun e w' => e = .returned (.int .u32 (Rf.both (Rf.move a r) (Rf.move a (r - 32)) 1)) ∧ Below w.heap.size w w' := by
  have h0 : 0 ≤ r := by omega
  have h1 : r < 32 := by omega
  have hm := Rf.of_range fun i => Rf.bit a (i + r)
  have hm' := Rf.of_range fun i => Rf.bit a (i + (r - 32))
  change 0 ≤ Rf.move a r ∧ Rf.move a r < 4294967296 at hm
  change 0 ≤ Rf.move a (r - 32) ∧ Rf.move a (r - 32) < 4294967296 at hm'
  obtain ⟨hm1, hm2⟩ := hm
  obtain ⟨hm3, hm4⟩ := hm'
  by_cases hn : 0 ≤ n
  · have ht : n.tmod 32 = r := by rw [Int.tmod_eq_emod_of_nonneg hn, hr]
    go_enter Try.func37, Try.ntmps37
    go_wp2_with (first | (go_at_call 34; ((with_reducible refine (Move_any _ _ (by omega) (by omega) (by omega) (by omega) _).mono ?_); rintro e w1 ⟨rfl, hb⟩; have hcf := bcell hb; have hz := hb.size; (try simp only [World.size_alloc, World.size_setCell, World.size_drew] at hz); have hbh := Lib.hid hb; clear hb; obtain ⟨hc, hf⟩ := hcf)) | (go_at_call 21; ((with_reducible refine (Both1_any _ _ (by omega) (by omega) (by omega) (by omega) _).mono ?_); rintro e w1 ⟨rfl, hb⟩; have hcf := bcell hb; have hz := hb.size; (try simp only [World.size_alloc, World.size_setCell, World.size_drew] at hz); have hbh := Lib.hid hb; clear hb; obtain ⟨hc, hf⟩ := hcf)))
    go_ret
    refine ⟨rfl, ?_⟩
    (repeat' (first | exact Below.refl _ _ | refine bl_set (by (first | omega | (simp; done) | (simp; omega))) ?_ _ | refine bl_alloc (by (first | omega | (simp; done) | (simp; omega))) ?_ _ | refine bl_drewN ?_ _ | refine bl_drew ?_ | refine bl_then (by assumption) ?_ (by (first | omega | (simp; done) | (simp; omega))) | refine Step.bl (by assumption) (by assumption) (by (first | omega | (simp; done) | (simp; omega))) (by (first | omega | (simp; done) | (simp; omega))) ?_))
  · have hq : n.tmod 32 = -((-n) % 32) := by
      have h5 : n.tmod 32 = -((-n).tmod 32) := by rw [Int.neg_tmod, Int.neg_neg]
      rw [h5, Int.tmod_eq_emod_of_nonneg (by omega)]
    by_cases hz : r = 0
    · have ht : n.tmod 32 = 0 := by omega
      subst hz
      have hm3' : 0 ≤ Rf.move a (-32) := hm3
      have hm4' : Rf.move a (-32) < 4294967296 := hm4
      clear hq hr hm3 hm4
      go_enter Try.func37, Try.ntmps37
      go_wp2_with (first | (go_at_call 34; ((with_reducible refine (Move_any _ _ (by omega) (by omega) (by omega) (by omega) _).mono ?_); rintro e w1 ⟨rfl, hb⟩; have hcf := bcell hb; have hz := hb.size; (try simp only [World.size_alloc, World.size_setCell, World.size_drew] at hz); have hbh := Lib.hid hb; clear hb; obtain ⟨hc, hf⟩ := hcf)) | (go_at_call 21; ((with_reducible refine (Both1_any _ _ (by omega) (by omega) (by omega) (by omega) _).mono ?_); rintro e w1 ⟨rfl, hb⟩; have hcf := bcell hb; have hz := hb.size; (try simp only [World.size_alloc, World.size_setCell, World.size_drew] at hz); have hbh := Lib.hid hb; clear hb; obtain ⟨hc, hf⟩ := hcf)))
      go_ret
      refine ⟨rfl, ?_⟩
      (repeat' (first | exact Below.refl _ _ | refine bl_set (by (first | omega | (simp; done) | (simp; omega))) ?_ _ | refine bl_alloc (by (first | omega | (simp; done) | (simp; omega))) ?_ _ | refine bl_drewN ?_ _ | refine bl_drew ?_ | refine bl_then (by assumption) ?_ (by (first | omega | (simp; done) | (simp; omega))) | refine Step.bl (by assumption) (by assumption) (by (first | omega | (simp; done) | (simp; omega))) (by (first | omega | (simp; done) | (simp; omega))) ?_))
    · have ht : n.tmod 32 = r - 32 := by omega
      clear hq hr
      go_enter Try.func37, Try.ntmps37
      go_wp2_with (first | (go_at_call 34; ((with_reducible refine (Move_any _ _ (by omega) (by omega) (by omega) (by omega) _).mono ?_); rintro e w1 ⟨rfl, hb⟩; have hcf := bcell hb; have hz := hb.size; (try simp only [World.size_alloc, World.size_setCell, World.size_drew] at hz); have hbh := Lib.hid hb; clear hb; obtain ⟨hc, hf⟩ := hcf)) | (go_at_call 21; ((with_reducible refine (Both1_any _ _ (by omega) (by omega) (by omega) (by omega) _).mono ?_); rintro e w1 ⟨rfl, hb⟩; have hcf := bcell hb; have hz := hb.size; (try simp only [World.size_alloc, World.size_setCell, World.size_drew] at hz); have hbh := Lib.hid hb; clear hb; obtain ⟨hc, hf⟩ := hcf)))
      go_ret
      refine ⟨rfl, ?_⟩
      (repeat' (first | exact Below.refl _ _ | refine bl_set (by (first | omega | (simp; done) | (simp; omega))) ?_ _ | refine bl_alloc (by (first | omega | (simp; done) | (simp; omega))) ?_ _ | refine bl_drewN ?_ _ | refine bl_drew ?_ | refine bl_then (by assumption) ?_ (by (first | omega | (simp; done) | (simp; omega))) | refine Step.bl (by assumption) (by assumption) (by (first | omega | (simp; done) | (simp; omega))) (by (first | omega | (simp; done) | (simp; omega))) ?_))
theorem move_right (x k : Nat) (hx : x < 4294967296) : Rf.move x k = ((x / 2 ^ k : Nat) : Int) := by
  refine Rf.of_eq _ _ (Nat.lt_of_le_of_lt (Nat.div_le_self _ _) hx) fun i hi => ?_
  rw [Nat.testBit_div_two_pow]
  by_cases h : i + k < 32
  · have := Rf.bit_nat x (i + k) h
    rw [Int.natCast_add] at this
    rw [this]
  · rw [Rf.bit_out x _ (.inr (by omega))]
    refine (Nat.testBit_lt_two_pow ?_).symm
    have : 2 ^ 32 ≤ 2 ^ (i + k) := Nat.pow_le_pow_right (by decide) (by omega)
    omega
theorem move_left (x k : Nat) (hx : x < 4294967296) : Rf.move x (-(k : Int)) = ((x * 2 ^ k % 4294967296 : Nat) : Int) := by
  refine Rf.of_eq _ _ (Nat.mod_lt _ (by decide)) fun i hi => ?_
  rw [show (4294967296 : Nat) = 2 ^ 32 by decide, Nat.testBit_mod_two_pow, Nat.testBit_mul_two_pow, decide_eq_true hi, Bool.true_and]
  by_cases h : k ≤ i
  · rw [decide_eq_true h, Bool.true_and]
    have := Rf.bit_nat x (i - k) (by omega)
    rw [Int.natCast_sub h] at this
    exact this
  · rw [decide_eq_false h, Bool.false_and, Rf.bit_out x _ (.inl (by omega))]
theorem shr_nat (x k : Nat) (hx : x < 4294967296) (hk : k < 32) : Ct.Shr x k = ((x / 2 ^ k : Nat) : Int) := by
  unfold Ct.Shr
  rw [if_neg (by omega)]
  by_cases h : k = 0
  · subst h; simp
  · rw [if_neg (by omega)]; simp
theorem shl_nat (x k : Nat) (hx : x < 4294967296) (hk : k < 32) : Ct.Shl x k = ((x * 2 ^ k % 4294967296 : Nat) : Int) := by
  unfold Ct.Shl
  rw [if_neg (by omega)]
  by_cases h : k = 0
  · subst h; simp; omega
  · rw [if_neg (by omega)]; simp
theorem rot_nat (x r : Nat) (hx : x < 4294967296) (hr : r < 32) : Ct.Rot x r = Rf.both (Rf.move x r) (Rf.move x ((r : Int) - 32)) 1 := by
  have h1 : (r : Int) - 32 = -((32 - r : Nat) : Int) := by omega
  have h2 : (32 - (r : Int)).toNat = 32 - r := by omega
  have h3 : x / 2 ^ r < 4294967296 := Nat.lt_of_le_of_lt (Nat.div_le_self _ _) hx
  have h4 : x * 2 ^ (32 - r) % 4294967296 < 4294967296 := Nat.mod_lt _ (by decide)
  rw [h1, move_right x r hx, move_left x _ hx, both1 _ _ h3 h4]
  unfold Ct.Rot
  rw [shr_nat x r hx hr, h2]
  simp
theorem rot_int (x : Nat) (r : Int) (hx : x < 4294967296) (h0 : 0 ≤ r) (hr : r < 32) : Ct.Rot x r = Rf.both (Rf.move x r) (Rf.move x (r - 32)) 1 := by
  obtain ⟨m, rfl⟩ := Int.eq_ofNat_of_zero_le h0
  exact rot_nat x m hx (by omega)
theorem shl_move0 (x : Nat) (n : Int) (hx : x < 4294967296) (hn : n ≤ 0) : Ct.Shl x n = Rf.move x 0 := by
  unfold Ct.Shl
  rw [if_neg (by omega), if_pos (by omega)]
  have := move_right x 0 hx
  rw [show Rf.move x 0 = Rf.move x ((0 : Nat) : Int) from rfl, this]
  simp
theorem shl_move (x : Nat) (n k : Int) (hx : x < 4294967296) (hk : k = min (max n 0) 32) : Ct.Shl x n = Rf.move x (-k) := by
  by_cases h1 : 31 < n
  · obtain rfl : k = ((32 : Nat) : Int) := by omega
    rw [move_left x 32 hx]
    unfold Ct.Shl
    rw [if_pos h1]
    omega
  · by_cases h2 : n < 1
    · obtain rfl : k = ((0 : Nat) : Int) := by omega
      rw [move_left x 0 hx]
      unfold Ct.Shl
      rw [if_neg h1, if_pos h2]
      omega
    · obtain ⟨m, rfl⟩ := Int.eq_ofNat_of_zero_le (show 0 ≤ n by omega)
      obtain rfl : k = m := by omega
      rw [move_left x m hx, shl_nat x m hx (by omega)]
theorem shr_move (x : Nat) (n k : Int) (hx : x < 4294967296) (hk : k = min (max n 0) 32) : Ct.Shr x n = Rf.move x k := by
  by_cases h1 : 31 < n
  · obtain rfl : k = ((32 : Nat) : Int) := by omega
    rw [move_right x 32 hx]
    unfold Ct.Shr
    rw [if_pos h1]
    omega
  · by_cases h2 : n < 1
    · obtain rfl : k = ((0 : Nat) : Int) := by omega
      rw [move_right x 0 hx]
      unfold Ct.Shr
      rw [if_neg h1, if_pos h2]
      simp
    · obtain ⟨m, rfl⟩ := Int.eq_ofNat_of_zero_le (show 0 ≤ n by omega)
      obtain rfl : k = m := by omega
      rw [move_right x m hx, shr_nat x m hx (by omega)]
end Go.Proofs.Ytcaaapfminenoaa
