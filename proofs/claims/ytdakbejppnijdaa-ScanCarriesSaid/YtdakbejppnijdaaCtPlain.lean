/- The words' arithmetic is the reference's. Words are below 2^32. -/
import Derived.Test.YtdakbejppnijdaaCtDef
import Derived.Test.YtdakbejppnijdaaRef01Def
import Derived.Laws.BitsAllLaws
namespace Go.Proofs.Ytdakbejppnijdaa
namespace Ct
theorem and_nat (x y : Nat) (hx : x < 4294967296) (hy : y < 4294967296) : And x y = ((x &&& y : Nat) : Int) := u32_and_nat x y hx hy
theorem or_nat (x y : Nat) (hx : x < 4294967296) (hy : y < 4294967296) : Or x y = ((x ||| y : Nat) : Int) := u32_or_nat x y hx hy
theorem xor_nat (x y : Nat) (hx : x < 4294967296) (hy : y < 4294967296) : Xor x y = ((x ^^^ y : Nat) : Int) := u32_xor_nat x y hx hy
theorem not_nat (x : Nat) (hx : x < 4294967296) : Not x = ((4294967295 ^^^ x : Nat) : Int) := u32_xor_nat 4294967295 x (by decide) hx
theorem add_nat (x y : Nat) : Add x y = (((x + y) % 4294967296 : Nat) : Int) := by unfold Add; omega
theorem sub_nat (x y : Nat) (hy : y < 4294967296) : Sub x y = (((x + (4294967296 - y)) % 4294967296 : Nat) : Int) := by unfold Sub; omega
theorem and_lt (x y : Nat) (hx : x < 4294967296) : x &&& y < 4294967296 := Nat.lt_of_le_of_lt Nat.and_le_left hx
theorem or_lt (x y : Nat) (hx : x < 4294967296) (hy : y < 4294967296) : x ||| y < 4294967296 := Nat.or_lt_two_pow (n := 32) hx hy
theorem xor_lt (x y : Nat) (hx : x < 4294967296) (hy : y < 4294967296) : x ^^^ y < 4294967296 := Nat.xor_lt_two_pow (n := 32) hx hy
theorem top_iff (x : Nat) (hx : x < 4294967296) : x.testBit 31 = decide (2147483648 ≤ x) := by
  rw [Nat.testBit_eq_decide_div_mod_eq, decide_eq_decide]
  omega
theorem spread_nat (x : Nat) (hx : x < 4294967296) : spread x = Mask (x.testBit 31) := by
  rw [top_iff x hx]
  unfold spread Mask
  by_cases h : 2147483648 ≤ x
  · rw [if_pos (by simpa using h)]; omega
  · rw [if_neg (by simpa using h)]; omega
theorem mask_nat (b : Bool) : Mask b = ((if b then 4294967295 else 0 : Nat) : Int) := by cases b <;> rfl
theorem mask_lt (b : Bool) : (if b then 4294967295 else 0 : Nat) < 4294967296 := by cases b <;> decide
theorem mask_range (b : Bool) : 0 ≤ Mask b ∧ Mask b < 4294967296 := by cases b <;> decide
theorem not_mask (b : Bool) : Not (Mask b) = Mask (!b) := by cases b <;> decide +kernel
theorem not_lt (x : Nat) (hx : x < 4294967296) : 4294967295 ^^^ x < 4294967296 := xor_lt _ _ (by decide) hx
theorem zero_nat (x : Nat) (hx : x < 4294967296) : Zero x = Mask (x == 0) := by
  unfold Zero
  have h : (-(x : Int)) % 4294967296 = (((4294967296 - x) % 4294967296 : Nat) : Int) := by omega
  have h2 : (4294967296 - x) % 4294967296 < 4294967296 := Nat.mod_lt _ (by decide)
  rw [h, or_nat x _ hx h2, spread_nat _ (or_lt _ _ hx h2), not_mask, Nat.testBit_or, top_iff x hx, top_iff _ h2]
  congr 1
  rw [Bool.eq_iff_iff]
  simp
  omega
theorem eq_nat (x y : Nat) (hx : x < 4294967296) (hy : y < 4294967296) : Eq x y = Mask (x == y) := by
  unfold Eq
  rw [xor_nat x y hx hy, zero_nat _ (xor_lt x y hx hy)]
  congr 1
  rw [Bool.eq_iff_iff]
  simp only [beq_iff_eq]
  refine ⟨fun h => ?_, fun h => by rw [h, Nat.xor_self]⟩
  have h2 : (x ^^^ y) ^^^ y = y := by rw [h, Nat.zero_xor]
  rwa [Nat.xor_assoc, Nat.xor_self, Nat.xor_zero] at h2
theorem lt_nat (x y : Nat) (hx : x < 4294967296) (hy : y < 4294967296) : Lt x y = Mask (decide (x < y)) := by
  unfold Lt
  have hn := not_lt x hx
  have hs : (x + (4294967296 - y)) % 4294967296 < 4294967296 := Nat.mod_lt _ (by decide)
  have ho := or_lt _ y hn hy
  rw [not_nat x hx, sub_nat x y hy, and_nat _ y hn hy, or_nat _ y hn hy, and_nat _ _ ho hs, or_nat _ _ (and_lt _ _ hn) (and_lt _ _ ho), spread_nat _ (or_lt _ _ (and_lt _ _ hn) (and_lt _ _ ho))]
  congr 1
  rw [Nat.testBit_or, Nat.testBit_and, Nat.testBit_and, Nat.testBit_or, Nat.testBit_xor, top_iff x hx, top_iff y hy, top_iff _ hs, show Nat.testBit 4294967295 31 = true by decide]
  rw [Bool.eq_iff_iff]
  simp
  omega
theorem sel_nat (m x y : Nat) (hm : m < 4294967296) (hx : x < 4294967296) (hy : y < 4294967296) : Sel m x y = ((y ^^^ (m &&& (x ^^^ y)) : Nat) : Int) := by
  unfold Sel
  rw [xor_nat x y hx hy, and_nat m _ hm (xor_lt x y hx hy), xor_nat y _ hy (and_lt _ _ hm)]
theorem sel_mask (b : Bool) (x y : Nat) (hx : x < 4294967296) (hy : y < 4294967296) : Sel (Mask b) x y = if b then (x : Int) else y := by
  have hxy := xor_lt x y hx hy
  rw [mask_nat, sel_nat _ x y (mask_lt b) hx hy]
  cases b
  · simp
  · simp only [if_true]
    have h : 4294967295 &&& (x ^^^ y) = x ^^^ y := by rw [nat_mask32', Nat.mod_eq_of_lt hxy]
    rw [h, Nat.xor_comm x y, ← Nat.xor_assoc, Nat.xor_self, Nat.zero_xor]
end Ct
namespace Rf
theorem wsum_range (l : List Bool) (k : Nat) : 0 ≤ wsum l k ∧ wsum l k < 4294967296 := by
  induction k with
  | zero => simp [wsum]
  | succ k ih =>
    simp only [wsum]
    split
    · exact ⟨Int.emod_nonneg _ (by decide), Int.emod_lt_of_pos _ (by decide)⟩
    · exact ih
theorem of_range (g : Nat → Bool) : 0 ≤ of g ∧ of g < 4294967296 := wsum_range _ _
theorem wsum_eq (g : Nat → Bool) (x : Nat) (hx : x < 4294967296) (h : ∀ i, i < 32 → g i = x.testBit i) (k : Nat) (hk : k ≤ 32) : wsum ((List.range 32).map g) k = ((x % 2 ^ k : Nat) : Int) := by
  induction k with
  | zero => simp [wsum, Nat.mod_one]
  | succ k ih =>
    have h1 : ((List.range 32).map g).getD k false = x.testBit k := by
      rw [List.getD_eq_getElem?_getD, List.getElem?_map, List.getElem?_range (by omega)]
      exact h k (by omega)
    have h2 : x % 2 ^ (k + 1) = x % 2 ^ k + 2 ^ k * (x.testBit k).toNat := by
      rw [Nat.mod_pow_succ, Nat.testBit_eq_decide_div_mod_eq]
      rcases Nat.mod_two_eq_zero_or_one (x / 2 ^ k) with h0 | h0 <;> simp [h0]
    have h4 : x % 2 ^ (k + 1) ≤ x := Nat.mod_le _ _
    simp only [wsum]
    rw [h1, ih (by omega), h2]
    cases hb : x.testBit k
    · simp
    · rw [hb] at h2
      simp only [Bool.toNat_true, Nat.mul_one, if_true] at h2 ⊢
      have h3 : ((2 ^ k : Nat) : Int) = (2 : Int) ^ k := by simp
      omega
theorem of_eq (g : Nat → Bool) (x : Nat) (hx : x < 4294967296) (h : ∀ i, i < 32 → g i = x.testBit i) : of g = x := by
  have := wsum_eq g x hx h 32 (Nat.le_refl _)
  rw [Nat.mod_eq_of_lt (by simpa using hx)] at this
  exact this
theorem bit_nat (x k : Nat) (hk : k < 32) : bit x k = x.testBit k := by
  rw [Nat.testBit_eq_decide_div_mod_eq]
  unfold bit
  have h : ((x : Int) / 2 ^ (k : Int).toNat % 2 = 1) ↔ (x / 2 ^ k % 2 = 1) := by
    rw [Int.toNat_natCast]
    have h1 : ((2 ^ k : Nat) : Int) = (2 : Int) ^ k := by simp
    rw [← h1, ← Int.natCast_ediv]
    omega
  simp only [h, decide_eq_true (show (0 : Int) ≤ k by omega), decide_eq_true (show (k : Int) < 32 by omega), Bool.true_and]
theorem bit_out (v n : Int) (h : n < 0 ∨ 32 ≤ n) : bit v n = false := by
  unfold bit
  rcases h with h | h
  · simp [show ¬ 0 ≤ n by omega]
  · simp [show ¬ n < 32 by omega]
end Rf
theorem both0 (x y : Nat) (hx : x < 4294967296) (hy : y < 4294967296) : Rf.both x y 0 = Ct.And x y := by
  rw [Ct.and_nat x y hx hy]
  exact Rf.of_eq _ _ (Ct.and_lt _ _ hx) fun i hi => by simp [Rf.bit_nat _ _ hi]
theorem both1 (x y : Nat) (hx : x < 4294967296) (hy : y < 4294967296) : Rf.both x y 1 = Ct.Or x y := by
  rw [Ct.or_nat x y hx hy]
  exact Rf.of_eq _ _ (Ct.or_lt _ _ hx hy) fun i hi => by simp [Rf.bit_nat _ _ hi]
theorem both2 (x y : Nat) (hx : x < 4294967296) (hy : y < 4294967296) : Rf.both x y 2 = Ct.Xor x y := by
  rw [Ct.xor_nat x y hx hy]
  exact Rf.of_eq _ _ (Ct.xor_lt _ _ hx hy) fun i hi => by simp [Rf.bit_nat _ _ hi]
theorem rsel (m x y : Nat) (hm : m < 4294967296) (hx : x < 4294967296) (hy : y < 4294967296) : Rf.sel m x y = Ct.Sel m x y := by
  rw [Ct.sel_nat m x y hm hx hy]
  refine Rf.of_eq _ _ (Ct.xor_lt _ _ hy (Ct.and_lt _ _ hm)) fun i hi => ?_
  simp only [Rf.bit_nat _ _ hi, Nat.testBit_xor, Nat.testBit_and]
  cases m.testBit i <;> cases x.testBit i <;> cases y.testBit i <;> rfl
end Go.Proofs.Ytdakbejppnijdaa
