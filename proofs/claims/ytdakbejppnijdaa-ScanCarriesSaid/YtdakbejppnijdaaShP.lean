/- Bytes as polynomials: the plain laws. No condition. -/
import Derived.Test.YtdakbejppnijdaaShDef
import Derived.Test.YtdakbejppnijdaaHangP
namespace Go.Proofs.Ytdakbejppnijdaa
namespace Gf
theorem x1 (p q v : Nat) : (p ^^^ q) ^^^ v = (p ^^^ v) ^^^ q := by rw [Nat.xor_assoc, Nat.xor_comm q v, ← Nat.xor_assoc]
theorem x2 (p q v : Nat) : (p ^^^ q) ^^^ v = p ^^^ (q ^^^ v) := Nat.xor_assoc _ _ _
theorem x5 (p q v u : Nat) : (p ^^^ q) ^^^ (v ^^^ u) = (p ^^^ v) ^^^ (q ^^^ u) := by
  rw [Nat.xor_assoc, ← Nat.xor_assoc q v u, Nat.xor_comm q v, Nat.xor_assoc v q u, ← Nat.xor_assoc]
theorem x4 (p q v : Nat) : p ^^^ q = (p ^^^ v) ^^^ (q ^^^ v) := by rw [← x5, Nat.xor_self, Nat.xor_zero]
theorem bit_xor (b c k : Nat) : ((b ^^^ c) / 2 ^ k % 2 = 1) ↔ ¬ ((b / 2 ^ k % 2 = 1) ↔ (c / 2 ^ k % 2 = 1)) := by
  have h := Nat.testBit_xor b c k
  rw [Nat.testBit_eq_decide_div_mod_eq, Nat.testBit_eq_decide_div_mod_eq, Nat.testBit_eq_decide_div_mod_eq] at h
  by_cases h1 : b / 2 ^ k % 2 = 1 <;> by_cases h2 : c / 2 ^ k % 2 = 1 <;> simp [h1, h2] at h ⊢ <;> omega
theorem if_xor (b c k p q v : Nat) : (if (b ^^^ c) / 2 ^ k % 2 = 1 then (p ^^^ q) ^^^ v else p ^^^ q) = (if b / 2 ^ k % 2 = 1 then p ^^^ v else p) ^^^ (if c / 2 ^ k % 2 = 1 then q ^^^ v else q) := by
  have h := bit_xor b c k
  by_cases h1 : b / 2 ^ k % 2 = 1 <;> by_cases h2 : c / 2 ^ k % 2 = 1
  · rw [if_neg (by rw [h]; simp [h1, h2]), if_pos h1, if_pos h2]; exact x4 p q v
  · rw [if_pos (by rw [h]; simp [h1, h2]), if_pos h1, if_neg h2]; exact x1 p q v
  · rw [if_pos (by rw [h]; simp [h1, h2]), if_neg h1, if_pos h2]; exact x2 p q v
  · rw [if_neg (by rw [h]; simp [h1, h2]), if_neg h1, if_neg h2]
theorem mul2_xor (x y k : Nat) : (x ^^^ y) * 2 ^ k = (x * 2 ^ k) ^^^ (y * 2 ^ k) := by
  have := Nat.shiftLeft_xor_distrib (a := x) (b := y) (i := k)
  simpa [Nat.shiftLeft_eq] using this
theorem mod_xor (x y n : Nat) : (x ^^^ y) % 2 ^ n = (x % 2 ^ n) ^^^ (y % 2 ^ n) := by
  rw [← Nat.and_two_pow_sub_one_eq_mod, ← Nat.and_two_pow_sub_one_eq_mod, ← Nat.and_two_pow_sub_one_eq_mod, Nat.and_xor_distrib_right]
theorem dbl_bit (a : Nat) (ha : a < 256) : dbl a = if a / 2 ^ 7 % 2 = 1 then (a * 2 ^ 1 % 2 ^ 8) ^^^ 27 else a * 2 ^ 1 % 2 ^ 8 := by
  unfold dbl
  by_cases h : a < 128
  · rw [if_pos h, if_neg (by omega), Nat.xor_zero]
  · rw [if_neg h, if_pos (by omega)]
theorem xor_lt (x y : Nat) (hx : x < 256) (hy : y < 256) : x ^^^ y < 256 := Nat.xor_lt_two_pow (n := 8) hx hy
theorem dbl_lin (x y : Nat) (hx : x < 256) (hy : y < 256) : dbl (x ^^^ y) = dbl x ^^^ dbl y := by
  rw [dbl_bit _ (xor_lt x y hx hy), dbl_bit x hx, dbl_bit y hy, mul2_xor, mod_xor, if_xor]
theorem pw_lin (x y : Nat) (hx : x < 256) (hy : y < 256) : ∀ k, pw (x ^^^ y) k = pw x k ^^^ pw y k
  | 0 => rfl
  | k + 1 => by rw [pw_succ, pw_succ, pw_succ, pw_lin x y hx hy k, dbl_lin _ _ (pw_lt x hx k) (pw_lt y hy k)]
theorem sum_lin1 (x y b : Nat) (hx : x < 256) (hy : y < 256) : ∀ k, sum (x ^^^ y) b k = sum x b k ^^^ sum y b k
  | 0 => (Nat.xor_self 0).symm
  | k + 1 => by
    rw [sum_succ, sum_succ, sum_succ, sum_lin1 x y b hx hy k, pw_lin x y hx hy k]
    split
    · exact x5 _ _ _ _
    · rfl
theorem sum_lin2 (a x y : Nat) : ∀ k, sum a (x ^^^ y) k = sum a x k ^^^ sum a y k
  | 0 => (Nat.xor_self 0).symm
  | k + 1 => by rw [sum_succ, sum_succ, sum_succ, sum_lin2 a x y k, if_xor]
theorem T_lin1 (x y b : Nat) (hx : x < 256) (hy : y < 256) : T (x ^^^ y) b = T x b ^^^ T y b := sum_lin1 x y b hx hy 8
theorem T_lin2 (a x y : Nat) : T a (x ^^^ y) = T a x ^^^ T a y := sum_lin2 a x y 8
theorem cl_lin1 (x y b : Nat) : ∀ k, cl (x ^^^ y) b k = cl x b k ^^^ cl y b k
  | 0 => (Nat.xor_self 0).symm
  | k + 1 => by
    rw [cl_succ, cl_succ, cl_succ, cl_lin1 x y b k, mul2_xor]
    split
    · exact x5 _ _ _ _
    · rfl
theorem cl_lin2 (a x y : Nat) : ∀ k, cl a (x ^^^ y) k = cl a x k ^^^ cl a y k
  | 0 => (Nat.xor_self 0).symm
  | k + 1 => by rw [cl_succ, cl_succ, cl_succ, cl_lin2 a x y k, if_xor]
theorem red_lin (p q : Nat) : ∀ j, red (p ^^^ q) j = red p j ^^^ red q j
  | 0 => rfl
  | j + 1 => by rw [red_succ, red_succ, red_succ, red_lin p q j, if_xor]
theorem R_lin1 (x y b : Nat) : R (x ^^^ y) b = R x b ^^^ R y b := by
  unfold R; rw [cl_lin1, red_lin]; exact mod_xor _ _ 8
theorem R_lin2 (a x y : Nat) : R a (x ^^^ y) = R a x ^^^ R a y := by
  unfold R; rw [cl_lin2, red_lin]; exact mod_xor _ _ 8
theorem high (n : Nat) (hn : n < 8) (y : Nat) (hy : y < 2 ^ n) : 2 ^ n + y = 2 ^ n ^^^ y := by
  have : ∀ n : Fin 8, ∀ y : Fin 256, y.val < 2 ^ n.val → 2 ^ n.val + y.val = 2 ^ n.val ^^^ y.val := by decide +kernel
  exact this ⟨n, hn⟩ ⟨y, Nat.lt_of_lt_of_le hy (show 2 ^ n ≤ 2 ^ 8 from Nat.pow_le_pow_right (by decide) (by omega))⟩ hy
theorem lin_ext (f g : Nat → Nat) (hf : ∀ x y, x < 256 → y < 256 → f (x ^^^ y) = f x ^^^ f y) (hg : ∀ x y, x < 256 → y < 256 → g (x ^^^ y) = g x ^^^ g y) (hb : ∀ k, k < 8 → f (2 ^ k) = g (2 ^ k)) (x : Nat) (hx : x < 256) : f x = g x := by
  have hf0 : f 0 = 0 := by have := hf 0 0 (by decide) (by decide); rw [Nat.xor_self] at this; rw [Nat.xor_self] at this; exact this
  have hg0 : g 0 = 0 := by have := hg 0 0 (by decide) (by decide); rw [Nat.xor_self] at this; rw [Nat.xor_self] at this; exact this
  have main : ∀ n, n ≤ 8 → ∀ x, x < 2 ^ n → f x = g x := by
    intro n
    induction n with
    | zero => intro _ x hx; obtain rfl : x = 0 := by omega
              rw [hf0, hg0]
    | succ n ih =>
      intro hn x hx
      by_cases h : x < 2 ^ n
      · exact ih (by omega) x h
      · have hp : 2 ^ n < 256 := by
          have : 2 ^ n ≤ 2 ^ 7 := Nat.pow_le_pow_right (by decide) (by omega)
          omega
        have hx2 : x < 2 * 2 ^ n := by rw [Nat.pow_succ] at hx; omega
        have e := high n (by omega) (x - 2 ^ n) (by omega)
        have e2 : x = 2 ^ n ^^^ (x - 2 ^ n) := by rw [← e]; omega
        rw [e2, hf _ _ hp (by omega), hg _ _ hp (by omega), hb n (by omega), ih (by omega) _ (by omega)]
  exact main 8 (Nat.le_refl _) x hx
theorem pow_lt (k : Nat) (hk : k < 8) : 2 ^ k < 256 := by
  have : 2 ^ k ≤ 2 ^ 7 := Nat.pow_le_pow_right (by decide) (by omega)
  omega
theorem T_comm_b : ∀ i j : Fin 8, T (2 ^ i.val) (2 ^ j.val) = T (2 ^ j.val) (2 ^ i.val) := by decide +kernel
theorem T_comm (x y : Nat) (hx : x < 256) (hy : y < 256) : T x y = T y x := by
  refine lin_ext (fun x => T x y) (fun x => T y x) (fun a b ha hb => T_lin1 a b y ha hb) (fun a b _ _ => T_lin2 y a b) (fun k hk => ?_) x hx
  exact lin_ext (fun y => T (2 ^ k) y) (fun y => T y (2 ^ k)) (fun a b _ _ => T_lin2 _ a b) (fun a b ha hb => T_lin1 a b _ ha hb) (fun j hj => T_comm_b ⟨k, hk⟩ ⟨j, hj⟩) y hy
theorem T_assoc_b : ∀ i j k : Fin 8, T (T (2 ^ i.val) (2 ^ j.val)) (2 ^ k.val) = T (2 ^ i.val) (T (2 ^ j.val) (2 ^ k.val)) := by decide +kernel
theorem T_assoc (x y z : Nat) (hx : x < 256) (hy : y < 256) (hz : z < 256) : T (T x y) z = T x (T y z) := by
  refine lin_ext (fun x => T (T x y) z) (fun x => T x (T y z)) (fun a b ha hb => ?_) (fun a b ha hb => T_lin1 a b _ ha hb) (fun i hi => ?_) x hx
  · show T (T (a ^^^ b) y) z = _
    rw [T_lin1 a b y ha hb, T_lin1 _ _ z (T_lt a y ha) (T_lt b y hb)]
  · refine lin_ext (fun y => T (T (2 ^ i) y) z) (fun y => T (2 ^ i) (T y z)) (fun a b ha hb => ?_) (fun a b ha hb => ?_) (fun j hj => ?_) y hy
    · show T (T (2 ^ i) (a ^^^ b)) z = _
      rw [T_lin2, T_lin1 _ _ z (T_lt _ a (pow_lt i hi)) (T_lt _ b (pow_lt i hi))]
    · show T (2 ^ i) (T (a ^^^ b) z) = _
      rw [T_lin1 a b z ha hb, T_lin2]
    · refine lin_ext (fun z => T (T (2 ^ i) (2 ^ j)) z) (fun z => T (2 ^ i) (T (2 ^ j) z)) (fun a b _ _ => T_lin2 _ a b) (fun a b ha hb => ?_) (fun k hk => T_assoc_b ⟨i, hi⟩ ⟨j, hj⟩ ⟨k, hk⟩) z hz
      show T (2 ^ i) (T (2 ^ j) (a ^^^ b)) = _
      rw [T_lin2, T_lin2]
theorem R_b : ∀ i j : Fin 8, R (2 ^ i.val) (2 ^ j.val) = T (2 ^ i.val) (2 ^ j.val) := by decide +kernel
theorem R_eq (x y : Nat) (hx : x < 256) (hy : y < 256) : R x y = T x y := by
  refine lin_ext (fun x => R x y) (fun x => T x y) (fun a b _ _ => R_lin1 a b y) (fun a b ha hb => T_lin1 a b y ha hb) (fun i hi => ?_) x hx
  exact lin_ext (fun y => R (2 ^ i) y) (fun y => T (2 ^ i) y) (fun a b _ _ => R_lin2 _ a b) (fun a b _ _ => T_lin2 _ a b) (fun j hj => R_b ⟨i, hi⟩ ⟨j, hj⟩) y hy
theorem I_all : ∀ a : Fin 256, I a.val < 256 ∧ (a.val ≠ 0 → 1 ≤ I a.val) ∧ (a.val = 0 → I a.val = 0) ∧ (a.val ≠ 0 → T a.val (I a.val) = 1) := by decide +kernel
theorem T_one : ∀ b : Fin 256, T 1 b.val = b.val ∧ T b.val 1 = b.val ∧ T 0 b.val = 0 := by decide +kernel
theorem look (a : Nat) (ha : a < 256) (b : Nat) (_h1 : 1 ≤ b) (hb : b < 256) : R a b = 1 ↔ (a ≠ 0 ∧ b = I a) := by
  rw [R_eq a b ha hb]
  obtain ⟨i1, i2, i3, i4⟩ := I_all ⟨a, ha⟩
  dsimp only at i1 i2 i3 i4
  constructor
  · intro h
    have hz : a ≠ 0 := fun h0 => by
      subst h0
      have := (T_one ⟨b, hb⟩).2.2
      dsimp only at this
      omega
    refine ⟨hz, ?_⟩
    have e1 := T_assoc b a (I a) hb ha i1
    rw [i4 hz, T_comm b a hb ha, h] at e1
    have e2 := (T_one ⟨b, hb⟩).2.1
    have e3 := (T_one ⟨I a, i1⟩).1
    dsimp only at e2 e3
    rw [e2, e3] at e1
    exact e1.symm
  · rintro ⟨hz, rfl⟩
    exact i4 hz
end Gf
namespace Sh
theorem double_b : ∀ x : Fin 256, double (x.val : Int) = ((Gf.dbl x.val : Nat) : Int) := by decide +kernel
theorem low (a : Nat) (ha : a < 4294967296) : Ct.And a 255 = ((a % 256 : Nat) : Int) := by
  have h := Ct.and_nat a 255 ha (by decide)
  have e : a &&& 255 = a % 2 ^ 8 := Nat.and_two_pow_sub_one_eq_mod a 8
  rw [e] at h
  exact h
theorem ma_nat (a : Nat) (ha : a < 4294967296) : ∀ k, ma a k = ((Gf.pw (a % 256) k : Nat) : Int)
  | 0 => low a ha
  | k + 1 => by
    rw [ma_succ, ma_nat a ha k, Gf.pw_succ]
    exact double_b ⟨_, Gf.pw_lt _ (by omega) k⟩
theorem ms_nat (a b : Nat) (ha : a < 4294967296) (hb : b < 4294967296) : ∀ k, k ≤ 8 → ms a b k = ((Gf.sum (a % 256) (b % 256) k : Nat) : Int)
  | 0, _ => rfl
  | k + 1, hk => by
    rw [ms_succ, ms_nat a b ha hb k (by omega), ma_nat a ha k, low b hb, Gf.sum_succ]
    have hB : b % 256 < 256 := by omega
    have hA := Gf.pw_lt (a % 256) (by omega) k
    have hS := Gf.sum_lt (a % 256) (b % 256) (by omega) k
    generalize b % 256 = B at *
    generalize Gf.pw (a % 256) k = A at *
    generalize Gf.sum (a % 256) B k = S at *
    have hq : B / 2 ^ k < 256 := Nat.lt_of_le_of_lt (Nat.div_le_self _ _) hB
    have e1 : Ct.Shr (B : Int) (k : Int) = ((B / 2 ^ k : Nat) : Int) := by
      unfold Ct.Shr
      rw [if_neg (by omega)]
      cases k with
      | zero => simp
      | succ k => rw [if_neg (by omega)]; simp
    have e2 : Ct.And ((B / 2 ^ k : Nat) : Int) 1 = ((B / 2 ^ k % 2 : Nat) : Int) := by
      have h := Ct.and_nat (B / 2 ^ k) 1 (by omega) (by decide)
      rw [Nat.and_one_is_mod] at h
      exact h
    rw [e1, e2]
    by_cases h : B / 2 ^ k % 2 = 1
    · rw [if_pos h, h, show Ct.Sub 0 ((1 : Nat) : Int) = Ct.Mask true by decide, Ct.and_mask true A (by omega), if_pos rfl]
      exact Ct.xor_nat S A (by omega) (by omega)
    · have h0 : B / 2 ^ k % 2 = 0 := by omega
      rw [if_neg h, h0, show Ct.Sub 0 ((0 : Nat) : Int) = Ct.Mask false by decide, Ct.and_mask false A (by omega), if_neg (by decide)]
      have := Ct.xor_nat S 0 (by omega) (by decide)
      rw [Nat.xor_zero] at this
      exact this
theorem mul_nat (a b : Nat) (ha : a < 4294967296) (hb : b < 4294967296) : ms a b 8 = ((Gf.T (a % 256) (b % 256) : Nat) : Int) := ms_nat a b ha hb 8 (Nat.le_refl _)
end Sh
end Go.Proofs.Ytdakbejppnijdaa
