/- sortnet.pairs: the iterator goes over the network's pairs, in order. No condition. -/
import Derived.RangeFuncNested
import Derived.RangeFuncBound
import Derived.RangeFuncCalls
import Derived.RangeFuncLeaves
import Derived.Shelf.Abstract
import Derived.Shelf.RegionOpen
import Derived.WalkKit
import Derived.OwnWalkIn
import Derived.TacticsInMore
import Derived.LoopNIn
import Derived.LoopIn
import Derived.Laws.BitsAllLaws
import Derived.Test.YtflapbnbeipddaaSnP
import Derived.Test.YtflapbnbeipddaaBits
namespace Go.Proofs.Ytflapbnbeipddaa
open Go.RowKit Go.Shelf
set_option linter.unusedSimpArgs false
set_option linter.unusedVariables false
attribute [local go_sem] Oper.semAt_some
namespace Sn
/-- The network for n words. -/
def nets (n : Int) : List (Nat × Nat) := if n < 2 ∨ 12288 < n then [] else net n.toNat (Lib.bitLen (n.toNat - 1) - 1) (Lib.bitLen (n.toNat - 1) - 1)
def encs (q : Nat × Nat) : Array Value := #[.int .i64 (q.1 : Int), .int .i64 (q.2 : Int)]
end Sn
theorem i64_and_nat (a b : Nat) (ha : a < 9223372036854775808) (hb : b < 9223372036854775808) : bits .and .i64 (a : Int) (b : Int) = ((a &&& b : Nat) : Int) := by
  have hx : a &&& b < 2 ^ 63 := Nat.and_lt_two_pow _ (by omega)
  show IntKind.i64.wrap ((BitVec.ofInt 64 (a : Int) &&& BitVec.ofInt 64 (b : Int)).toNat : Int) = _
  rw [BitVec.toNat_and, ofInt_u64 a (by omega), ofInt_u64 b (by omega), IntKind.wrap_i64]
  omega
theorem and_bit (k b : Nat) : k &&& 2 ^ b = 2 ^ b * (k / 2 ^ b % 2) := by
  have ht : k.testBit b = decide (k / 2 ^ b % 2 = 1) := Nat.testBit_eq_decide_div_mod_eq
  rcases Nat.mod_two_eq_zero_or_one (k / 2 ^ b) with h | h
  · rw [h, Nat.mul_zero]
    refine Nat.eq_of_testBit_eq fun i => ?_
    rw [Nat.testBit_and, Nat.testBit_two_pow, Nat.zero_testBit]
    by_cases e : b = i
    · subst e
      rw [ht, h]
      rfl
    · simp [e]
  · rw [h, Nat.mul_one]
    refine Nat.eq_of_testBit_eq fun i => ?_
    rw [Nat.testBit_and, Nat.testBit_two_pow]
    by_cases e : b = i
    · subst e
      rw [ht, h]
      rfl
    · simp [e]
namespace Sn
theorem lyK_len (p r d k : Nat) : ∀ K, k < K → k / p % 2 = r → (lyK p r d k).length < (lyK p r d K).length
  | 0, h, _ => absurd h (Nat.not_lt_zero k)
  | K + 1, h, hk => by
    rw [lyK_succ, List.length_append]
    by_cases e : k = K
    · subst e
      rw [if_pos hk]
      simp
    · have := lyK_len p r d k K (by omega) hk
      omega
def tailN (n B : Nat) : Nat → List (Nat × Nat)
  | 0 => []
  | b + 1 => net n B b
theorem net_split (n B : Nat) : ∀ b, net n B b = ly n (2 ^ b) 0 (2 ^ b) ++ (mer n (2 ^ b) (B - b) ++ tailN n B b)
  | 0 => by
    show phase n B 0 = _
    unfold phase tailN
    rw [List.append_nil]
  | b + 1 => by
    show phase n B (b + 1) ++ net n B b = _
    unfold phase tailN
    rw [List.append_assoc]
theorem mid_facts (n b t p q : Nat) (ht : t ≠ 0) (hp : 2 ^ b = p) (hq : 2 ^ (b + t) = q) : p < q ∧ 2 ^ (b + (t - 1)) = q / 2 ∧ mer n p t = ly n p 1 (q - p) ++ mer n p (t - 1) := by
  obtain ⟨s, rfl⟩ : ∃ s, t = s + 1 := ⟨t - 1, by omega⟩
  have h1 := Nat.two_pow_pos b
  have h2 := Nat.two_pow_pos s
  have e : q = p * (2 * 2 ^ s) := by rw [← hp, ← hq, Nat.pow_add, Nat.pow_succ, Nat.mul_comm (2 ^ s) 2]
  have e2 : 2 ^ (b + s) = p * 2 ^ s := by rw [← hp, Nat.pow_add]
  rw [Nat.add_sub_cancel]
  refine ⟨?_, ?_, ?_⟩
  · have : p * 2 ≤ p * (2 * 2 ^ s) := Nat.mul_le_mul_left p (by omega)
    omega
  · rw [e2, e, show p * (2 * 2 ^ s) = 2 * (p * 2 ^ s) by rw [Nat.mul_left_comm], Nat.mul_div_cancel_left _ (by decide)]
  · show ly n p 1 (p * (2 * 2 ^ s - 1)) ++ mer n p s = _
    rw [e, Nat.mul_sub, Nat.mul_one]
theorem and_rr (k b p : Nat) (hp : 2 ^ b = p) (hk : k < 9223372036854775808) (hpb : p < 9223372036854775808) : bits .and .i64 (k : Int) (p : Int) = ((p * (k / p % 2) : Nat) : Int) := by
  rw [i64_and_nat k p hk hpb, ← hp, and_bit]
theorem rr_iff (p x r : Nat) (hp : 1 ≤ p) : p * x = p * r ↔ x = r := ⟨fun h => Nat.eq_of_mul_eq_mul_left hp h, fun h => by rw [h]⟩
theorem net_facts (n : Nat) (h1 : 2 ≤ n) (h2 : n ≤ 12288) : ∃ B P, Lib.bitLen ((n : Int) - 1).toNat = B + 1 ∧ nets (n : Int) = net n B B ∧ B ≤ 15 ∧ 2 ^ B = P ∧ 1 ≤ P ∧ P ≤ n - 1 ∧ wrap64 ((2 : Int) ^ B) = P ∧ n ≤ 2 ^ (B + 1) := by
  have hbb := bitLen_bound 16 (n - 1) (by omega) (by decide)
  have hL : Lib.bitLen (n - 1) = (Lib.bitLen (n - 1) - 1) + 1 := by
    by_cases h0 : Lib.bitLen (n - 1) = 0
    · have := hbb.2.1
      rw [h0] at this
      omega
    · omega
  obtain ⟨B, hB⟩ : ∃ B, Lib.bitLen (n - 1) - 1 = B := ⟨_, rfl⟩
  rw [hB] at hL
  have e1 := hbb.2.1
  have e2 := hbb.2.2 (by omega)
  have e3 := hbb.1
  rw [hB] at e2
  rw [hL] at e1 e3
  clear hbb
  have h3 : (2 : Int) ^ B = ((2 ^ B : Nat) : Int) := by simp
  have h4 := Nat.one_le_pow B 2 (by decide)
  refine ⟨B, 2 ^ B, by rw [show ((n : Int) - 1).toNat = n - 1 by omega, hL], ?_, by omega, rfl, h4, e2, ?_, ?_⟩
  · unfold nets
    rw [if_neg (by omega), Int.toNat_natCast, hL, Nat.add_sub_cancel]
  · rw [h3]
    generalize 2 ^ B = P at *
    exact IntWalk.wrap64_in _ (by omega)
  · generalize 2 ^ (B + 1) = P at *
    omega
end Sn
/-- What the iterator has read lies as it lay. -/
def Kb (Bn : Nat) (A B : World) : Prop := B.cell? ⟨Bn, 0, none⟩ = A.cell? ⟨Bn, 0, none⟩
theorem Kb.trans {Bn : Nat} {A B C : World} (h : Kb Bn A B) (k : Kb Bn B C) : Kb Bn A C := Eq.trans k h
theorem Kb.refl (Bn : Nat) (A : World) : Kb Bn A A := Eq.refl _
set_option maxRecDepth 100000 in
set_option maxHeartbeats 2000000 in
theorem snPairs1_in (n : Nat) (hn : 1 ≤ n) (l Bn : Nat) (N : Int) (J Jx : List (Nat × Nat) → World → Prop)
    (hY : ∀ pre x W, J pre W → pre.length < (Sn.nets N).length → YieldAt Fence.wide (n - 1) Try.prog l (Sn.encs x) W fun e W' =>
      (e = .returned (.bool true) ∧ J (pre ++ [x]) W' ∧ Kb Bn W W') ∨ (e = .returned (.bool false) ∧ Jx (pre ++ [x]) W'))
    (W : World) (hc : W.cell? ⟨Bn, 0, none⟩ = some (.int .i64 N)) (h0 : J [] W) :
    CallsIn Fence.wide n Try.prog 80 #[.func (.yield l) #[] #[], .pointer (some ⟨Bn, 0, none⟩)] W fun e W' => (∃ v, e = .returned v) ∧
      ((∃ ys, ys = Sn.nets N ∧ J ys W') ∨ (∃ pre, True ∧ Jx pre W')) := by
  refine callsIn_of_wp Try.func80 rfl trivial ?_ rfl
  simp only [Try.ntmps80, List.size_toArray, List.length_cons, List.length_nil, Nat.reduceAdd, Nat.reduceSub, Array.replicate_succ, Array.replicate_zero, List.push_toArray, List.append_toArray, List.nil_append, List.cons_append]
  rcases (by omega : N < 2 ∨ (2 ≤ N ∧ 12288 < N) ∨ (2 ≤ N ∧ N ≤ 12288)) with h1 | ⟨h1, h2⟩ | ⟨h1, h2⟩
  · have hnil : Sn.nets N = [] := if_pos (.inl h1)
    gi_wp2
    refine bodyPost_ret (results_none rfl _ _ _) rfl ?_
    exact ⟨⟨_, rfl⟩, .inl ⟨[], hnil.symm, h0⟩⟩
  · have hnil : Sn.nets N = [] := if_pos (.inr h2)
    gi_wp2
    refine bodyPost_ret (results_none rfl _ _ _) rfl ?_
    exact ⟨⟨_, rfl⟩, .inl ⟨[], hnil.symm, h0⟩⟩
  · obtain ⟨n', rfl⟩ : ∃ n' : Nat, N = n' := ⟨N.toNat, by omega⟩
    obtain ⟨B, P, hlen, hnet, hB16, hP, hP1, hPn, hw0, hN2⟩ := Sn.net_facts n' (by omega) (by omega)
    have HP := Lib.hid hP
    have HB16 := Lib.hid hB16
    have HNET := Lib.hid hnet
    have hPi : (P : Int) ≤ 12288 := by omega
    have hBi : (B : Int) ≤ 15 := by omega
    have hwB : wrap64 (B : Int) = (B : Int) := IntWalk.wrap64_in _ (by omega)
    clear hN2 hP hB16 hnet
    gi_wp2_with (refine ⟨trivial, ?_⟩; gi_at_call 81; refine (callsIn_wide.2 (bLen_any _ _ (by omega) (by omega))).mono ?_; rintro e w' ⟨rfl, rfl⟩; (try rw [hlen]))
    rw [hw0]
    have HLEN : Hid ((Sn.nets (n' : Int)) = Sn.net n' B B) := HNET
    gi_loopw [4] (fun i wr => ∃ (p : Nat) (pre rest : List (Nat × Nat)), i = .int .i64 (p : Int) ∧ p ≤ P ∧ J pre wr ∧ Sn.nets (n' : Int) = pre ++ rest ∧ Kb Bn w' wr ∧ ((p = 0 ∧ rest = []) ∨ ∃ b, b ≤ B ∧ 2 ^ b = p ∧ rest = Sn.net n' B b)) (fun i _ => (intOf i).toNat)
    case atStart => exact ⟨P, [], Sn.net n' B B, rfl, Nat.le_refl P, h0, HNET.out, Kb.refl _ _, .inr ⟨B, Nat.le_refl B, HP.out, rfl⟩⟩
    case round =>
      obtain ⟨p, pre, rest, rfl, hpP, hJ, happ, hBl, hcase⟩ := hrel
      have HAPP := Lib.hid happ
      by_cases hp0 : p = 0
      · have hrest : rest = [] := by
          rcases hcase with ⟨_, h⟩ | ⟨b, _, h, _⟩
          · exact h
          · have := Nat.two_pow_pos b
            omega
        clear happ hcase
        gi_wp2
        go_end0
        exact ⟨⟨_, rfl⟩, .inl ⟨_, by rw [HAPP.out, hrest, List.append_nil], hJ⟩⟩
      · obtain ⟨b, hbB, hb2, hrest⟩ : ∃ b, b ≤ B ∧ 2 ^ b = p ∧ rest = Sn.net n' B b := by
          rcases hcase with ⟨h, _⟩ | h
          · exact absurd h hp0
          · exact h
        have HB2 := Lib.hid hb2
        have HRE := Lib.hid (show Sn.nets (n' : Int) = pre ++ (Sn.ly n' p 0 p ++ (Sn.mer n' p (B - b) ++ Sn.tailN n' B b)) by rw [happ, hrest, Sn.net_split, hb2])
        have HQ := Lib.hid (show 2 ^ (b + (B - b)) = P by rw [show b + (B - b) = B by omega]; exact HP.out)
        have hp1 : 1 ≤ p := by omega
        clear happ hcase hrest hb2
        have hd0 : decide (0 < p) = true := decide_eq_true (by omega)
        have hd1 : decide ((0 : Int) < (p : Int)) = true := decide_eq_true (by omega)
        gi_wp2
        gi_loopw [5, 6, 7] (fun vq vr vd wm => ∃ (t q d rr : Nat) (pre2 : List (Nat × Nat)), vq = .int .i64 (q : Int) ∧ vr = .int .i64 ((p * rr : Nat) : Int) ∧ vd = .int .i64 (d : Int) ∧ 2 ^ (b + t) = q ∧ q ≤ P ∧ rr ≤ 1 ∧ 0 < d ∧ d ≤ P ∧ J pre2 wm ∧ Sn.nets (n' : Int) = pre2 ++ (Sn.ly n' p rr d ++ (Sn.mer n' p t ++ Sn.tailN n' B b)) ∧ Kb Bn w' wm) (fun vq _ _ _ => (intOf vq).toNat)
        case atStart => exact ⟨B - b, P, p, 0, pre, rfl, by simp, rfl, HQ.out, Nat.le_refl P, by decide, by omega, hpP, hJ, HRE.out, hBl⟩
        case round =>
          rename World => wm
          obtain ⟨t, q, d, rr, pre2, rfl, rfl, rfl, hq2, hqP, hrr, hd, hdP, hJ2, happ2, hBl2⟩ := hrel
          have HQ2 := Lib.hid hq2
          have HAPP2 := Lib.hid happ2
          obtain ⟨R, hR⟩ : ∃ R, p * rr = R := ⟨_, rfl⟩
          have HR := Lib.hid hR
          rw [hR]
          have hcm := Eq.trans hBl2 hc
          have HMEAS := Lib.hid (show t ≠ 0 → p < q ∧ 2 ^ (b + (t - 1)) = q / 2 ∧ Sn.mer n' p t = Sn.ly n' p 1 (q - p) ++ Sn.mer n' p (t - 1) from fun h => Sn.mid_facts n' b t p q h HB2.out hq2)
          have HT0 := Lib.hid (show t = 0 → q = p from fun h => by rw [← hq2, h, Nat.add_zero]; exact HB2.out)
          clear hq2 happ2 hR HRE HQ hJ hBl
          gi_wp2
          gi_loopw [37] (fun vi wi => ∃ k : Nat, k ≤ n' - d ∧ vi = .int .i64 (k : Int) ∧ J (pre2 ++ Sn.lyK p rr d k) wi ∧ Kb Bn w' wi) (fun vi _ => n' - d - (intOf vi).toNat)
          case atStart => exact ⟨0, Nat.zero_le _, rfl, by simpa [Sn.lyK] using hJ2, hBl2⟩
          case round =>
            rename World => wi
            obtain ⟨k, hk, rfl, hJk, hBk⟩ := hrel
            by_cases hkn : k < n' - d
            · have hA := Sn.and_rr k b p HB2.out (by omega) (by omega)
              obtain ⟨Av, hAv⟩ : ∃ Av, p * (k / p % 2) = Av := ⟨_, rfl⟩
              rw [hAv] at hA
              by_cases hcond : k / p % 2 = rr
              · have hAR : ((Av : Int) == (R : Int)) = true := by
                  rw [← hAv, ← HR.out, hcond]
                  simp
                obtain ⟨fn, tmps, assign, body, hy, hRd⟩ := hY _ (k, k + d) wi hJk (by
                  rw [HAPP2.out]
                  have := Sn.lyK_len p rr d k (n' - d) hkn hcond
                  unfold Sn.ly
                  simp only [List.length_append]
                  omega)
                simp only [Sn.encs, Int.natCast_add] at hy
                gi_wp2
                refine hRd.mono ?_
                rintro e W3 (⟨rfl, hJ3, hk3⟩ | ⟨rfl, hJx3⟩)
                · gi_wp2
                  refine ⟨⟨k + 1, by omega, by go_num, ?_, hBk.trans hk3⟩, by simp [intOf]; omega⟩
                  rw [Sn.lyK_succ, if_pos hcond, ← List.append_assoc]
                  exact hJ3
                · gi_wp2
                  refine bodyPost_ret (results_none rfl _ _ _) rfl ?_
                  exact ⟨⟨_, rfl⟩, .inr ⟨_, trivial, hJx3⟩⟩
              · have hAR : ((Av : Int) == (R : Int)) = false := by
                  rw [← hAv, ← HR.out]
                  simp only [beq_eq_false_iff_ne, ne_eq, Int.natCast_inj]
                  exact fun e => hcond ((Sn.rr_iff p _ _ hp1).1 e)
                gi_wp2
                refine ⟨fun _ h => (by cases h), ?_⟩
                gi_wp2
                refine ⟨⟨k + 1, by omega, by go_num, ?_, hBk⟩, by simp [intOf]; omega⟩
                rw [Sn.lyK_succ, if_neg hcond, List.append_nil]
                exact hJk
            · have hkE : n' - d ≤ k := by omega
              have HLY := Lib.hid (show Sn.lyK p rr d k = Sn.ly n' p rr d by unfold Sn.ly; rw [show n' - d = k by omega])
              have HJK := Lib.hid hJk
              have HBK := Lib.hid hBk
              clear hJk hBk hJ2 hBl2
              by_cases ht : t = 0
              · have hqp := HT0.out ht
                have heq : ((q : Int) == (p : Int)) = true := by rw [hqp]; simp
                have HM0 := Lib.hid (show Sn.mer n' p t = [] by rw [ht]; rfl)
                clear ht hqp
                gi_wp2
                refine ⟨⟨p / 2, pre2 ++ Sn.lyK p rr d k, Sn.tailN n' B b, congrArg (Value.int .i64) (by omega), by omega, HJK.out, by rw [HAPP2.out, HM0.out, HLY.out, List.nil_append, List.append_assoc], HBK.out, ?_⟩, by simp [intOf]; omega⟩
                cases b with
                | zero => exact .inl ⟨by have := HB2.out; omega, rfl⟩
                | succ b => exact .inr ⟨b, by omega, by rw [← HB2.out, Nat.pow_succ, Nat.mul_div_cancel _ (by decide)], rfl⟩
              · obtain ⟨m1, m2, m3⟩ := HMEAS.out ht
                have heq : ((q : Int) == (p : Int)) = false := by simp; omega
                have M2 := Lib.hid m2
                have M3 := Lib.hid m3
                clear m2 m3 ht
                gi_wp2
                refine ⟨⟨t - 1, q / 2, q - p, 1, pre2 ++ Sn.lyK p rr d k, congrArg (Value.int .i64) (by omega), by rw [Nat.mul_one], congrArg (Value.int .i64) (by omega), M2.out, by omega, Nat.le_refl 1, by omega, by omega, HJK.out, by rw [HAPP2.out, M3.out, HLY.out]; simp only [List.append_assoc], HBK.out⟩, by simp [intOf]; omega⟩
theorem snPairs_stops (n : Nat) (hn : 1 ≤ n) (Bn : Nat) (N : Int) (w : World) (hB : Bn < w.heap.size) (hc : w.cell? ⟨Bn, 0, none⟩ = some (.int .i64 N)) :
    SeqStopsK Fence.wide n Try.prog 80 #[.pointer (some ⟨Bn, 0, none⟩)] Sn.encs (Kb Bn) (fun ys => ys = Sn.nets N) (fun _ => True) (Sn.nets N).length w := fun l J Jx W hW _ _ hY h0 =>
  snPairs1_in n hn l Bn N J Jx hY W ((hW.cell (p := ⟨Bn, 0, none⟩) hB).trans hc) h0
namespace Sn
theorem lyK_le (p r d : Nat) : ∀ K, (lyK p r d K).length ≤ K
  | 0 => Nat.le_refl 0
  | K + 1 => by
    have := lyK_le p r d K
    rw [lyK_succ, List.length_append]
    split <;> simp <;> omega
theorem ly_le (n p r d : Nat) : (ly n p r d).length ≤ n := Nat.le_trans (lyK_le p r d (n - d)) (Nat.sub_le _ _)
theorem mer_le (n p : Nat) : ∀ t, (mer n p t).length ≤ t * n
  | 0 => Nat.zero_le _
  | t + 1 => by
    have h1 := mer_le n p t
    have h2 := ly_le n p 1 (p * (2 * 2 ^ t - 1))
    show (ly n p 1 (p * (2 * 2 ^ t - 1)) ++ mer n p t).length ≤ _
    rw [List.length_append, Nat.add_mul, Nat.one_mul]
    omega
theorem phase_le (n B b : Nat) : (phase n B b).length ≤ (B + 1) * n := by
  have h1 := mer_le n (2 ^ b) (B - b)
  have h2 := ly_le n (2 ^ b) 0 (2 ^ b)
  have h3 : (B - b) * n ≤ B * n := Nat.mul_le_mul_right n (Nat.sub_le _ _)
  unfold phase
  rw [List.length_append, Nat.add_mul, Nat.one_mul]
  omega
theorem net_le (n B : Nat) : ∀ b, (net n B b).length ≤ (b + 1) * ((B + 1) * n)
  | 0 => by rw [Nat.zero_add, Nat.one_mul]; exact phase_le n B 0
  | b + 1 => by
    have h1 := net_le n B b
    have h2 := phase_le n B (b + 1)
    show (phase n B (b + 1) ++ net n B b).length ≤ _
    rw [List.length_append, Nat.add_mul (b + 1) 1, Nat.one_mul]
    omega
theorem nets_le (n : Int) : (nets n).length ≤ 4000000 := by
  by_cases h : n < 2 ∨ 12288 < n
  · rw [show nets n = [] from if_pos h]
    exact Nat.zero_le _
  · obtain ⟨m, rfl⟩ : ∃ m : Nat, n = m := ⟨n.toNat, by omega⟩
    obtain ⟨B, P, -, h1, h2, -⟩ := net_facts m (by omega) (by omega)
    rw [h1]
    have h3 := net_le m B B
    have h4 : (B + 1) * ((B + 1) * m) ≤ 16 * (16 * 12288) := Nat.mul_le_mul (by omega) (Nat.mul_le_mul (by omega) (by omega))
    omega
end Sn
theorem kb_put {Bn : Nat} {w : World} (hB : Bn < w.heap.size) (W : World) (l : Nat) (o o' : Obj) (hl : w.heap.size ≤ l) (h : W.heap[l]? = some o) (h1 : o.isCells = false) (h2 : o.isWalk = false) : Kb Bn W (W.putObj l o') :=
  (belowK_b (w := w) (Nat.le_refl _) W l o o' hl h h1 h2).cell (p := ⟨Bn, 0, none⟩) hB
end Go.Proofs.Ytflapbnbeipddaa
