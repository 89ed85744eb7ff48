/- The document's size, number, text; script.put. No condition. -/
import Derived.Test.YtflapbnbeipddaaScV
import Derived.Laws.OwnMore
import Derived.Deep.AppendLies
import Derived.Test.YtflapbnbeipddaaWords
namespace Go.Proofs.Ytflapbnbeipddaa
open Go.RowKit
set_option linter.unusedSimpArgs false
set_option linter.unusedVariables false
attribute [local go_sem] IntKind.wrap_u32' signed_u32 max_u32
attribute [local go_sem ↓] Go.wp_at_zero Go.wp_at_succ
attribute [local go_sem] Calm.C
attribute [local go_sem low] Calm.al_cell Calm.al_frozen
attribute [local go_sem] Sc.S_size
theorem Try.infoU8 : (Try.prog.info? 5).map (fun i => (i.zero, i.size, i.bytes)) = some (some (.int .u8 0), 1, 1) := by kernel_rfl
namespace Sc
theorem be_cons : ∀ (j N : Nat), be (j + 1) N = UInt8.ofNat (N / 256 ^ j % 256) :: be j N
  | 0, N => by simp [be]
  | j + 1, N => by
    rw [show be (j + 1 + 1) N = be (j + 1) (N / 256) ++ [UInt8.ofNat (N % 256)] from rfl, be_cons j (N / 256), Nat.div_div_eq_div_mul, Nat.pow_succ, Nat.mul_comm 256]
    rfl
theorem be_get : ∀ (c N m : Nat), m < c → (be c N)[m]? = some (UInt8.ofNat (N / 256 ^ (c - 1 - m) % 256))
  | 0, _, m, h => by omega
  | c + 1, N, 0, _ => by rw [be_cons]; simp
  | c + 1, N, m + 1, h => by
    rw [be_cons, List.getElem?_cons_succ, be_get c N m (by omega), show c + 1 - 1 - (m + 1) = c - 1 - m by omega]
theorem be_take (c N m : Nat) (h : m < c) : (be c N).take (m + 1) = (be c N).take m ++ [UInt8.ofNat (N / 256 ^ (c - 1 - m) % 256)] := by
  rw [List.take_add_one, be_get c N m h]
  rfl
theorem u8_nat (x : Nat) (h : x < 256) : ((UInt8.ofNat x).toNat : Int) = (x : Int) := by
  rw [UInt8.toNat_ofNat', Nat.mod_eq_of_lt h]
def nc (c j N : Nat) : List Value := List.replicate (c - j) (.int .u8 0) ++ u8c (be j N)
theorem nc_zero (c N : Nat) : nc c 0 N = List.replicate c (.int .u8 0) := by simp [nc, be, u8c]
theorem nc_end (c N : Nat) : nc c c N = u8c (be c N) := by simp [nc]
theorem nc_set (c j N : Nat) (h : j < c) : (nc c j N).set (c - 1 - j) (.int .u8 ((N / 256 ^ j % 256 : Nat) : Int)) = nc c (j + 1) N := by
  unfold nc
  have e : c - j = (c - 1 - j) + 1 := by omega
  rw [e, List.replicate_succ', List.append_assoc, List.set_append_right _ _ (by simp)]
  simp only [List.length_replicate, Nat.sub_self, List.singleton_append, List.set_cons_zero]
  rw [show c - (j + 1) = c - 1 - j by omega, be_cons]
  simp only [u8c, List.map_cons]
  rw [u8_nat _ (Nat.mod_lt _ (by decide))]
theorem div_pow (N j : Nat) : N / 256 ^ j / 256 = N / 256 ^ (j + 1) := by rw [Nat.div_div_eq_div_mul, Nat.pow_succ]
theorem size_iff (N c : Nat) : (decide ((N / 256 ^ c : Nat) = 0)) = decide (N < 256 ^ c) := by
  have h : 0 < 256 ^ c := Nat.pow_pos (by decide)
  by_cases hc : N < 256 ^ c
  · simp [hc, Nat.div_eq_of_lt hc]
  · have : 0 < N / 256 ^ c := Nat.div_pos (by omega) h
    simp [hc]
    try omega
end Sc
theorem grown_on {w W W' : World} {row row' : Option Nat} (h : w.grownBy W row) (k : W.grownBy W' row') (hr : ∀ i, row' = some i → row = some i ∨ w.heap.size ≤ i) : w.grownBy W' row :=
  ⟨k.os.trans h.os, k.tape.trans h.tape, k.output.trans h.output, Nat.le_trans h.size k.size, fun i hi hne => (k.block i (Nat.lt_of_lt_of_le hi h.size) (fun e => by
    rcases hr i e.symm with h1 | h1
    · exact hne h1.symm
    · omega)).trans (h.block i hi hne)⟩
set_option maxRecDepth 20000 in
set_option maxHeartbeats 2000000 in
theorem scSize_f (n : Int) (hn : n < 0) (c : Nat) (w : World) :
    Calls Try.prog 57 #[.int .i64 n, .int .i64 (c : Int)] w fun e w' => e = .returned (.bool false) ∧ Below w.heap.size w w' := by
  go_enter Try.func57, Try.ntmps57
  go_wp2
  go_ret
  exact ⟨rfl, Below.refl _ _⟩
set_option maxRecDepth 20000 in
set_option maxHeartbeats 2000000 in
theorem scSize_n (N : Nat) (c : Nat) (hN : N ≤ 9223372036854775807) (hc : c ≤ 100) (w : World) :
    Calls Try.prog 57 #[.int .i64 N, .int .i64 (c : Int)] w fun e w' => e = .returned (.bool (decide (N < 256 ^ c))) ∧ Below w.heap.size w w' := by
  go_enter Try.func57, Try.ntmps57
  go_wp2
  go_loopw [0, 5] (fun n i wr => ∃ (j : Nat), j ≤ c ∧ i = .int .i64 (j : Int) ∧ n = .int .i64 ((N / 256 ^ j : Nat) : Int) ∧ Below w.heap.size w wr) (fun _ i _ => c - (intOf i).toNat)
  case atStart => exact ⟨0, Nat.zero_le _, rfl, by simp, Below.refl _ _⟩
  case round =>
    obtain ⟨j, hk, rfl, rfl, hB⟩ := hrel
    have HB := Lib.hid hB
    have hle : N / 256 ^ j ≤ N := Nat.div_le_self _ _
    by_cases hlt : j < c
    · have hv := Sc.div_pow N j
      generalize N / 256 ^ j = V at *
      clear hB
      go_wp2
      go_roundw
      case rel => exact ⟨j + 1, by omega, by go_num, by rw [← hv]; go_num, by (repeat' (first | with_reducible exact Below.refl _ _ | with_reducible refine bl_drewN ?_ _ | with_reducible refine bl_drew ?_ | refine bl_set (by (first | omega | (simp; done) | (simp; omega))) ?_ _ | refine bl_alloc (by (first | omega | (simp; done) | (simp; omega))) ?_ _ | refine bl_then (by assumption) ?_ (by (first | omega | (simp; done) | (simp; omega))) | refine Step.bl (by assumption) (by assumption) (by (first | omega | (simp; done) | (simp; omega))) (by (first | omega | (simp; done) | (simp; omega))) ?_))⟩
      case measure => simp [intOf]; omega
    · have hge : (c : Int) ≤ j := by omega
      have e : j = c := by omega
      have hv := Lib.hid (Sc.size_iff N c)
      obtain ⟨V, hV⟩ : ∃ V, N / 256 ^ j = V := ⟨_, rfl⟩
      rw [hV] at hle ⊢
      have hv2 := Lib.hid (show N / 256 ^ c = V by rw [← e]; exact hV)
      clear hB e hV
      go_wp2
      go_ret
      refine ⟨?_, HB.out⟩
      rw [← hv.out, hv2.out]
      rcases Nat.eq_zero_or_pos V with hz | hz
      · simp [hz]
      · have h1 : ¬ V = 0 := by omega
        have h2 : ¬ (V : Int) = 0 := by omega
        simp [h1]
set_option maxRecDepth 20000 in
set_option maxHeartbeats 2000000 in
theorem scNumber_any (N : Nat) (c : Nat) (hN : N ≤ 9223372036854775807) (hc : c ≤ 100) (w : World) :
    Calls Try.prog 58 #[.int .i64 N, .int .i64 (c : Int)] w fun e w' => ∃ g cap, e = .returned (.slice (some ⟨g, 0, none⟩) c cap) ∧ w'.ownsRow w.heap.size 5 1 (.slice (some ⟨g, 0, none⟩) c cap) c (Sc.u8c (Sc.be c N)) ∧ Below w.heap.size w w' := by
  obtain ⟨i0, hi, hz0, hz1, hz2⟩ := info_parts Try.infoU8
  go_enter Try.func58, Try.ntmps58
  go_wp2_with (refine wpList_make_full _ (by rfl) _ _ 32 (by rfl) w.heap.size 5 i0 _ 1 Try.underlying32 hi hz0 hz1 .i64 .i64 _ _ c (by rfl) (by rfl) (by rfl) (by rfl) (by rw [hz2]; omega) (by simp only [maxLen]; omega) (by omega) ?_; intro wm hown hgr; rw [Nat.mul_one, show Value.cells (.int .u8 0) = #[.int .u8 0] from rfl, toList_madeCells_one] at hown; have HO := Lib.hid hown; have hbm := Lib.hid ((Below.refl w.heap.size w).grown hgr (Nat.le_refl _) (fun k hk => by cases hk)); clear hown hgr)
  have hbs := hbm.out.size
  go_loopw [0, 6] (fun n i wr => ∃ (j : Nat), j ≤ c ∧ i = .int .i64 ((c : Int) - 1 - j) ∧ n = .int .i64 ((N / 256 ^ j : Nat) : Int) ∧ wr.ownsRow w.heap.size 5 1 (.slice (some ⟨w.heap.size, 0, none⟩) c c) c (Sc.nc c j N) ∧ Below w.heap.size w wr) (fun _ i _ => (intOf i + 1).toNat)
  case atStart => exact ⟨0, Nat.zero_le _, by go_num, by simp, by rw [Sc.nc_zero]; exact HO.out, hbm.out⟩
  case round =>
    obtain ⟨j, hk, rfl, rfl, hO, hB⟩ := hrel
    have HB := Lib.hid hB
    have HO2 := Lib.hid hO
    have hle : N / 256 ^ j ≤ N := Nat.div_le_self _ _
    by_cases hlt : j < c
    · have hv := Sc.div_pow N j
      have hst := Lib.hid (hO.stored (c - 1 - j) (.int .u8 ((N / 256 ^ j % 256 : Nat) : Int)))
      rw [Sc.nc_set c j N hlt] at hst
      generalize N / 256 ^ j = V at *
      obtain ⟨q, hq⟩ : ∃ q : Nat, c = j + 1 + q := ⟨c - (j + 1), by omega⟩
      have hi' : (c : Int) - 1 - j = (q : Int) := by omega
      have hq2 : c - 1 - j = q := by omega
      rw [hi']
      rw [hq2] at hst
      have hx := hO.cellAt q (by omega)
      have hf := hO.frozenAt q
      rw [show (Sc.nc c j N)[q]? = some (.int .u8 0) by unfold Sc.nc; rw [List.getElem?_append_left (by simp; omega), List.getElem?_replicate, if_pos (by omega)]] at hx
      clear hB hO
      go_wp2
      go_roundw
      case rel => exact ⟨j + 1, by omega, congrArg (Value.int .i64) (by omega), by rw [← hv]; go_num, hst.out.1, bl_set (Nat.le_refl _) HB.out _⟩
      case measure => simp [intOf]
    · have e : j = c := by omega
      have hi' : (c : Int) - 1 - j = -1 := by omega
      rw [hi']
      clear hB hO
      go_wp2
      go_ret
      have h2 := HO2.out
      rw [e, Sc.nc_end] at h2
      exact ⟨_, _, rfl, h2, HB.out⟩
theorem scNumber_1 (N : Nat) (hN : N ≤ 9223372036854775807) (w : World) :
    Calls Try.prog 58 #[.int .i64 N, .int .i64 1] w fun e w' => ∃ g cap, e = .returned (.slice (some ⟨g, 0, none⟩) 1 cap) ∧ w'.ownsRow w.heap.size 5 1 (.slice (some ⟨g, 0, none⟩) 1 cap) 1 (Sc.u8c (Sc.be 1 N)) ∧ Below w.heap.size w w' := scNumber_any N 1 hN (by decide) w
theorem scNumber_2 (N : Nat) (hN : N ≤ 9223372036854775807) (w : World) :
    Calls Try.prog 58 #[.int .i64 N, .int .i64 2] w fun e w' => ∃ g cap, e = .returned (.slice (some ⟨g, 0, none⟩) 2 cap) ∧ w'.ownsRow w.heap.size 5 1 (.slice (some ⟨g, 0, none⟩) 2 cap) 2 (Sc.u8c (Sc.be 2 N)) ∧ Below w.heap.size w w' := scNumber_any N 2 hN (by decide) w
theorem scNumber_4 (N : Nat) (hN : N ≤ 9223372036854775807) (w : World) :
    Calls Try.prog 58 #[.int .i64 N, .int .i64 4] w fun e w' => ∃ g cap, e = .returned (.slice (some ⟨g, 0, none⟩) 4 cap) ∧ w'.ownsRow w.heap.size 5 1 (.slice (some ⟨g, 0, none⟩) 4 cap) 4 (Sc.u8c (Sc.be 4 N)) ∧ Below w.heap.size w w' := scNumber_any N 4 hN (by decide) w
set_option maxRecDepth 20000 in
set_option maxHeartbeats 2000000 in
theorem scText_any (l : Sc.Bs) (hl : l.length ≤ 70368744177664) (w : World) :
    Calls Try.prog 59 #[.string (Sc.S l)] w fun e w' => ∃ v, e = .returned v ∧ w'.ownsRow w.heap.size 5 1 v (2 + l.length) (Sc.u8c (Sc.be 2 l.length ++ l)) ∧ Below w.heap.size w w' := by
  obtain ⟨i0, hi, hz0, hz1, hz2⟩ := info_parts Try.infoU8
  go_enter Try.func59, Try.ntmps59
  go_wp2_with (first
    | (go_at_call 58; (with_reducible refine (scNumber_2 _ (by omega) _).mono ?_); rintro e w1 ⟨g, cap, rfl, hown, hb⟩; have HO := Lib.hid hown; have HB := Lib.hid hb; have hz := hb.size; clear hown hb)
    | (at_builtin; refine Lib.wpList_append_own_string _ (by rfl) _ _ 32 9 (by rfl) w.heap.size 5 i0 Try.underlying32 Try.underlying9 hi hz0 hz1 hz2 _ 2 _ (by rfl) HO.out (Sc.S l) (by rfl) (by simp only [maxLen, Sc.S_size]; omega) (by simp only [Sc.S_size]; omega) (by omega) ?_; intro v2 w2 hown2 hg2 hnil2; rw [Sc.u8c_S, Sc.S_size, ← Sc.u8c_app] at hown2; have HO2 := Lib.hid hown2; have HG2 := Lib.hid hg2; clear hown2 hg2 hnil2))
  go_ret
  exact ⟨_, rfl, HO2.out, bl_grown HG2 (own_base HO.out) hz HB.out⟩
set_option maxRecDepth 20000 in
set_option maxHeartbeats 2000000 in
theorem scPut_any {w : World} {base n : Nat} {v : Value} {l : Sc.Bs} (hown : w.ownsRow base 5 1 v n (Sc.u8c l)) (hbase : base ≤ w.heap.size) (hn : n ≤ 35184372088832) (N c : Nat) (hN : N ≤ 9223372036854775807) (hc : c ≤ 4) :
    Calls Try.prog 82 #[v, .int .i64 N, .int .i64 (c : Int)] w fun e w' => ∃ v', e = .returned v' ∧ w'.ownsRow base 5 1 v' (n + c) (Sc.u8c (l ++ Sc.be c N)) ∧ w.grownBy w' v.ownBlock := by
  obtain ⟨i0, hi, hz0, hz1, hz2⟩ := info_parts Try.infoU8
  go_enter Try.func82, Try.ntmps82
  go_wp2
  go_loopw [0, 7] (fun b i wr => ∃ (m : Nat) (v1 : Value), m ≤ c ∧ i = .int .i64 ((c : Int) - 1 - m) ∧ b = v1 ∧ wr.ownsRow base 5 1 v1 (n + m) (Sc.u8c (l ++ (Sc.be c N).take m)) ∧ w.grownBy wr v.ownBlock ∧ (∀ i, v1.ownBlock = some i → v.ownBlock = some i ∨ w.heap.size ≤ i)) (fun _ i _ => (intOf i + 1).toNat)
  case atStart => exact ⟨0, v, Nat.zero_le _, by go_num, rfl, by simpa using hown, World.grownBy.refl _ _, fun i h => .inl h⟩
  case round =>
    obtain ⟨m, v1, hk, rfl, rfl, hO, hG, hV⟩ := hrel
    have HG := Lib.hid hG
    have HO := Lib.hid hO
    have HV := Lib.hid hV
    have hzs := hG.size
    by_cases hlt : m < c
    · have htk := Lib.hid (Sc.be_take c N m hlt)
      obtain ⟨q, hq⟩ : ∃ q : Nat, c = m + 1 + q := ⟨c - (m + 1), by omega⟩
      have hi' : (c : Int) - 1 - m = (q : Int) := by omega
      have hq2 : c - 1 - m = q := by omega
      rw [hi']
      rw [hq2] at htk
      have hq4 : q ≤ 4 := by omega
      have HQ := Lib.hid hq
      clear hO hG hV hq hq2 hi'
      have hpw : (2 : Int) ^ (8 * q) = ((256 ^ q : Nat) : Int) := by rw [show (2 : Int) ^ (8 * q) = ((2 : Int) ^ 8) ^ q from by rw [Int.pow_mul]]; simp
      have hby : ((UInt8.ofNat (N / 256 ^ q % 256)).toNat : Int) = ((N / 256 ^ q % 256 : Nat) : Int) := Sc.u8_nat _ (Nat.mod_lt _ (by decide))
      obtain ⟨D, hD⟩ : ∃ D : Nat, 256 ^ q = D := ⟨_, rfl⟩
      rw [hD] at hpw hby htk
      go_wp2_with (at_builtin; refine wpList_append_lies _ (by rfl) _ _ 32 (by rfl) base 5 i0 _ 1 1 Try.underlying32 hi hz0 hz1 hz2 (by rfl) (by decide) _ (n + m) _ (by rfl) (HO.out.alloc _) ⟨wr.heap.size, 0, none⟩ 1 1 (Sc.u8c [UInt8.ofNat (N / D % 256)]) (by rfl) (by rfl) (by simp only [Sc.u8c, List.map_cons, List.map_nil, hby]; exact World.news_of_block (heap_alloc_new _ _)) (Sc.u8c_one _) (by decide) (by simp only [maxLen]; omega) (by omega) (by rw [World.size_alloc]; omega) (wr.heap.size + 1) (by simp) ?_; intro ga capa wa hown1 hg1 hat1 hlt1; rw [← Sc.u8c_app, List.append_assoc, ← htk.out] at hown1; have hOa := Lib.hid hown1; have hGa := Lib.hid hg1; have hAt := Lib.hid hat1; clear hown1 hg1 hat1)
      go_roundw
      case rel =>
        have hq := HQ.out
        refine ⟨m + 1, _, by omega, congrArg (Value.int .i64) (by omega), rfl, hOa.out, grown_on (grown_on HG.out (World.grownBy_alloc wr _ none) (fun k hk => by cases hk)) hGa.out HV.out, fun k hk => ?_⟩
        rcases hAt.out with h1 | h1
        · exact HV.out k (h1.trans hk)
        · simp [Value.ownBlock] at hk; omega
      case measure => simp [intOf]
    · have e : m = c := by omega
      have hi' : (c : Int) - 1 - m = -1 := by omega
      rw [hi']
      clear hO hG hV
      go_wp2
      go_ret
      have h2 := HO.out
      rw [e, List.take_of_length_le (by rw [Sc.be_len]; exact Nat.le_refl _)] at h2
      exact ⟨_, rfl, h2, HG.out⟩
theorem scPut_2 {w : World} {base n : Nat} {v : Value} {l : Sc.Bs} (hown : w.ownsRow base 5 1 v n (Sc.u8c l)) (hbase : base ≤ w.heap.size) (hn : n ≤ 35184372088832) (N : Nat) (hN : N ≤ 9223372036854775807) :
    Calls Try.prog 82 #[v, .int .i64 N, .int .i64 2] w fun e w' => ∃ v', e = .returned v' ∧ w'.ownsRow base 5 1 v' (n + 2) (Sc.u8c (l ++ Sc.be 2 N)) ∧ w.grownBy w' v.ownBlock := scPut_any hown hbase hn N 2 hN (by decide)
theorem scSize_c (n : Int) (hn : n ≤ 9223372036854775807) (c : Nat) (hc : c ≤ 100) (w : World) :
    Calls Try.prog 57 #[.int .i64 n, .int .i64 (c : Int)] w fun e w' => e = .returned (.bool (decide (0 ≤ n ∧ n < ((256 ^ c : Nat) : Int)))) ∧ Below w.heap.size w w' := by
  by_cases h : n < 0
  · rw [decide_eq_false (by omega)]
    exact scSize_f n h c w
  · obtain ⟨N, rfl⟩ : ∃ N : Nat, n = N := ⟨n.toNat, by omega⟩
    have e : decide (0 ≤ (N : Int) ∧ (N : Int) < ((256 ^ c : Nat) : Int)) = decide (N < 256 ^ c) := by
      congr 1
      exact propext ⟨fun h => Int.ofNat_lt.1 h.2, fun h => ⟨Int.natCast_nonneg _, Int.ofNat_lt.2 h⟩⟩
    rw [e]
    exact scSize_n N c (by omega) hc w
theorem scSize_1 (n : Int) (hn : n ≤ 9223372036854775807) (w : World) :
    Calls Try.prog 57 #[.int .i64 n, .int .i64 1] w fun e w' => e = .returned (.bool (decide (0 ≤ n ∧ n < ((256 ^ 1 : Nat) : Int)))) ∧ Below w.heap.size w w' := scSize_c n hn 1 (by decide) w
theorem scSize_2 (n : Int) (hn : n ≤ 9223372036854775807) (w : World) :
    Calls Try.prog 57 #[.int .i64 n, .int .i64 2] w fun e w' => e = .returned (.bool (decide (0 ≤ n ∧ n < ((256 ^ 2 : Nat) : Int)))) ∧ Below w.heap.size w w' := scSize_c n hn 2 (by decide) w
theorem scSize_4 (n : Int) (hn : n ≤ 9223372036854775807) (w : World) :
    Calls Try.prog 57 #[.int .i64 n, .int .i64 4] w fun e w' => e = .returned (.bool (decide (0 ≤ n ∧ n < ((256 ^ 4 : Nat) : Int)))) ∧ Below w.heap.size w w' := scSize_c n hn 4 (by decide) w
end Go.Proofs.Ytflapbnbeipddaa
