/- UtfTwo: the law's call. No condition. -/
import Derived.Test.YtjoehhojhfgooaaUtU
namespace Go.Proofs.Ytjoehhojhfgooaa
open Go.RowKit
set_option linter.unusedSimpArgs false
set_option linter.unusedVariables false
attribute [local go_sem] IntKind.wrap_u32' signed_u32 max_u32
attribute [local go_sem ↓] Go.wp_at_zero Go.wp_at_succ
attribute [local go_sem] Calm.C
attribute [local go_sem low] Calm.al_cell Calm.al_frozen
def u8s (f : Nat → Nat) (n : Nat) : List Value := (List.range n).map fun i => .int .u8 (f i)
theorem u8s_len (f : Nat → Nat) (n : Nat) : (u8s f n).length = n := by simp [u8s]
theorem u8s_get (f : Nat → Nat) (n i : Nat) (h : i < n) : (u8s f n)[i]? = some (.int .u8 (f i)) := by
  unfold u8s
  rw [List.getElem?_map, List.getElem?_range h]
  rfl
theorem u8s_both (f f2 : Nat → Nat) (n n2 : Nat) : u8s f n ++ u8s f2 n2 = u8s (Ut.both f f2 n) (n + n2) := by
  refine List.ext_getElem? fun i => ?_
  rcases Nat.lt_or_ge i n with h | h
  · rw [List.getElem?_append_left (by rw [u8s_len]; exact h), u8s_get f n i h, u8s_get _ _ i (by omega)]
    unfold Ut.both
    rw [if_pos h]
  · rw [List.getElem?_append_right (by rw [u8s_len]; exact h), u8s_len]
    rcases Nat.lt_or_ge i (n + n2) with h2 | h2
    · rw [u8s_get f2 n2 _ (by omega), u8s_get _ _ i h2]
      unfold Ut.both
      rw [if_neg (by omega)]
    · rw [List.getElem?_eq_none (by rw [u8s_len]; omega), List.getElem?_eq_none (by rw [u8s_len]; omega)]
theorem u8s_one (f : Nat → Nat) (n : Nat) : ∀ u ∈ u8s f n, u.oneCell' = true := by
  intro u hu
  simp only [u8s, List.mem_map] at hu
  obtain ⟨i, _, rfl⟩ := hu
  rfl
theorem U8s.reads {w : World} {A : Option Addr} {n : Nat} {f : Nat → Nat} (h : U8s w A n f) {B : Nat} (hB : w.heap.size ≤ B) : Reads w B 1 A n (u8s f n) := by
  refine ⟨by rw [u8s_len]; omega, fun h0 => ?_⟩
  obtain ⟨b, o, rfl, hl, hc⟩ := h h0
  refine ⟨⟨b, o, none⟩, rfl, Nat.lt_of_lt_of_le hl hB, fun j u hu => ?_⟩
  have hj : j < n := by
    rcases Nat.lt_or_ge j n with h1 | h1
    · exact h1
    · rw [List.getElem?_eq_none (by rw [u8s_len]; exact h1)] at hu; cases hu
  rw [u8s_get f n j hj] at hu
  rw [Addr.add_mid, hc j hj, hu]
theorem own_empty {W : World} {g base : Nat} {e : TypeId} (hb : base ≤ g) (hW : W.heap[g]? = some (.cells #[] e (0, 0))) : W.ownsRow base e 1 (.slice (some ⟨g, 0, none⟩) 0 0) 0 [] :=
  ⟨rfl, .inr ⟨g, 0, #[], rfl, hb, hW, Nat.le_refl _, by decide, rfl, rfl⟩⟩
theorem U8s.own {w : World} {base n c : Nat} {A : Option Addr} {f : Nat → Nat} (h : w.ownsRow base 5 1 (.slice A n c) n (u8s f n)) : U8s w A n f := fun h0 => by
  obtain ⟨g, cap, hv, hb, hgl⟩ := h.form h0
  injection hv with h1 h2 h3
  subst h1
  refine ⟨g, 0, rfl, hgl, fun i hi => ?_⟩
  rw [Nat.zero_add]
  exact (h.cellAt i (by omega)).trans (u8s_get f n i hi)
theorem both_lt {f f2 : Nat → Nat} (n : Nat) (hf : ∀ i, f i < 256) (hf2 : ∀ i, f2 i < 256) : ∀ i, Ut.both f f2 n i < 256 := fun i => by
  unfold Ut.both
  split
  · exact hf i
  · exact hf2 _
attribute [local irreducible] lst u32s u8s
set_option maxRecDepth 10000 in
set_option maxHeartbeats 3200000 in
theorem UtfTwo_any (w : World) (A A2 : Option Addr) (n c n2 c2 : Nat) (f f2 : Nat → Nat) (hA : U8s w A n f) (hA2 : U8s w A2 n2 f2) (hn : n ≤ 9223372036854775807) (hn2 : n2 ≤ 9223372036854775807) (hf : ∀ i, f i < 256) (hf2 : ∀ i, f2 i < 256) :
    Calls Try.prog 6 #[.slice A n c, .slice A2 n2 c2] w fun e w' => e = .returned (.bool true) ∧ Below w.heap.size w w' := by
  rcases (by omega : 40 < n ∨ (n ≤ 40 ∧ 40 < n2) ∨ (n ≤ 40 ∧ n2 ≤ 40)) with h40 | h40 | ⟨h40, h402⟩
  · clear hA hA2
    go_enter Try.func6, Try.ntmps6
    go_wp2_with (first | (go_at_call 29; refine (awake09_any _).mono ?_; rintro e w1 ⟨rfl, hb⟩; have hcf := bcell hb; (try simp only [World.size_alloc, World.size_setCell, drew_size] at hcf); have hz := hb.size; (try simp only [World.size_alloc, World.size_setCell, World.size_drew] at hz); have hbh := Lib.hid hb; clear hb; obtain ⟨hc, hf⟩ := hcf))
    go_ret
    refine ⟨rfl, ?_⟩
    (repeat' (first | with_reducible exact Below.refl _ _ | with_reducible refine bl_drewN ?_ _ | with_reducible refine bl_drew ?_ | refine bl_set (by (first | omega | (simp; done) | (simp; omega))) ?_ _ | refine bl_alloc (by (first | omega | (simp; done) | (simp; omega))) ?_ _ | refine bl_then (by assumption) ?_ (by (first | omega | (simp; done) | (simp; omega))) | refine Step.bl (by assumption) (by assumption) (by (first | omega | (simp; done) | (simp; omega))) (by (first | omega | (simp; done) | (simp; omega))) ?_))
  · clear hA hA2
    go_enter Try.func6, Try.ntmps6
    go_wp2_with (first | (go_at_call 29; refine (awake09_any _).mono ?_; rintro e w1 ⟨rfl, hb⟩; have hcf := bcell hb; (try simp only [World.size_alloc, World.size_setCell, drew_size] at hcf); have hz := hb.size; (try simp only [World.size_alloc, World.size_setCell, World.size_drew] at hz); have hbh := Lib.hid hb; clear hb; obtain ⟨hc, hf⟩ := hcf))
    go_ret
    refine ⟨rfl, ?_⟩
    (repeat' (first | with_reducible exact Below.refl _ _ | with_reducible refine bl_drewN ?_ _ | with_reducible refine bl_drew ?_ | refine bl_set (by (first | omega | (simp; done) | (simp; omega))) ?_ _ | refine bl_alloc (by (first | omega | (simp; done) | (simp; omega))) ?_ _ | refine bl_then (by assumption) ?_ (by (first | omega | (simp; done) | (simp; omega))) | refine Step.bl (by assumption) (by assumption) (by (first | omega | (simp; done) | (simp; omega))) (by (first | omega | (simp; done) | (simp; omega))) ?_))
  have HX := Lib.hid hA
  have HX2 := Lib.hid hA2
  have HF := Lib.hid hf
  have HF2 := Lib.hid hf2
  clear hA hA2 hf hf2
  obtain ⟨i0, hi, hz0, hz1, hz2⟩ := info_parts Try.infoU8A
  obtain ⟨L1, hL1⟩ : ∃ L1, lst f n n = L1 := ⟨_, rfl⟩
  obtain ⟨L2, hL2⟩ : ∃ L2, lst f2 n2 n2 = L2 := ⟨_, rfl⟩
  obtain ⟨R1, hR1⟩ : ∃ R1, Ut.isBad f n = R1 := ⟨_, rfl⟩
  obtain ⟨R2, hR2⟩ : ∃ R2, Ut.isBad f2 n2 = R2 := ⟨_, rfl⟩
  have hl1 : L1.length ≤ n := by rw [← hL1]; exact lst_len f n n
  have hl2 : L2.length ≤ n2 := by rw [← hL2]; exact lst_len f2 n2 n2
  have HL1 := Lib.hid hL1
  have HL2 := Lib.hid hL2
  have HR1 := Lib.hid hR1
  have HR2 := Lib.hid hR2
  clear hL1 hL2 hR1 hR2
  go_enter Try.func6, Try.ntmps6
  go_wp2_with (first | (go_at_call 29; refine (awake09_any _).mono ?_; rintro e wq ⟨rfl, hb⟩; have hcf_wq := bcell hb; (try simp only [World.size_alloc, World.size_setCell, drew_size] at hcf_wq); have hz_wq := hb.size; (try simp only [World.size_alloc, World.size_setCell, World.size_drew] at hz_wq); have hbh_wq := Lib.hid hb; clear hb; obtain ⟨hc_wq, hf_wq⟩ := hcf_wq))
  with_reducible refine (points09_any (HX.out.below hbh_wq.out) HF.out (by omega) c).mono ?_
  rintro e wa ⟨P1, m1, k1, rfl, hm1, hO1, hb1⟩
  rw [HL1.out] at hm1 hO1
  rw [HR1.out]
  subst hm1
  have BA := Lib.hid (bl_then (Lib.hid hb1) hbh_wq.out hbh_wq.out.size)
  have O1 := Lib.hid hO1
  clear hb1 hO1 hc_wq hf_wq hbh_wq
  go_wp2_with fail
  with_reducible refine (points09_any (HX2.out.below BA.out) HF2.out (by omega) c2).mono ?_
  rintro e wb ⟨P2, m2, k2, rfl, hm2, hO2, hb2⟩
  rw [HL2.out] at hm2 hO2
  rw [HR2.out]
  subst hm2
  have BB := Lib.hid (bl_then (Lib.hid hb2) BA.out BA.out.size)
  have O1b := Lib.hid (pw_own O1.out (Lib.hid hb2))
  have O2 := Lib.hid hO2
  clear hb2 hO2 O1
  go_wp2_with (first
    | (at_builtin; refine wpList_append_any _ (by rfl) _ _ 40 (by rfl) wb.heap.size 5 i0 _ 1 1 Try.underlying40 hi hz0 hz1 hz2 (by rfl) (by decide) (.slice (some ⟨wb.heap.size, 0, none⟩) 0 0) 0 [] (by rfl) (own_empty (Nat.le_refl _) (heap_alloc_new _ _)) (wb.heap.size + 1) A n c (u8s f n) (by rfl) ((HX.out.below (BB.out.alloc BB.out.size _)).reads (by rw [World.size_alloc]; exact Nat.le_refl _)) (u8s_one f n) (by simp only [maxLen]; omega) (by omega) (by simp) ?_; intro v1 w1 hown1 hg1 hat1; rw [Nat.zero_add, List.nil_append] at hown1; have G1 := Lib.hid hg1; have D1 := Lib.hid hown1; have B1 := Lib.hid (bl_grown G1 (fun k hk => by simp [Value.ownBlock] at hk; omega) (by simp) ((Below.refl wb.heap.size wb).alloc (Nat.le_refl _) (.cells #[] 5))); clear hg1 hown1 hat1)
    | (at_builtin; refine wpList_append_any _ (by rfl) _ _ 40 (by rfl) wb.heap.size 5 i0 _ 1 1 Try.underlying40 hi hz0 hz1 hz2 (by rfl) (by decide) v1 n (u8s f n) (by rfl) D1.out w1.heap.size A2 n2 c2 (u8s f2 n2) (by rfl) ((HX2.out.below (bl_then B1 BB.out BB.out.size)).reads (Nat.le_refl _)) (u8s_one f2 n2) (by simp only [maxLen]; omega) (by omega) B1.out.size ?_; intro v2 w2 hown2 hg2 hat2; rw [u8s_both] at hown2; have G2 := Lib.hid hg2; have D2 := Lib.hid hown2; have B2 := Lib.hid (bl_grown G2 (own_base D1.out) B1.out.size B1.out); clear hg2 hown2 hat2))
  obtain ⟨A3, c3, rfl⟩ := own_slice D2.out
  have BW2 := Lib.hid (bl_then B2 BB.out BB.out.size)
  with_reducible refine (points09_any (U8s.own D2.out) (both_lt n HF.out HF2.out) (by omega) c3).mono ?_
  rintro e wc ⟨P3, m3, k3, rfl, hm3, hO3, hb3⟩
  have BC := Lib.hid (bl_then (Lib.hid hb3) BW2.out BW2.out.size)
  have hbc : Below wb.heap.size wb wc := bl_then (Lib.hid hb3) B2.out B2.out.size
  have E1 := Lib.hid (pw_own O1b.out (Lib.hid hbc))
  have E2 := Lib.hid (pw_own O2.out (Lib.hid hbc))
  cases R1
  · rw [Ut.bad_both f f2 n n2 HR1.out, HR2.out]
    cases R2
    · have hlb : lst (Ut.both f f2 n) (n + n2) (n + n2) = L1 ++ L2 := by
        rw [lst_both f f2 n n2 HR1.out HR2.out n2 (Nat.le_refl _), HL1.out, HL2.out]
      rw [hlb] at hm3 hO3
      rw [List.length_append] at hm3
      obtain ⟨r3, q3, -⟩ := Rd.own hO3
      obtain ⟨r1, q1, -⟩ := Rd.own E1.out
      obtain ⟨r2, q2, -⟩ := Rd.own E2.out
      obtain ⟨m1, hm1⟩ : ∃ m1, L1.length = m1 := ⟨_, rfl⟩
      obtain ⟨m2, hm2⟩ : ∃ m2, L2.length = m2 := ⟨_, rfl⟩
      rw [hm1] at hl1 q1 r1
      rw [hm2] at hl2 q2 r2
      rw [hm1, hm2] at hm3
      have s1 := Lib.hid (Rd.eq (g' := fun i => (L1.getD i 0 : Int)) (r3.take (m := m1) (by omega)) rfl (fun i hi => by
        simp only [List.getD_eq_getElem?_getD]
        rw [List.getElem?_append_left (by omega)]))
      have s2 := Lib.hid (Rd.eq (m := m2) (g' := fun i => (L2.getD i 0 : Int)) (r3.cut (c := k3) (k := m1) q3 (by omega)) (by omega) (fun i hi => by
        simp only [List.getD_eq_getElem?_getD]
        rw [List.getElem?_append_right (by omega), hm1, Nat.add_sub_cancel_left]))
      have T1 := Lib.hid r1
      have T2 := Lib.hid r2
      rw [hm1, hm2]
      subst hm3
      clear r1 r2 r3 hO3 hb3 hbc hlb hm1 hm2
      go_wp2_with (first
        | (go_at_call 34; with_reducible refine (same09_any s1.out T1.out (by omega) _ _).mono ?_; rintro e w5 ⟨rfl, hb5⟩; have B5 := Lib.hid hb5; clear hb5)
        | (go_at_call 34; with_reducible refine (same09_any (s2.out.below B5.out) (T2.out.below B5.out) (by omega) _ _).mono ?_; rintro e w6 ⟨rfl, hb6⟩; have B6 := Lib.hid hb6; clear hb6))
      all_goals
        go_ret
        refine ⟨rfl, ?_⟩
        have h5 := bl_then B5 BC.out BC.out.size
        exact bl_then B6 h5 h5.size
    · clear hm3 hO3
      go_wp2_with fail
      go_ret
      exact ⟨rfl, BC.out⟩
  · clear hm3 hO3
    cases R2
    all_goals
      go_wp2_with fail
      go_ret
      exact ⟨rfl, BC.out⟩
end Go.Proofs.Ytjoehhojhfgooaa
