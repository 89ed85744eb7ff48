/- sabretacheref10.Encode, and unutf.Cost. No condition. -/
import Derived.Test.YtjoehhojhfgooaaUnI
import Derived.Test.YtjoehhojhfgooaaUnK
import Derived.Test.YtjoehhojhfgooaaPk5
namespace Go.Proofs.Ytjoehhojhfgooaa
open Go.RowKit
set_option linter.unusedSimpArgs false
set_option linter.unusedVariables false
attribute [local go_sem] IntKind.wrap_u32' signed_u32 max_u32
attribute [local go_sem ↓] Go.wp_at_zero Go.wp_at_succ
attribute [local go_sem] Calm.C
attribute [local go_sem low] Calm.al_cell Calm.al_frozen
def u8s (f : Nat → Nat) (n : Nat) : List Value := (List.range n).map fun i => .int .u8 (f i)
theorem u8s_len (f : Nat → Nat) (n : Nat) : (u8s f n).length = n := by simp [u8s]
theorem u8s_get (f : Nat → Nat) (n i : Nat) (h : i < n) : (u8s f n)[i]? = some (.int .u8 (f i)) := by
  unfold u8s
  rw [List.getElem?_map, List.getElem?_range h]
  rfl
theorem u8s_one (f : Nat → Nat) (n : Nat) : ∀ u ∈ u8s f n, u.oneCell' = true := by
  intro u hu
  simp only [u8s, List.mem_map] at hu
  obtain ⟨i, _, rfl⟩ := hu
  rfl
theorem U8s.reads {w : World} {A : Option Addr} {n : Nat} {f : Nat → Nat} (h : U8s w A n f) {B : Nat} (hB : w.heap.size ≤ B) : Reads w B 1 A n (u8s f n) := by
  refine ⟨by rw [u8s_len]; omega, fun h0 => ?_⟩
  obtain ⟨b, o, rfl, hl, hc⟩ := h h0
  refine ⟨⟨b, o, none⟩, rfl, Nat.lt_of_lt_of_le hl hB, fun j u hu => ?_⟩
  have hj : j < n := by
    rcases Nat.lt_or_ge j n with h1 | h1
    · exact h1
    · rw [List.getElem?_eq_none (by rw [u8s_len]; exact h1)] at hu; cases hu
  rw [u8s_get f n j hj] at hu
  rw [Addr.add_mid, hc j hj, hu]
theorem U8s.own {w : World} {base n c : Nat} {A : Option Addr} {f : Nat → Nat} (h : w.ownsRow base 5 1 (.slice A n c) n (u8s f n)) : U8s w A n f := fun h0 => by
  obtain ⟨g, cap, hv, hb, hgl⟩ := h.form h0
  injection hv with h1 h2 h3
  subst h1
  refine ⟨g, 0, rfl, hgl, fun i hi => ?_⟩
  rw [Nat.zero_add]
  exact (h.cellAt i (by omega)).trans (u8s_get f n i hi)
theorem tmod2 (k : Nat) : Int.tmod (k : Int) 2 = ((k % 2 : Nat) : Int) := by
  rw [Int.tmod_eq_emod_of_nonneg (by omega)]
  omega
theorem pkCost_e (a b : Int) (n m : Nat) (ha : a = n) (hb : b = m) (hn : n ≤ 2000) (hm : m ≤ 100) (w : World) : Calls Try.prog 40 #[.int .i64 a, .int .i64 b] w fun e w' => e = .returned (.int .i64 ((n * (3 + 2 * m) + 1 + n + 1 + Pk.cs n m (Pk.stp n) : Nat) : Int)) ∧ w' = w := by
  subst ha hb
  exact pkCost_any n m hn hm w
def Un.cost (n most : Nat) : Nat := 30 * n + 4 + 2 * most + (4 * n * (3 + 2 * 1) + 1 + 4 * n + 1 + Pk.cs (4 * n) 1 (Pk.stp (4 * n)))
theorem Un.cost_evs (pt kl n out most top : Nat) : (Un.evs pt kl n out most top).length = Un.cost n most := by
  rw [Un.evs_len, Pk.evs_len]
  rfl
attribute [local irreducible] Pk.cs
set_option maxRecDepth 10000 in
set_option maxHeartbeats 1600000 in
theorem unCost_any (n most : Nat) (hn : n ≤ 100) (hm : most ≤ 4 * n) (w : World) : Calls Try.prog 17 #[.int .i64 n, .int .i64 most] w fun e w' => e = .returned (.int .i64 (Un.cost n most)) ∧ w' = w := by
  have hcs := Pk.cs_le (4 * n) 1 (by omega) (by decide) (Pk.stp (4 * n))
  have hst := Pk.stp_le (4 * n) (by omega)
  unfold Un.cost
  obtain ⟨C, hC⟩ : ∃ C, Pk.cs (4 * n) 1 (Pk.stp (4 * n)) = C := ⟨_, rfl⟩
  rw [hC]
  rw [hC] at hcs
  have HC := Lib.hid hC
  clear hC
  go_enter Try.func17, Try.ntmps17
  go_wp2_with (go_at_call 40; with_reducible refine (pkCost_e (4 * (n : Int)) 1 (4 * n) 1 (by omega) (by decide) (by omega) (by decide) _).mono ?_; rintro e w5 ⟨rfl, hw5⟩; rw [HC.out]; replace hw5 := hw5.symm; subst hw5)
  go_ret
  refine ⟨congrArg (fun z => Ending.returned (.int .i64 z)) ?_, rfl⟩
  omega
theorem putw_any (ws : List Int) (a : Nat) (f : Nat → Int) : ∀ k, a + k ≤ ws.length → ∀ i, (putw ws a f k).getD i 0 = if a ≤ i ∧ i < a + k then f (i - a) else ws.getD i 0
  | 0, _, i => by rw [putw_zero, if_neg (by omega)]
  | k + 1, hk, i => by
    have ih := putw_any ws a f k (by omega) i
    rw [putw_succ, Ut.set_get _ _ _ _ (by rw [putw_len]; omega), ih]
    by_cases h : i = a + k
    · rw [if_pos h, if_pos (by omega), h, Nat.add_sub_cancel_left]
    · rw [if_neg h]
      by_cases h2 : a ≤ i ∧ i < a + k
      · rw [if_pos h2, if_pos (by omega)]
      · rw [if_neg h2, if_neg (by omega)]
theorem Un.lay_get (n : Nat) (pf kf : Nat → Int) (m r : Nat) : (Un.lay n pf kf m).getD r 0 = if r < n then pf r else if r < 2 * n then kf (r - n) else 0 := by
  unfold Un.lay
  rw [putw_any _ _ _ _ (by rw [putw_len, List.length_replicate]; omega), putw_any _ _ _ _ (by rw [List.length_replicate]; omega)]
  by_cases h1 : r < n
  · rw [if_neg (by omega), if_pos (by omega), if_pos h1, Nat.sub_zero]
  · rw [if_neg h1]
    by_cases h2 : r < 2 * n
    · rw [if_pos (by omega), if_pos h2]
    · rw [if_neg (by omega), if_neg (by omega), if_neg h2, List.getD_eq_getElem?_getD, List.getElem?_replicate]
      split <;> rfl
def bvals (l : List Nat) : List Value := l.map fun (b : Nat) => Value.int .u8 (b : Int)
theorem bvals_nil : bvals [] = [] := rfl
theorem bvals_bytes (f : Nat → Nat) (m : Nat) (l : List Nat) : bvals l ++ u8s f m = bvals (l ++ (List.range m).map f) := by
  unfold bvals u8s
  rw [List.map_append, List.map_map]
  rfl
theorem bvals_u8s (l : List Nat) : bvals l = u8s (fun i => l.getD i 0) l.length := by
  unfold bvals u8s
  refine List.ext_getElem? fun i => ?_
  rw [List.getElem?_map, List.getElem?_map]
  rcases Nat.lt_or_ge i l.length with h | h
  · rw [List.getElem?_range h, List.getElem?_eq_getElem h]
    simp [List.getD_eq_getElem?_getD, List.getElem?_eq_getElem h]
  · rw [List.getElem?_eq_none h, List.getElem?_eq_none (by simp; exact h)]
    rfl
theorem tmod21 (k : Nat) : Int.tmod (k : Int) 2097152 = ((k % 2097152 : Nat) : Int) := by
  rw [Int.tmod_eq_emod_of_nonneg (by omega)]
  omega
attribute [local irreducible] bvals u8s Un.wl bat Ut.blen
set_option maxRecDepth 10000 in
set_option maxHeartbeats 3200000 in
theorem rEncode_any {w : World} {A KA : Option Addr} {n c kc : Nat} {pf kf : Nat → Nat} (hP : Rd w A n (fun i => (pf i : Int))) (hK : Rd w KA n (fun i => (kf i : Int))) (hpf : ∀ i, pf i < 4294967296) (hkf : ∀ i, kf i < 4294967296) (hn : n ≤ 100) :
    Calls Try.prog 20 #[.slice A n c, .slice KA n kc] w fun e w' => ∃ B cB, e = .returned (.slice B (Un.wl pf kf n).length cB) ∧ U8s w' B (Un.wl pf kf n).length (fun i => (Un.wl pf kf n).getD i 0) ∧ (∀ b o, 0 < (Un.wl pf kf n).length → B = some ⟨b, o, none⟩ → w.heap.size ≤ b) ∧ Below w.heap.size w w' := by
  have HP := Lib.hid hP
  have HK := Lib.hid hK
  have HPF := Lib.hid hpf
  have HKF := Lib.hid hkf
  clear hP hK hpf hkf
  obtain ⟨i0, hi, hz0, hz1, hz2⟩ := info_parts Try.infoU8A
  go_enter Try.func20, Try.ntmps20
  go_wp2_with fail
  go_loopw [5, 6] (fun a5 i wr => ∃ (k : Nat) (v : Value), k ≤ n ∧ i = .int .i64 (k : Int) ∧ a5 = v ∧ wr.ownsRow w.heap.size 5 1 v (Un.wl pf kf k).length (bvals (Un.wl pf kf k)) ∧ Below w.heap.size w wr) (fun _ i _ => n - (intOf i).toNat)
  case atStart => exact ⟨0, _, Nat.zero_le _, rfl, rfl, by rw [Un.wl_zero, bvals_nil]; exact World.ownsRow_nil _ _ _ _, Below.refl _ _⟩
  case round =>
    obtain ⟨k, v, hk, rfl, rfl, hO, hB⟩ := hrel
    have HO := Lib.hid hO
    have HB := Lib.hid hB
    have zr := hB.size
    have hwb := Un.wl_bound pf kf k
    clear hO hB
    by_cases hkn : k < n
    · obtain ⟨b, o, rfl, hbl, hcs⟩ := HK.out (by omega)
      have hck := (HB.out.cell (p := ⟨b, o + k, none⟩) hbl).trans (hcs k hkn)
      obtain ⟨b2, o2, rfl, hbl2, hcs2⟩ := HP.out (by omega)
      have hcp := (HB.out.cell (p := ⟨b2, o2 + k, none⟩) hbl2).trans (hcs2 k hkn)
      have hy32 := HKF.out k
      have hx32 := HPF.out k
      have hws := Un.wl_succ pf kf k
      have hbe := Un.blen_le (pf k % 2097152)
      obtain ⟨y, hy⟩ : ∃ y, kf k = y := ⟨_, rfl⟩
      obtain ⟨x, hx⟩ : ∃ x, pf k = x := ⟨_, rfl⟩
      simp only [hy] at hck hy32 hws
      simp only [hx] at hcp hx32 hws hbe
      have hm := tmod2 y
      have hm2 := tmod21 x
      have hPl : x % 2097152 < 2097152 := Nat.mod_lt _ (by decide)
      obtain ⟨P, hP⟩ : ∃ P, x % 2097152 = P := ⟨_, rfl⟩
      rw [hP] at hm2 hPl hws hbe
      have HWS := Lib.hid hws
      obtain ⟨L, hL⟩ : ∃ L, Un.wl pf kf k = L := ⟨_, rfl⟩
      rw [hL] at HO HWS hwb
      obtain ⟨m, hm'⟩ : ∃ m, L.length = m := ⟨_, rfl⟩
      have HM := Lib.hid hm'
      rw [hm'] at HO hwb
      clear hcs hcs2 hws hy hx hP hL hm'
      by_cases hodd : y % 2 = 1
      · have hm1 : Int.tmod (y : Int) 2 = 1 := by rw [hm, hodd]; rfl
        have HS := Lib.hid (HWS.out.trans (by rw [if_pos hodd]))
        clear hm HWS
        obtain ⟨A5, c5, rfl⟩ := own_slice HO.out
        go_wp2_with fail
        with_reducible refine (rBytes_any P hPl _).mono ?_
        rintro e w1 ⟨rfl, hcb, hlt, hb⟩
        have z1 := hb.size
        have HB1 := Lib.hid hb
        have HU := Lib.hid (show U8s w1 (some ⟨wr.heap.size, 0, none⟩) (Ut.blen P) (bat P) from fun _ => ⟨wr.heap.size, 0, rfl, hlt, fun i hi => by rw [Nat.zero_add]; exact hcb i hi⟩)
        have HO1 := Lib.hid (pw_own HO.out HB1)
        clear hb hcb
        go_wp2_with (first
          | (at_builtin; refine wpList_append_any _ (by rfl) _ _ 40 (by rfl) w.heap.size 5 i0 _ 1 1 Try.underlying40 hi hz0 hz1 hz2 (by rfl) (by decide) _ m (bvals L) (by rfl) HO1.out w1.heap.size _ (Ut.blen P) _ (u8s (bat P) (Ut.blen P)) (by rfl) (HU.out.reads (Nat.le_refl _)) (u8s_one _ _) (by simp only [maxLen]; omega) (by omega) (by omega) ?_; intro v2 w2 hown2 hg2 hat2; rw [bvals_bytes] at hown2; have G2 := Lib.hid hg2; have HO2 := Lib.hid hown2; clear hg2 hown2 hat2))
        have BN := Lib.hid (bl_grown G2 (own_base HO1.out) (by omega) (bl_then HB1 HB.out zr))
        refine ⟨⟨k + 1, v2, by omega, by go_num, rfl, ?_, BN.out⟩, by simp [intOf]; omega⟩
        rw [HS.out, List.length_append, HM.out, List.length_map, List.length_range]
        exact HO2.out
      · have hm1 : Int.tmod (y : Int) 2 = 0 := by rw [hm, show y % 2 = 0 by omega]; rfl
        have HS := Lib.hid (HWS.out.trans (by rw [if_neg hodd, List.append_nil]))
        clear hm HWS
        go_wp2_with fail
        refine ⟨⟨k + 1, _, by omega, by go_num, rfl, ?_, HB.out⟩, by simp [intOf]; omega⟩
        rw [HS.out, HM.out]
        exact HO.out
    · obtain rfl : k = n := by omega
      obtain ⟨A5, c5, rfl⟩ := own_slice HO.out
      have HU := Lib.hid (U8s.own (f := fun i => (Un.wl pf kf k).getD i 0) (by rw [← bvals_u8s]; exact HO.out))
      have HLO := Lib.hid (show ∀ b o, 0 < (Un.wl pf kf k).length → A5 = some ⟨b, o, none⟩ → w.heap.size ≤ b from fun b o h0 e => by
        obtain ⟨g, cap, hv, hb, hl⟩ := HO.out.form h0
        injection hv with h1 h2 h3
        rw [h1] at e
        injection e with e1
        injection e1 with e2
        omega)
      clear HO
      go_wp2_with fail
      go_ret
      exact ⟨A5, c5, rfl, HU.out, HLO.out, HB.out⟩
end Go.Proofs.Ytjoehhojhfgooaa
