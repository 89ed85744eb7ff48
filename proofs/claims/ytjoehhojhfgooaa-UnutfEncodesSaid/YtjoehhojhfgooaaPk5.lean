/- sabretachelaw04: same, word; pack.Cost. No condition. -/
import Derived.Test.YtjoehhojhfgooaaPk4
import Derived.Test.YtjoehhojhfgooaaArZ
import Derived.Test.YtjoehhojhfgooaaSkDef
namespace Go.Proofs.Ytjoehhojhfgooaa
open Go.RowKit
set_option linter.unusedSimpArgs false
set_option linter.unusedVariables false
attribute [local go_sem] IntKind.wrap_u32' signed_u32 max_u32
attribute [local go_sem ↓] Go.wp_at_zero Go.wp_at_succ
attribute [local go_sem] Calm.C
attribute [local go_sem low] Calm.al_cell Calm.al_frozen
set_option maxRecDepth 10000 in
set_option maxHeartbeats 1600000 in
theorem same04_any {w : World} {p g lp p2 g2 lp2 : Nat} {F F2 : Nat → Prop} {ws ws2 : List Int} {top top2 : Nat} {E1 E2 E : List Ev} (hA : Ar w p g lp F ws top E1) (hB : Ar w p2 g2 lp2 F2 ws2 top2 E2) (h1 : blind E1 = E) (h2 : blind E2 = E) (hL : E.length < 1099511627776) :
    Calls Try.prog 39 #[.pointer (some ⟨p, 0, none⟩), .pointer (some ⟨p2, 0, none⟩)] w fun e w' => e = .returned (.bool true) ∧ Below w.heap.size w w' := by
  obtain ⟨L, hLn⟩ : ∃ L, E.length = L := ⟨_, rfl⟩
  have e1 : E1.length = L := by rw [← hLn, ← h1, blind, List.length_map]
  have e2 : E2.length = L := by rw [← hLn, ← h2, blind, List.length_map]
  have HA := Lib.hid hA
  have HB := Lib.hid hB
  have HL := Lib.hid hLn
  have H1 := Lib.hid h1
  have H2 := Lib.hid h2
  have HE1 := Lib.hid e1
  have HE2 := Lib.hid e2
  have hLb : L < 1099511627776 := by omega
  clear hA hB hLn h1 h2 e1 e2 hL
  go_enter Try.func39, Try.ntmps39
  go_wp2_with (first
    | (go_at_call 14; with_reducible refine (ALog_any HA.out).mono ?_; rintro e w6 ⟨rfl, hw⟩; replace hw := hw.symm; subst hw)
    | (go_at_call 19; with_reducible refine (blind_of HA.out.lg HE1.out H1.out hLb).mono ?_; rintro e w7 ⟨A7, c7, rfl, hO7, hb7⟩; have O7 := Lib.hid hO7; have B7 := Lib.hid hb7; have HB7 := Lib.hid (HB.out.below B7); have z7 := hb7.size; clear hO7 hb7)
    | (go_at_call 14; with_reducible refine (ALog_any HB7.out).mono ?_; rintro e w6 ⟨rfl, hw⟩; replace hw := hw.symm; subst hw)
    | (go_at_call 19; with_reducible refine (blind_of HB7.out.lg HE2.out H2.out hLb).mono ?_; rintro e w8 ⟨A8, c8, rfl, hO8, hb8⟩; have O8 := Lib.hid hO8; have B8 := Lib.hid hb8; have P8 := Lib.hid (own_below O7.out hb8); have z8 := hb8.size; clear hO8 hb8))
  go_loopw [21] (fun i w9 => ∃ q : Nat, q ≤ L ∧ i = .int .i64 q ∧ Below w8.heap.size w8 w9) (fun i _ => L - (intOf i).toNat)
  case atStart => exact ⟨0, Nat.zero_le _, rfl, Below.refl _ _⟩
  case round =>
    rename World => w9
    obtain ⟨q, hq, rfl, hW⟩ := hrel
    have z9 := hW.size
    have HW := Lib.hid hW
    clear hW
    by_cases hqn : q < L
    · obtain ⟨g7, rfl, hg7, x0, x1, x2⟩ := ev_at P8.out HL.out hqn
      obtain ⟨g8, rfl, hg8, y0, y1, y2⟩ := ev_at O8.out HL.out hqn
      obtain ⟨e, he⟩ : ∃ e, E.getD q evDef = e := ⟨_, rfl⟩
      rw [he] at x0 x1 x2 y0 y1 y2
      have X0 := (HW.out.cell (p := ⟨g7, q * 3, none⟩) hg7).trans x0
      have X1 := (HW.out.cell (p := ⟨g7, q * 3 + 1, none⟩) hg7).trans x1
      have X2 := (HW.out.cell (p := ⟨g7, q * 3 + 2, none⟩) hg7).trans x2
      have Y0 := (HW.out.cell (p := ⟨g8, q * 3, none⟩) hg8).trans y0
      have Y1 := (HW.out.cell (p := ⟨g8, q * 3 + 1, none⟩) hg8).trans y1
      have Y2 := (HW.out.cell (p := ⟨g8, q * 3 + 2, none⟩) hg8).trans y2
      clear x0 x1 x2 y0 y1 y2 he
      go_wp2_with fail
      go_region_held3 (fun w' => w'.cell? ⟨g7, q * 3, none⟩ = some (.int .i64 e.k) ∧ w'.cell? ⟨g7, q * 3 + 1, none⟩ = some (.int .i64 e.i) ∧ w'.cell? ⟨g7, q * 3 + 2, none⟩ = some (.int .u32 e.v) ∧ w'.cell? ⟨g8, q * 3, none⟩ = some (.int .i64 e.k) ∧ w'.cell? ⟨g8, q * 3 + 1, none⟩ = some (.int .i64 e.i) ∧ w'.cell? ⟨g8, q * 3 + 2, none⟩ = some (.int .u32 e.v)) ((simp [go_sem, ↓IntWalk.iteOmega, *]; done)) (fail)
      all_goals (go_wp2_with fail)
      all_goals
        refine ⟨⟨q + 1, by omega, by go_num, ?_⟩, by simp [intOf]; omega⟩
        have HW' := HW.out
        (repeat' (first | with_reducible exact Below.refl _ _ | with_reducible refine bl_drewN ?_ _ | with_reducible refine bl_drew ?_ | refine bl_set (by (first | omega | (simp; done) | (simp; omega))) ?_ _ | refine bl_alloc (by (first | omega | (simp; done) | (simp; omega))) ?_ _ | refine bl_then (by assumption) ?_ (by (first | omega | (simp; done) | (simp; omega))) | refine Step.bl (by assumption) (by assumption) (by (first | omega | (simp; done) | (simp; omega))) (by (first | omega | (simp; done) | (simp; omega))) ?_))
    · have hge2 : L ≤ q := by omega
      go_wp2_with fail
      go_ret
      refine ⟨rfl, ?_⟩
      have b8 := bl_then B8 B7.out B7.out.size
      exact bl_then HW b8 b8.size
/-- A row's word, 0 where there is none. -/
def wdr (n : Nat) (R : Nat → Nat) (f : Nat → Nat → Int) (i k : Nat) : Int := if i < n ∧ k < R i then f i k else 0
set_option maxRecDepth 10000 in
set_option maxHeartbeats 1600000 in
theorem word04_any {w : World} {A : Option Addr} {n c : Nat} {R : Nat → Nat} {f : Nat → Nat → Int} {B off : Nat} {Ai : Nat → Option Addr} {ci : Nat → Nat} (h : Rowz w A n R f B off Ai ci) (hR : ∀ i, i < n → R i ≤ 9223372036854775807) (i k : Nat) (hi : i ≤ 1000000) (hk : k ≤ 1000000) :
    Calls Try.prog 41 #[.slice A n c, .int .i64 i, .int .i64 k] w fun e w' => e = .returned (.int .u32 (wdr n R f i k)) ∧ w' = w := by
  unfold wdr
  by_cases hin : i < n
  · obtain ⟨rfl, hB⟩ := h.at_ (by omega)
    have hc := h.cell i hin
    have hRi := hR i hin
    have hrow := h.row i hin
    have HH := Lib.hid h
    obtain ⟨a, ha⟩ : ∃ a, Ai i = a := ⟨_, rfl⟩
    obtain ⟨r, hr⟩ : ∃ r, R i = r := ⟨_, rfl⟩
    obtain ⟨q, hq⟩ : ∃ q, ci i = q := ⟨_, rfl⟩
    rw [ha, hr, hq] at hc
    rw [hr] at hRi hrow ⊢
    rw [ha] at hrow
    clear h hR
    by_cases hkr : k < r
    · rw [if_pos ⟨hin, hkr⟩]
      obtain ⟨b, o, rfl, hb, hcs⟩ := hrow (by omega)
      have hck := hcs k hkr
      obtain ⟨v, hv⟩ : ∃ v, f i k = v := ⟨_, rfl⟩
      rw [hv] at hck ⊢
      clear hcs hv
      go_enter Try.func41, Try.ntmps41
      go_wp2_with fail
      go_ret
      exact ⟨rfl, rfl⟩
    · rw [if_neg (fun hc => hkr hc.2)]
      clear hrow
      go_enter Try.func41, Try.ntmps41
      go_wp2_with fail
      go_ret
      exact ⟨rfl, rfl⟩
  · rw [if_neg (fun hc => hin hc.1)]
    clear h hR
    go_enter Try.func41, Try.ntmps41
    go_wp2_with fail
    go_ret
    exact ⟨rfl, rfl⟩
namespace Pk
/-- How many events the moves of b bits note. -/
def cs (n m : Nat) : Nat → Nat
  | 0 => 0
  | b + 1 => cs n m b + (n - 2 ^ b) * (1 + 4 * (m + 2))
theorem cs_zero (n m : Nat) : cs n m 0 = 0 := rfl
theorem cs_succ (n m b : Nat) : cs n m (b + 1) = cs n m b + (n - 2 ^ b) * (1 + 4 * (m + 2)) := rfl
theorem mvse_len (far n : Nat) (L : Nat → Nat) (m : Nat) : ∀ b, (mvse far n L (m + 2) b).length = cs n m b
  | 0 => rfl
  | b + 1 => by rw [mvse_succ, List.length_append, mvse_len far n L m b, mve_len, cs_succ]
theorem evs_len (keep n top m : Nat) (L : Nat → Nat) : (evs keep n top m L).length = n * (3 + 2 * m) + 1 + n + 1 + cs n m (stp n) := by
  unfold evs
  rw [List.length_append, List.length_append, List.length_append, List.length_append, bge_len, gvEvs_len, mvse_len]
  simp only [List.length_cons, List.length_nil]
  omega
theorem cs_le (n m : Nat) (hn : n ≤ 2000) (hm : m ≤ 100) : ∀ b, cs n m b ≤ b * 1000000
  | 0 => Nat.le_refl _
  | b + 1 => by
    have h1 := cs_le n m hn hm b
    have h3 : (n - 2 ^ b) * (1 + 4 * (m + 2)) ≤ 2000 * 409 := Nat.mul_le_mul (Nat.le_trans (Nat.sub_le _ _) hn) (by omega)
    rw [cs_succ]
    omega
end Pk
attribute [local irreducible] Pk.cs
set_option maxRecDepth 10000 in
set_option maxHeartbeats 1600000 in
theorem pkCost_any (n m : Nat) (hn : n ≤ 2000) (hm : m ≤ 100) (w : World) : Calls Try.prog 40 #[.int .i64 n, .int .i64 m] w fun e w' => e = .returned (.int .i64 ((n * (3 + 2 * m) + 1 + n + 1 + Pk.cs n m (Pk.stp n) : Nat) : Int)) ∧ w' = w := by
  obtain ⟨Y, hY⟩ : ∃ Y, n * (3 + 2 * m) = Y := ⟨_, rfl⟩
  have hYb : Y ≤ 2000 * 203 := by rw [← hY]; exact Nat.mul_le_mul hn (by omega)
  have hYi : (n : Int) * (3 + 2 * (m : Int)) = (Y : Int) := by rw [← hY]; simp
  have hst := Pk.stp_le n (by omega)
  obtain ⟨S, hS⟩ : ∃ S, Pk.stp n = S := ⟨_, rfl⟩
  rw [hY, hS]
  rw [hS] at hst
  have HS := Lib.hid hS
  clear hY hS
  go_enter Try.func40, Try.ntmps40
  go_wp2_with (go_at_call 65; with_reducible refine (pkSteps_any n (by omega) _).mono ?_; rintro e w5 ⟨rfl, hw5⟩; rw [HS.out]; replace hw5 := hw5.symm; subst hw5)
  go_loopw [5, 28] (fun a5 i wr => ∃ b : Nat, b ≤ S ∧ i = .int .i64 b ∧ a5 = .int .i64 ((Y + 1 + n + 1 + Pk.cs n m b : Nat) : Int) ∧ wr = w) (fun _ i _ => S - (intOf i).toNat)
  case atStart => exact ⟨0, Nat.zero_le _, rfl, by rw [Pk.cs_zero]; simp, rfl⟩
  case round =>
    obtain ⟨b, hb, rfl, rfl, rfl⟩ := hrel
    by_cases hbS : b < S
    · obtain ⟨P, hP, hP1, hP3, hw0⟩ := pow_facts b (by omega)
      have hcs := Pk.cs_le n m hn hm b
      have hsc := Pk.cs_succ n m b
      rw [hP] at hsc
      obtain ⟨K, hK⟩ : ∃ K, n - P = K := ⟨_, rfl⟩
      have hKi : max ((n : Int) - (P : Int)) 0 = (K : Int) := by omega
      obtain ⟨Z, hZ⟩ : ∃ Z, K * (1 + 4 * (m + 2)) = Z := ⟨_, rfl⟩
      have hZi : (K : Int) * (1 + 4 * ((m : Int) + 2)) = (Z : Int) := by rw [← hZ]; simp
      have hZb : Z ≤ 2000 * 409 := by rw [← hZ]; exact Nat.mul_le_mul (by omega) (by omega)
      rw [hK, hZ] at hsc
      have HSC := Lib.hid hsc
      clear hsc hP hK hZ
      go_wp2_with fail
      refine ⟨⟨b + 1, by omega, by go_num, ?_, trivial⟩, by simp [intOf]; omega⟩
      rw [HSC.out]
      congr 1
      omega
    · obtain rfl : b = S := by omega
      go_wp2_with fail
      go_ret
      exact ⟨rfl, rfl⟩
end Go.Proofs.Ytjoehhojhfgooaa
