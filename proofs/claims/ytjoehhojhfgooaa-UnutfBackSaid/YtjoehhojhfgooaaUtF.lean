/- Bytes laid in an arena (sabretachelaw09.Lay). No condition. -/
import Derived.Test.YtjoehhojhfgooaaUtE
namespace Go.Proofs.Ytjoehhojhfgooaa
open Go.RowKit
set_option linter.unusedSimpArgs false
set_option linter.unusedVariables false
attribute [local go_sem] IntKind.wrap_u32' signed_u32 max_u32
attribute [local go_sem ↓] Go.wp_at_zero Go.wp_at_succ
attribute [local go_sem] Calm.C
attribute [local go_sem low] Calm.al_cell Calm.al_frozen
theorem new_cell (w : World) (x : Value) (t : TypeId) : (w.alloc (.cells #[x] t)).cell? ⟨w.heap.size, 0, none⟩ = some x := (Blk.new w t #[x]).cell 0
theorem APut_1 {w : World} {p g lp : Nat} {FL : Nat → Prop} {ws : List Int} {top : Nat} {evs : List Ev} (h : Ar w p g lp FL ws top evs) (he : evs.length < 1099511627775) (a : Nat) (v : Int) (b c : Nat) (hat : a < top) (hb : b < w.heap.size) (hnb : ¬ AF p g FL b) (hc : w.cell? ⟨b, 0, none⟩ = some (.int .u32 v)) :
    Calls Try.prog 26 #[.pointer (some ⟨p, 0, none⟩), .int .i64 a, .slice (some ⟨b, 0, none⟩) 1 c] w fun e w' => e = .returned (.bool true) ∧ ∃ FL', Ar w' p g lp FL' (ws.set a v) top (evs ++ [⟨2, (a : Int), 0⟩]) ∧ Step (AF p g FL) (AF p g FL') w w' := by
  have := APut_t h a 1 c (some ⟨b, 0, none⟩) (fun _ => v) hat (by omega) (fun _ => ⟨b, 0, rfl, hb, hnb, fun j hj => by
    obtain rfl : j = 0 := by omega
    exact hc⟩)
  rwa [putw_succ, putw_zero, stEvs_succ, stEvs_zero] at this
theorem ATake_j {w : World} {p g lp : Nat} {FL : Nat → Prop} {ws : List Int} {top : Nat} {evs : List Ev} (h : Ar w p g lp FL ws top evs) (hn : evs.length < 1099511627776) (n : Int) (h0 : 0 ≤ n) (h1 : top + n ≤ ws.length) :
    Calls Try.prog 25 #[.pointer (some ⟨p, 0, none⟩), .int .i64 n] w fun e w' => e = .returned (.tuple #[.int .i64 top, .bool true]) ∧ ∃ FL', Ar w' p g lp FL' ws (top + n.toNat) (evs ++ [⟨4, top, n⟩]) ∧ Step (AF p g FL) (AF p g FL') w w' := by
  obtain ⟨j, rfl⟩ := Int.eq_ofNat_of_zero_le h0
  exact ATake_t h hn j (by omega)
namespace Ut
def lay (n : Nat) (f : Nat → Int) : Nat → List Int
  | 0 => List.replicate (3 * n) 0
  | k + 1 => (lay n f k).set k (f k)
theorem lay_zero (n : Nat) (f : Nat → Int) : lay n f 0 = List.replicate (3 * n) 0 := rfl
theorem lay_succ (n : Nat) (f : Nat → Int) (k : Nat) : lay n f (k + 1) = (lay n f k).set k (f k) := rfl
theorem lay_len (n : Nat) (f : Nat → Int) : ∀ k, (lay n f k).length = 3 * n
  | 0 => by rw [lay_zero, List.length_replicate]
  | k + 1 => by rw [lay_succ, List.length_set, lay_len n f k]
theorem lay_get (n : Nat) (f : Nat → Int) : ∀ k, k ≤ 3 * n → ∀ i, (lay n f k).getD i 0 = if i < k then f i else 0
  | 0, _, i => by rw [lay_zero, if_neg (Nat.not_lt_zero i), List.getD_eq_getElem?_getD, List.getElem?_replicate]; split <;> rfl
  | k + 1, hk, i => by
    have ih := lay_get n f k (by omega) i
    rw [lay_succ, List.getD_eq_getElem?_getD, List.getElem?_set]
    by_cases h : k = i
    · subst h
      rw [if_pos rfl, if_pos (by rw [lay_len]; omega), if_pos (Nat.lt_succ_self _)]
      rfl
    · rw [if_neg h, ← List.getD_eq_getElem?_getD, ih]
      by_cases h2 : i < k
      · rw [if_pos h2, if_pos (by omega)]
      · rw [if_neg h2, if_neg (by omega)]
end Ut
attribute [local irreducible] Ut.lay stEvs
set_option maxRecDepth 10000 in
set_option maxHeartbeats 1600000 in
theorem Lay_any {w : World} {A : Option Addr} {n c : Nat} {f : Nat → Int} (hA : 0 < n → ∃ b o, A = some ⟨b, o, none⟩ ∧ b < w.heap.size ∧ ∀ i, i < n → w.cell? ⟨b, o + i, none⟩ = some (.int .u8 (f i))) (hn : n ≤ 1000) (hf : ∀ i, i < n → 0 ≤ f i ∧ f i ≤ 255) :
    Calls Try.prog 30 #[.slice A n c, .int .i64 3] w fun e w' => ∃ p g lp F, e = .returned (.pointer (some ⟨p, 0, none⟩)) ∧ Ar w' p g lp F (Ut.lay n f n) (3 * n) ([⟨4, 0, (n : Int) * 3⟩] ++ stEvs 0 n) ∧ (∀ i, AF p g F i → w.heap.size ≤ i) ∧ Below w.heap.size w w' := by
  have HX := Lib.hid hA
  have HF := Lib.hid hf
  clear hA hf
  have HN := Lib.hid (show (if (4194304 : Int) < (if (n : Int) * 3 < 0 then 0 else (n : Int) * 3) then 4194304 else (if (n : Int) * 3 < 0 then 0 else (n : Int) * 3)) = ((3 * n : Nat) : Int) by rw [if_neg (by omega), if_neg (by omega)]; omega)
  go_enter Try.func30, Try.ntmps30
  go_wp2_with (go_at_call 24; with_reducible refine (ANew_any ((n : Int) * 3) (3 * n) HN.out _).mono ?_; rintro e w0 ⟨p, g, lp, F0, rfl, hA, hlow, hb⟩; have H0 := Lib.hid hA; have LOW := Lib.hid hlow; have B0 := Lib.hid hb; have z0 := hb.size; clear hA hlow hb)
  go_wp2_with (go_at_call 25; with_reducible refine (ATake_j H0.out (by decide) _ (by omega) (by rw [List.length_replicate]; omega)).mono ?_; rintro e w1 ⟨rfl, F1, hA1, hs1⟩; have H1 := Lib.hid hA1; have S1 := Lib.hid hs1; have z1 := hs1.size; clear hA1 hs1)
  have B1 : Hid (Below w.heap.size w w1) := Lib.hid (S1.out.below B0.out B0.out.size LOW.out)
  have L1 : Hid (∀ i, AF p g F1 i → w.heap.size ≤ i) := Lib.hid (S1.out.low B0.out.size LOW.out)
  go_loopw [22] (fun i wr => ∃ (k : Nat) (F : Nat → Prop), k ≤ n ∧ i = .int .i64 k ∧ Ar wr p g lp F (Ut.lay n f k) (3 * n) ([⟨4, 0, (n : Int) * 3⟩] ++ stEvs 0 k) ∧ Step (AF p g F1) (AF p g F) w1 wr) (fun i _ => n - (intOf i).toNat)
  case atStart =>
    refine ⟨0, F1, Nat.zero_le _, rfl, ?_, H1.out.step0⟩
    have h1 := H1.out
    rw [Nat.zero_add, show ((n : Int) * 3).toNat = 3 * n by omega] at h1
    rw [Ut.lay_zero, stEvs_zero, List.append_nil]
    exact h1
  case round =>
    obtain ⟨k, F, hk, rfl, hA, hs⟩ := hrel
    have HA := Lib.hid hA
    have HS := Lib.hid hs
    have zr := hs.size
    clear hA hs
    by_cases hkn : k < n
    · obtain ⟨b, o, rfl, hb, hcs⟩ := HX.out (by omega)
      have hfk := HF.out k hkn
      have hck : wr.cell? ⟨b, o + k, none⟩ = some (.int .u8 (f k)) := by
        refine (old_cell HS.out (by omega) (fun hf => ?_)).trans ((B1.out.cell (p := ⟨b, o + k, none⟩) hb).trans (hcs k hkn))
        have := L1.out b hf
        omega
      have hsl := stEvs_len 0 k
      obtain ⟨v, hv⟩ : ∃ v, f k = v := ⟨_, rfl⟩
      rw [hv] at hck hfk
      have hv256 : v % 4294967296 = v := by omega
      clear hcs
      go_wp2_with (go_at_call 26; with_reducible refine (APut_1 (HA.out.alloc _) (by rw [List.length_append]; simp only [List.length_cons, List.length_nil]; omega) k v _ _ (by omega) (by simp) (fun hf => absurd (HA.out.most _ hf) (Nat.lt_irrefl _)) (new_cell _ _ _)).mono ?_; rintro e w2 ⟨rfl, F2, hA2, hs2⟩; have H2 := Lib.hid hA2; have S2 := Lib.hid hs2; clear hA2 hs2)
      refine ⟨⟨k + 1, F2, by omega, by go_num, ?_, ?_⟩, by simp [intOf]; omega⟩
      · rw [Ut.lay_succ, stEvs_succ, ← List.append_assoc, hv, Nat.zero_add]
        exact H2.out
      · exact HS.out.alloc _ |>.trans S2.out
    · have hge : n ≤ k := by omega
      have hE := Lib.hid (show k = n by omega)
      go_wp2_with fail
      go_ret
      have hE2 := hE.out
      subst hE2
      refine ⟨p, g, lp, F, rfl, HA.out, HS.out.low B1.out.size L1.out, HS.out.below B1.out B1.out.size L1.out⟩
end Go.Proofs.Ytjoehhojhfgooaa
