/- ArenaBlind: acts of the kinds 1 to 6. No condition. -/
import Derived.Test.YtflapbnbeipddaaArB
namespace Go.Proofs.Ytflapbnbeipddaa
open Go.RowKit
set_option linter.unusedSimpArgs false
set_option linter.unusedVariables false
attribute [local go_sem] IntKind.wrap_u32' signed_u32 max_u32
attribute [local go_sem ↓] Go.wp_at_zero Go.wp_at_succ
attribute [local go_sem] Calm.C
attribute [local go_sem low] Calm.al_cell Calm.al_frozen
attribute [local irreducible] gvw gvEvs putw stEvs shEvs
theorem blind_append (a b : List Ev) : blind (a ++ b) = blind a ++ blind b := List.map_append
theorem gvEvs_blind (top : Nat) : ∀ k, blind (gvEvs top k) = gvEvs top k
  | 0 => by rw [gvEvs_zero]; rfl
  | k + 1 => by rw [gvEvs_succ, blind_append, gvEvs_blind top k]; rfl
theorem stEvs_blind (at_ : Nat) : ∀ k, blind (stEvs at_ k) = stEvs at_ k
  | 0 => by rw [stEvs_zero]; rfl
  | k + 1 => by rw [stEvs_succ, blind_append, stEvs_blind at_ k]; rfl
theorem shEvs_blind (ws : List Int) (at_ : Nat) : ∀ k, blind (shEvs ws at_ k) = blind (shEvs [] at_ k)
  | 0 => by rw [shEvs_zero, shEvs_zero]
  | k + 1 => by rw [shEvs_succ, shEvs_succ, blind_append, blind_append, blind_append, blind_append, shEvs_blind ws at_ k]; rfl
set_option maxHeartbeats 800000 in
theorem APut_f {w : World} {p g lp : Nat} {FL : Nat → Prop} {ws : List Int} {top : Nat} {evs : List Ev} (h : Ar w p g lp FL ws top evs) (i : Int) (m c : Nat) (A : Option Addr) (hi : ¬ (0 ≤ i ∧ i + m ≤ top)) :
    Calls Try.prog 32 #[.pointer (some ⟨p, 0, none⟩), .int .i64 i, .slice A m c] w fun e w' => e = .returned (.bool false) ∧ w' = w := by
  have H := Lib.hid h
  clear h
  go_enter Try.func32, Try.ntmps32
  go_wp2_with (first | (go_at_call 67; refine (Fits_f (p := p) (g := g) (lp := lp) (FL := FL) (ws := ws) (top := top) (evs := evs) (by ((repeat' (first | exact H.out | refine Ar.alloc ?_ _ | refine Ar.drewN ?_ _ | refine Ar.drew ?_ | refine Ar.below ?_ (by assumption))); (first | done | fail))) _ _ (by omega)).mono ?_; rintro e w1 ⟨rfl, hw1⟩; replace hw1 := hw1.symm; subst hw1))
  go_ret
  exact ⟨rfl, rfl⟩
set_option maxHeartbeats 800000 in
theorem AShow_f {w : World} {p g lp : Nat} {FL : Nat → Prop} {ws : List Int} {top : Nat} {evs : List Ev} (h : Ar w p g lp FL ws top evs) (i n : Int) (hi : ¬ (0 ≤ i ∧ 0 ≤ n ∧ i + n ≤ top)) :
    Calls Try.prog 36 #[.pointer (some ⟨p, 0, none⟩), .int .i64 i, .int .i64 n] w fun e w' => e = .returned (.slice none 0 0) ∧ w' = w := by
  have H := Lib.hid h
  clear h
  go_enter Try.func36, Try.ntmps36
  go_wp2_with (first | (go_at_call 67; refine (Fits_f (p := p) (g := g) (lp := lp) (FL := FL) (ws := ws) (top := top) (evs := evs) (by ((repeat' (first | exact H.out | refine Ar.alloc ?_ _ | refine Ar.drewN ?_ _ | refine Ar.drew ?_ | refine Ar.below ?_ (by assumption))); (first | done | fail))) _ _ hi).mono ?_; rintro e w1 ⟨rfl, hw1⟩; replace hw1 := hw1.symm; subst hw1))
  go_ret
  exact ⟨rfl, rfl⟩
theorem APut_i {w : World} {p g lp : Nat} {FL : Nat → Prop} {ws : List Int} {top : Nat} {evs : List Ev} (h : Ar w p g lp FL ws top evs) (i : Int) (n c : Nat) (A : Option Addr) (f : Nat → Int) (h0 : 0 ≤ i) (hat : i + n ≤ top) (he : evs.length + n < 1099511627776) (hA : 0 < n → ∃ B off, A = some ⟨B, off, none⟩ ∧ B < w.heap.size ∧ ¬ AF p g FL B ∧ ∀ j, j < n → w.cell? ⟨B, off + j, none⟩ = some (.int .u32 (f j))) :
    Calls Try.prog 32 #[.pointer (some ⟨p, 0, none⟩), .int .i64 i, .slice A n c] w fun e w' => e = .returned (.bool true) ∧ ∃ FL', Ar w' p g lp FL' (putw ws i.toNat f n) top (evs ++ stEvs i.toNat n) ∧ Step (AF p g FL) (AF p g FL') w w' := by
  obtain ⟨j, rfl⟩ := Int.eq_ofNat_of_zero_le h0
  exact APut_t h j n c A f (by omega) he hA
theorem AShow_i {w : World} {p g lp : Nat} {FL : Nat → Prop} {ws : List Int} {top : Nat} {evs : List Ev} (h : Ar w p g lp FL ws top evs) (i n : Int) (h0 : 0 ≤ i) (h1 : 0 ≤ n) (hat : i + n ≤ top) (he : evs.length + 2 * top < 1099511627775) :
    Calls Try.prog 36 #[.pointer (some ⟨p, 0, none⟩), .int .i64 i, .int .i64 n] w fun e w' => ∃ go FL', e = .returned (.slice (some ⟨go, 0, none⟩) n.toNat n.toNat) ∧ go < w'.heap.size ∧ (∀ c, c < n.toNat → w'.cell? ⟨go, c, none⟩ = some (.int .u32 (ws.getD (i.toNat + c) 0))) ∧ ¬ AF p g FL' go ∧ Ar w' p g lp FL' ws top (evs ++ shEvs ws i.toNat n.toNat) ∧ Step (AF p g FL) (AF p g FL') w w' := by
  obtain ⟨j, rfl⟩ := Int.eq_ofNat_of_zero_le h0
  obtain ⟨m, rfl⟩ := Int.eq_ofNat_of_zero_le h1
  exact AShow_t h j m (by omega) (by omega)
set_option maxRecDepth 10000 in
set_option maxHeartbeats 1600000 in
theorem do1_t {w : World} {p g lp : Nat} {FL : Nat → Prop} {ws : List Int} {top : Nat} {evs : List Ev} (h : Ar w p g lp FL ws top evs) (he : evs.length + 3 * top + 3 < 1099511627775) (K i n v : Int) (A : Option Addr) (m c : Nat) (hK : K % 7 = 1) (hK0 : 0 ≤ K ∧ K < 256) (h0 : 0 ≤ i) (h1 : i ≤ top) :
    Calls Try.prog 39 #[.pointer (some ⟨p, 0, none⟩), .agg #[.int .u8 K, .int .i64 i, .int .i64 n, .int .u32 v, .slice A m c]] w fun e w' => e = .returned (.tuple #[]) ∧ Left w w' p g lp FL ws evs i.toNat (gvEvs top (top - i.toNat) ++ [⟨5, i, ((top - i.toNat : Nat) : Int)⟩]) := by
  obtain ⟨k0, k1⟩ := hK0
  have H := Lib.hid h
  clear h
  go_enter Try.func39, Try.ntmps39
  go_wp2_with (first | (go_at_call 33; with_reducible refine (AGive_i (p := p) (g := g) (lp := lp) (FL := FL) (ws := ws) (top := top) (evs := evs) (by ((repeat' (first | exact H.out | refine Ar.alloc ?_ _ | refine Ar.drewN ?_ _ | refine Ar.drew ?_ | refine Ar.below ?_ (by assumption))); (first | done | fail))) _ h0 h1 (by omega)).mono ?_; rintro e w9 ⟨rfl, F9, hA, hs⟩; have H9 := Lib.hid hA; have S9 := Lib.hid hs; clear hA hs))
  go_end0
  refine ⟨rfl, F9, _, gvEvs top (top - i.toNat) ++ [⟨5, i, ((top - i.toNat : Nat) : Int)⟩], (by have hX := H9.out; rw [List.append_assoc] at hX; exact hX), (gvw_len _ _ _), (by rw [blind_append, gvEvs_blind]; rfl), ?_⟩
  have hm := H.out.most
  (repeat' (first | exact Step.refl (by assumption) | refine Step.set_ (by (first | omega | (simp; done) | (simp; omega))) ?_ _ | refine Step.alloc ?_ _ | refine Step.drewN ?_ _ | refine Step.drew ?_ | refine Step.then_ (by assumption) ?_ | refine Step.thenB (by assumption) ?_))
set_option maxRecDepth 10000 in
set_option maxHeartbeats 1600000 in
theorem do1_f {w : World} {p g lp : Nat} {FL : Nat → Prop} {ws : List Int} {top : Nat} {evs : List Ev} (h : Ar w p g lp FL ws top evs) (he : evs.length + 3 * top + 3 < 1099511627775) (K i n v : Int) (A : Option Addr) (m c : Nat) (hK : K % 7 = 1) (hK0 : 0 ≤ K ∧ K < 256) (h0 : ¬ (0 ≤ i ∧ i ≤ top)) :
    Calls Try.prog 39 #[.pointer (some ⟨p, 0, none⟩), .agg #[.int .u8 K, .int .i64 i, .int .i64 n, .int .u32 v, .slice A m c]] w fun e w' => e = .returned (.tuple #[]) ∧ Left w w' p g lp FL ws evs top [] := by
  obtain ⟨k0, k1⟩ := hK0
  have H := Lib.hid h
  clear h
  go_enter Try.func39, Try.ntmps39
  go_wp2_with (first | (go_at_call 33; with_reducible refine (AGive_f (p := p) (g := g) (lp := lp) (FL := FL) (ws := ws) (top := top) (evs := evs) (by ((repeat' (first | exact H.out | refine Ar.alloc ?_ _ | refine Ar.drewN ?_ _ | refine Ar.drew ?_ | refine Ar.below ?_ (by assumption))); (first | done | fail))) _ h0).mono ?_; rintro e w9 ⟨rfl, hw9⟩; replace hw9 := hw9.symm; subst hw9))
  go_end0
  refine ⟨rfl, left_same H.out _ ?_⟩
  (repeat' (first | exact Below.refl _ _ | refine bl_set (by (first | omega | (simp; done) | (simp; omega))) ?_ _ | refine bl_alloc (by (first | omega | (simp; done) | (simp; omega))) ?_ _ | refine bl_drewN ?_ _ | refine bl_drew ?_ | refine bl_then (by assumption) ?_ (by (first | omega | (simp; done) | (simp; omega))) | refine Step.bl (by assumption) (by assumption) (by (first | omega | (simp; done) | (simp; omega))) (by (first | omega | (simp; done) | (simp; omega))) ?_))
set_option maxRecDepth 10000 in
set_option maxHeartbeats 1600000 in
theorem do2_t {w : World} {p g lp : Nat} {FL : Nat → Prop} {ws : List Int} {top : Nat} {evs : List Ev} (h : Ar w p g lp FL ws top evs) (he : evs.length + 3 * top + 3 < 1099511627775) (K i n v : Int) (A : Option Addr) (m c : Nat) (hK : K % 7 = 2) (hK0 : 0 ≤ K ∧ K < 256) (h0 : 0 ≤ i) (h1 : i < top) :
    Calls Try.prog 39 #[.pointer (some ⟨p, 0, none⟩), .agg #[.int .u8 K, .int .i64 i, .int .i64 n, .int .u32 v, .slice A m c]] w fun e w' => e = .returned (.tuple #[]) ∧ Left w w' p g lp FL ws evs top [⟨1, i, 0⟩] := by
  obtain ⟨k0, k1⟩ := hK0
  have H := Lib.hid h
  clear h
  go_enter Try.func39, Try.ntmps39
  go_wp2_with (first | (go_at_call 71; with_reducible refine (ALoad_i (p := p) (g := g) (lp := lp) (FL := FL) (ws := ws) (top := top) (evs := evs) (by ((repeat' (first | exact H.out | refine Ar.alloc ?_ _ | refine Ar.drewN ?_ _ | refine Ar.drew ?_ | refine Ar.below ?_ (by assumption))); (first | done | fail))) (by omega) _ h0 h1).mono ?_; rintro e w9 ⟨rfl, F9, hA, hs⟩; have H9 := Lib.hid hA; have S9 := Lib.hid hs; clear hA hs))
  go_end0
  refine ⟨rfl, F9, ws, [⟨1, i, 0⟩], H9.out, rfl, rfl, ?_⟩
  have hm := H.out.most
  (repeat' (first | exact Step.refl (by assumption) | refine Step.set_ (by (first | omega | (simp; done) | (simp; omega))) ?_ _ | refine Step.alloc ?_ _ | refine Step.drewN ?_ _ | refine Step.drew ?_ | refine Step.then_ (by assumption) ?_ | refine Step.thenB (by assumption) ?_))
set_option maxRecDepth 10000 in
set_option maxHeartbeats 1600000 in
theorem do2_f {w : World} {p g lp : Nat} {FL : Nat → Prop} {ws : List Int} {top : Nat} {evs : List Ev} (h : Ar w p g lp FL ws top evs) (he : evs.length + 3 * top + 3 < 1099511627775) (K i n v : Int) (A : Option Addr) (m c : Nat) (hK : K % 7 = 2) (hK0 : 0 ≤ K ∧ K < 256) (h0 : ¬ (0 ≤ i ∧ i < top)) :
    Calls Try.prog 39 #[.pointer (some ⟨p, 0, none⟩), .agg #[.int .u8 K, .int .i64 i, .int .i64 n, .int .u32 v, .slice A m c]] w fun e w' => e = .returned (.tuple #[]) ∧ Left w w' p g lp FL ws evs top [] := by
  obtain ⟨k0, k1⟩ := hK0
  have H := Lib.hid h
  clear h
  go_enter Try.func39, Try.ntmps39
  go_wp2_with (first | (go_at_call 71; with_reducible refine (ALoad_f (p := p) (g := g) (lp := lp) (FL := FL) (ws := ws) (top := top) (evs := evs) (by ((repeat' (first | exact H.out | refine Ar.alloc ?_ _ | refine Ar.drewN ?_ _ | refine Ar.drew ?_ | refine Ar.below ?_ (by assumption))); (first | done | fail))) _ h0).mono ?_; rintro e w9 ⟨rfl, hb⟩; have B9 := Lib.hid hb; clear hb))
  go_end0
  refine ⟨rfl, left_same H.out _ ?_⟩
  (repeat' (first | exact Below.refl _ _ | refine bl_set (by (first | omega | (simp; done) | (simp; omega))) ?_ _ | refine bl_alloc (by (first | omega | (simp; done) | (simp; omega))) ?_ _ | refine bl_drewN ?_ _ | refine bl_drew ?_ | refine bl_then (by assumption) ?_ (by (first | omega | (simp; done) | (simp; omega))) | refine Step.bl (by assumption) (by assumption) (by (first | omega | (simp; done) | (simp; omega))) (by (first | omega | (simp; done) | (simp; omega))) ?_))
set_option maxRecDepth 10000 in
set_option maxHeartbeats 1600000 in
theorem do4_t {w : World} {p g lp : Nat} {FL : Nat → Prop} {ws : List Int} {top : Nat} {evs : List Ev} (h : Ar w p g lp FL ws top evs) (he : evs.length + 3 * top + 3 < 1099511627775) (K i n v : Int) (A : Option Addr) (m c : Nat) (hK : K % 7 = 4) (hK0 : 0 ≤ K ∧ K < 256) (h0 : 0 ≤ i) (h1 : i < top) :
    Calls Try.prog 39 #[.pointer (some ⟨p, 0, none⟩), .agg #[.int .u8 K, .int .i64 i, .int .i64 n, .int .u32 v, .slice A m c]] w fun e w' => e = .returned (.tuple #[]) ∧ Left w w' p g lp FL ws evs top [⟨1, i, 0⟩, ⟨3, 0, 0⟩] := by
  obtain ⟨k0, k1⟩ := hK0
  have H := Lib.hid h
  clear h
  go_enter Try.func39, Try.ntmps39
  go_wp2_with (first | (go_at_call 37; with_reducible refine (ARelease_i (p := p) (g := g) (lp := lp) (FL := FL) (ws := ws) (top := top) (evs := evs) (by ((repeat' (first | exact H.out | refine Ar.alloc ?_ _ | refine Ar.drewN ?_ _ | refine Ar.drew ?_ | refine Ar.below ?_ (by assumption))); (first | done | fail))) (by omega) _ h0 h1).mono ?_; rintro e w9 ⟨rfl, F9, hA, hs⟩; have H9 := Lib.hid hA; have S9 := Lib.hid hs; clear hA hs))
  go_end0
  refine ⟨rfl, F9, ws, [⟨1, i, 0⟩, ⟨3, 0, ws.getD i.toNat 0⟩], (by have hX := H9.out; rw [List.append_assoc] at hX; exact hX), rfl, rfl, ?_⟩
  have hm := H.out.most
  (repeat' (first | exact Step.refl (by assumption) | refine Step.set_ (by (first | omega | (simp; done) | (simp; omega))) ?_ _ | refine Step.alloc ?_ _ | refine Step.drewN ?_ _ | refine Step.drew ?_ | refine Step.then_ (by assumption) ?_ | refine Step.thenB (by assumption) ?_))
set_option maxRecDepth 10000 in
set_option maxHeartbeats 1600000 in
theorem do4_f {w : World} {p g lp : Nat} {FL : Nat → Prop} {ws : List Int} {top : Nat} {evs : List Ev} (h : Ar w p g lp FL ws top evs) (he : evs.length + 3 * top + 3 < 1099511627775) (K i n v : Int) (A : Option Addr) (m c : Nat) (hK : K % 7 = 4) (hK0 : 0 ≤ K ∧ K < 256) (h0 : ¬ (0 ≤ i ∧ i < top)) :
    Calls Try.prog 39 #[.pointer (some ⟨p, 0, none⟩), .agg #[.int .u8 K, .int .i64 i, .int .i64 n, .int .u32 v, .slice A m c]] w fun e w' => e = .returned (.tuple #[]) ∧ Left w w' p g lp FL ws evs top [] := by
  obtain ⟨k0, k1⟩ := hK0
  have H := Lib.hid h
  clear h
  go_enter Try.func39, Try.ntmps39
  go_wp2_with (first | (go_at_call 37; with_reducible refine (ARelease_f (p := p) (g := g) (lp := lp) (FL := FL) (ws := ws) (top := top) (evs := evs) (by ((repeat' (first | exact H.out | refine Ar.alloc ?_ _ | refine Ar.drewN ?_ _ | refine Ar.drew ?_ | refine Ar.below ?_ (by assumption))); (first | done | fail))) _ h0).mono ?_; rintro e w9 ⟨rfl, hw9⟩; replace hw9 := hw9.symm; subst hw9))
  go_end0
  refine ⟨rfl, left_same H.out _ ?_⟩
  (repeat' (first | exact Below.refl _ _ | refine bl_set (by (first | omega | (simp; done) | (simp; omega))) ?_ _ | refine bl_alloc (by (first | omega | (simp; done) | (simp; omega))) ?_ _ | refine bl_drewN ?_ _ | refine bl_drew ?_ | refine bl_then (by assumption) ?_ (by (first | omega | (simp; done) | (simp; omega))) | refine Step.bl (by assumption) (by assumption) (by (first | omega | (simp; done) | (simp; omega))) (by (first | omega | (simp; done) | (simp; omega))) ?_))
set_option maxRecDepth 10000 in
set_option maxHeartbeats 1600000 in
theorem do5_t {w : World} {p g lp : Nat} {FL : Nat → Prop} {ws : List Int} {top : Nat} {evs : List Ev} (h : Ar w p g lp FL ws top evs) (he : evs.length + 3 * top + 3 < 1099511627775) (K i n v : Int) (A : Option Addr) (m c : Nat) (hK : K % 7 = 5) (hK0 : 0 ≤ K ∧ K < 256) (f : Nat → Int) (h0 : 0 ≤ i) (h1 : i + m ≤ top) (hB : 0 < m → ∃ B off, A = some ⟨B, off, none⟩ ∧ B < w.heap.size ∧ ¬ AF p g FL B ∧ ∀ j, j < m → w.cell? ⟨B, off + j, none⟩ = some (.int .u32 (f j))) :
    Calls Try.prog 39 #[.pointer (some ⟨p, 0, none⟩), .agg #[.int .u8 K, .int .i64 i, .int .i64 n, .int .u32 v, .slice A m c]] w fun e w' => e = .returned (.tuple #[]) ∧ Left w w' p g lp FL ws evs top (stEvs i.toNat m) := by
  obtain ⟨k0, k1⟩ := hK0
  have H := Lib.hid h
  have HB : Hid (0 < m → ∃ B off, A = some ⟨B, off, none⟩ ∧ B < (w.alloc (.cells #[.int .u8 K, .int .i64 i, .int .i64 n, .int .u32 v, .slice A m c] 60)).heap.size ∧ ¬ AF p g FL B ∧ ∀ j, j < m → (w.alloc (.cells #[.int .u8 K, .int .i64 i, .int .i64 n, .int .u32 v, .slice A m c] 60)).cell? ⟨B, off + j, none⟩ = some (.int .u32 (f j))) := Lib.hid (fun hm => by
    obtain ⟨B, off, e, hl, hn, hc⟩ := hB hm
    exact ⟨B, off, e, by simp; omega, hn, fun j hj => (World.cell?_alloc_lt w _ ⟨B, off + j, none⟩ hl).trans (hc j hj)⟩)
  clear hB
  clear h
  go_enter Try.func39, Try.ntmps39
  go_wp2_with (first | (go_at_call 32; with_reducible refine (APut_i (p := p) (g := g) (lp := lp) (FL := FL) (ws := ws) (top := top) (evs := evs) (by ((repeat' (first | exact H.out | refine Ar.alloc ?_ _ | refine Ar.drewN ?_ _ | refine Ar.drew ?_ | refine Ar.below ?_ (by assumption))); (first | done | fail))) _ m c A f h0 h1 (by omega) HB.out).mono ?_; rintro e w9 ⟨rfl, F9, hA, hs⟩; have H9 := Lib.hid hA; have S9 := Lib.hid hs; clear hA hs))
  go_end0
  refine ⟨rfl, F9, _, stEvs i.toNat m, H9.out, (putw_len _ _ _ _), (stEvs_blind _ _), ?_⟩
  have hm := H.out.most
  (repeat' (first | exact Step.refl (by assumption) | refine Step.set_ (by (first | omega | (simp; done) | (simp; omega))) ?_ _ | refine Step.alloc ?_ _ | refine Step.drewN ?_ _ | refine Step.drew ?_ | refine Step.then_ (by assumption) ?_ | refine Step.thenB (by assumption) ?_))
set_option maxRecDepth 10000 in
set_option maxHeartbeats 1600000 in
theorem do5_f {w : World} {p g lp : Nat} {FL : Nat → Prop} {ws : List Int} {top : Nat} {evs : List Ev} (h : Ar w p g lp FL ws top evs) (he : evs.length + 3 * top + 3 < 1099511627775) (K i n v : Int) (A : Option Addr) (m c : Nat) (hK : K % 7 = 5) (hK0 : 0 ≤ K ∧ K < 256) (h0 : ¬ (0 ≤ i ∧ i + m ≤ top)) :
    Calls Try.prog 39 #[.pointer (some ⟨p, 0, none⟩), .agg #[.int .u8 K, .int .i64 i, .int .i64 n, .int .u32 v, .slice A m c]] w fun e w' => e = .returned (.tuple #[]) ∧ Left w w' p g lp FL ws evs top [] := by
  obtain ⟨k0, k1⟩ := hK0
  have H := Lib.hid h
  clear h
  go_enter Try.func39, Try.ntmps39
  go_wp2_with (first | (go_at_call 32; with_reducible refine (APut_f (p := p) (g := g) (lp := lp) (FL := FL) (ws := ws) (top := top) (evs := evs) (by ((repeat' (first | exact H.out | refine Ar.alloc ?_ _ | refine Ar.drewN ?_ _ | refine Ar.drew ?_ | refine Ar.below ?_ (by assumption))); (first | done | fail))) _ m c A h0).mono ?_; rintro e w9 ⟨rfl, hw9⟩; replace hw9 := hw9.symm; subst hw9))
  go_end0
  refine ⟨rfl, left_same H.out _ ?_⟩
  (repeat' (first | exact Below.refl _ _ | refine bl_set (by (first | omega | (simp; done) | (simp; omega))) ?_ _ | refine bl_alloc (by (first | omega | (simp; done) | (simp; omega))) ?_ _ | refine bl_drewN ?_ _ | refine bl_drew ?_ | refine bl_then (by assumption) ?_ (by (first | omega | (simp; done) | (simp; omega))) | refine Step.bl (by assumption) (by assumption) (by (first | omega | (simp; done) | (simp; omega))) (by (first | omega | (simp; done) | (simp; omega))) ?_))
set_option maxRecDepth 10000 in
set_option maxHeartbeats 1600000 in
theorem do6_t {w : World} {p g lp : Nat} {FL : Nat → Prop} {ws : List Int} {top : Nat} {evs : List Ev} (h : Ar w p g lp FL ws top evs) (he : evs.length + 3 * top + 3 < 1099511627775) (K i n v : Int) (A : Option Addr) (m c : Nat) (hK : K % 7 = 6) (hK0 : 0 ≤ K ∧ K < 256) (h0 : 0 ≤ i) (h1 : 0 ≤ n) (h2 : i + n ≤ top) :
    Calls Try.prog 39 #[.pointer (some ⟨p, 0, none⟩), .agg #[.int .u8 K, .int .i64 i, .int .i64 n, .int .u32 v, .slice A m c]] w fun e w' => e = .returned (.tuple #[]) ∧ Left w w' p g lp FL ws evs top (blind (shEvs [] i.toNat n.toNat)) := by
  obtain ⟨k0, k1⟩ := hK0
  have H := Lib.hid h
  clear h
  go_enter Try.func39, Try.ntmps39
  go_wp2_with (first | (go_at_call 36; with_reducible refine (AShow_i (p := p) (g := g) (lp := lp) (FL := FL) (ws := ws) (top := top) (evs := evs) (by ((repeat' (first | exact H.out | refine Ar.alloc ?_ _ | refine Ar.drewN ?_ _ | refine Ar.drew ?_ | refine Ar.below ?_ (by assumption))); (first | done | fail))) _ _ h0 h1 h2 (by omega)).mono ?_; rintro e w9 ⟨go, F9, rfl, hgo, hcs, hng, hA, hs⟩; have H9 := Lib.hid hA; have S9 := Lib.hid hs; clear hA hs hcs hng hgo))
  go_end0
  refine ⟨rfl, F9, ws, shEvs ws i.toNat n.toNat, H9.out, rfl, (shEvs_blind _ _ _), ?_⟩
  have hm := H.out.most
  (repeat' (first | exact Step.refl (by assumption) | refine Step.set_ (by (first | omega | (simp; done) | (simp; omega))) ?_ _ | refine Step.alloc ?_ _ | refine Step.drewN ?_ _ | refine Step.drew ?_ | refine Step.then_ (by assumption) ?_ | refine Step.thenB (by assumption) ?_))
set_option maxRecDepth 10000 in
set_option maxHeartbeats 1600000 in
theorem do6_f {w : World} {p g lp : Nat} {FL : Nat → Prop} {ws : List Int} {top : Nat} {evs : List Ev} (h : Ar w p g lp FL ws top evs) (he : evs.length + 3 * top + 3 < 1099511627775) (K i n v : Int) (A : Option Addr) (m c : Nat) (hK : K % 7 = 6) (hK0 : 0 ≤ K ∧ K < 256) (h0 : ¬ (0 ≤ i ∧ 0 ≤ n ∧ i + n ≤ top)) :
    Calls Try.prog 39 #[.pointer (some ⟨p, 0, none⟩), .agg #[.int .u8 K, .int .i64 i, .int .i64 n, .int .u32 v, .slice A m c]] w fun e w' => e = .returned (.tuple #[]) ∧ Left w w' p g lp FL ws evs top [] := by
  obtain ⟨k0, k1⟩ := hK0
  have H := Lib.hid h
  clear h
  go_enter Try.func39, Try.ntmps39
  go_wp2_with (first | (go_at_call 36; with_reducible refine (AShow_f (p := p) (g := g) (lp := lp) (FL := FL) (ws := ws) (top := top) (evs := evs) (by ((repeat' (first | exact H.out | refine Ar.alloc ?_ _ | refine Ar.drewN ?_ _ | refine Ar.drew ?_ | refine Ar.below ?_ (by assumption))); (first | done | fail))) _ _ h0).mono ?_; rintro e w9 ⟨rfl, hw9⟩; replace hw9 := hw9.symm; subst hw9))
  go_end0
  refine ⟨rfl, left_same H.out _ ?_⟩
  (repeat' (first | exact Below.refl _ _ | refine bl_set (by (first | omega | (simp; done) | (simp; omega))) ?_ _ | refine bl_alloc (by (first | omega | (simp; done) | (simp; omega))) ?_ _ | refine bl_drewN ?_ _ | refine bl_drew ?_ | refine bl_then (by assumption) ?_ (by (first | omega | (simp; done) | (simp; omega))) | refine Step.bl (by assumption) (by assumption) (by (first | omega | (simp; done) | (simp; omega))) (by (first | omega | (simp; done) | (simp; omega))) ?_))
set_option maxRecDepth 10000 in
set_option maxHeartbeats 1600000 in
theorem do3_f {w : World} {p g lp : Nat} {FL : Nat → Prop} {ws : List Int} {top : Nat} {evs : List Ev} (h : Ar w p g lp FL ws top evs) (he : evs.length + 3 * top + 3 < 1099511627775) (K i n v : Int) (A : Option Addr) (m c : Nat) (hK : K % 7 = 3) (hK0 : 0 ≤ K ∧ K < 256) (h0 : ¬ (0 ≤ i ∧ i < top)) :
    Calls Try.prog 39 #[.pointer (some ⟨p, 0, none⟩), .agg #[.int .u8 K, .int .i64 i, .int .i64 n, .int .u32 v, .slice A m c]] w fun e w' => e = .returned (.tuple #[]) ∧ Left w w' p g lp FL ws evs top [] := by
  obtain ⟨k0, k1⟩ := hK0
  have H := Lib.hid h
  clear h
  go_enter Try.func39, Try.ntmps39
  go_wp2_with fail
  go_region_held3 (fun w' => w'.cell? ⟨w.heap.size, 1, none⟩ = some (.int .i64 i) ∧ w'.cell? ⟨w.heap.size, 3, none⟩ = some (.int .u32 v) ∧ w.heap.size < w'.heap.size) ((first | (refine ⟨?_, ?_, ?_⟩ <;> first | assumption | (simp [go_sem, ↓IntWalk.iteOmega, *]; done) | omega | (simp; omega)) | assumption | (simp [go_sem, ↓IntWalk.iteOmega, *]; done) | omega | (simp; omega))) (first | first | (go_at_call 64; refine (Of_any _ _).mono ?_; rintro e w1 ⟨rfl, hb⟩; have hcf := bcell hb; (try simp only [World.size_alloc, World.size_setCell, World.size_drew] at hcf); have hz := hb.size; (try simp only [World.size_alloc, World.size_setCell, World.size_drew] at hz); have hbh := Lib.hid hb; clear hb; obtain ⟨hc, hf⟩ := hcf) | (go_at_call 63; with_reducible refine (AStore_f (p := p) (g := g) (lp := lp) (FL := FL) (ws := ws) (top := top) (evs := evs) (by ((repeat' (first | exact H.out | refine Ar.alloc ?_ _ | refine Ar.drewN ?_ _ | refine Ar.drew ?_ | refine Ar.below ?_ (by assumption))); (first | done | fail))) _ h0 _).mono ?_; rintro e w9 ⟨rfl, hb⟩; have hcf := bcell hb; (try simp only [World.size_alloc, World.size_setCell, World.size_drew] at hcf); have z9 := hb.size; (try simp only [World.size_alloc, World.size_setCell, World.size_drew] at z9); have B9 := Lib.hid hb; obtain ⟨hc9, hf9⟩ := hcf; clear hb))
  all_goals (go_wp2_with fail)
  all_goals
   go_end0
   refine ⟨rfl, left_same H.out _ ?_⟩
   (repeat' (first | exact Below.refl _ _ | refine bl_set (by (first | omega | (simp; done) | (simp; omega))) ?_ _ | refine bl_alloc (by (first | omega | (simp; done) | (simp; omega))) ?_ _ | refine bl_drewN ?_ _ | refine bl_drew ?_ | refine bl_then (by assumption) ?_ (by (first | omega | (simp; done) | (simp; omega))) | refine Step.bl (by assumption) (by assumption) (by (first | omega | (simp; done) | (simp; omega))) (by (first | omega | (simp; done) | (simp; omega))) ?_))
set_option maxRecDepth 10000 in
set_option maxHeartbeats 1600000 in
theorem do3_t {w : World} {p g lp : Nat} {FL : Nat → Prop} {ws : List Int} {top : Nat} {evs : List Ev} (h : Ar w p g lp FL ws top evs) (he : evs.length + 3 * top + 3 < 1099511627775) (K i n v : Int) (A : Option Addr) (m c : Nat) (hK : K % 7 = 3) (hK0 : 0 ≤ K ∧ K < 256) (h0 : 0 ≤ i) (h1 : i < top) :
    Calls Try.prog 39 #[.pointer (some ⟨p, 0, none⟩), .agg #[.int .u8 K, .int .i64 i, .int .i64 n, .int .u32 v, .slice A m c]] w fun e w' => e = .returned (.tuple #[]) ∧ Left w w' p g lp FL ws evs top [⟨2, i, 0⟩] := by
  obtain ⟨k0, k1⟩ := hK0
  have H := Lib.hid h
  clear h
  go_enter Try.func39, Try.ntmps39
  go_wp2_with fail
  go_region_held3 (fun w' => w'.cell? ⟨w.heap.size, 1, none⟩ = some (.int .i64 i) ∧ w'.cell? ⟨w.heap.size, 3, none⟩ = some (.int .u32 v) ∧ w.heap.size < w'.heap.size) ((first | (refine ⟨?_, ?_, ?_⟩ <;> first | assumption | (simp [go_sem, ↓IntWalk.iteOmega, *]; done) | omega | (simp; omega)) | assumption | (simp [go_sem, ↓IntWalk.iteOmega, *]; done) | omega | (simp; omega))) (first | first | (go_at_call 64; refine (Of_any _ _).mono ?_; rintro e w1 ⟨rfl, hb⟩; have hcf := bcell hb; (try simp only [World.size_alloc, World.size_setCell, World.size_drew] at hcf); have hz := hb.size; (try simp only [World.size_alloc, World.size_setCell, World.size_drew] at hz); have hbh := Lib.hid hb; clear hb; obtain ⟨hc, hf⟩ := hcf) | (go_at_call 63; with_reducible refine (AStore_i (p := p) (g := g) (lp := lp) (FL := FL) (ws := ws) (top := top) (evs := evs) (by ((repeat' (first | exact H.out | refine Ar.alloc ?_ _ | refine Ar.drewN ?_ _ | refine Ar.drew ?_ | refine Ar.below ?_ (by assumption))); (first | done | fail))) (by omega) _ h0 h1 _).mono ?_; rintro e w9 ⟨rfl, F9, hA, hs⟩; have H9 := Lib.hid hA; have S9 := Lib.hid hs; have x1 := old_cell (o := 1) hs (b := w.heap.size) (by first | omega | (simp; omega)) (fun hf => absurd (H.out.most _ hf) (Nat.lt_irrefl _)); have x3 := old_cell (o := 3) hs (b := w.heap.size) (by first | omega | (simp; omega)) (fun hf => absurd (H.out.most _ hf) (Nat.lt_irrefl _)); have z9 := hs.size; (try simp only [World.size_alloc, World.size_setCell, World.size_drew] at z9); clear hA hs))
  all_goals (go_wp2_with fail)
  all_goals
   go_end0
   refine ⟨rfl, F9, _, [⟨2, i, 0⟩], H9.out, (by rw [List.length_set]), rfl, ?_⟩
   have hm := H.out.most
   (repeat' (first | exact Step.refl (by assumption) | refine Step.set_ (by (first | omega | (simp; done) | (simp; omega))) ?_ _ | refine Step.alloc ?_ _ | refine Step.drewN ?_ _ | refine Step.drew ?_ | refine Step.then_ (by assumption) ?_ | refine Step.thenB (by assumption) ?_))
end Go.Proofs.Ytflapbnbeipddaa
