/- sabretachelaw04: told, awake; Pack of one lane. No condition. -/
import Derived.Test.YtjoehhojhfgooaaPk3
import Derived.Test.YtjoehhojhfgooaaUtG
namespace Go.Proofs.Ytjoehhojhfgooaa
open Go.RowKit
set_option linter.unusedSimpArgs false
set_option linter.unusedVariables false
attribute [local go_sem] IntKind.wrap_u32' signed_u32 max_u32
attribute [local go_sem ↓] Go.wp_at_zero Go.wp_at_succ
attribute [local go_sem] Calm.C
attribute [local go_sem low] Calm.al_cell Calm.al_frozen
set_option maxHeartbeats 400000 in
theorem told04_any (a : Int) (w : World) : Calls Try.prog 43 #[.agg #[.int .u32 a]] w fun e w' => e = .returned (.int .u32 a) ∧ Below w.heap.size w w' := by
  go_enter Try.func43, Try.ntmps43
  go_wp2_with fail
  go_region_held3 (fun w' => w'.cell? ⟨w.heap.size, 0, none⟩ = some (.int .u32 a)) ((simp [go_sem, ↓IntWalk.iteOmega, *]; done)) (first | (go_at_call 54; refine (NewLog_any _).mono ?_; rintro e w1 ⟨p1, F1, rfl, hL1, hlow1, hb⟩; obtain ⟨hc, hf⟩ := bcell hb; have hz := hb.size; (try simp only [World.size_alloc, World.size_setCell, World.size_drew] at hz); have hn := foot_new hL1.most hlow1; have hlo := Lib.hid hlow1; clear hlow1; have hbh := Lib.hid hb; clear hb) | (go_at_call 55; refine' Calls.mono (Release_any _ _ _ _ _ ?_ ?_) ?_; rotate_left; rotate_left; (next => ((repeat' (first | assumption | refine Lg.alloc ?_ _ | refine Lg.set_ ?_ (by (intro hfoot; simp [*, ↓IntWalk.iteOmega] at hfoot)) _ | refine Lg.below ?_ (by assumption) | refine Lg.drew ?_ | refine Lg.drewN ?_ _)))); (next => (first | omega | (simp; done) | (simp; omega))); rintro e w1 ⟨rfl, F1, hL1, hs1⟩; obtain ⟨hc, hf, hn⟩ := hs1.rules; have hz := hs1.size; (try simp only [World.size_alloc, World.size_setCell, World.size_drew] at hz); have hsh := Lib.hid hs1; clear hs1))
  go_wp2_with fail
  go_ret
  refine ⟨rfl, ?_⟩
  (repeat' (first | with_reducible exact Below.refl _ _ | with_reducible refine bl_drewN ?_ _ | with_reducible refine bl_drew ?_ | refine bl_set (by (first | omega | (simp; done) | (simp; omega))) ?_ _ | refine bl_alloc (by (first | omega | (simp; done) | (simp; omega))) ?_ _ | refine bl_then (by assumption) ?_ (by (first | omega | (simp; done) | (simp; omega))) | refine Step.bl (by assumption) (by assumption) (by (first | omega | (simp; done) | (simp; omega))) (by (first | omega | (simp; done) | (simp; omega))) ?_))
theorem Pack_t {w : World} {p g lp : Nat} {FL : Nat → Prop} {ws : List Int} {top : Nat} {evs : List Ev} (h : Ar w p g lp FL ws top evs) (he : evs.length < 1000000000) (keep n : Int) (A : Option Addr) (m c : Nat) (L : Nat → Int) (hA : Iti w (AF p g FL) A m L) (hm : m ≤ 100)
    (h0 : 0 ≤ n) (h1 : n ≤ 49152) (hL : Lanes top n (Pk.KL keep L) (1 + m)) (hr : top + n ≤ ws.length) :
    Calls Try.prog 37 #[.pointer (some ⟨p, 0, none⟩), .int .i64 keep, .int .i64 n, .slice A m c] w fun e w' =>
      e = .returned (.tuple #[.agg #[.int .u32 (Pk.kept keep.toNat n.toNat top m (fun j => (L j).toNat) ws)], .bool true]) ∧
        ∃ FL', Ar w' p g lp FL' (Pk.out keep.toNat n.toNat top m (fun j => (L j).toNat) ws) top (evs ++ Pk.evs keep.toNat n.toNat top m (fun j => (L j).toNat)) ∧ Step (AF p g FL) (AF p g FL') w w' := by
  refine (Pack_any h he keep n A m c L hA hm).mono ?_
  rintro e w' (⟨hc, -, -⟩ | ⟨-, -, -, -, rfl, F', hA, hs⟩)
  · exact absurd ⟨h0, h1, hL, hr⟩ hc
  · exact ⟨rfl, F', hA, hs⟩
theorem Pack_ok {w : World} {p g lp : Nat} {FL : Nat → Prop} {ws : List Int} {top : Nat} {evs : List Ev} (h : Ar w p g lp FL ws top evs) (he : evs.length < 1000000000) (keep n : Int) (A : Option Addr) (m c : Nat) (L : Nat → Int) (hA : Iti w (AF p g FL) A m L) (hm : m ≤ 100)
    (ok : Bool) (hok : ok = true ↔ (0 ≤ n ∧ n ≤ 49152 ∧ Lanes top n (Pk.KL keep L) (1 + m) ∧ top + n ≤ ws.length)) :
    Calls Try.prog 37 #[.pointer (some ⟨p, 0, none⟩), .int .i64 keep, .int .i64 n, .slice A m c] w fun e w' =>
      ∃ x FL' ws' evs', e = .returned (.tuple #[.agg #[.int .u32 x], .bool ok]) ∧ Ar w' p g lp FL' ws' top evs' ∧ (ok = false → evs' = evs) ∧ Step (AF p g FL) (AF p g FL') w w' := by
  have hmost := h.most
  refine (Pack_any h he keep n A m c L hA hm).mono ?_
  rintro e w' (⟨hc, rfl, hb⟩ | ⟨a, b, c', d, rfl, F', hA, hs⟩)
  · have : ok = false := by
      cases ok
      · rfl
      · exact absurd (hok.1 rfl) hc
    subst this
    exact ⟨0, FL, ws, evs, rfl, h.below (Lib.hid hb), fun _ => rfl, Step.of_below hmost hb⟩
  · obtain rfl : ok = true := hok.2 ⟨a, b, c', d⟩
    exact ⟨_, F', _, _, rfl, hA, fun h => (by cases h), hs⟩
theorem Iti.one {w : World} {G : Nat → Prop} (hG : ∀ i, G i → i < w.heap.size) (x : Int) (t : TypeId) : Iti (w.alloc (.cells #[.int .i64 x] t)) G (some ⟨w.heap.size, 0, none⟩) 1 (fun _ => x) := fun _ =>
  ⟨w.heap.size, 0, rfl, by simp, fun hf => absurd (hG _ hf) (Nat.lt_irrefl _), fun j hj => by
    obtain rfl : j = 0 := by omega
    exact (Blk.new w t _).cell 0⟩
def f6 : Nat → Int := fun i => [1, 0, 1, 5, 6, 7].getD i 0
theorem words6 {W : World} {t : TypeId} {G : Nat → Prop} (hG : ∀ i, G i → i < W.heap.size) : 0 < 6 → ∃ B off, some (⟨W.heap.size, 0, none⟩ : Addr) = some ⟨B, off, none⟩ ∧ B < (W.alloc (.cells #[.int .u32 1, .int .u32 0, .int .u32 1, .int .u32 5, .int .u32 6, .int .u32 7] t)).heap.size ∧ ¬ G B ∧ ∀ i, i < 6 → (W.alloc (.cells #[.int .u32 1, .int .u32 0, .int .u32 1, .int .u32 5, .int .u32 6, .int .u32 7] t)).cell? ⟨B, off + i, none⟩ = some (.int .u32 (f6 i)) := by
  intro _
  refine ⟨W.heap.size, 0, rfl, by simp, fun hf => absurd (hG _ hf) (Nat.lt_irrefl _), fun i hi => ?_⟩
  rw [Nat.zero_add]
  refine ((Blk.new W t _).cell i).trans ?_
  rcases (by omega : i = 0 ∨ i = 1 ∨ i = 2 ∨ i = 3 ∨ i = 4 ∨ i = 5) with rfl | rfl | rfl | rfl | rfl | rfl <;> rfl
theorem pkA : putw (List.replicate 20 0) 0 f6 6 = [1, 0, 1, 5, 6, 7, 0, 0, 0, 0, 0, 0, 0, 0, 0, 0, 0, 0, 0, 0] := by decide +kernel
theorem pkB : Pk.out 0 3 6 1 (fun _ => 3) [1, 0, 1, 5, 6, 7, 0, 0, 0, 0, 0, 0, 0, 0, 0, 0, 0, 0, 0, 0] = [4294967295, 4294967295, 0, 5, 7, 0, 0, 0, 0, 0, 0, 0, 0, 0, 0, 0, 0, 0, 0, 0] := by decide +kernel
theorem pkC : Pk.kept 0 3 6 1 (fun _ => 3) [1, 0, 1, 5, 6, 7, 0, 0, 0, 0, 0, 0, 0, 0, 0, 0, 0, 0, 0, 0] = 2 := by decide +kernel
theorem pkD : Lanes 6 3 (Pk.KL (0 : Int) (fun _ => (3 : Int))) (1 + 1) := by
  intro k hk
  rcases (by omega : k = 0 ∨ k = 1) with rfl | rfl
  · exact ⟨by decide, fun j hj => by omega⟩
  · refine ⟨by decide, fun j hj => ?_⟩
    obtain rfl : j = 0 := by omega
    decide
theorem pkB' : Pk.out (0 : Int).toNat (3 : Int).toNat 6 1 (fun j => ((fun _ => (3 : Int)) j).toNat) [1, 0, 1, 5, 6, 7, 0, 0, 0, 0, 0, 0, 0, 0, 0, 0, 0, 0, 0, 0] = [4294967295, 4294967295, 0, 5, 7, 0, 0, 0, 0, 0, 0, 0, 0, 0, 0, 0, 0, 0, 0, 0] := pkB
theorem pkC' : Pk.kept (0 : Int).toNat (3 : Int).toNat 6 1 (fun j => ((fun _ => (3 : Int)) j).toNat) [1, 0, 1, 5, 6, 7, 0, 0, 0, 0, 0, 0, 0, 0, 0, 0, 0, 0, 0, 0] = 2 := pkC
theorem pkEvs_len (keep n top m : Nat) (L : Nat → Nat) (hn : n ≤ 100) (hm : m ≤ 100) : (Pk.evs keep n top m L).length ≤ 1000000 := by
  have hs : ∀ b, b ≤ 16 → (Pk.mvse top n (Pk.AL keep top L m) (m + 2) b).length ≤ b * 41000 := by
    intro b
    induction b with
    | zero => intro _; rw [Pk.mvse_zero]; simp
    | succ b ih =>
      intro hb
      have h1 := ih (by omega)
      have h2 := Pk.mve_len top b (Pk.AL keep top L m) (m + 2) (n - 2 ^ b)
      have h3 : (n - 2 ^ b) * (1 + 4 * (m + 2)) ≤ 100 * 409 := Nat.mul_le_mul (Nat.le_trans (Nat.sub_le _ _) hn) (by omega)
      rw [Pk.mvse_succ, List.length_append, h2]
      omega
  have h1 := hs (Pk.stp n) (Pk.stp_le n (by omega))
  have h2 := Pk.stp_le n (by omega)
  have h3 : n * (3 + 2 * m) ≤ 100 * 203 := Nat.mul_le_mul hn (by omega)
  unfold Pk.evs
  rw [List.length_append, List.length_append, List.length_append, List.length_append, Pk.bge_len, gvEvs_len]
  simp only [List.length_cons, List.length_nil]
  omega
theorem six {w : World} {go a : Nat} {ws : List Int} (h : ∀ c, c < (6 : Int).toNat → w.cell? ⟨go, c, none⟩ = some (.int .u32 (ws.getD (a + c) 0))) : w.cell? ⟨go, 0, none⟩ = some (.int .u32 (ws.getD (a + 0) 0)) ∧ w.cell? ⟨go, 2, none⟩ = some (.int .u32 (ws.getD (a + 2) 0)) ∧ w.cell? ⟨go, 3, none⟩ = some (.int .u32 (ws.getD (a + 3) 0)) ∧ w.cell? ⟨go, 4, none⟩ = some (.int .u32 (ws.getD (a + 4) 0)) ∧ w.cell? ⟨go, 5, none⟩ = some (.int .u32 (ws.getD (a + 5) 0)) :=
  ⟨h 0 (by decide), h 2 (by decide), h 3 (by decide), h 4 (by decide), h 5 (by decide)⟩
theorem APut_00 {w : World} {p g lp : Nat} {FL : Nat → Prop} {ws : List Int} {top : Nat} {evs : List Ev} (h : Ar w p g lp FL ws top evs) (n c : Nat) (A : Option Addr) (f : Nat → Int) (hat : 0 + n ≤ top) (he : evs.length + n < 1099511627776) (hA : 0 < n → ∃ B off, A = some ⟨B, off, none⟩ ∧ B < w.heap.size ∧ ¬ AF p g FL B ∧ ∀ j, j < n → w.cell? ⟨B, off + j, none⟩ = some (.int .u32 (f j))) :
    Calls Try.prog 26 #[.pointer (some ⟨p, 0, none⟩), .int .i64 0, .slice A n c] w fun e w' => e = .returned (.bool true) ∧ ∃ FL', Ar w' p g lp FL' (putw ws 0 f n) top (evs ++ stEvs 0 n) ∧ Step (AF p g FL) (AF p g FL') w w' := APut_t h 0 n c A f hat he hA
theorem norm6 {w : World} {p g lp : Nat} {F : Nat → Prop} {ws : List Int} (h : Ar w p g lp F ws (0 + (6 : Int).toNat) ([] ++ [⟨4, ((0 : Nat) : Int), 6⟩])) : Ar w p g lp F ws 6 [⟨4, 0, 6⟩] := h
attribute [local irreducible] Pk.out Pk.kept Pk.evs stEvs putw shEvs f6
set_option maxRecDepth 10000 in
set_option maxHeartbeats 1600000 in
theorem awake04_any (w : World) : Calls Try.prog 36 #[] w fun e w' => e = .returned (.bool true) ∧ Below w.heap.size w w' := by
  go_enter Try.func36, Try.ntmps36
  go_wp2_with (first
    | (first | (go_at_call 43; refine (told04_any _ _).mono ?_; rintro e w1 ⟨rfl, hb⟩; have hcf := bcell hb; (try simp only [World.size_alloc, World.size_setCell, drew_size] at hcf); have hz := hb.size; (try simp only [World.size_alloc, World.size_setCell, World.size_drew] at hz); have hbh := Lib.hid hb; clear hb; obtain ⟨hc, hf⟩ := hcf))
    | (go_at_call 24; with_reducible refine (ANew_any 20 20 (by decide) _).mono ?_; rintro e w0 ⟨p, g, lp, F0, rfl, hA, hlow, hb⟩; have H0 := Lib.hid hA; have LOW := Lib.hid hlow; have B0 := Lib.hid hb; have z0 := hb.size; clear hA hlow hb)
    | (go_at_call 25; with_reducible refine (ATake_j H0.out (by decide) 6 (by decide) (by rw [List.length_replicate]; decide)).mono ?_; rintro e w1 ⟨rfl, F1, hA1, hs1⟩; have H1 := Lib.hid (norm6 hA1); have S1 := Lib.hid hs1; have z1 := hs1.size; clear hA1 hs1))
  with_reducible refine (APut_00 (H1.out.alloc _) 6 6 _ f6 (by decide) (by decide) (words6 H1.out.most)).mono ?_
  rintro e w2 ⟨rfl, F2, hA2, hs2⟩
  rw [pkA] at hA2
  have H2 := Lib.hid hA2
  have S2 := Lib.hid (H1.out.step0.alloc (.cells #[.int .u32 1, .int .u32 0, .int .u32 1, .int .u32 5, .int .u32 6, .int .u32 7] 30) |>.trans hs2)
  have z2 := S2.out.size
  clear hA2 hs2
  go_wp2_with (first | (go_at_call 37; with_reducible refine (Pack_t (H2.out.alloc _) (by rw [List.length_append, stEvs_len]; decide) 0 3 _ 1 1 (fun _ => 3) (Iti.one H2.out.most 3 _) (by decide) (by decide) (by decide) pkD (by decide)).mono ?_; rintro e w3 ⟨rfl, F3, hA3, hs3⟩; rw [pkB'] at hA3; rw [pkC']; have H3 := Lib.hid hA3; have S3 := Lib.hid (H2.out.step0.alloc (.cells #[.int .i64 3] 3) |>.trans hs3); have z3 := S3.out.size; clear hA3 hs3))
  have c3 : (w3.alloc (.cells #[.int .u32 2] 32)).cell? ⟨w3.heap.size, 0, none⟩ = some (.int .u32 2) := (Blk.new w3 _ _).cell 0
  with_reducible refine (AShow_i (H3.out.alloc _) 0 6 (by decide) (by decide) (by decide) (by rw [List.length_append, List.length_append, stEvs_len]; have := pkEvs_len (Int.toNat 0) (Int.toNat 3) 6 1 (fun j => Int.toNat 3) (by decide) (by decide); simp only [List.length_cons, List.length_nil]; omega)).mono ?_
  rintro e w4 ⟨go, F4, rfl, hgl, hcs, hgn, hA4, hs4⟩
  obtain ⟨s0, s2, s3, s4, s5⟩ := six hcs
  have S4 := Lib.hid (H3.out.step0.alloc (.cells #[.int .u32 2] 32) |>.trans hs4)
  have z4 := S4.out.size
  have c4 := (old_cell (o := 0) hs4 (b := w3.heap.size) (by simp) (fun hf => absurd (H3.out.most _ hf) (Nat.lt_irrefl _))).trans c3
  have HA4 := Lib.hid hA4
  clear hcs hA4 hs4 c3
  go_wp2_with (first
    | (first | (go_at_call 43; refine (told04_any _ _).mono ?_; rintro e w1 ⟨rfl, hb⟩; have hcf := bcell hb; (try simp only [World.size_alloc, World.size_setCell, drew_size] at hcf); have hz := hb.size; (try simp only [World.size_alloc, World.size_setCell, World.size_drew] at hz); have hbh := Lib.hid hb; clear hb; obtain ⟨hc, hf⟩ := hcf))
    | (go_at_call 18; with_reducible refine (ATop_any (HA4.out.below hbh)).mono ?_; rintro e w6 ⟨rfl, hw⟩; replace hw := hw.symm; subst hw))
  go_ret
  refine ⟨rfl, ?_⟩
  have b0 := bl_then B0 (Below.refl _ _) (Nat.le_refl _)
  have b1 := S1.out.below b0 b0.size LOW.out
  have l1 := S1.out.low b0.size LOW.out
  have b2 := S2.out.below b1 b1.size l1
  have l2 := S2.out.low b1.size l1
  have b3 := S3.out.below b2 b2.size l2
  have l3 := S3.out.low b2.size l2
  have b4 := S4.out.below b3 b3.size l3
  exact bl_then hbh b4 b4.size
end Go.Proofs.Ytjoehhojhfgooaa
