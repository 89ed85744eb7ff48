/- sabretachelaw10: told, lay, awake. No condition. -/
import Derived.Test.YtjoehhojhfgooaaUnE
namespace Go.Proofs.Ytjoehhojhfgooaa
open Go.RowKit
set_option linter.unusedSimpArgs false
set_option linter.unusedVariables false
attribute [local go_sem] IntKind.wrap_u32' signed_u32 max_u32
attribute [local go_sem ↓] Go.wp_at_zero Go.wp_at_succ
attribute [local go_sem] Calm.C
attribute [local go_sem low] Calm.al_cell Calm.al_frozen
set_option maxHeartbeats 400000 in
theorem told10_any (a : Int) (w : World) : Calls Try.prog 21 #[.agg #[.int .u32 a]] w fun e w' => e = .returned (.int .u32 a) ∧ Below w.heap.size w w' := by
  go_enter Try.func21, Try.ntmps21
  go_wp2_with fail
  go_region_held3 (fun w' => w'.cell? ⟨w.heap.size, 0, none⟩ = some (.int .u32 a)) ((simp [go_sem, ↓IntWalk.iteOmega, *]; done)) (first | (go_at_call 54; refine (NewLog_any _).mono ?_; rintro e w1 ⟨p1, F1, rfl, hL1, hlow1, hb⟩; obtain ⟨hc, hf⟩ := bcell hb; have hz := hb.size; (try simp only [World.size_alloc, World.size_setCell, World.size_drew] at hz); have hn := foot_new hL1.most hlow1; have hlo := Lib.hid hlow1; clear hlow1; have hbh := Lib.hid hb; clear hb) | (go_at_call 55; refine' Calls.mono (Release_any _ _ _ _ _ ?_ ?_) ?_; rotate_left; rotate_left; (next => ((repeat' (first | assumption | refine Lg.alloc ?_ _ | refine Lg.set_ ?_ (by (intro hfoot; simp [*, ↓IntWalk.iteOmega] at hfoot)) _ | refine Lg.below ?_ (by assumption) | refine Lg.drew ?_ | refine Lg.drewN ?_ _)))); (next => (first | omega | (simp; done) | (simp; omega))); rintro e w1 ⟨rfl, F1, hL1, hs1⟩; obtain ⟨hc, hf, hn⟩ := hs1.rules; have hz := hs1.size; (try simp only [World.size_alloc, World.size_setCell, World.size_drew] at hz); have hsh := Lib.hid hs1; clear hs1))
  go_wp2_with fail
  go_ret
  refine ⟨rfl, ?_⟩
  (repeat' (first | with_reducible exact Below.refl _ _ | with_reducible refine bl_drewN ?_ _ | with_reducible refine bl_drew ?_ | refine bl_set (by (first | omega | (simp; done) | (simp; omega))) ?_ _ | refine bl_alloc (by (first | omega | (simp; done) | (simp; omega))) ?_ _ | refine bl_then (by assumption) ?_ (by (first | omega | (simp; done) | (simp; omega))) | refine Step.bl (by assumption) (by assumption) (by (first | omega | (simp; done) | (simp; omega))) (by (first | omega | (simp; done) | (simp; omega))) ?_))
namespace Un
/-- What lay lays. -/
def lay (n : Nat) (pf kf : Nat → Int) (most : Nat) : List Int := putw (putw (List.replicate (14 * n + most) 0) 0 pf n) n kf n
theorem lay_len (n : Nat) (pf kf : Nat → Int) (most : Nat) : (lay n pf kf most).length = 14 * n + most := by unfold lay; rw [putw_len, putw_len, List.length_replicate]
def layE (n most : Nat) : List Ev := [⟨4, 0, ((2 * n + most : Nat) : Int)⟩] ++ stEvs 0 n ++ stEvs n n
theorem layE_len (n most : Nat) : (layE n most).length = 2 * n + 1 := by unfold layE; rw [List.length_append, List.length_append, stEvs_len, stEvs_len]; simp only [List.length_cons, List.length_nil]; omega
end Un
theorem Encode_e {w : World} {p g lp : Nat} {FL : Nat → Prop} {ws : List Int} {top : Nat} {evs : List Ev} (h : Ar w p g lp FL ws top evs) (he : evs.length < 100000000) (hws : ws.length ≤ 2000) (a b n' o m : Int) (pt kl n out most : Nat)
    (ha : a = pt) (hb : b = kl) (hn : n' = n) (ho : o = out) (hm : m = most) (hR : Rt top a b n' o m) (hroom : top + 12 * n ≤ ws.length) :
    Calls Try.prog 16 #[.pointer (some ⟨p, 0, none⟩), .int .i64 a, .int .i64 b, .int .i64 n', .int .i64 o, .int .i64 m] w fun e w' =>
      e = .returned (.tuple #[.agg #[.int .u32 (Un.siz pt kl n top ws)], .agg #[.int .u32 (Un.ovr pt kl n most top ws)], .bool true]) ∧ ∃ FL', Ar w' p g lp FL' (Un.fin pt kl n out most top ws) top (evs ++ Un.evs pt kl n out most top) ∧ Step (AF p g FL) (AF p g FL') w w' := by
  subst ha hb hn ho hm
  exact Encode_t h he hws pt kl n out most hR hroom
theorem APut_n {w : World} {p g lp : Nat} {FL : Nat → Prop} {ws : List Int} {top : Nat} {evs : List Ev} (h : Ar w p g lp FL ws top evs) (a : Int) (at_ n c : Nat) (ha : a = at_) (A : Option Addr) (f : Nat → Int) (hat : at_ + n ≤ top) (he : evs.length + n < 1099511627776) (hA : 0 < n → ∃ B off, A = some ⟨B, off, none⟩ ∧ B < w.heap.size ∧ ¬ AF p g FL B ∧ ∀ j, j < n → w.cell? ⟨B, off + j, none⟩ = some (.int .u32 (f j))) :
    Calls Try.prog 26 #[.pointer (some ⟨p, 0, none⟩), .int .i64 a, .slice A n c] w fun e w' => e = .returned (.bool true) ∧ ∃ FL', Ar w' p g lp FL' (putw ws at_ f n) top (evs ++ stEvs at_ n) ∧ Step (AF p g FL) (AF p g FL') w w' := by
  subst ha
  exact APut_t h at_ n c A f hat he hA
/-- Words that were there ahead of an arena, as the arena's calls want them. -/
theorem Rd.arena {w W : World} {A : Option Addr} {n p g : Nat} {f : Nat → Int} {F : Nat → Prop} (h : Rd w A n f) (hb : Below w.heap.size w W) (hl : ∀ i, AF p g F i → w.heap.size ≤ i) :
    0 < n → ∃ b o, A = some ⟨b, o, none⟩ ∧ b < W.heap.size ∧ ¬ AF p g F b ∧ ∀ j, j < n → W.cell? ⟨b, o + j, none⟩ = some (.int .u32 (f j)) := fun h0 => by
  obtain ⟨b, o, e, hbl, hc⟩ := h h0
  exact ⟨b, o, e, Nat.lt_of_lt_of_le hbl hb.size, fun hf => by have := hl b hf; omega, fun j hj => (hb.cell (p := ⟨b, o + j, none⟩) hbl).trans (hc j hj)⟩
attribute [local irreducible] putw stEvs
set_option maxRecDepth 10000 in
set_option maxHeartbeats 1600000 in
theorem lay10_any {w : World} {A KA : Option Addr} {n c kc : Nat} {pf kf : Nat → Int} (hP : Rd w A n pf) (hK : Rd w KA n kf) (hn : n ≤ 100) (m : Int) (most : Nat) (hm : m = most) (hm4 : most ≤ 400) :
    Calls Try.prog 13 #[.slice A n c, .slice KA n kc, .int .i64 m] w fun e w' => ∃ p g lp F, e = .returned (.pointer (some ⟨p, 0, none⟩)) ∧ Ar w' p g lp F (Un.lay n pf kf most) (2 * n + most) (Un.layE n most) ∧ (∀ i, AF p g F i → w.heap.size ≤ i) ∧ Below w.heap.size w w' := by
  subst hm
  have HP := Lib.hid hP
  have HK := Lib.hid hK
  clear hP hK
  have HN := Lib.hid (show (if (4194304 : Int) < (if 14 * (n : Int) + (most : Int) < 0 then 0 else 14 * (n : Int) + (most : Int)) then 4194304 else (if 14 * (n : Int) + (most : Int) < 0 then 0 else 14 * (n : Int) + (most : Int))) = ((14 * n + most : Nat) : Int) by rw [if_neg (by omega), if_neg (by omega)]; omega)
  go_enter Try.func13, Try.ntmps13
  go_wp2_with (go_at_call 24; with_reducible refine (ANew_any (14 * (n : Int) + (most : Int)) (14 * n + most) HN.out _).mono ?_; rintro e w0 ⟨p, g, lp, F0, rfl, hA, hlow, hb⟩; have H0 := Lib.hid hA; have LOW := Lib.hid hlow; have B0 := Lib.hid hb; have z0 := hb.size; clear hA hlow hb)
  go_wp2_with (go_at_call 25; with_reducible refine (ATake_j H0.out (by decide) _ (by omega) (by rw [List.length_replicate]; omega)).mono ?_; rintro e w1 ⟨rfl, F1, hA1, hs1⟩; have H1 := Lib.hid hA1; have S1 := Lib.hid hs1; have z1 := hs1.size; clear hA1 hs1)
  have B1 : Hid (Below w.heap.size w w1) := Lib.hid (S1.out.below B0.out B0.out.size LOW.out)
  have L1 : Hid (∀ i, AF p g F1 i → w.heap.size ≤ i) := Lib.hid (S1.out.low B0.out.size LOW.out)
  have H1 : Hid (Ar w1 p g lp F1 (List.replicate (14 * n + most) 0) (2 * n + most) [⟨4, 0, ((2 * n + most : Nat) : Int)⟩]) := Lib.hid (by
    have h := H1.out
    rw [Nat.zero_add, show (2 * (n : Int) + (most : Int)).toNat = 2 * n + most by omega, show (2 * (n : Int) + (most : Int)) = ((2 * n + most : Nat) : Int) by omega] at h
    exact h)
  with_reducible refine (APut_00 H1.out n c A pf (by omega) (by simp only [List.length_cons, List.length_nil]; omega) (HP.out.arena B1.out L1.out)).mono ?_
  rintro e w2 ⟨rfl, F2, hA2, hs2⟩
  have B2 : Hid (Below w.heap.size w w2) := Lib.hid (hs2.below B1.out B1.out.size L1.out)
  have L2 : Hid (∀ i, AF p g F2 i → w.heap.size ≤ i) := Lib.hid (hs2.low B1.out.size L1.out)
  have H2 := Lib.hid hA2
  clear hA2 hs2
  go_wp2_with fail
  with_reducible refine (APut_n H2.out _ n n kc rfl KA kf (by omega) (by rw [List.length_append, stEvs_len]; simp only [List.length_cons, List.length_nil]; omega) (HK.out.arena B2.out L2.out)).mono ?_
  rintro e w3 ⟨rfl, F3, hA3, hs3⟩
  have B3 := hs3.below B2.out B2.out.size L2.out
  have L3 := hs3.low B2.out.size L2.out
  have H3 := Lib.hid hA3
  have HB3 := Lib.hid B3
  have HL3 := Lib.hid L3
  clear hA3 hs3 B3 L3
  go_wp2_with fail
  go_ret
  exact ⟨p, g, lp, F3, rfl, H3.out, HL3.out, HB3.out⟩
theorem aw10_s : Un.siz 0 1 1 6 (Un.lay 1 (fun _ => 228) (fun _ => 1) 4) = 2 := by decide +kernel
theorem aw10_o : Un.ovr 0 1 1 4 6 (Un.lay 1 (fun _ => 228) (fun _ => 1) 4) = 0 := by decide +kernel
theorem aw10_w : Un.fin 0 1 1 2 4 6 (Un.lay 1 (fun _ => 228) (fun _ => 1) 4) = [228, 1, 195, 164, 0, 0, 0, 0, 0, 0, 0, 0, 0, 0, 0, 0, 0, 0] := by decide +kernel
theorem three {w : World} {go a : Nat} {ws : List Int} (h : ∀ c, c < (4 : Int).toNat → w.cell? ⟨go, c, none⟩ = some (.int .u32 (ws.getD (a + c) 0))) : w.cell? ⟨go, 0, none⟩ = some (.int .u32 (ws.getD (a + 0) 0)) ∧ w.cell? ⟨go, 1, none⟩ = some (.int .u32 (ws.getD (a + 1) 0)) ∧ w.cell? ⟨go, 2, none⟩ = some (.int .u32 (ws.getD (a + 2) 0)) :=
  ⟨h 0 (by decide), h 1 (by decide), h 2 (by decide)⟩
theorem rd_one {W : World} {b : Nat} {x : Int} {c : Nat} (hb : b < W.heap.size) (hc : W.cell? ⟨b, 0, none⟩ = some (.int .u32 x)) : Rd W (some ⟨b, 0, none⟩) 1 (fun _ => x) := fun _ =>
  ⟨b, 0, rfl, hb, fun i hi => by
    obtain rfl : i = 0 := by omega
    exact hc⟩
theorem Un.evs_len (pt kl n out most top : Nat) : (Un.evs pt kl n out most top).length = 30 * n + 4 + 2 * most + (Pk.evs (top + 4 * n) (4 * n) (top + 8 * n) 1 (fun _ => top)).length := by
  unfold Un.evs
  simp only [List.length_append, gvEvs_len, Un.spe_len, Un.fle_len, List.length_cons, List.length_nil]
  omega
attribute [local irreducible] Un.siz Un.ovr Un.fin Un.lay Un.layE Un.evs shEvs
set_option maxRecDepth 10000 in
set_option maxHeartbeats 1600000 in
theorem awake10_any (w : World) : Calls Try.prog 12 #[] w fun e w' => e = .returned (.bool true) ∧ Below w.heap.size w w' := by
  go_enter Try.func12, Try.ntmps12
  go_wp2_with fail
  with_reducible refine (lay10_any (n := 1) (rd_one (c := 0) (x := 228) (by simp; omega) (by simp [go_sem, ↓IntWalk.iteOmega])) (rd_one (c := 0) (x := 1) (by simp) (by simp [go_sem, ↓IntWalk.iteOmega])) (by decide) 4 4 rfl (by decide)).mono ?_
  rintro e w1 ⟨p, g, lp, F1, rfl, hA, hlow, hb⟩
  have B1 : Below w.heap.size w w1 := bl_then (Lib.hid hb) (by (repeat' (first | with_reducible exact Below.refl _ _ | with_reducible refine bl_drewN ?_ _ | with_reducible refine bl_drew ?_ | refine bl_set (by (first | omega | (simp; done) | (simp; omega))) ?_ _ | refine bl_alloc (by (first | omega | (simp; done) | (simp; omega))) ?_ _ | refine bl_then (by assumption) ?_ (by (first | omega | (simp; done) | (simp; omega))) | refine Step.bl (by assumption) (by assumption) (by (first | omega | (simp; done) | (simp; omega))) (by (first | omega | (simp; done) | (simp; omega))) ?_))) (by simp; omega)
  have L1 : ∀ i, AF p g F1 i → w.heap.size ≤ i := fun i hi => by have := hlow i hi; simp at this; omega
  have H1 : Hid (Ar w1 p g lp F1 (Un.lay 1 (fun _ => 228) (fun _ => 1) 4) 6 (Un.layE 1 4)) := Lib.hid hA
  have HB1 := Lib.hid B1
  have HL1 := Lib.hid L1
  have z1 := hb.size
  clear hA hlow hb B1 L1
  go_wp2_with fail
  with_reducible refine (Encode_e H1.out (by rw [Un.layE_len]; decide) (by rw [Un.lay_len]; decide) 0 1 1 2 4 0 1 1 2 4 rfl rfl rfl rfl rfl (by decide) (by rw [Un.lay_len]; decide)).mono ?_
  rintro e w2 ⟨rfl, F2, hA2, hs2⟩
  rw [aw10_w] at hA2
  rw [aw10_s, aw10_o]
  have HB2 := Lib.hid (hs2.below HB1.out HB1.out.size HL1.out)
  have HL2 := Lib.hid (hs2.low HB1.out.size HL1.out)
  have HA2 := Lib.hid hA2
  have z2 := hs2.size
  have hpl := pkEvs_len2 (6 + 4 * 1) (4 * 1) (6 + 8 * 1) 1 (fun _ => 6) (by decide) (by decide)
  have hel : (Un.layE 1 4 ++ Un.evs 0 1 1 2 4 6).length ≤ 20000000 := by
    rw [List.length_append, Un.layE_len, Un.evs_len]
    omega
  clear hA2 hs2 hpl
  go_wp2_with fail
  with_reducible refine (AShow_i ((HA2.out.alloc _).alloc _) 2 4 (by decide) (by decide) (by decide) (by omega)).mono ?_
  rintro e w3 ⟨go, F3, rfl, hgl, hcs, hgn, hA3, hs3⟩
  obtain ⟨s0, s1, s2⟩ := three hcs
  have c2 := (old_cell (o := 0) hs3 (b := w2.heap.size) (by simp; omega) (fun hf => absurd (HA2.out.most _ hf) (Nat.lt_irrefl _))).trans (show ((w2.alloc (.cells #[.int .u32 2] 32)).alloc (.cells #[.int .u32 0] 32)).cell? ⟨w2.heap.size, 0, none⟩ = some (.int .u32 2) by simp [go_sem, ↓IntWalk.iteOmega])
  have c3 := (old_cell (o := 0) hs3 (b := w2.heap.size + 1) (by simp) (fun hf => by have := HA2.out.most _ hf; omega)).trans (show ((w2.alloc (.cells #[.int .u32 2] 32)).alloc (.cells #[.int .u32 0] 32)).cell? ⟨w2.heap.size + 1, 0, none⟩ = some (.int .u32 0) by simp [go_sem, ↓IntWalk.iteOmega])
  have S3 := Lib.hid (((HA2.out.step0.alloc _).alloc _).trans hs3)
  have z3 := S3.out.size
  have hz3 := hs3.size
  rw [World.size_alloc, World.size_alloc] at hz3
  have HA3 := Lib.hid hA3
  clear hcs hA3 hs3
  go_wp2_with (first | (go_at_call 21; refine (told10_any _ _).mono ?_; rintro e w1 ⟨rfl, hb⟩; have hcf := bcell hb; (try simp only [World.size_alloc, World.size_setCell, drew_size] at hcf); have hz := hb.size; (try simp only [World.size_alloc, World.size_setCell, World.size_drew] at hz); have hbh := Lib.hid hb; clear hb; obtain ⟨hc, hf⟩ := hcf))
  go_ret
  refine ⟨rfl, ?_⟩
  have b3 := S3.out.below HB2.out HB2.out.size HL2.out
  have zz := b3.size
  repeat' (first | exact b3 | refine bl_then (by assumption) ?_ (by omega))
end Go.Proofs.Ytjoehhojhfgooaa
