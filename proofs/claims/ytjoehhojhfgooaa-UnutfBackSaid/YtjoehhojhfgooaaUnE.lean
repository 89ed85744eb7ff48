/- unutf: Encode. No condition. -/
import Derived.Test.YtjoehhojhfgooaaUnP
import Derived.Test.YtjoehhojhfgooaaUnA
namespace Go.Proofs.Ytjoehhojhfgooaa
open Go.RowKit
set_option linter.unusedSimpArgs false
set_option linter.unusedVariables false
attribute [local go_sem] IntKind.wrap_u32' signed_u32 max_u32
attribute [local go_sem ↓] Go.wp_at_zero Go.wp_at_succ
attribute [local go_sem] Calm.C
attribute [local go_sem low] Calm.al_cell Calm.al_frozen
namespace Un
/-- The bytes that are laid out. -/
def fl (out to : Nat) (ov : Int) (ws : List Int) : Nat → List Int
  | 0 => ws
  | k + 1 => (fl out to ov ws k).set (out + k) (Ct.And (Ct.Not ov) ((fl out to ov ws k).getD (to + k) 0))
theorem fl_zero (out to : Nat) (ov : Int) (ws : List Int) : fl out to ov ws 0 = ws := rfl
theorem fl_succ (out to : Nat) (ov : Int) (ws W : List Int) (k : Nat) (h : fl out to ov ws k = W) : fl out to ov ws (k + 1) = W.set (out + k) (Ct.And (Ct.Not ov) (W.getD (to + k) 0)) := by subst h; rfl
theorem fl_len (out to : Nat) (ov : Int) (ws : List Int) : ∀ k, (fl out to ov ws k).length = ws.length
  | 0 => rfl
  | k + 1 => by rw [fl_succ _ _ _ _ _ _ rfl, List.length_set, fl_len out to ov ws k]
def fle (out to : Nat) : Nat → List Ev
  | 0 => []
  | k + 1 => fle out to k ++ [⟨1, ((to + k : Nat) : Int), 0⟩, ⟨2, ((out + k : Nat) : Int), 0⟩]
theorem fle_zero (out to : Nat) : fle out to 0 = [] := rfl
theorem fle_succ (out to k : Nat) : fle out to (k + 1) = fle out to k ++ [⟨1, ((to + k : Nat) : Int), 0⟩, ⟨2, ((out + k : Nat) : Int), 0⟩] := rfl
theorem fle_len (out to : Nat) : ∀ k, (fle out to k).length = 2 * k
  | 0 => rfl
  | k + 1 => by rw [fle_succ, List.length_append, fle_len out to k]; simp; omega
def w1 (n top : Nat) (ws : List Int) : List Int := gvw ws (top + 12 * n) (12 * n)
def w2 (pt kl n top : Nat) (ws : List Int) : List Int := sp pt kl top (top + 4 * n) (w1 n top ws) n
def siz (pt kl n top : Nat) (ws : List Int) : Int := Pk.kept (top + 4 * n) (4 * n) (top + 8 * n) 1 (fun _ => top) (w2 pt kl n top ws)
def w3 (pt kl n top : Nat) (ws : List Int) : List Int := Pk.out (top + 4 * n) (4 * n) (top + 8 * n) 1 (fun _ => top) (w2 pt kl n top ws)
def ovr (pt kl n most top : Nat) (ws : List Int) : Int := Ct.Lt most (siz pt kl n top ws)
def fin (pt kl n out most top : Nat) (ws : List Int) : List Int := gvw (fl out top (ovr pt kl n most top ws) (w3 pt kl n top ws) most) (top + 8 * n) (8 * n)
def evs (pt kl n out most top : Nat) : List Ev :=
  [⟨4, (top : Int), 12 * (n : Int)⟩] ++ gvEvs (top + 12 * n) (12 * n) ++ [⟨5, (top : Int), ((12 * n : Nat) : Int)⟩] ++ [⟨4, (top : Int), 8 * (n : Int)⟩] ++ spe pt kl top (top + 4 * n) n ++ Pk.evs (top + 4 * n) (4 * n) (top + 8 * n) 1 (fun _ => top) ++ fle out top most ++ gvEvs (top + 8 * n) (8 * n) ++ [⟨5, (top : Int), ((8 * n : Nat) : Int)⟩]
end Un
theorem pkEvs_len2 (keep n top m : Nat) (L : Nat → Nat) (hn : n ≤ 1000) (hm : m ≤ 100) : (Pk.evs keep n top m L).length ≤ 10000000 := by
  have hs : ∀ b, b ≤ 16 → (Pk.mvse top n (Pk.AL keep top L m) (m + 2) b).length ≤ b * 410000 := by
    intro b
    induction b with
    | zero => intro _; rw [Pk.mvse_zero]; simp
    | succ b ih =>
      intro hb
      have h1 := ih (by omega)
      have h2 := Pk.mve_len top b (Pk.AL keep top L m) (m + 2) (n - 2 ^ b)
      have h3 : (n - 2 ^ b) * (1 + 4 * (m + 2)) ≤ 1000 * 409 := Nat.mul_le_mul (Nat.le_trans (Nat.sub_le _ _) hn) (by omega)
      rw [Pk.mvse_succ, List.length_append, h2]
      omega
  have h1 := hs (Pk.stp n) (Pk.stp_le n (by omega))
  have h2 := Pk.stp_le n (by omega)
  have h3 : n * (3 + 2 * m) ≤ 1000 * 203 := Nat.mul_le_mul hn (by omega)
  unfold Pk.evs
  rw [List.length_append, List.length_append, List.length_append, List.length_append, Pk.bge_len, gvEvs_len]
  simp only [List.length_cons, List.length_nil]
  omega
theorem ret_secs_tmp {fn : Func} {R : Ending → World → Prop} {a : Act} {w : World} {t u v : Tmp} {ad bd : Addr} {x y : Int} {z : Value} (hr : fn.results = #[.cell t 32, .cell u 32, .tmp v])
    (ht : a.tmps.getD t undef = .pointer (some ad)) (hu : a.tmps.getD u undef = .pointer (some bd)) (hv : a.tmps.getD v undef = z) (hc : w.cell? ad = some (.int .u32 x)) (hc2 : w.cell? bd = some (.int .u32 y)) (hd : a.defers = [])
    (hR : R (.returned (.tuple #[.agg #[.int .u32 x], .agg #[.int .u32 y], z])) w) : bodyPost Try.prog fn R .ret a w := by
  refine bodyPost_ret (v := .tuple #[.agg #[.int .u32 x], .agg #[.int .u32 y], z]) ?_ hd hR
  have ht' : a.tmps[t]?.getD undef = .pointer (some ad) := by simpa using ht
  have hu' : a.tmps[u]?.getD undef = .pointer (some bd) := by simpa using hu
  have hv' : a.tmps[v]?.getD undef = z := by simpa using hv
  simp [results, hr, ht', hu', hv', go_sem, hc, hc2]
theorem enc_lanes (top n : Nat) : Lanes (top + 8 * n) (4 * (n : Int)) (Pk.KL ((top : Int) + 4 * (n : Int)) (fun _ => (top : Int))) (1 + 1) := by
  intro k hk
  rcases (by omega : k = 0 ∨ k = 1) with rfl | rfl
  · refine ⟨?_, fun j hj => by omega⟩
    show Fit _ ((top : Int) + 4 * (n : Int)) _
    simp only [Fit]
    omega
  · refine ⟨?_, fun j hj => ?_⟩
    · show Fit _ (top : Int) _
      simp only [Fit]
      omega
    · obtain rfl : j = 0 := by omega
      show ¬ Meets (top : Int) ((top : Int) + 4 * (n : Int)) _
      simp only [Meets]
      omega
attribute [local irreducible] Un.sp Un.spe Un.fl Un.fle Pk.out Pk.kept Pk.evs gvw gvEvs
set_option maxRecDepth 10000 in
set_option maxHeartbeats 1600000 in
theorem Encode_f {w : World} {p g lp : Nat} {FL : Nat → Prop} {ws : List Int} {top : Nat} {evs : List Ev} (h : Ar w p g lp FL ws top evs) (a b n to most : Int) (hR : ¬ (Rt top a b n to most ∧ top + 12 * n ≤ ws.length)) :
    Calls Try.prog 16 #[.pointer (some ⟨p, 0, none⟩), .int .i64 a, .int .i64 b, .int .i64 n, .int .i64 to, .int .i64 most] w fun e w' => e = .returned (.tuple #[.agg #[.int .u32 0], .agg #[.int .u32 0], .bool false]) ∧ Below w.heap.size w w' := by
  have HA := Lib.hid h
  have hmost := h.most
  have htop : (top : Int) ≤ 4194304 := by have := h.ht; have := h.hz; omega
  clear h
  by_cases hr : Rt top a b n to most
  · have hn : 0 ≤ n ∧ n ≤ 12288 := ⟨hr.1, hr.2.1⟩
    have hroom : ¬ top + 12 * n ≤ ws.length := fun h => hR ⟨hr, h⟩
    have d1 := decide_eq_true hr
    clear hR hr
    go_enter Try.func16, Try.ntmps16
    go_wp2_with (first
      | (go_at_call 45; with_reducible refine (unRight_any ((HA.out.alloc _).alloc _) _ _ _ _ _).mono ?_; rintro e w1 ⟨rfl, hw⟩; replace hw := hw.symm; subst hw; rw [d1])
      | (go_at_call 25; with_reducible refine (ATake_f ((HA.out.alloc _).alloc _) (12 * n) (by omega)).mono ?_; rintro e w2 ⟨rfl, hb⟩; have hz_w2 := hb.size; obtain ⟨hc_w2, hf_w2⟩ := bcell hb; (try simp only [World.size_alloc, World.size_setCell, drew_size] at hc_w2 hf_w2 hz_w2); have hbh_w2 := Lib.hid hb; clear hb)
      | (first | (go_at_call 28; refine (Of_any _ _).mono ?_; rintro e w1 ⟨rfl, hb⟩; have hcf := bcell hb; (try simp only [World.size_alloc, World.size_setCell, drew_size] at hcf); have hz := hb.size; (try simp only [World.size_alloc, World.size_setCell, World.size_drew] at hz); have hbh := Lib.hid hb; clear hb; obtain ⟨hc, hf⟩ := hcf)))
    refine ret_secs_tmp (x := 0) (y := 0) (z := .bool false) rfl rfl rfl rfl ?_ ?_ rfl ⟨rfl, ?_⟩
    · simp (maxDischargeDepth := 10) [go_sem, ↓IntWalk.iteOmega, *]
    · simp (maxDischargeDepth := 10) [go_sem, ↓IntWalk.iteOmega, *]
    · (repeat' (first | with_reducible exact Below.refl _ _ | with_reducible refine bl_drewN ?_ _ | with_reducible refine bl_drew ?_ | refine bl_set (by (first | omega | (simp; done) | (simp; omega))) ?_ _ | refine bl_alloc (by (first | omega | (simp; done) | (simp; omega))) ?_ _ | refine bl_then (by assumption) ?_ (by (first | omega | (simp; done) | (simp; omega))) | refine Step.bl (by assumption) (by assumption) (by (first | omega | (simp; done) | (simp; omega))) (by (first | omega | (simp; done) | (simp; omega))) ?_))
  · have d1 := decide_eq_false hr
    clear hR hr
    go_enter Try.func16, Try.ntmps16
    go_wp2_with (first
      | (go_at_call 45; with_reducible refine (unRight_any ((HA.out.alloc _).alloc _) _ _ _ _ _).mono ?_; rintro e w1 ⟨rfl, hw⟩; replace hw := hw.symm; subst hw; rw [d1])
      | (first | (go_at_call 28; refine (Of_any _ _).mono ?_; rintro e w1 ⟨rfl, hb⟩; have hcf := bcell hb; (try simp only [World.size_alloc, World.size_setCell, drew_size] at hcf); have hz := hb.size; (try simp only [World.size_alloc, World.size_setCell, World.size_drew] at hz); have hbh := Lib.hid hb; clear hb; obtain ⟨hc, hf⟩ := hcf)))
    refine ret_secs_tmp (x := 0) (y := 0) (z := .bool false) rfl rfl rfl rfl ?_ ?_ rfl ⟨rfl, ?_⟩
    · simp (maxDischargeDepth := 10) [go_sem, ↓IntWalk.iteOmega, *]
    · simp (maxDischargeDepth := 10) [go_sem, ↓IntWalk.iteOmega, *]
    · (repeat' (first | with_reducible exact Below.refl _ _ | with_reducible refine bl_drewN ?_ _ | with_reducible refine bl_drew ?_ | refine bl_set (by (first | omega | (simp; done) | (simp; omega))) ?_ _ | refine bl_alloc (by (first | omega | (simp; done) | (simp; omega))) ?_ _ | refine bl_then (by assumption) ?_ (by (first | omega | (simp; done) | (simp; omega))) | refine Step.bl (by assumption) (by assumption) (by (first | omega | (simp; done) | (simp; omega))) (by (first | omega | (simp; done) | (simp; omega))) ?_))
theorem unSpread_e {w : World} {p g lp : Nat} {FL : Nat → Prop} {ws : List Int} {top : Nat} {evs : List Ev} (h : Ar w p g lp FL ws top evs) (he : evs.length < 1000000000) (pt kl n to : Nat) (a : Int) (st : Nat) (ha : a = st) (hn : n ≤ 12288)
    (h1 : pt + n ≤ top) (h2 : kl + n ≤ top) (h3 : to + 4 * n ≤ top) (h4 : st + 4 * n ≤ top) :
    Calls Try.prog 47 #[.pointer (some ⟨p, 0, none⟩), .int .i64 pt, .int .i64 kl, .int .i64 n, .int .i64 to, .int .i64 a] w fun e w' => e = .returned (.tuple #[]) ∧
      ∃ FL', Ar w' p g lp FL' (Un.sp pt kl to st ws n) top (evs ++ Un.spe pt kl to st n) ∧ Step (AF p g FL) (AF p g FL') w w' := by
  subst ha
  exact unSpread_any h he pt kl n to st hn h1 h2 h3 h4
set_option maxRecDepth 10000 in
set_option maxHeartbeats 3200000 in
theorem Encode_t {w : World} {p g lp : Nat} {FL : Nat → Prop} {ws : List Int} {top : Nat} {evs : List Ev} (h : Ar w p g lp FL ws top evs) (he : evs.length < 100000000) (hws : ws.length ≤ 2000) (pt kl n out most : Nat) (hR : Rt top pt kl n out most) (hroom : top + 12 * n ≤ ws.length) :
    Calls Try.prog 16 #[.pointer (some ⟨p, 0, none⟩), .int .i64 pt, .int .i64 kl, .int .i64 n, .int .i64 out, .int .i64 most] w fun e w' =>
      e = .returned (.tuple #[.agg #[.int .u32 (Un.siz pt kl n top ws)], .agg #[.int .u32 (Un.ovr pt kl n most top ws)], .bool true]) ∧ ∃ FL', Ar w' p g lp FL' (Un.fin pt kl n out most top ws) top (evs ++ Un.evs pt kl n out most top) ∧ Step (AF p g FL) (AF p g FL') w w' := by
  have HA := Lib.hid h
  have HM := Lib.hid h.most
  have htop : (top : Int) ≤ 4194304 := by have := h.ht; have := h.hz; omega
  have d1 := decide_eq_true hR
  obtain ⟨-, -, -, hm4, ⟨-, -, f1⟩, ⟨-, -, f2⟩, ⟨-, -, f3⟩, -, -, -⟩ := hR
  have h1 : pt + n ≤ top := by omega
  have h2 : kl + n ≤ top := by omega
  have h3 : out + most ≤ top := by omega
  have h4 : most ≤ 4 * n := by omega
  have hn : n ≤ 166 := by omega
  clear h f1 f2 f3 hm4
  go_enter Try.func16, Try.ntmps16
  go_wp2_with (first
    | (go_at_call 45; with_reducible refine (unRight_any ((HA.out.alloc _).alloc _) _ _ _ _ _).mono ?_; rintro e w1 ⟨rfl, hw⟩; replace hw := hw.symm; subst hw; rw [d1]))
  obtain ⟨W0, hW0⟩ : ∃ W0, (w.alloc (.cells #[.int .u32 0] 32)).alloc (.cells #[.int .u32 0] 32) = W0 := ⟨_, rfl⟩
  rw [hW0]
  obtain ⟨B, hB⟩ : ∃ B, w.heap.size = B := ⟨_, rfl⟩
  have zW0 : W0.heap.size = B + 2 := by rw [← hW0, ← hB]; simp
  have HA0 := Lib.hid (show Ar W0 p g lp FL ws top evs by rw [← hW0]; exact (HA.out.alloc _).alloc _)
  have S0 := Lib.hid (show Step (AF p g FL) (AF p g FL) w W0 by rw [← hW0]; exact (HA.out.step0.alloc _).alloc _)
  have c0 : W0.cell? ⟨B, 0, none⟩ = some (.int .u32 0) := by rw [← hW0, ← hB]; simp [go_sem, ↓IntWalk.iteOmega]
  have c1 : W0.cell? ⟨B + 1, 0, none⟩ = some (.int .u32 0) := by rw [← hW0, ← hB]; simp [go_sem, ↓IntWalk.iteOmega]
  have g0 : W0.frozen? ⟨B, 0, none⟩ = false := by rw [← hW0, ← hB]; simp [go_sem, ↓IntWalk.iteOmega]
  have g1 : W0.frozen? ⟨B + 1, 0, none⟩ = false := by rw [← hW0, ← hB]; simp [go_sem, ↓IntWalk.iteOmega]
  have n0 : ¬ AF p g FL B := fun hf => by have := HM.out _ hf; omega
  have n1 : ¬ AF p g FL (B + 1) := fun hf => by have := HM.out _ hf; omega
  rw [hB]
  clear hW0 HA
  have e12 : (12 * (n : Int)).toNat = 12 * n := by omega
  have e8 : (8 * (n : Int)).toNat = 8 * n := by omega
  go_wp2_with (first
    | (go_at_call 25; with_reducible refine (ATake_j HA0.out (by omega) (12 * (n : Int)) (by omega) (by omega)).mono ?_; rintro e w1 ⟨rfl, F1, hA1, hs1⟩; rw [e12] at hA1; have HA1 := Lib.hid hA1; have S1 := Lib.hid hs1; clear hA1 hs1)
    | (go_at_call 46; with_reducible refine (AGive_t HA1.out top (by omega) (by rw [List.length_append]; simp only [List.length_cons, List.length_nil]; omega)).mono ?_; rintro e w2 ⟨rfl, F2, hA2, hs2⟩; rw [Nat.add_sub_cancel_left] at hA2; have HA2 := Lib.hid hA2; have S2 := Lib.hid hs2; clear hA2 hs2))
  have z1 := S1.out.size
  have z2 := S2.out.size
  have hl2 : (evs ++ [(⟨4, (top : Int), 12 * (n : Int)⟩ : Ev)] ++ gvEvs (top + 12 * n) (12 * n) ++ ([⟨5, (top : Int), ((12 * n : Nat) : Int)⟩] : List Ev)).length = evs.length + 12 * n + 2 := by
    rw [List.length_append, List.length_append, List.length_append, gvEvs_len]
    simp only [List.length_cons, List.length_nil]
    omega
  obtain ⟨E2, hE2⟩ : ∃ E2, evs ++ [(⟨4, (top : Int), 12 * (n : Int)⟩ : Ev)] ++ gvEvs (top + 12 * n) (12 * n) ++ ([⟨5, (top : Int), ((12 * n : Nat) : Int)⟩] : List Ev) = E2 := ⟨_, rfl⟩
  rw [hE2] at HA2 hl2
  have HE2 := Lib.hid hE2
  have hgl : (gvw ws (top + 12 * n) (12 * n)).length = ws.length := gvw_len _ _ _
  obtain ⟨V2, hV2⟩ : ∃ V2, gvw ws (top + 12 * n) (12 * n) = V2 := ⟨_, rfl⟩
  rw [hV2] at HA2 hgl
  have HV2 := Lib.hid hV2
  clear hE2 hV2
  go_wp2_with (first
    | (go_at_call 25; with_reducible refine (ATake_j HA2.out (by omega) (8 * (n : Int)) (by omega) (by omega)).mono ?_; rintro e w3 ⟨rfl, F3, hA3, hs3⟩; rw [e8] at hA3; have HA3 := Lib.hid hA3; have S3 := Lib.hid hs3; clear hA3 hs3)
    | (go_at_call 47; with_reducible refine (unSpread_e HA3.out (by rw [List.length_append]; simp only [List.length_cons, List.length_nil]; omega) pt kl n top _ (top + 4 * n) (by omega) (by omega) (by omega) (by omega) (by omega) (by omega)).mono ?_; rintro e w4 ⟨rfl, F4, hA4, hs4⟩; have HA4 := Lib.hid hA4; have S4 := Lib.hid hs4; clear hA4 hs4))
  have z3 := S3.out.size
  have z4 := S4.out.size
  have hl4 : (E2 ++ [(⟨4, (top : Int), 8 * (n : Int)⟩ : Ev)] ++ Un.spe pt kl top (top + 4 * n) n).length = E2.length + 1 + 10 * n := by
    rw [List.length_append, List.length_append, Un.spe_len]
    simp only [List.length_cons, List.length_nil]
  obtain ⟨E4, hE4⟩ : ∃ E4, E2 ++ [(⟨4, (top : Int), 8 * (n : Int)⟩ : Ev)] ++ Un.spe pt kl top (top + 4 * n) n = E4 := ⟨_, rfl⟩
  rw [hE4] at HA4 hl4
  have HE4 := Lib.hid hE4
  have hsl : (Un.sp pt kl top (top + 4 * n) V2 n).length = V2.length := Un.sp_len _ _ _ _ _ _
  obtain ⟨V4, hV4⟩ : ∃ V4, Un.sp pt kl top (top + 4 * n) V2 n = V4 := ⟨_, rfl⟩
  rw [hV4] at HA4 hsl
  have HV4 := Lib.hid hV4
  have S04 := Lib.hid (S1.out.trans (S2.out.trans (S3.out.trans S4.out)))
  clear hE4 hV4 S1 S2 S3 S4 HA2 HA3 HA1
  with_reducible refine (Pack_t (HA4.out.alloc _) (by omega) ((top : Int) + 4 * (n : Int)) (4 * (n : Int)) _ 1 1 (fun _ => (top : Int)) (Iti.one HA4.out.most (top : Int) _) (by decide) (by omega) (by omega) (enc_lanes top n) (by omega)).mono ?_
  rintro e w5 ⟨rfl, F5, hA5, hs5⟩
  have t1 : ((top : Int) + 4 * (n : Int)).toNat = top + 4 * n := by omega
  have t2 : (4 * (n : Int)).toNat = 4 * n := by omega
  simp only [t1, t2, Int.toNat_natCast] at hA5 ⊢
  have hpl := pkEvs_len2 (top + 4 * n) (4 * n) (top + 8 * n) 1 (fun _ => top) (by omega) (by decide)
  have hl5 : (E4 ++ Pk.evs (top + 4 * n) (4 * n) (top + 8 * n) 1 (fun _ => top)).length ≤ E4.length + 10000000 := by
    rw [List.length_append]
    omega
  obtain ⟨E5, hE5⟩ : ∃ E5, E4 ++ Pk.evs (top + 4 * n) (4 * n) (top + 8 * n) 1 (fun _ => top) = E5 := ⟨_, rfl⟩
  rw [hE5] at hA5 hl5
  have HE5 := Lib.hid hE5
  obtain ⟨V5, hV5⟩ : ∃ V5, Pk.out (top + 4 * n) (4 * n) (top + 8 * n) 1 (fun _ => top) V4 = V5 := ⟨_, rfl⟩
  rw [hV5] at hA5
  obtain ⟨X, hX⟩ : ∃ X, Pk.kept (top + 4 * n) (4 * n) (top + 8 * n) 1 (fun _ => top) V4 = X := ⟨_, rfl⟩
  rw [hX]
  have HX : Hid (Un.siz pt kl n top ws = X) := Lib.hid (by rw [← hX, ← HV4.out, ← HV2.out]; rfl)
  have HV5 : Hid (Un.w3 pt kl n top ws = V5) := Lib.hid (by rw [← hV5, ← HV4.out, ← HV2.out]; rfl)
  have S05 := Lib.hid (S04.out.trans ((HA4.out.step0.alloc _).trans hs5))
  have HA5 := Lib.hid hA5
  have z5 := S05.out.size
  clear hA5 hs5 hE5 hV5 hX hpl
  have hmw : (most : Int) % 4294967296 = most := by omega
  go_wp2_with fail
  (refine Calm.go 6 (by kernel_rfl) (by kernel_rfl) (by kernel_rfl) ?_; intro w0 hw0; have hr := Calm.rule hw0; simp only [Calm.heads, Calm.isAlloc]; haveI hnon : Nonempty (Ext (Below w0.heap.size w0)) := ⟨⟨w0, Below.refl _ _⟩⟩; (repeat (go_big_quiet_step (first | (go_at_call 28; exact Ext.calm below_calm (Of_any _ _)) | (go_at_call 48; exact Ext.calm below_calm (Lt_any _ _ _))))); refine wpQuiet_nil ?_; clear hnon hr hw0; clear w0; (repeat refine Calm.n_skip rfl ?_); refine Calm.n_new rfl ?_; intro pE1 hpE1 hqE1; (repeat refine Calm.n_skip rfl ?_); refine Calm.n_zero ?_; intro WE hbE hsE; simp only [List.drop_succ_cons, List.drop_zero]; obtain ⟨hcE, hfE⟩ := bcell hbE; (try simp only [World.size_alloc, World.size_setCell, drew_size] at hcE hfE); have hzE := hbE.size; have hbhE := Lib.hid hbE; obtain ⟨hxE1, hyE1, hlE1⟩ := Calm.boxed hsE (p := pE1) (.head _) (by first | exact box_sec | exact box_sec3 | exact box_ust); clear hqE1; clear hsE hbE; (try simp only [World.size_alloc, World.size_setCell, World.size_drew] at hzE hpE1))
  go_wp2_with fail
  obtain ⟨O, hO⟩ : ∃ O, Ct.Lt (most : Int) X = O := ⟨_, rfl⟩
  rw [hO]
  have HO : Hid (Un.ovr pt kl n most top ws = O) := Lib.hid (by rw [← hO, ← HX.out]; rfl)
  obtain ⟨W6, hW6⟩ : ∃ W6, WE.setCell ⟨pE1, 0, none⟩ (.int .u32 O) = W6 := ⟨_, rfl⟩
  rw [hW6]
  obtain ⟨Bs, hBs⟩ : ∃ Bs, w5.heap.size = Bs := ⟨_, rfl⟩
  have cs : W6.cell? ⟨Bs, 0, none⟩ = some (.int .u32 X) := by rw [← hW6, ← hBs]; clear hW6 hBs hO; simp (maxDischargeDepth := 10) [go_sem, ↓IntWalk.iteOmega, *]
  have co : W6.cell? ⟨pE1, 0, none⟩ = some (.int .u32 O) := by rw [← hW6]; clear hW6 hBs hO; simp (maxDischargeDepth := 10) [go_sem, ↓IntWalk.iteOmega, *]
  have HB6 : Hid (Below w5.heap.size w5 W6) := by
    rw [← hW6]
    refine Lib.hid ?_
    (repeat' (first | with_reducible exact Below.refl _ _ | with_reducible refine bl_drewN ?_ _ | with_reducible refine bl_drew ?_ | refine bl_set (by (first | omega | (simp; done) | (simp; omega))) ?_ _ | refine bl_alloc (by (first | omega | (simp; done) | (simp; omega))) ?_ _ | refine bl_then (by assumption) ?_ (by (first | omega | (simp; done) | (simp; omega))) | refine Step.bl (by assumption) (by assumption) (by (first | omega | (simp; done) | (simp; omega))) (by (first | omega | (simp; done) | (simp; omega))) ?_))
  have HA6 := Lib.hid (show Ar W6 p g lp F5 V5 (top + 8 * n) E5 from HA5.out.below HB6)
  have S56 := Lib.hid (Step.of_below HA5.out.most HB6.out)
  have ns : ¬ AF p g F5 Bs := fun hf => by have := HA5.out.most _ hf; omega
  have no : ¬ AF p g F5 pE1 := fun hf => by have := HA5.out.most _ hf; omega
  have S06 := Lib.hid (S05.out.trans S56.out)
  have zs6 : Bs < W6.heap.size := World.block_lt_of_cell? W6 ⟨Bs, 0, none⟩ cs
  have zo6 : pE1 < W6.heap.size := World.block_lt_of_cell? W6 ⟨pE1, 0, none⟩ co
  rw [hBs]
  rw [hBs] at hpE1 hzE
  have hBs' : B + 2 ≤ Bs := by omega
  have z06 := S06.out.size
  clear hcE hfE hbhE hxE1 hyE1 h HA5 S05 S56 HB6 hW6 hBs hO S04 HA4 hlE1
  have HA := HA6
  go_loopw [80] (fun i wr => ∃ (k : Nat) (F : Nat → Prop) (E : List Ev) (V : List Int), k ≤ most ∧ i = .int .i64 (k : Int) ∧ Un.fl out top O V5 k = V ∧ E = E5 ++ Un.fle out top k ∧ Ar wr p g lp F V (top + 8 * n) E ∧ Step (AF p g F5) (AF p g F) W6 wr) (fun i _ => most - (intOf i).toNat)
  case atStart => exact ⟨0, F5, E5, V5, Nat.zero_le _, rfl, Un.fl_zero _ _ _ _, by rw [Un.fle_zero, List.append_nil], HA.out, HA.out.step0⟩
  case round =>
    obtain ⟨k, F, E, V, hk, rfl, hfl, hE, hA, hS⟩ := hrel
    clear HA
    have HA := Lib.hid hA
    have HS := Lib.hid hS
    have zr := hS.size
    have hEl : E.length = E5.length + 2 * k := by rw [hE, List.length_append, Un.fle_len]
    have hVl : V.length = V5.length := by rw [← hfl, Un.fl_len]
    have HE := Lib.hid hE
    have HFL := Lib.hid hfl
    by_cases hkn : k < most
    · have co' := (old_cell (o := 0) hS zo6 no).trans co
      have hn3 := foot_old hA.most
      have p3 : FX (AF p g F) pE1 = False := eq_false (fun hf => no ((hS.foot _ zo6).1 hf))
      have HM6 := Lib.hid HA6.out.most
      clear hA hS hE hfl HA6
      go_wp2_with (first | (first | (go_at_call 51; refine (Not_any _ _).mono ?_; rintro e wn ⟨rfl, hb⟩; have hcf_wn := bcell hb; (try simp only [World.size_alloc, World.size_setCell, drew_size] at hcf_wn); have hz_wn := hb.size; (try simp only [World.size_alloc, World.size_setCell, World.size_drew] at hz_wn); have hbh_wn := Lib.hid hb; clear hb; obtain ⟨hc_wn, hf_wn⟩ := hcf_wn) | (go_at_call 50; refine (And_any _ _ _).mono ?_; rintro e wa ⟨rfl, hb⟩; have hcf_wa := bcell hb; (try simp only [World.size_alloc, World.size_setCell, drew_size] at hcf_wa); have hz_wa := hb.size; (try simp only [World.size_alloc, World.size_setCell, World.size_drew] at hz_wa); have hbh_wa := Lib.hid hb; clear hb; obtain ⟨hc_wa, hf_wa⟩ := hcf_wa)) | (go_at_call 52; with_reducible refine' Calls.mono (ALoad_e ?_ ?_ _ (top + k) ?_ ?_) ?_; rotate_left 6; (next => (repeat' (first | with_reducible exact HA.out | with_reducible refine' Ar.drewN ?_ _ | with_reducible refine' Ar.drew ?_ | with_reducible refine' Ar.farE ?_ ?_ _ | with_reducible refine' Ar.alloc ?_ _ | with_reducible refine' Ar.below ?_ (by assumption))); (try (all_goals (simp [*, ↓IntWalk.iteOmega]; first | done | fail))); (first | done | fail)); (next => (first | omega | (simp only [List.length_append, List.length_cons, List.length_nil]; omega) | fail)); (next => (first | omega | fail)); (next => (first | omega | fail)); rintro e wl ⟨rfl, F_wl, hA1, hs1⟩; obtain ⟨hc_wl, hf_wl, hn_wl⟩ := hs1.rules; (try simp only [World.size_alloc, World.size_setCell, drew_size] at hc_wl hf_wl hn_wl); have hz_wl := hs1.size; (try simp only [World.size_alloc, World.size_setCell, World.size_drew] at hz_wl); have hst_wl := Lib.hid hs1; have HA := Lib.hid hA1; clear hA1 hs1) | (go_at_call 49; with_reducible refine' Calls.mono (AStore_e ?_ ?_ _ (out + k) ?_ ?_ _) ?_; rotate_left 6; (next => (repeat' (first | with_reducible exact HA.out | with_reducible refine' Ar.drewN ?_ _ | with_reducible refine' Ar.drew ?_ | with_reducible refine' Ar.farE ?_ ?_ _ | with_reducible refine' Ar.alloc ?_ _ | with_reducible refine' Ar.below ?_ (by assumption))); (try (all_goals (simp [*, ↓IntWalk.iteOmega]; first | done | fail))); (first | done | fail)); (next => (first | omega | (simp only [List.length_append, List.length_cons, List.length_nil]; omega) | fail)); (next => (first | omega | fail)); (next => (first | omega | fail)); rintro e wz ⟨rfl, F_wz, hA1, hs1⟩; obtain ⟨hc_wz, hf_wz, hn_wz⟩ := hs1.rules; (try simp only [World.size_alloc, World.size_setCell, drew_size] at hc_wz hf_wz hn_wz); have hz_wz := hs1.size; (try simp only [World.size_alloc, World.size_setCell, World.size_drew] at hz_wz); have hst_wz := Lib.hid hs1; have HA := Lib.hid hA1; clear hA1 hs1))
      refine ⟨⟨k + 1, F_wz, _, _, by omega, by go_num, ?_, ?_, by (repeat' (first | with_reducible exact HA.out | with_reducible refine' Ar.drewN ?_ _ | with_reducible refine' Ar.drew ?_ | with_reducible refine' Ar.farE ?_ ?_ _ | with_reducible refine' Ar.alloc ?_ _ | with_reducible refine' Ar.below ?_ (by assumption))); (try (all_goals (simp [*, ↓IntWalk.iteOmega]; first | done | fail))); (first | done | fail), ?_⟩, by simp [intOf]; omega⟩
      · rw [Un.fl_succ _ _ _ _ _ _ HFL.out]; simp only [List.getD_eq_getElem?_getD]
      · rw [HE.out, Un.fle_succ]; simp
      · have hmost := HM6.out
        have HS' := HS.out
        clear S06 S0
        (repeat' (first | exact Step.refl (by assumption) | refine Step.set_ (by (first | omega | (simp; done) | (simp; omega))) ?_ _ | refine Step.alloc ?_ _ | refine Step.drewN ?_ _ | refine Step.drew ?_ | refine Step.then_ (by assumption) ?_ | refine Step.thenB (by assumption) ?_))
    · have hkE : k = most := by omega
      have HKE := Lib.hid hkE
      have hge : most ≤ k := by omega
      have S7 := Lib.hid (S06.out.trans hS)
      have HS6 := Lib.hid hS
      have z7 := hS.size
      clear hA hE hfl hkE hS
      go_wp2_with (first
        | (go_at_call 46; with_reducible refine (AGive_t HA.out top (by omega) (by omega)).mono ?_; rintro e w8 ⟨rfl, F8, hA8, hs8⟩; rw [Nat.add_sub_cancel_left] at hA8; have HA8 := Lib.hid hA8; have S8 := Lib.hid hs8; clear hA8 hs8))
      have S68 := HS6.out.trans S8.out
      have S08 := Lib.hid (S06.out.trans S68)
      have cs8 := (old_cell (o := 0) S68 zs6 ns).trans cs
      have co8 := (old_cell (o := 0) S68 zo6 no).trans co
      have b0 := (old_cell (o := 0) S08.out (b := B) (by omega) n0).trans c0
      have b1 := (old_cell (o := 0) S08.out (b := B + 1) (by omega) n1).trans c1
      have f0 := (old_frozen (o := 0) S08.out (b := B) (by omega) n0).trans g0
      have f1 := (old_frozen (o := 0) S08.out (b := B + 1) (by omega) n1).trans g1
      have z8 := S08.out.size
      have q0 : AF p g F8 B = False := eq_false (fun hf => n0 ((S08.out.foot _ (by omega)).1 hf))
      have q1 : AF p g F8 (B + 1) = False := eq_false (fun hf => n1 ((S08.out.foot _ (by omega)).1 hf))
      have hfin : Hid (Un.fin pt kl n out most top ws = gvw V (top + 8 * n) (8 * n)) := Lib.hid (by
        have h := HFL.out
        rw [HKE.out] at h
        unfold Un.fin
        rw [HO.out, HV5.out, h])
      have hevs : Hid (evs ++ Un.evs pt kl n out most top = E ++ gvEvs (top + 8 * n) (8 * n) ++ [⟨5, (top : Int), ((8 * n : Nat) : Int)⟩]) := Lib.hid (by
        rw [HE.out, ← HE5.out, ← HE4.out, ← HE2.out, HKE.out]
        unfold Un.evs
        simp only [List.append_assoc])
      clear S68 S7 HS6 S8 HS c0 c1 g0 g1 n0 n1 cs co ns no S06
      go_region_held3 (fun w' => w'.cell? ⟨Bs, 0, none⟩ = some (.int .u32 X) ∧ w'.cell? ⟨pE1, 0, none⟩ = some (.int .u32 O)) ((simp [go_sem, ↓IntWalk.iteOmega, *]; done)) (fail)
      all_goals (go_wp2_with fail)
      all_goals
        refine ret_secs_tmp (x := X) (y := O) (z := .bool true) rfl rfl rfl rfl ?_ ?_ rfl ⟨?_, F8, ?_, ?_⟩
        · simp (maxDischargeDepth := 10) [go_sem, ↓IntWalk.iteOmega, *]
        · simp (maxDischargeDepth := 10) [go_sem, ↓IntWalk.iteOmega, *]
        · rw [HX.out, HO.out]
        · rw [hfin.out, hevs.out]
          clear HA
          have HA := HA8
          (repeat' (first | with_reducible exact HA.out | with_reducible refine' Ar.drewN ?_ _ | with_reducible refine' Ar.drew ?_ | with_reducible refine' Ar.farE ?_ ?_ _ | with_reducible refine' Ar.alloc ?_ _ | with_reducible refine' Ar.below ?_ (by assumption))); (try (all_goals (simp [*, ↓IntWalk.iteOmega]; first | done | fail))); (first | done | fail)
        · have hmost := HM.out
          have S0' := S0.out
          have S08' := S08.out
          (repeat' (first | exact Step.refl (by assumption) | refine Step.set_ (by (first | omega | (simp; done) | (simp; omega))) ?_ _ | refine Step.alloc ?_ _ | refine Step.drewN ?_ _ | refine Step.drew ?_ | refine Step.then_ (by assumption) ?_ | refine Step.thenB (by assumption) ?_))
end Go.Proofs.Ytjoehhojhfgooaa
