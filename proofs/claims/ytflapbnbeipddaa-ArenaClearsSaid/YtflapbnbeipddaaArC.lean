/- ArenaClears: the law's call. No condition. -/
import Derived.Test.YtflapbnbeipddaaArA
namespace Go.Proofs.Ytflapbnbeipddaa
open Go.RowKit
set_option linter.unusedSimpArgs false
set_option linter.unusedVariables false
attribute [local go_sem] IntKind.wrap_u32' signed_u32 max_u32
attribute [local go_sem ↓] Go.wp_at_zero Go.wp_at_succ
attribute [local go_sem] Calm.C
attribute [local go_sem low] Calm.al_cell Calm.al_frozen
theorem putw_get (ws : List Int) (f : Nat → Int) : ∀ k, k ≤ ws.length → ∀ i, i < ws.length → (putw ws 0 f k).getD i 0 = if i < k then f i else ws.getD i 0
  | 0, _, i, hi => by rw [putw_zero, if_neg (Nat.not_lt_zero i)]
  | k + 1, hk, i, hi => by
    have ih := putw_get ws f k (by omega) i hi
    rw [putw_succ, List.getD_eq_getElem?_getD, Nat.zero_add, List.getElem?_set]
    by_cases h : k = i
    · subst h
      rw [if_pos rfl, if_pos (by rw [putw_len]; omega), if_pos (Nat.lt_succ_self _)]
      rfl
    · rw [if_neg h, ← List.getD_eq_getElem?_getD, ih]
      by_cases h2 : i < k
      · rw [if_pos h2, if_pos (by omega)]
      · rw [if_neg h2, if_neg (by omega)]
theorem gvw_get (ws : List Int) (top : Nat) (ht : top ≤ ws.length) : ∀ k, k ≤ top → ∀ i, i < ws.length → (gvw ws top k).getD i 0 = if top - k ≤ i ∧ i < top then 0 else ws.getD i 0
  | 0, _, i, hi => by rw [gvw_zero, if_neg (by omega)]
  | k + 1, hk, i, hi => by
    have ih := gvw_get ws top ht k (by omega) i hi
    rw [gvw_succ, List.getD_eq_getElem?_getD, List.getElem?_set]
    by_cases h : top - (k + 1) = i
    · rw [if_pos h, if_pos (by rw [gvw_len]; omega), if_pos (by omega)]
      rfl
    · rw [if_neg h, ← List.getD_eq_getElem?_getD, ih]
      by_cases h2 : top - k ≤ i ∧ i < top
      · rw [if_pos h2, if_pos (by omega)]
      · rw [if_neg h2, if_neg (by omega)]
theorem orAll_zeros (ws : List Int) (h : ∀ i, i < ws.length → ws.getD i 0 = 0) : (orAll ws == 0) = true := by
  have h' : ws = List.replicate ws.length 0 := List.ext_getElem (by simp) fun i h1 h2 => by
    have := h i h1
    rw [List.getD_eq_getElem?_getD, List.getElem?_eq_getElem h1] at this
    simpa using this
  have key : ∀ m, (List.replicate m (0 : Int)).foldl Ct.Or 0 = 0 := fun m => by
    induction m with
    | zero => rfl
    | succ m ih =>
      rw [List.replicate_succ, List.foldl_cons, show Ct.Or 0 0 = 0 by decide]
      exact ih
  rw [h']
  unfold orAll
  rw [key]
  rfl
theorem AGive_0 {w : World} {p g lp : Nat} {FL : Nat → Prop} {ws : List Int} {top : Nat} {evs : List Ev} (h : Ar w p g lp FL ws top evs) (he : evs.length + top < 1099511627776) :
    Calls Try.prog 33 #[.pointer (some ⟨p, 0, none⟩), .int .i64 0] w fun e w' => e = .returned (.bool true) ∧ ∃ FL', Ar w' p g lp FL' (gvw ws top (top - 0)) 0 (evs ++ gvEvs top (top - 0) ++ [⟨5, 0, ((top - 0 : Nat) : Int)⟩]) ∧ Step (AF p g FL) (AF p g FL') w w' := AGive_t h 0 (Nat.zero_le _) he
theorem APut_0 {w : World} {p g lp : Nat} {FL : Nat → Prop} {ws : List Int} {top : Nat} {evs : List Ev} (h : Ar w p g lp FL ws top evs) (n c : Nat) (A : Option Addr) (f : Nat → Int) (hat : n ≤ top) (he : evs.length + n < 1099511627776) (hA : 0 < n → ∃ B off, A = some ⟨B, off, none⟩ ∧ B < w.heap.size ∧ ¬ AF p g FL B ∧ ∀ j, j < n → w.cell? ⟨B, off + j, none⟩ = some (.int .u32 (f j))) :
    Calls Try.prog 32 #[.pointer (some ⟨p, 0, none⟩), .int .i64 0, .slice A n c] w fun e w' => e = .returned (.bool true) ∧ ∃ FL', Ar w' p g lp FL' (putw ws 0 f n) top (evs ++ stEvs 0 n) ∧ Step (AF p g FL) (AF p g FL') w w' := APut_t h 0 n c A f (by omega) he hA
theorem AShow_0 {w : World} {p g lp : Nat} {FL : Nat → Prop} {ws : List Int} {top : Nat} {evs : List Ev} (h : Ar w p g lp FL ws top evs) (n : Nat) (hat : n ≤ top) (he : evs.length + 2 * n < 1099511627775) :
    Calls Try.prog 36 #[.pointer (some ⟨p, 0, none⟩), .int .i64 0, .int .i64 n] w fun e w' => ∃ go FL', e = .returned (.slice (some ⟨go, 0, none⟩) n n) ∧ go < w'.heap.size ∧ (∀ c, c < n → w'.cell? ⟨go, c, none⟩ = some (.int .u32 (ws.getD c 0))) ∧ ¬ AF p g FL' go ∧ Ar w' p g lp FL' ws top (evs ++ shEvs ws 0 n) ∧ Step (AF p g FL) (AF p g FL') w w' :=
  (AShow_t h 0 n (by omega) he).mono fun _ _ ⟨go, FL', h1, h2, h3, h4⟩ => ⟨go, FL', h1, h2, fun c hc => by have := h3 c hc; rwa [Nat.zero_add] at this, h4⟩
set_option maxRecDepth 10000 in
set_option maxHeartbeats 1000000 in
theorem ArenaClears_any (w : World) (A : Option Addr) (n c : Nat) (f : Nat → Int) (hA : 0 < n → ∃ B off, A = some ⟨B, off, none⟩ ∧ B < w.heap.size ∧ ∀ j, j < n → w.cell? ⟨B, off + j, none⟩ = some (.int .u32 (f j))) (hn : n ≤ 9223372036854775807) (a : Int) :
    Calls Try.prog 8 #[.slice A n c, .int .i64 a] w fun e w' => e = .returned (.bool true) ∧ Below w.heap.size w w' := by
  by_cases h200 : 200 < n
  · clear hA
    go_enter Try.func8, Try.ntmps8
    go_wp2_with (first | (go_at_call 29; refine (awake02_any _).mono ?_; rintro e w1 ⟨rfl, hb⟩; have hcf := bcell hb; (try simp only [World.size_alloc, World.size_setCell, World.size_drew] at hcf); have hz := hb.size; (try simp only [World.size_alloc, World.size_setCell, World.size_drew] at hz); have hbh := Lib.hid hb; clear hb; obtain ⟨hc, hf⟩ := hcf))
    go_ret
    refine ⟨rfl, ?_⟩
    (repeat' (first | exact Below.refl _ _ | refine bl_set (by (first | omega | (simp; done) | (simp; omega))) ?_ _ | refine bl_alloc (by (first | omega | (simp; done) | (simp; omega))) ?_ _ | refine bl_drewN ?_ _ | refine bl_drew ?_ | refine bl_then (by assumption) ?_ (by (first | omega | (simp; done) | (simp; omega))) | refine Step.bl (by assumption) (by assumption) (by (first | omega | (simp; done) | (simp; omega))) (by (first | omega | (simp; done) | (simp; omega))) ?_))
  have HA := Lib.hid hA
  clear hA
  have hN0 : (if (4194304 : Int) < (if (n : Int) < 0 then 0 else (n : Int)) then 4194304 else (if (n : Int) < 0 then 0 else (n : Int))) = (n : Int) := by
    rw [if_neg (show ¬ (n : Int) < 0 by omega), if_neg (by omega)]
  have HN0 := Lib.hid hN0
  clear hN0
  go_enter Try.func8, Try.ntmps8
  have hput : ∀ i, i < n → (putw (List.replicate n 0) 0 f n).getD i 0 = f i := fun i hi => by
    rw [putw_get _ f n (by simp) i (by simpa using hi), if_pos hi]
  have HP := Lib.hid hput
  have hpl : (putw (List.replicate n 0) 0 f n).length = n := by rw [putw_len]; simp
  clear hput
  obtain ⟨ws1, hws1⟩ : ∃ ws1, putw (List.replicate n 0) 0 f n = ws1 := ⟨_, rfl⟩
  obtain ⟨ev2, hev2⟩ : ∃ ev2, ([] ++ [⟨4, ((0 : Nat) : Int), (n : Int)⟩]) ++ stEvs 0 n = ev2 := ⟨_, rfl⟩
  have hel : ev2.length = n + 1 := by rw [← hev2, List.length_append, stEvs_len]; simp; omega
  have HP2 := HP.out
  rw [hws1] at hpl HP2
  have HP := Lib.hid HP2
  have HWS := Lib.hid hws1
  have HEV := Lib.hid hev2
  clear HP2 hws1 hev2
  have hz0 : ∀ ws : List Int, ws.length = n → (orAll (gvw ws n (n - 0)) == 0) = true := fun ws hw => orAll_zeros _ fun i hi => by
    rw [gvw_len] at hi
    rw [gvw_get ws n (by omega) (n - 0) (by omega) i hi, if_pos (by omega)]
  have HZ1 := Lib.hid (hz0 ws1 hpl)
  have HZ0 := Lib.hid hz0
  clear hz0
  by_cases hca : ¬ (0 ≤ a ∧ a ≤ n)
  · rcases (by omega : a < 0 ∨ (0 ≤ a ∧ (n : Int) < a)) with h1 | ⟨h1, h2⟩
    all_goals
     go_wp2_with (first | first | (go_at_call 29; refine (awake02_any _).mono ?_; rintro e w1 ⟨rfl, hb⟩; have hcf := bcell hb; (try simp only [World.size_alloc, World.size_setCell, World.size_drew] at hcf); have hz := hb.size; (try simp only [World.size_alloc, World.size_setCell, World.size_drew] at hz); have hbh := Lib.hid hb; clear hb; obtain ⟨hc, hf⟩ := hcf) | (go_at_call 30; with_reducible refine (ANew_any n n HN0.out _).mono ?_; rintro e w0 ⟨p, g, lp, F0, rfl, hA, hlow, hb⟩; have H0 := Lib.hid hA; have LOW := Lib.hid hlow; have B0 := Lib.hid hb; clear hA hlow hb) | (go_at_call 31; with_reducible refine (ATake_t (p := p) (g := g) (lp := lp) (FL := F0) (ws := (List.replicate n 0)) (top := 0) (evs := []) (by ((repeat' (first | exact H0.out | refine Ar.alloc ?_ _ | refine Ar.drewN ?_ _ | refine Ar.drew ?_ | refine Ar.below ?_ (by assumption))); (first | done | fail))) (by simp) n (by simp)).mono ?_; rintro e w1 ⟨rfl, F1, hA, hs⟩; rw [Nat.zero_add] at hA; have H1 := Lib.hid hA; have S1 := Lib.hid hs; clear hA hs; have hBW : Hid (Below w.heap.size w w0) := Lib.hid (by (repeat' (first | exact Below.refl _ _ | refine bl_set (by (first | omega | (simp; done) | (simp; omega))) ?_ _ | refine bl_alloc (by (first | omega | (simp; done) | (simp; omega))) ?_ _ | refine bl_drewN ?_ _ | refine bl_drew ?_ | refine bl_then (by assumption) ?_ (by (first | omega | (simp; done) | (simp; omega))) | refine Step.bl (by assumption) (by assumption) (by (first | omega | (simp; done) | (simp; omega))) (by (first | omega | (simp; done) | (simp; omega))) ?_))); have HPUT : Hid (0 < n → ∃ B off, A = some ⟨B, off, none⟩ ∧ B < w1.heap.size ∧ ¬ AF p g F1 B ∧ ∀ j, j < n → w1.cell? ⟨B, off + j, none⟩ = some (.int .u32 (f j))) := Lib.hid (fun h0 => by (obtain ⟨B, off, e, hB, hc⟩ := HA.out h0; have hn0 : ¬ AF p g F0 B := (fun hf => absurd (LOW.out B hf) (by omega)); have hl : B < w0.heap.size := Nat.lt_of_lt_of_le hB hBW.out.size; exact ⟨B, off, e, Nat.lt_of_lt_of_le hl S1.out.size, af_old S1.out hl hn0, fun j hj => (old_cell S1.out hl hn0).trans ((hBW.out.cell (p := ⟨B, off + j, none⟩) hB).trans (hc j hj))⟩))) | (go_at_call 32; with_reducible refine (APut_0 (p := p) (g := g) (lp := lp) (FL := F1) (ws := (List.replicate n 0)) (top := n) (evs := ([] ++ [⟨4, ((0 : Nat) : Int), (n : Int)⟩])) (by ((repeat' (first | exact H1.out | refine Ar.alloc ?_ _ | refine Ar.drewN ?_ _ | refine Ar.drew ?_ | refine Ar.below ?_ (by assumption))); (first | done | fail))) n c A f (by omega) (by simp; omega) HPUT.out).mono ?_; rintro e w2 ⟨rfl, F2, hA, hs⟩; rw [HWS.out, HEV.out] at hA; have H2 := Lib.hid hA; have S2 := Lib.hid hs; clear hA hs) | (go_at_call 33; with_reducible refine (AGive_f H2.out a hca).mono ?_; rintro e w3 ⟨rfl, hw3⟩; replace hw3 := hw3.symm; subst hw3) | (go_at_call 33; with_reducible refine (AGive_0 (p := p) (g := g) (lp := lp) (FL := F2) (ws := ws1) (top := n) (evs := ev2) (by ((repeat' (first | exact H2.out | refine Ar.alloc ?_ _ | refine Ar.drewN ?_ _ | refine Ar.drew ?_ | refine Ar.below ?_ (by assumption))); (first | done | fail))) (by omega)).mono ?_; rintro e w3 ⟨rfl, F3, hA, hs⟩; have H3 := Lib.hid hA; have S3 := Lib.hid hs; clear hA hs) | (go_at_call 34; with_reducible refine (ATop_any H2.out).mono ?_; rintro e w9 ⟨rfl, hw9⟩; replace hw9 := hw9.symm; subst hw9) | (go_at_call 35; with_reducible refine (ABlank_any H3.out).mono ?_; rintro e w4 ⟨rfl, hb⟩; rw [HZ1.out]; have B4 := Lib.hid hb; have H4 := Lib.hid (H3.out.below B4); clear hb))
     all_goals
       go_ret
       refine ⟨rfl, ?_⟩
       have hm := H0.out.most
       have hS : Step (AF p g F0) (AF p g F3) w0 w4 := by (repeat' (first | exact Step.refl (by assumption) | refine Step.set_ (by (first | omega | (simp; done) | (simp; omega))) ?_ _ | refine Step.alloc ?_ _ | refine Step.drewN ?_ _ | refine Step.drew ?_ | refine Step.then_ (by assumption) ?_ | refine Step.thenB (by assumption) ?_))
       exact hS.below hBW.out (by have := hBW.out.size; omega) (fun i hi => Nat.le_trans (by assumption) (LOW.out i hi))
  · obtain ⟨k, rfl⟩ := Int.eq_ofNat_of_zero_le (show 0 ≤ a by omega)
    have hkn : k ≤ n := by omega
    have hw2l : (gvw ws1 n (n - k)).length = n := by rw [gvw_len]; exact hpl
    have hg2 : ∀ i, i < n → (gvw ws1 n (n - k)).getD i 0 = if i < k then f i else 0 := fun i hi => by
      rw [gvw_get ws1 n (by omega) (n - k) (by omega) i (by omega)]
      by_cases h : i < k
      · rw [if_neg (by omega), if_pos h]; exact HP.out i hi
      · rw [if_pos (by omega), if_neg h]
    obtain ⟨ws2, hws2⟩ : ∃ ws2, gvw ws1 n (n - k) = ws2 := ⟨_, rfl⟩
    obtain ⟨ev3, hev3⟩ : ∃ ev3, ev2 ++ gvEvs n (n - k) ++ [⟨5, (k : Int), ((n - k : Nat) : Int)⟩] = ev3 := ⟨_, rfl⟩
    have hel3 : ev3.length ≤ 2 * n + 2 := by rw [← hev3, List.length_append, List.length_append, gvEvs_len, hel]; simp; omega
    rw [hws2] at hw2l hg2
    have HG2 := Lib.hid hg2
    have HW2 := Lib.hid hws2
    have HE3 := Lib.hid hev3
    have HZ2 := Lib.hid (HZ0.out ws2 hw2l)
    have e5 : (k : Int) + ((n : Int) - (k : Int)) ≤ ws2.length := by omega
    have e6 : k + ((n : Int) - (k : Int)).toNat = n := by omega
    obtain ⟨ev4, hev4⟩ : ∃ ev4, ev3 ++ [⟨4, (k : Int), (n : Int) - (k : Int)⟩] = ev4 := ⟨_, rfl⟩
    have hel4 : ev4.length ≤ 2 * n + 3 := by rw [← hev4, List.length_append]; simp; omega
    have HE4 := Lib.hid hev4
    obtain ⟨ev5, hev5⟩ : ∃ ev5, ev4 ++ shEvs ws2 0 n = ev5 := ⟨_, rfl⟩
    have hel5 : ev5.length ≤ 4 * n + 3 := by rw [← hev5, List.length_append, shEvs_len]; omega
    have HE5 := Lib.hid hev5
    clear hg2 hws2 hev3 hev4 hev5 hca
    go_wp2_with (first | first | (go_at_call 29; refine (awake02_any _).mono ?_; rintro e w1 ⟨rfl, hb⟩; have hcf := bcell hb; (try simp only [World.size_alloc, World.size_setCell, World.size_drew] at hcf); have hz := hb.size; (try simp only [World.size_alloc, World.size_setCell, World.size_drew] at hz); have hbh := Lib.hid hb; clear hb; obtain ⟨hc, hf⟩ := hcf) | (go_at_call 30; with_reducible refine (ANew_any n n HN0.out _).mono ?_; rintro e w0 ⟨p, g, lp, F0, rfl, hA, hlow, hb⟩; have H0 := Lib.hid hA; have LOW := Lib.hid hlow; have B0 := Lib.hid hb; clear hA hlow hb) | (go_at_call 31; with_reducible refine (ATake_t (p := p) (g := g) (lp := lp) (FL := F0) (ws := (List.replicate n 0)) (top := 0) (evs := []) (by ((repeat' (first | exact H0.out | refine Ar.alloc ?_ _ | refine Ar.drewN ?_ _ | refine Ar.drew ?_ | refine Ar.below ?_ (by assumption))); (first | done | fail))) (by simp) n (by simp)).mono ?_; rintro e w1 ⟨rfl, F1, hA, hs⟩; rw [Nat.zero_add] at hA; have H1 := Lib.hid hA; have S1 := Lib.hid hs; clear hA hs; have hBW : Hid (Below w.heap.size w w0) := Lib.hid (by (repeat' (first | exact Below.refl _ _ | refine bl_set (by (first | omega | (simp; done) | (simp; omega))) ?_ _ | refine bl_alloc (by (first | omega | (simp; done) | (simp; omega))) ?_ _ | refine bl_drewN ?_ _ | refine bl_drew ?_ | refine bl_then (by assumption) ?_ (by (first | omega | (simp; done) | (simp; omega))) | refine Step.bl (by assumption) (by assumption) (by (first | omega | (simp; done) | (simp; omega))) (by (first | omega | (simp; done) | (simp; omega))) ?_))); have HPUT : Hid (0 < n → ∃ B off, A = some ⟨B, off, none⟩ ∧ B < w1.heap.size ∧ ¬ AF p g F1 B ∧ ∀ j, j < n → w1.cell? ⟨B, off + j, none⟩ = some (.int .u32 (f j))) := Lib.hid (fun h0 => by (obtain ⟨B, off, e, hB, hc⟩ := HA.out h0; have hn0 : ¬ AF p g F0 B := (fun hf => absurd (LOW.out B hf) (by omega)); have hl : B < w0.heap.size := Nat.lt_of_lt_of_le hB hBW.out.size; exact ⟨B, off, e, Nat.lt_of_lt_of_le hl S1.out.size, af_old S1.out hl hn0, fun j hj => (old_cell S1.out hl hn0).trans ((hBW.out.cell (p := ⟨B, off + j, none⟩) hB).trans (hc j hj))⟩))) | (go_at_call 32; with_reducible refine (APut_0 (p := p) (g := g) (lp := lp) (FL := F1) (ws := (List.replicate n 0)) (top := n) (evs := ([] ++ [⟨4, ((0 : Nat) : Int), (n : Int)⟩])) (by ((repeat' (first | exact H1.out | refine Ar.alloc ?_ _ | refine Ar.drewN ?_ _ | refine Ar.drew ?_ | refine Ar.below ?_ (by assumption))); (first | done | fail))) n c A f (by omega) (by simp; omega) HPUT.out).mono ?_; rintro e w2 ⟨rfl, F2, hA, hs⟩; rw [HWS.out, HEV.out] at hA; have H2 := Lib.hid hA; have S2 := Lib.hid hs; clear hA hs) | (go_at_call 33; with_reducible refine (AGive_t (p := p) (g := g) (lp := lp) (FL := F2) (ws := ws1) (top := n) (evs := ev2) (by ((repeat' (first | exact H2.out | refine Ar.alloc ?_ _ | refine Ar.drewN ?_ _ | refine Ar.drew ?_ | refine Ar.below ?_ (by assumption))); (first | done | fail))) k (by omega) (by omega)).mono ?_; rintro e w3 ⟨rfl, F3, hA, hs⟩; rw [HW2.out, HE3.out] at hA; have H3 := Lib.hid hA; have S3 := Lib.hid hs; clear hA hs) | (go_at_call 31; with_reducible refine (ATake_i (p := p) (g := g) (lp := lp) (FL := F3) (ws := ws2) (top := k) (evs := ev3) (by ((repeat' (first | exact H3.out | refine Ar.alloc ?_ _ | refine Ar.drewN ?_ _ | refine Ar.drew ?_ | refine Ar.below ?_ (by assumption))); (first | done | fail))) (by omega) ((n : Int) - (k : Int)) (by omega) e5).mono ?_; rintro e w4 ⟨rfl, F4, hA, hs⟩; rw [e6, HE4.out] at hA; have H4 := Lib.hid hA; have S4 := Lib.hid hs; clear hA hs) | (go_at_call 36; with_reducible refine (AShow_0 (p := p) (g := g) (lp := lp) (FL := F4) (ws := ws2) (top := n) (evs := ev4) (by ((repeat' (first | exact H4.out | refine Ar.alloc ?_ _ | refine Ar.drewN ?_ _ | refine Ar.drew ?_ | refine Ar.below ?_ (by assumption))); (first | done | fail))) n (by omega) (by omega)).mono ?_; rintro e w5 ⟨go, F5, rfl, hgo, hcs, hngo, hA, hs⟩; rw [HE5.out] at hA; have H5 := Lib.hid hA; have S5 := Lib.hid hs; have HCS := Lib.hid hcs; have HNG := Lib.hid hngo; clear hA hs hcs hngo))
    have hm := H0.out.most
    have hS : Step (AF p g F0) (AF p g F5) w0 w5 := by (repeat' (first | exact Step.refl (by assumption) | refine Step.set_ (by (first | omega | (simp; done) | (simp; omega))) ?_ _ | refine Step.alloc ?_ _ | refine Step.drewN ?_ _ | refine Step.drew ?_ | refine Step.then_ (by assumption) ?_ | refine Step.thenB (by assumption) ?_))
    have HS := Lib.hid hS
    clear hS hm
    go_loopw [83] (fun i wr => ∃ q : Nat, q ≤ n ∧ i = .int .i64 q ∧ wr = w5) (fun i _ => n - (intOf i).toNat)
    case atStart => exact ⟨0, Nat.zero_le _, rfl, rfl⟩
    case round =>
      obtain ⟨q, hq, rfl, hwr⟩ := hrel
      replace hwr := hwr.symm
      subst hwr
      by_cases hqn : q < n
      · obtain ⟨B, off, rfl, hB, hcell⟩ := HA.out (by omega)
        have hn0 : ¬ AF p g F0 B := fun hf => absurd (LOW.out B hf) (by omega)
        have hl : B < w0.heap.size := Nat.lt_of_lt_of_le hB hBW.out.size
        have x0 := (old_cell (o := off + q) HS.out hl hn0).trans ((hBW.out.cell (p := ⟨B, off + q, none⟩) hB).trans (hcell q hqn))
        have x1 := HCS.out q hqn
        rw [HG2.out q hqn] at x1
        clear hcell hn0
        by_cases hqk : q < k
        · rw [if_pos hqk] at x1
          go_wp2_with fail
          exact ⟨⟨q + 1, by omega, by go_num, trivial⟩, by simp [intOf]; omega⟩
        · rw [if_neg hqk] at x1
          have hqk' : k ≤ q := by omega
          go_wp2_with fail
          exact ⟨⟨q + 1, by omega, by go_num, trivial⟩, by simp [intOf]; omega⟩
      · have hge : n ≤ q := by omega
        go_wp2_with (first | (go_at_call 33; with_reducible refine (AGive_0 (p := p) (g := g) (lp := lp) (FL := F5) (ws := ws2) (top := n) (evs := ev5) (by ((repeat' (first | exact H5.out | refine Ar.alloc ?_ _ | refine Ar.drewN ?_ _ | refine Ar.drew ?_ | refine Ar.below ?_ (by assumption))); (first | done | fail))) (by omega)).mono ?_; rintro e w6 ⟨rfl, F6, hA, hs⟩; have H6 := Lib.hid hA; have S6 := Lib.hid hs; clear hA hs) | (go_at_call 35; with_reducible refine (ABlank_any H6.out).mono ?_; rintro e w7 ⟨rfl, hb⟩; rw [HZ2.out]; have B7 := Lib.hid hb; have H7 := Lib.hid (H6.out.below B7); clear hb) | (go_at_call 34; with_reducible refine (ATop_any H7.out).mono ?_; rintro e w9 ⟨rfl, hw9⟩; replace hw9 := hw9.symm; subst hw9) | (go_at_call 37; with_reducible refine (ARelease_f H7.out 0 (by omega)).mono ?_; rintro e w9 ⟨rfl, hw9⟩; replace hw9 := hw9.symm; subst hw9))
        go_ret
        refine ⟨rfl, ?_⟩
        have hm := H0.out.most
        have hS2 : Step (AF p g F0) (AF p g F6) w0 w7 := by
          refine Step.thenB B7 ?_
          exact HS.out.trans S6.out
        exact hS2.below hBW.out (by have := hBW.out.size; omega) (fun i hi => Nat.le_trans (by assumption) (LOW.out i hi))
end Go.Proofs.Ytflapbnbeipddaa
