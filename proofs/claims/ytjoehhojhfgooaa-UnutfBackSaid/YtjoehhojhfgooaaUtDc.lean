/- UtfDecodes: the law's call. No condition. -/
import Derived.Test.YtjoehhojhfgooaaUtBl
import Derived.Test.YtjoehhojhfgooaaUtN
import Derived.Test.YtjoehhojhfgooaaUtQ
namespace Go.Proofs.Ytjoehhojhfgooaa
open Go.RowKit
set_option linter.unusedSimpArgs false
set_option linter.unusedVariables false
attribute [local go_sem] IntKind.wrap_u32' signed_u32 max_u32
attribute [local go_sem ↓] Go.wp_at_zero Go.wp_at_succ
attribute [local go_sem] Calm.C
attribute [local go_sem low] Calm.al_cell Calm.al_frozen
theorem U8s.take {w : World} {A : Option Addr} {n m : Nat} {f : Nat → Nat} (h : U8s w A n f) (hm : m ≤ n) : U8s w A m f := fun h0 => by
  obtain ⟨b, o, rfl, hl, hcs⟩ := h (by omega)
  exact ⟨b, o, rfl, hl, fun i hi => hcs i (by omega)⟩
theorem U8s.ints {w : World} {A : Option Addr} {n : Nat} {f : Nat → Nat} (h : U8s w A n f) : 0 < n → ∃ b o, A = some ⟨b, o, none⟩ ∧ b < w.heap.size ∧ ∀ i, i < n → w.cell? ⟨b, o + i, none⟩ = some (.int .u8 ((fun i => (f i : Int)) i)) := h
/-- Words put one by one. -/
def putf (ws : List Int) (g : Nat → Int) : Nat → List Int
  | 0 => ws
  | k + 1 => (putf ws g k).set k (g k)
theorem putf_zero (ws : List Int) (g : Nat → Int) : putf ws g 0 = ws := rfl
theorem putf_succ (ws : List Int) (g : Nat → Int) (k : Nat) : putf ws g (k + 1) = (putf ws g k).set k (g k) := rfl
theorem putf_len (ws : List Int) (g : Nat → Int) : ∀ k, (putf ws g k).length = ws.length
  | 0 => rfl
  | k + 1 => by rw [putf_succ, List.length_set, putf_len ws g k]
theorem putf_get (ws : List Int) (g : Nat → Int) : ∀ k, k ≤ ws.length → ∀ i, (putf ws g k).getD i 0 = if i < k then g i else ws.getD i 0
  | 0, _, i => by rw [putf_zero, if_neg (Nat.not_lt_zero i)]
  | k + 1, hk, i => by
    rw [putf_succ, Ut.set_get _ _ _ _ (by rw [putf_len]; omega), putf_get ws g k (by omega) i]
    by_cases h : i = k
    · subst h
      rw [if_pos rfl, if_pos (Nat.lt_succ_self _)]
    · rw [if_neg h]
      by_cases h2 : i < k
      · rw [if_pos h2, if_pos (by omega)]
      · rw [if_neg h2, if_neg (by omega)]
/-- A byte with something above it. -/
theorem low_of (f av : Nat) (hf : f < 256) (ha : av < 4294967296) (h0 : av % 256 = 0) : Ct.And (Ct.Or f av) 255 = f := by
  rw [Ct.or_nat f av (by omega) ha, show (255 : Int) = ((255 : Nat) : Int) from rfl, Ct.and_nat _ 255 (Ct.or_lt f av (by omega) ha) (by decide), show (255 : Nat) = 2 ^ 8 - 1 from rfl, Nat.and_two_pow_sub_one_eq_mod, Nat.or_mod_two_pow]
  rw [show av % 2 ^ 8 = 0 from h0, Nat.or_zero, Nat.mod_eq_of_lt hf]
/-- The document's points: so many, and whether the bytes are right. -/
theorem rPoints_one {w : World} {A : Option Addr} {n : Nat} {f : Nat → Nat} (hA : U8s w A n f) (hf : ∀ i, f i < 256) (hn : n ≤ 1000000) (c : Nat) (hc : n ≤ c) :
    Calls Try.prog 23 #[.slice A n c] w fun e w' => ∃ J A' c' R, e = .returned (.tuple #[.slice A' J c', .bool R]) ∧ Ut.Rights f n J ∧ (R = true → Ut.pos f n J = n) ∧ (R = false → J = 0) ∧ Ut.isBad f n = !R ∧
      w'.ownsRow w.heap.size 30 1 (.slice A' J c') J (vals f n J) ∧ Below w.heap.size w w' := by
  refine (rPoints_any hA hf hn c hc).mono ?_
  rintro e w' ⟨hb, ⟨J, A', c', hR, hp, rfl, ho⟩ | ⟨J, hR, hp, hz, rfl⟩⟩
  · obtain ⟨-, h2, h3⟩ := Ut.run_pos f n J hR
    rw [hp] at h2 h3
    refine ⟨J, A', c', true, rfl, hR, fun _ => hp, fun h => (by cases h), ?_, ho, hb⟩
    unfold Ut.isBad
    rw [h2, h3]
    rfl
  · refine ⟨0, none, 0, false, rfl, rights_zero f n, fun h => (by cases h), fun _ => rfl, ?_, ?_, hb⟩
    · unfold Ut.isBad
      rcases Ut.run_bad f n J hR hp hz with h | h
      · rw [decide_eq_false h]
        cases (Ut.rn f n n).b <;> rfl
      · rw [h]
        rfl
    · rw [vals_zero]; exact World.ownsRow_nil _ _ _ _
theorem ARelease_e {w : World} {p g lp : Nat} {FL : Nat → Prop} {ws : List Int} {top : Nat} {evs : List Ev} (h : Ar w p g lp FL ws top evs) (hn : evs.length < 1099511627775) (a : Int) (i : Nat) (ha : a = i) (hi : i < top) :
    Calls Try.prog 22 #[.pointer (some ⟨p, 0, none⟩), .int .i64 a] w fun e w' => e = .returned (.int .u32 (ws.getD i 0)) ∧ ∃ FL', Ar w' p g lp FL' ws top (evs ++ [⟨1, i, 0⟩] ++ [⟨3, 0, ws.getD i 0⟩]) ∧ Step (AF p g FL) (AF p g FL') w w' := by
  subst ha
  exact ARelease_t h hn i hi
/-- Two new slices, whichever came first. -/
theorem lateS {X : Exit → Act → World → Prop} {e : Exit} {a : Act} {W' : World} {n m q : Nat} (hp : ((((a.put (some 16) (.slice (some ⟨m, 0, none⟩) n n)).put (some 17) (.slice (some ⟨q, 0, none⟩) n n)).put (some 88) (.slice (some ⟨m, 0, none⟩) n n)).put (some 90) (.slice (some ⟨q, 0, none⟩) n n)) = a) (P : Nat → Nat → World → Prop) (h : P m q W')
    (k : ∀ m q W2, P m q W2 → X e ((((a.put (some 16) (.slice (some ⟨m, 0, none⟩) n n)).put (some 17) (.slice (some ⟨q, 0, none⟩) n n)).put (some 88) (.slice (some ⟨m, 0, none⟩) n n)).put (some 90) (.slice (some ⟨q, 0, none⟩) n n)) W2) : X e a W' := hp ▸ k m q W' h
theorem own_cells {w : World} {base J cP : Nat} {AP : Option Addr} {f : Nat → Nat} {M : Nat} (h : w.ownsRow base 30 1 (.slice AP J cP) J (vals f M J)) : 0 < J → ∃ g, AP = some ⟨g, 0, none⟩ ∧ base ≤ g ∧ g < w.heap.size ∧ ∀ i, i < J → w.cell? ⟨g, i, none⟩ = some (.int .u32 (Ut.val f M i)) := fun h0 => by
  obtain ⟨g, cap, hv, hb, hgl⟩ := h.form h0
  injection hv with h1 h2 h3
  subst h1
  refine ⟨g, rfl, hb, hgl, fun i hi => ?_⟩
  refine (h.cellAt i (by omega)).trans ?_
  unfold vals
  rw [List.getElem?_map, List.getElem?_range hi]
  rfl
/-- What is wanted, and kept, behind so many points. -/
def wantf (f : Nat → Nat) (M P c : Nat) : Int := if c < P then (Ut.ov f M c : Int) else 0
def keepf (f : Nat → Nat) (M P c : Nat) : Int := if c < P then Ct.Mask (Ut.wk f M c) else 0
theorem wantf_succ (f : Nat → Nat) (M J : Nat) (h : Ut.Rights f M (J + 1)) (c : Nat) : wantf f M (Ut.pos f M (J + 1)) c = if c = Ut.pos f M (J + 1) - 1 then (Ut.val f M J : Int) else wantf f M (Ut.pos f M J) c := by
  obtain ⟨h1, h2, h3, h4, h5⟩ := Ut.run_step f M J h
  have h6 := Ut.pos_succ f M J
  unfold wantf
  by_cases e : c = Ut.pos f M (J + 1) - 1
  · rw [if_pos e, if_pos (by omega), e, h3]
  · rw [if_neg e]
    by_cases e2 : c < Ut.pos f M J
    · rw [if_pos e2, if_pos (by omega)]
    · rw [if_neg e2]
      by_cases e3 : c < Ut.pos f M (J + 1)
      · rw [if_pos e3, (h5 c (by omega) (by omega)).1]
        rfl
      · rw [if_neg e3]
theorem keepf_succ (f : Nat → Nat) (M J : Nat) (h : Ut.Rights f M (J + 1)) (c : Nat) : keepf f M (Ut.pos f M (J + 1)) c = if c = Ut.pos f M (J + 1) - 1 then 4294967295 else keepf f M (Ut.pos f M J) c := by
  obtain ⟨h1, h2, h3, h4, h5⟩ := Ut.run_step f M J h
  have h6 := Ut.pos_succ f M J
  unfold keepf
  by_cases e : c = Ut.pos f M (J + 1) - 1
  · rw [if_pos e, if_pos (by omega), e, h4]
    rfl
  · rw [if_neg e]
    by_cases e2 : c < Ut.pos f M J
    · rw [if_pos e2, if_pos (by omega)]
    · rw [if_neg e2]
      by_cases e3 : c < Ut.pos f M (J + 1)
      · rw [if_pos e3, (h5 c (by omega) (by omega)).2]
        rfl
      · rw [if_neg e3]
theorem val_blen (f : Nat → Nat) (M J : Nat) (hf : ∀ i, f i < 256) (h : Ut.nof f M J ≠ 0) : Ut.blen (Ut.val f M J) = Ut.nof f M J ∧ Ut.val f M J < 2097152 := Ut.pt_blen _ _ (fun k => hf _) h
theorem set_cells {W : World} {m i n : Nat} {u : Value} {g : Nat → Value} (hi : i < n) (h : ∀ c, c < n → W.cell? ⟨m, c, none⟩ = some (g c)) : ∀ c, c < n → (W.setCell ⟨m, i, none⟩ u).cell? ⟨m, c, none⟩ = some (if c = i then u else g c) := fun c hc => by
  by_cases e : c = i
  · subst e
    rw [if_pos rfl]
    exact World.cell?_setCell_same _ _ _ (h c hc)
  · rw [if_neg e]
    exact (World.cell?_setCell_other _ _ _ _ (fun e2 => e (by injection e2 with _ e3; exact e3.symm))).trans (h c hc)
theorem far_cells {W : World} {m q i n : Nat} {u : Value} {g : Nat → Value} (hq : q ≠ m) (h : ∀ c, c < n → W.cell? ⟨m, c, none⟩ = some (g c)) : ∀ c, c < n → (W.setCell ⟨q, i, none⟩ u).cell? ⟨m, c, none⟩ = some (g c) := fun c hc =>
  (World.cell?_setCell_far W ⟨q, i, none⟩ ⟨m, c, none⟩ u hq).trans (h c hc)
theorem below_cells {W W' : World} {m n : Nat} {g : Nat → Value} (hb : Below W.heap.size W W') (hm : m < W.heap.size) (h : ∀ c, c < n → W.cell? ⟨m, c, none⟩ = some (g c)) : ∀ c, c < n → W'.cell? ⟨m, c, none⟩ = some (g c) := fun c hc =>
  (hb.cell (p := ⟨m, c, none⟩) hm).trans (h c hc)
theorem wantf_zero (f : Nat → Nat) (M c : Nat) : wantf f M 0 c = 0 := by unfold wantf; rw [if_neg (by omega)]
theorem keepf_zero (f : Nat → Nat) (M c : Nat) : keepf f M 0 c = 0 := by unfold keepf; rw [if_neg (by omega)]
theorem wantf_all (f : Nat → Nat) (M c : Nat) : wantf f M M c = (Ut.ov f M c : Int) := by
  unfold wantf
  split
  · rfl
  · unfold Ut.ov
    rw [Ut.wk_behind f M c (by omega)]
    rfl
theorem keepf_all (f : Nat → Nat) (M c : Nat) : keepf f M M c = Ct.Mask (Ut.wk f M c) := by
  unfold keepf
  split
  · rfl
  · rw [Ut.wk_behind f M c (by omega)]
    rfl
theorem fin_cells {f : Nat → Nat} {M n J : Nat} {W1 W3 : List Int} {R : Bool} (hG : ∀ i, W3.getD i 0 = if n ≤ i ∧ i < 2 * n then (if (!R) = true then 0 else (Ut.ov f M (i - n) : Int)) else if 2 * n ≤ i ∧ i < 3 * n then Ct.Mask (!(!R) && Ut.wk f M (i - 2 * n)) else W1.getD i 0)
    (h1 : R = true → Ut.pos f M J = M) (h0 : R = false → J = 0) (c : Nat) (hc : c < n) : wantf f M (Ut.pos f M J) c = W3.getD (n + c) 0 ∧ keepf f M (Ut.pos f M J) c = W3.getD (2 * n + c) 0 := by
  have e1 := hG (n + c)
  have e2 := hG (2 * n + c)
  rw [if_pos (by omega), Nat.add_sub_cancel_left] at e1
  rw [if_neg (by omega), if_pos (by omega), Nat.add_sub_cancel_left] at e2
  rw [e1, e2]
  cases R
  · rw [h0 rfl, Ut.pos_zero, wantf_zero, keepf_zero]
    exact ⟨rfl, rfl⟩
  · rw [h1 rfl, wantf_all, keepf_all]
    exact ⟨rfl, by simp⟩
theorem mk_words (n : Nat) (hn : n ≤ 1000) : ∃ mk : World → World, ∀ w : World, (Instr.makeSlice 22 (.int .i64 n) (.int .i64 n)).run Try.prog w = .ok (.slice (some ⟨w.heap.size, 0, none⟩) n n) (mk w) ∧
    Below w.heap.size w (mk w) ∧ w.heap.size < (mk w).heap.size ∧ (∀ c, c < n → (mk w).cell? ⟨w.heap.size, c, none⟩ = some (.int .u32 0)) ∧ (∀ c, (mk w).frozen? ⟨w.heap.size, c, none⟩ = false) := by
  obtain ⟨i0, hi, hz0, hz1, hz2⟩ := info_parts Try.infoU32
  have h : ∀ w : World, ∃ w', (Instr.makeSlice 22 (.int .i64 n) (.int .i64 n)).run Try.prog w = .ok (.slice (some ⟨w.heap.size, 0, none⟩) n n) w' ∧ Below w.heap.size w w' ∧ w.heap.size < w'.heap.size ∧ (∀ c, c < n → w'.cell? ⟨w.heap.size, c, none⟩ = some (.int .u32 0)) ∧ (∀ c, w'.frozen? ⟨w.heap.size, c, none⟩ = false) := fun w => by
    obtain ⟨w', hr, r1, r2⟩ := run_make_full (P := Try.prog) w w.heap.size 22 30 i0 _ 1 Try.underlying22 hi hz0 hz1 .i64 .i64 n (by rw [hz2]; omega) (by simp only [maxLen]; omega) (Nat.le_refl _)
    obtain ⟨-, h2, h3, h4⟩ := made_own r1
    exact ⟨w', hr, none_bl r2, h2, h3, h4⟩
  exact ⟨fun w => (h w).choose, fun w => (h w).choose_spec⟩
attribute [local irreducible] Ut.out Ut.answer Ut.evs Ut.lay stEvs putf wantf keepf Ut.val Ut.nof Ut.pos vals
set_option maxRecDepth 10000 in
set_option maxHeartbeats 3200000 in
theorem UtfDecodes_any (w : World) (A : Option Addr) (n c : Nat) (f : Nat → Nat) (hA : U8s w A n f) (hn : n ≤ 9223372036854775807) (hf : ∀ i, f i < 256) (hc : n ≤ c) (len above : Nat) (hlen : len < 4294967296) :
    Calls Try.prog 5 #[.slice A n c, .int .u32 len, .int .u32 above] w fun e w' => e = .returned (.bool true) ∧ Below w.heap.size w w' := by
  by_cases h100 : 100 < n
  · clear hA
    go_enter Try.func5, Try.ntmps5
    go_wp2_with (first | (go_at_call 29; refine (awake09_any _).mono ?_; rintro e w1 ⟨rfl, hb⟩; have hcf := bcell hb; (try simp only [World.size_alloc, World.size_setCell, drew_size] at hcf); have hz := hb.size; (try simp only [World.size_alloc, World.size_setCell, World.size_drew] at hz); have hbh := Lib.hid hb; clear hb; obtain ⟨hc, hf⟩ := hcf))
    go_ret
    refine ⟨rfl, ?_⟩
    (repeat' (first | with_reducible exact Below.refl _ _ | with_reducible refine bl_drewN ?_ _ | with_reducible refine bl_drew ?_ | refine bl_set (by (first | omega | (simp; done) | (simp; omega))) ?_ _ | refine bl_alloc (by (first | omega | (simp; done) | (simp; omega))) ?_ _ | refine bl_then (by assumption) ?_ (by (first | omega | (simp; done) | (simp; omega))) | refine Step.bl (by assumption) (by assumption) (by (first | omega | (simp; done) | (simp; omega))) (by (first | omega | (simp; done) | (simp; omega))) ?_))
  have HX := Lib.hid hA
  have HF := Lib.hid hf
  clear hA hf
  have h100' : n ≤ 100 := by omega
  obtain ⟨av, hav⟩ : ∃ av : Nat, (above : Int) * 256 % 4294967296 = av := ⟨above * 256 % 4294967296, by omega⟩
  have hnm : (n : Int) % 4294967296 = n := by omega
  obtain ⟨M, hM⟩ : ∃ M : Nat, (if n < len then (n : Int) else len) = M := ⟨min len n, by split <;> omega⟩
  have HM := Lib.hid (show min len n = M by split at hM <;> omega)
  have hMn : M ≤ n := by have := HM.out; omega
  have HAV := Lib.hid (show av < 4294967296 ∧ av % 256 = 0 by omega)
  go_enter Try.func5, Try.ntmps5
  go_wp2_with (first | (go_at_call 29; refine (awake09_any _).mono ?_; rintro e wq ⟨rfl, hb⟩; have hcf_wq := bcell hb; (try simp only [World.size_alloc, World.size_setCell, drew_size] at hcf_wq); have hz_wq := hb.size; (try simp only [World.size_alloc, World.size_setCell, World.size_drew] at hz_wq); have hbh_wq := Lib.hid hb; clear hb; obtain ⟨hc_wq, hf_wq⟩ := hcf_wq) | (go_at_call 30; with_reducible refine (Lay_any (HX.out.below hbh_wq.out).ints (by omega) (fun i hi => by have := HF.out i; omega)).mono ?_; rintro e wX ⟨p, g, lp, F1, rfl, hA1, hlow1, hb1⟩; have HA := Lib.hid hA1; have LOWA := Lib.hid hlow1; have BA := Lib.hid hb1; have zA := hb1.size; clear hA1 hlow1 hb1))
  have BX := Lib.hid (show Below w.heap.size w wX from bl_then BA hbh_wq.out hbh_wq.out.size)
  have LX := Lib.hid (show ∀ i, AF p g F1 i → w.heap.size ≤ i from fun i hi => Nat.le_trans hz_wq (LOWA.out i hi))
  obtain ⟨E0, hE0⟩ : ∃ E0, [(⟨4, 0, (n : Int) * 3⟩ : Ev)] ++ stEvs 0 n = E0 := ⟨_, rfl⟩
  rw [hE0] at HA
  have HL0 := Lib.hid (show E0.length = n + 1 by rw [← hE0, List.length_append, stEvs_len]; simp; omega)
  obtain ⟨W0, hW0⟩ : ∃ W0, Ut.lay n (fun i => (f i : Int)) n = W0 := ⟨_, rfl⟩
  rw [hW0] at HA
  have HW0 := Lib.hid (show W0.length = 3 * n by rw [← hW0, Ut.lay_len])
  clear hE0 hW0 BA LOWA hc_wq hf_wq hbh_wq
  go_loopw [32] (fun i wr => ∃ (k : Nat) (F : Nat → Prop), k ≤ n ∧ i = .int .i64 k ∧ Ar wr p g lp F (putf W0 (fun i => Ct.Or (f i) av) k) (3 * n) (E0 ++ stEvs 0 k) ∧ Step (AF p g F1) (AF p g F) wX wr) (fun i _ => n - (intOf i).toNat)
  case atStart =>
    refine ⟨0, F1, Nat.zero_le _, rfl, ?_, HA.out.step0⟩
    rw [putf_zero, stEvs_zero, List.append_nil]
    exact HA.out
  case round =>
    obtain ⟨k, F, hk, rfl, hA, hs⟩ := hrel
    clear HA
    have HA := Lib.hid hA
    have HS := Lib.hid hs
    have zr := hs.size
    clear hA hs
    by_cases hkn : k < n
    · obtain ⟨b, o, rfl, hb, hcs⟩ := HX.out (by omega)
      have hfk := HF.out k
      have hck : wr.cell? ⟨b, o + k, none⟩ = some (.int .u8 (f k)) := by
        refine (old_cell HS.out (Nat.lt_of_lt_of_le hb BX.out.size) (fun hf => ?_)).trans ((BX.out.cell (p := ⟨b, o + k, none⟩) hb).trans (hcs k hkn))
        have := LX.out b hf
        omega
      have hsl := stEvs_len 0 k
      have HG := Lib.hid (show Ct.Or (f k) av = bits .or .u32 (f k) av from rfl)
      obtain ⟨v, hv⟩ : ∃ v, f k = v := ⟨_, rfl⟩
      rw [hv] at hck hfk HG
      have hv256 : (v : Int) % 4294967296 = v := by omega
      clear hcs
      go_wp2_with (go_at_call 26; with_reducible refine (APut_1 (HA.out.alloc _) (by rw [List.length_append, HL0.out]; omega) k (bits .or .u32 v av) _ _ (by omega) (by simp) (fun hf => absurd (HA.out.most _ hf) (Nat.lt_irrefl _)) (new_cell _ _ _)).mono ?_; rintro e w2 ⟨rfl, F2, hA2, hs2⟩; have H2 := Lib.hid hA2; have S2 := Lib.hid hs2; clear hA2 hs2)
      refine ⟨⟨k + 1, F2, by omega, by go_num, ?_, ?_⟩, by simp [intOf]; omega⟩
      · rw [putf_succ, stEvs_succ, ← List.append_assoc, hv, HG.out, Nat.zero_add]
        exact H2.out
      · exact HS.out.alloc _ |>.trans S2.out
    · have hkE : k = n := by omega
      have HS2 := Lib.hid (HS.out.below BX.out BX.out.size LX.out)
      have LX2 := Lib.hid (HS.out.low BX.out.size LX.out)
      have HA2 := HA.out
      rw [hkE] at HA2
      obtain ⟨E1, hE1⟩ : ∃ E1, E0 ++ stEvs 0 n = E1 := ⟨_, rfl⟩
      obtain ⟨W1, hW1⟩ : ∃ W1, putf W0 (fun i => Ct.Or (f i) av) n = W1 := ⟨_, rfl⟩
      rw [hE1, hW1] at HA2
      have HL1 := Lib.hid (show E1.length = 2 * n + 1 by rw [← hE1, List.length_append, stEvs_len, HL0.out]; omega)
      have hW1l : W1.length = 3 * n := by rw [← hW1, putf_len, HW0.out]
      have hW1g : ∀ k, k < n → Ct.And (W1.getD k 0) 255 = f k := fun k hk => by
        rw [← hW1, putf_get _ _ _ (by rw [HW0.out]; omega), if_pos hk]
        exact low_of (f k) av (HF.out k) HAV.out.1 HAV.out.2
      have HW1l := Lib.hid hW1l
      have HW1g := Lib.hid hW1g
      clear HA
      have HA := Lib.hid HA2
      have hge : n ≤ k := by omega
      clear HA2 hE1 hW1 hW1l hW1g HS hkE
      go_wp2_with (first | (go_at_call 28; refine (Of_any _ _).mono ?_; rintro e wo ⟨rfl, hb⟩; have hcf_wo := bcell hb; (try simp only [World.size_alloc, World.size_setCell, drew_size] at hcf_wo); have hz_wo := hb.size; (try simp only [World.size_alloc, World.size_setCell, World.size_drew] at hz_wo); have hbh_wo := Lib.hid hb; clear hb; obtain ⟨hc_wo, hf_wo⟩ := hcf_wo) | (go_at_call 27; with_reducible refine (Decode_n (HA.out.below hbh_wo) (by rw [HL1.out]; omega) (by omega) len).mono ?_; rintro e w3 ⟨rfl, F3, hA3, hs3⟩; have HA3 := Lib.hid hA3; have S3 := Lib.hid hs3; clear hA3 hs3))
      have B3 := Lib.hid (S3.out.below (bl_then hbh_wo HS2.out HS2.out.size) (Nat.le_trans HS2.out.size hbh_wo.out.size) LX2.out)
      have LX3 := Lib.hid (S3.out.low (Nat.le_trans HS2.out.size hbh_wo.out.size) LX2.out)
      have hans := Ut.answer_form n W1 (by rw [HW1l.out]; omega) f HF.out HW1g.out len hlen (by omega)
      have HG := Lib.hid (Ut.out_form n W1 (by rw [HW1l.out]; omega) f HF.out HW1g.out len hlen (by omega))
      rw [HM.out] at hans HG
      rw [hans]
      obtain ⟨W3, hW3⟩ : ∃ W3, Ut.out 0 n (2 * n) n len W1 = W3 := ⟨_, rfl⟩
      rw [hW3] at HA3 HG
      clear hW3 hans hc_wo hf_wo hbh_wo HS2 S3 HA LX2
      have z3 := B3.out.size
      with_reducible refine (rPoints_one ((HX.out.take hMn).below (B3.out.alloc z3 _)) HF.out (by omega) c (by omega)).mono ?_
      rintro e w4 ⟨J, AP, cP, R, rfl, hR, hp1, hp0, hbad, hO, hb4⟩
      rw [hbad]
      rw [hbad] at HG
      have B4 := Lib.hid (bl_then (Lib.hid hb4) (B3.out.alloc z3 (.cells #[.int .u32 (Ct.Mask (Ut.isBad f M))] 32)) (by rw [World.size_alloc]; omega))
      have HA4 := Lib.hid ((HA3.out.alloc (.cells #[.int .u32 (Ct.Mask (Ut.isBad f M))] 32)).below (Lib.hid hb4))
      have c4 : w4.cell? ⟨w3.heap.size, 0, none⟩ = some (.int .u32 (Ct.Mask (!R))) := by
        rw [← hbad]
        exact (hb4.cell (p := ⟨w3.heap.size, 0, none⟩) (by simp)).trans (new_cell _ _ _)
      have zw3 : w3.heap.size < w4.heap.size := by have := hb4.size; rw [World.size_alloc] at this; omega
      have HR := Lib.hid hR
      have HP1 := Lib.hid hp1
      have HP0 := Lib.hid hp0
      have HO := Lib.hid hO
      clear hb4 hR hp1 hp0 hO hbad HA3 B3
      have hJn : J ≤ n := by
        have h1 := rights_le f M J HR.out
        have h2 := (Ut.run_pos f M J HR.out).1
        omega
      cases R
      all_goals
        have e1 : (Ct.Mask true == 0) = false := rfl
        have e2 : (Ct.Mask false == 0) = true := rfl
        have e3 : (Ct.Mask true == 4294967295) = true := rfl
        go_wp2_with (first | (go_at_call 31; refine (told09_any _ _).mono ?_; rintro e wt ⟨rfl, hb⟩; have hcf_wt := bcell hb; (try simp only [World.size_alloc, World.size_setCell, drew_size] at hcf_wt); have hz_wt := hb.size; (try simp only [World.size_alloc, World.size_setCell, World.size_drew] at hz_wt); have hbh_wt := Lib.hid hb; clear hb; obtain ⟨hc_wt, hf_wt⟩ := hcf_wt))
        have hb5 : Below w4.heap.size w4 wt := by (repeat' (first | with_reducible exact Below.refl _ _ | with_reducible refine bl_drewN ?_ _ | with_reducible refine bl_drew ?_ | refine bl_set (by (first | omega | (simp; done) | (simp; omega))) ?_ _ | refine bl_alloc (by (first | omega | (simp; done) | (simp; omega))) ?_ _ | refine bl_then (by assumption) ?_ (by (first | omega | (simp; done) | (simp; omega))) | refine Step.bl (by assumption) (by assumption) (by (first | omega | (simp; done) | (simp; omega))) (by (first | omega | (simp; done) | (simp; omega))) ?_))
        have HA5 := Lib.hid (HA4.out.below (Lib.hid hb5))
        have B5 := Lib.hid (bl_then (Lib.hid hb5) B4.out B4.out.size)
        have HO5 := Lib.hid (pw_own HO.out (Lib.hid hb5))
        have z5 := hb5.size
        obtain ⟨mk, hmk⟩ := mk_words n (by omega)
        have HMK := Lib.hid hmk
        have mkrun := fun w => (hmk w).1
        clear hbh_wt hc_wt hf_wt HA4 B4 HO hb5 hmk c4
        go_region_held3 (fun w' => True) (trivial) (fail)
        all_goals
          obtain ⟨b1, s1, c1, f1⟩ := (HMK.out wt.drew).2
          obtain ⟨b2, s2, c2, f2⟩ := (HMK.out (mk wt.drew)).2
          have hqd : wt.drew.heap.size = wt.heap.size := drew_size wt
          have b12 := Lib.hid (bl_then (Lib.hid b2) b1 b1.size)
          have hb7 : Below wt.heap.size wt (mk (mk wt.drew)) := bl_then (Lib.hid b2) (by rw [← hqd]; exact bl_then (Lib.hid b1) (by rw [hqd]; exact bl_drew (Below.refl _ _)) (by rw [hqd]; exact Nat.le_refl _)) (by omega)
          have c1' : ∀ c, c < n → (mk (mk wt.drew)).cell? ⟨wt.heap.size, c, none⟩ = some (.int .u32 0) := fun c hc => (b2.cell (p := ⟨wt.heap.size, c, none⟩) (by rw [← hqd]; exact s1)).trans (by rw [← hqd]; exact c1 c hc)
          have f1' : ∀ c, (mk (mk wt.drew)).frozen? ⟨wt.heap.size, c, none⟩ = false := fun c => (b2.frozen (p := ⟨wt.heap.size, c, none⟩) (by rw [← hqd]; exact s1)).trans (by rw [← hqd]; exact f1 c)
          have hBW := bl_then (Lib.hid hb7) B5.out B5.out.size
          have hAW := HA5.out.below (Lib.hid hb7)
          have hn1 : ¬ AF p g F3 wt.heap.size := fun hf => absurd (HA5.out.most _ hf) (Nat.lt_irrefl _)
          have hn2 : ¬ AF p g F3 (mk wt.drew).heap.size := fun hf => by have := HA5.out.most _ hf; omega
          have hz5 := B5.out.size
          have hPW : 0 < J → ∃ gp, AP = some ⟨gp, 0, none⟩ ∧ w.heap.size ≤ gp ∧ gp < wt.heap.size ∧ ∀ i, i < J → (mk (mk wt.drew)).cell? ⟨gp, i, none⟩ = some (.int .u32 (Ut.val f M i)) := fun h0 => by
            obtain ⟨gp, e, h1, h2, h3⟩ := own_cells HO5.out h0
            exact ⟨gp, e, by rw [World.size_alloc] at h1; omega, h2, fun i hi => (hb7.cell (p := ⟨gp, i, none⟩) h2).trans (h3 i hi)⟩
          obtain ⟨BT, hBT⟩ : ∃ BT, wt.heap.size = BT := ⟨_, rfl⟩
          first | refine lateS (X := Exit.then _ _) (m := wt.heap.size) (q := (mk wt.drew).heap.size) rfl (fun m q W2 => Ar W2 p g lp F3 W3 (3 * n) (E1 ++ Ut.evs 0 n (2 * n) n) ∧ Below w.heap.size w W2 ∧ ¬ AF p g F3 m ∧ ¬ AF p g F3 q ∧ m ≠ q ∧ BT ≤ m ∧ BT ≤ q ∧ m < W2.heap.size ∧ q < W2.heap.size ∧ w.heap.size ≤ BT ∧ (∀ c, c < n → W2.cell? ⟨m, c, none⟩ = some (.int .u32 0)) ∧ (∀ c, c < n → W2.cell? ⟨q, c, none⟩ = some (.int .u32 0)) ∧ (∀ c, W2.frozen? ⟨m, c, none⟩ = false) ∧ (∀ c, W2.frozen? ⟨q, c, none⟩ = false) ∧ (0 < J → ∃ gp, AP = some ⟨gp, 0, none⟩ ∧ w.heap.size ≤ gp ∧ gp < BT ∧ ∀ i, i < J → W2.cell? ⟨gp, i, none⟩ = some (.int .u32 (Ut.val f M i)))) ?_ ?_ | refine lateS (X := Exit.then _ _) (m := (mk wt.drew).heap.size) (q := wt.heap.size) rfl (fun m q W2 => Ar W2 p g lp F3 W3 (3 * n) (E1 ++ Ut.evs 0 n (2 * n) n) ∧ Below w.heap.size w W2 ∧ ¬ AF p g F3 m ∧ ¬ AF p g F3 q ∧ m ≠ q ∧ BT ≤ m ∧ BT ≤ q ∧ m < W2.heap.size ∧ q < W2.heap.size ∧ w.heap.size ≤ BT ∧ (∀ c, c < n → W2.cell? ⟨m, c, none⟩ = some (.int .u32 0)) ∧ (∀ c, c < n → W2.cell? ⟨q, c, none⟩ = some (.int .u32 0)) ∧ (∀ c, W2.frozen? ⟨m, c, none⟩ = false) ∧ (∀ c, W2.frozen? ⟨q, c, none⟩ = false) ∧ (0 < J → ∃ gp, AP = some ⟨gp, 0, none⟩ ∧ w.heap.size ≤ gp ∧ gp < BT ∧ ∀ i, i < J → W2.cell? ⟨gp, i, none⟩ = some (.int .u32 (Ut.val f M i)))) ?_ ?_
          · refine ⟨hAW, hBW, ?_, ?_, ?_, ?_, ?_, ?_, ?_, ?_, ?_, ?_, ?_, ?_, ?_⟩
            all_goals first | assumption | omega | (rw [← hBT]; assumption)
          · clear hPW hn1 hn2 hAW hBW f1' c1' hb7 b12 c2 f2 b2 s2 c1 f1 b1 s1 hqd HA5 B5 HO5 HMK mkrun hBT hz5 hz_wt zw3
            rintro m q W2 ⟨hA, hB, nm, nq, hmq, hBm, hBq, lm, lq, hwB, cm, cq, fm, fq, hP⟩
            have HA := Lib.hid hA
            have HB := Lib.hid hB
            have CM := Lib.hid cm
            have CQ := Lib.hid cq
            have FM := Lib.hid fm
            have FQ := Lib.hid fq
            have HP := Lib.hid hP
            have NM := Lib.hid nm
            have NQ := Lib.hid nq
            clear hA hB cm cq fm fq hP nm nq
            go_wp2_with fail
            go_loopw [18, 93] (fun a18 i wr2 => ∃ j : Nat, j ≤ J ∧ i = .int .i64 j ∧ a18 = .int .i64 (Ut.pos f M j) ∧ Ar wr2 p g lp F3 W3 (3 * n) (E1 ++ Ut.evs 0 n (2 * n) n) ∧ Below w.heap.size w wr2 ∧ m < wr2.heap.size ∧ q < wr2.heap.size ∧
              (∀ c, c < n → wr2.cell? ⟨m, c, none⟩ = some (.int .u32 (wantf f M (Ut.pos f M j) c))) ∧ (∀ c, c < n → wr2.cell? ⟨q, c, none⟩ = some (.int .u32 (keepf f M (Ut.pos f M j) c))) ∧ (∀ c, wr2.frozen? ⟨m, c, none⟩ = false) ∧ (∀ c, wr2.frozen? ⟨q, c, none⟩ = false) ∧
              (0 < J → ∃ gp, AP = some ⟨gp, 0, none⟩ ∧ w.heap.size ≤ gp ∧ gp < BT ∧ ∀ i, i < J → wr2.cell? ⟨gp, i, none⟩ = some (.int .u32 (Ut.val f M i)))) (fun _ i _ => J - (intOf i).toNat)
            case atStart =>
              refine ⟨0, Nat.zero_le _, rfl, by rw [Ut.pos_zero]; rfl, HA.out, HB.out, lm, lq, fun c hc => ?_, fun c hc => ?_, FM.out, FQ.out, HP.out⟩
              · rw [Ut.pos_zero, wantf_zero]; exact CM.out c hc
              · rw [Ut.pos_zero, keepf_zero]; exact CQ.out c hc
            case round =>
              rename World => w6
              clear HA HB CM CQ FM FQ HP lm lq
              obtain ⟨j, hj, rfl, rfl, hA, hB, lm, lq, cm, cq, fm, fq, hP⟩ := hrel
              have HA := Lib.hid hA
              have HB := Lib.hid hB
              have CM := Lib.hid cm
              have CQ := Lib.hid cq
              have FM := Lib.hid fm
              have FQ := Lib.hid fq
              have HP := Lib.hid hP
              have zB := hB.size
              by_cases hjJ : j < J
              · have hR1 : Ut.Rights f M (j + 1) := fun q' hq' => HR.out q' (by omega)
                obtain ⟨r1, r2, -, -, -⟩ := Ut.run_step f M j hR1
                have hps := Ut.pos_succ f M j
                have hws := wantf_succ f M j hR1
                have hks := keepf_succ f M j hR1
                obtain ⟨hbl, hv21⟩ := val_blen f M j HF.out (hR1 j (by omega))
                obtain ⟨gp, rfl, hg1, hg2, hgc⟩ := hP (by omega)
                have hcj := hgc j hjJ
                obtain ⟨P1, hP1⟩ : ∃ P1, Ut.pos f M (j + 1) - 1 = P1 := ⟨_, rfl⟩
                have hlt1 : P1 < n := by omega
                have cm1 := cm P1 hlt1
                have cq1 := cq P1 hlt1
                have fm1 := fm P1
                have fq1 := fq P1
                have hix : (Ut.pos f M j : Int) + (Ut.nof f M j : Int) - 1 = (P1 : Int) := by omega
                have hsum : (Ut.pos f M j : Int) + (Ut.nof f M j : Int) = (Ut.pos f M (j + 1) : Int) := by omega
                have HWS := Lib.hid hws
                have HKS := Lib.hid hks
                rw [hP1] at HWS HKS
                clear hA hB cm cq fm fq hP hgc hR1 hws hks hps
                go_wp2_with (first | (go_at_call 32; with_reducible refine (rBytes_any _ hv21 _).mono ?_; rintro e w7 ⟨rfl, -, -, hb7⟩; rw [hbl]; have z7 := hb7.size; have H7 := Lib.hid hb7; obtain ⟨hc7, hf7⟩ := bcell hb7; clear hb7))
                refine ⟨⟨j + 1, by omega, by go_num, rfl, ((HA.out.below H7).far NM.out _).far NQ.out _, ?_, by simp; omega, by simp; omega, ?_, ?_, ?_, ?_, ?_⟩, by simp [intOf]; omega⟩
                · have HB' := HB.out
                  (repeat' (first | with_reducible exact Below.refl _ _ | with_reducible refine bl_drewN ?_ _ | with_reducible refine bl_drew ?_ | refine bl_set (by (first | omega | (simp; done) | (simp; omega))) ?_ _ | refine bl_alloc (by (first | omega | (simp; done) | (simp; omega))) ?_ _ | refine bl_then (by assumption) ?_ (by (first | omega | (simp; done) | (simp; omega))) | refine Step.bl (by assumption) (by assumption) (by (first | omega | (simp; done) | (simp; omega))) (by (first | omega | (simp; done) | (simp; omega))) ?_))
                · intro c hc
                  rw [HWS.out c, far_cells hmq.symm (set_cells hlt1 (below_cells H7.out lm CM.out)) c hc]
                  split <;> rfl
                · intro c hc
                  rw [HKS.out c, set_cells hlt1 (far_cells hmq (below_cells H7.out lq CQ.out)) c hc]
                  split <;> rfl
                · intro c
                  simp only [World.frozen?_setCell]
                  exact (H7.out.frozen (p := ⟨m, c, none⟩) lm).trans (FM.out c)
                · intro c
                  simp only [World.frozen?_setCell]
                  exact (H7.out.frozen (p := ⟨q, c, none⟩) lq).trans (FQ.out c)
                · intro h0
                  obtain ⟨g', e', h1', h2', h3'⟩ := HP.out h0
                  exact ⟨g', e', h1', h2', far_cells (by omega) (far_cells (by omega) (below_cells H7.out (by omega) h3'))⟩
              · have hjE : j = J := by omega
                have hfin := fin_cells HG.out (fun _ => HP1.out (by first | trivial | assumption | rfl)) (fun _ => HP0.out (by first | trivial | assumption | rfl))
                rw [hjE] at cm cq
                have CM2 := Lib.hid (show ∀ c, c < n → w6.cell? ⟨m, c, none⟩ = some (.int .u32 (W3.getD (n + c) 0)) from fun c hc => by rw [← (hfin c hc).1]; exact cm c hc)
                have CQ2 := Lib.hid (show ∀ c, c < n → w6.cell? ⟨q, c, none⟩ = some (.int .u32 (W3.getD (2 * n + c) 0)) from fun c hc => by rw [← (hfin c hc).2]; exact cq c hc)
                have hge2 : J ≤ j := by omega
                have hEl : (E1 ++ Ut.evs 0 n (2 * n) n).length = 9 * n + 1 := by rw [List.length_append, Ut.evs_len, HL1.out]; omega
                obtain ⟨E2, hE2⟩ : ∃ E2, E1 ++ Ut.evs 0 n (2 * n) n = E2 := ⟨_, rfl⟩
                rw [hE2] at HA hEl
                clear hA hB cm cq fm fq hP hfin hjE CM CQ FM FQ HP hE2
                go_wp2_with fail
                go_loopw [113] (fun i wr3 => ∃ (j : Nat) (F : Nat → Prop) (E : List Ev), j ≤ n ∧ i = .int .i64 j ∧ Ar wr3 p g lp F W3 (3 * n) E ∧ E.length = 9 * n + 1 + 4 * j ∧ Step (AF p g F3) (AF p g F) w6 wr3) (fun i _ => n - (intOf i).toNat)
                case atStart => exact ⟨0, F3, E2, Nat.zero_le _, rfl, HA.out, hEl, HA.out.step0⟩
                case round =>
                  rename World => w8
                  obtain ⟨j2, FF, E, hj2, rfl, hA, hE, hS⟩ := hrel
                  have HM6 := Lib.hid HA.out.most
                  clear HA hEl
                  have HA := Lib.hid hA
                  have HS := Lib.hid hS
                  have z8 := hS.size
                  by_cases hjn : j2 < n
                  · have m1 : FX (AF p g FF) m = False := eq_false (fun hf => NM.out ((hS.foot m lm).1 hf))
                    have q1 : FX (AF p g FF) q = False := eq_false (fun hf => NQ.out ((hS.foot q lq).1 hf))
                    have hn := foot_old hA.most
                    have cmj := (old_cell (o := j2) hS lm NM.out).trans (CM2.out j2 hjn)
                    have cqj := (old_cell (o := j2) hS lq NQ.out).trans (CQ2.out j2 hjn)
                    obtain ⟨X, hX⟩ : ∃ X, W3.getD (n + j2) 0 = X := ⟨_, rfl⟩
                    obtain ⟨Y, hY⟩ : ∃ Y, W3.getD (2 * n + j2) 0 = Y := ⟨_, rfl⟩
                    have HXv := Lib.hid hX
                    have HYv := Lib.hid hY
                    rw [hX] at cmj
                    rw [hY] at cqj
                    have hw1 : IntKind.i64.wrap ((n : Int) + (j2 : Int)) = (n : Int) + j2 := IntWalk.i64_in _ (by omega)
                    have hw3 : IntKind.i64.wrap (2 * (n : Int)) = 2 * (n : Int) := IntWalk.i64_in _ (by omega)
                    have hw2 : IntKind.i64.wrap (2 * (n : Int) + (j2 : Int)) = 2 * (n : Int) + j2 := IntWalk.i64_in _ (by omega)
                    clear hA hS hX hY
                    go_wp2_with fail
                    go_region_held3 (fun w' => w'.cell? ⟨m, j2, none⟩ = some (.int .u32 X) ∧ w'.cell? ⟨q, j2, none⟩ = some (.int .u32 Y)) ((simp [go_sem, ↓IntWalk.iteOmega, *]; done)) (first
                      | (go_at_call 22; with_reducible refine' Calls.mono (ARelease_e ?_ ?_ _ (n + j2) ?_ ?_) ?_; rotate_left 6; (next => (repeat' (first | with_reducible exact HA.out | with_reducible refine' Ar.drewN ?_ _ | with_reducible refine' Ar.drew ?_ | with_reducible refine' Ar.farE ?_ ?_ _ | with_reducible refine' Ar.alloc ?_ _ | with_reducible refine' Ar.below ?_ (by assumption))); (try (all_goals (simp [*, ↓IntWalk.iteOmega]; first | done | fail))); (first | done | fail)); (next => (first | omega | (simp only [List.length_append, List.length_cons, List.length_nil]; omega))); (next => (first | omega | (simp only [hw1, hw2, hw3]; omega) | fail)); (next => omega); rintro e w1 ⟨rfl, F1, hA1, hs1⟩; rw [HXv.out]; obtain ⟨hc, hf, hn⟩ := hs1.rules; (try simp only [World.size_alloc, World.size_setCell, drew_size] at hc hf hn); have hz := hs1.size; (try simp only [World.size_alloc, World.size_setCell, World.size_drew] at hz); have hst := Lib.hid hs1; have HA := Lib.hid hA1; clear hA1 hs1)
                      | (go_at_call 22; with_reducible refine' Calls.mono (ARelease_e ?_ ?_ _ (2 * n + j2) ?_ ?_) ?_; rotate_left 6; (next => (repeat' (first | with_reducible exact HA.out | with_reducible refine' Ar.drewN ?_ _ | with_reducible refine' Ar.drew ?_ | with_reducible refine' Ar.farE ?_ ?_ _ | with_reducible refine' Ar.alloc ?_ _ | with_reducible refine' Ar.below ?_ (by assumption))); (try (all_goals (simp [*, ↓IntWalk.iteOmega]; first | done | fail))); (first | done | fail)); (next => (first | omega | (simp only [List.length_append, List.length_cons, List.length_nil]; omega))); (next => (first | omega | (simp only [hw1, hw2, hw3]; omega) | fail)); (next => omega); rintro e w1 ⟨rfl, F1, hA1, hs1⟩; rw [HYv.out]; obtain ⟨hc, hf, hn⟩ := hs1.rules; (try simp only [World.size_alloc, World.size_setCell, drew_size] at hc hf hn); have hz := hs1.size; (try simp only [World.size_alloc, World.size_setCell, World.size_drew] at hz); have hst := Lib.hid hs1; have HA := Lib.hid hA1; clear hA1 hs1))
                    all_goals (go_wp2_with fail)
                    all_goals
                      refine ⟨⟨j2 + 1, F1, _, by omega, by go_num, by (repeat' (first | with_reducible exact HA.out | with_reducible refine' Ar.drewN ?_ _ | with_reducible refine' Ar.drew ?_ | with_reducible refine' Ar.farE ?_ ?_ _ | with_reducible refine' Ar.alloc ?_ _ | with_reducible refine' Ar.below ?_ (by assumption))); (try (all_goals (simp [*, ↓IntWalk.iteOmega]; first | done | fail))); (first | done | fail), ?_, ?_⟩, by simp [intOf]; omega⟩
                      · simp only [List.length_append, List.length_cons, List.length_nil, hE]; omega
                      · have hmost := HM6.out
                        (repeat' (first | exact Step.refl (by assumption) | refine Step.set_ (by (first | omega | (simp; done) | (simp; omega))) ?_ _ | refine Step.alloc ?_ _ | refine Step.drewN ?_ _ | refine Step.drew ?_ | refine Step.then_ (by assumption) ?_ | refine Step.thenB (by assumption) ?_))
                  · have hge3 : n ≤ j2 := by omega
                    clear hA hS
                    go_wp2_with fail
                    go_ret
                    exact ⟨rfl, HS.out.below HB.out zB LX3.out⟩
end Go.Proofs.Ytjoehhojhfgooaa
