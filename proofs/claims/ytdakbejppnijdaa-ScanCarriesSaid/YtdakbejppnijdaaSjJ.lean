/- shares.Join. No condition. -/
import Derived.Test.YtdakbejppnijdaaSjB
import Derived.Test.YtdakbejppnijdaaArS
import Derived.Deep.RegionWith
namespace Go.Proofs.Ytdakbejppnijdaa
open Go.RowKit
set_option linter.unusedSimpArgs false
set_option linter.unusedVariables false
attribute [local go_sem] IntKind.wrap_u32' signed_u32 max_u32
attribute [local go_sem ↓] Go.wp_at_zero Go.wp_at_succ
attribute [local go_sem] Calm.C
attribute [local go_sem low] Calm.al_cell Calm.al_frozen
theorem ALoad_e {w : World} {p g lp : Nat} {FL : Nat → Prop} {ws : List Int} {top : Nat} {evs : List Ev} (h : Ar w p g lp FL ws top evs) (hn : evs.length < 1099511627776) (a : Int) (i : Nat) (ha : a = i) (hi : i < top) :
    Calls Try.prog 77 #[.pointer (some ⟨p, 0, none⟩), .int .i64 a] w fun e w' => e = .returned (.agg #[.int .u32 (ws.getD i 0)]) ∧ ∃ FL', Ar w' p g lp FL' ws top (evs ++ [⟨1, (i : Int), 0⟩]) ∧ Step (AF p g FL) (AF p g FL') w w' := by
  subst ha
  exact ALoad_t h hn i hi
theorem AStore_e {w : World} {p g lp : Nat} {FL : Nat → Prop} {ws : List Int} {top : Nat} {evs : List Ev} (h : Ar w p g lp FL ws top evs) (hn : evs.length < 1099511627776) (a : Int) (i : Nat) (ha : a = i) (hi : i < top) (y : Int) :
    Calls Try.prog 78 #[.pointer (some ⟨p, 0, none⟩), .int .i64 a, .agg #[.int .u32 y]] w fun e w' => e = .returned (.bool true) ∧ ∃ FL', Ar w' p g lp FL' (ws.set i y) top (evs ++ [⟨2, (i : Int), 0⟩]) ∧ Step (AF p g FL) (AF p g FL') w w' := by
  subst ha
  exact AStore_t h hn i hi y
theorem sApart_t (x nx y ny : Int) (h1 : -1000000000 ≤ x ∧ x ≤ 1000000000) (h2 : -1000000000 ≤ nx ∧ nx ≤ 1000000000) (h3 : -1000000000 ≤ y ∧ y ≤ 1000000000) (h4 : -1000000000 ≤ ny ∧ ny ≤ 1000000000) (h : x ≥ y + ny ∨ y ≥ x + nx) (w : World) :
    Calls Try.prog 75 #[.int .i64 x, .int .i64 nx, .int .i64 y, .int .i64 ny] w fun e w' => e = .returned (.bool true) ∧ w' = w := by
  by_cases h5 : y + ny ≤ x
  · go_enter Try.func75, Try.ntmps75
    go_wp2_with fail
    go_ret
    exact ⟨rfl, rfl⟩
  · have h6 : x + nx ≤ y := by omega
    have hd : decide (y + ny ≤ x) = false := decide_eq_false h5
    go_enter Try.func75, Try.ntmps75
    go_wp2_with fail
    go_ret
    exact ⟨rfl, rfl⟩
namespace Sj
theorem jn_zero (f v : Nat → Nat) (n : Nat) : jn f v n 0 = 0 := rfl
/-- The words behind k joined bytes. -/
def jw (ws : List Int) (out : Nat) (v : Nat → Nat) : Nat → List Int
  | 0 => ws
  | k + 1 => (jw ws out v k).set (out + k) (v k : Nat)
theorem jw_zero (ws : List Int) (out : Nat) (v : Nat → Nat) : jw ws out v 0 = ws := rfl
theorem jw_succ (ws : List Int) (out : Nat) (v : Nat → Nat) (k : Nat) : jw ws out v (k + 1) = (jw ws out v k).set (out + k) (v k : Nat) := rfl
theorem jw_len (ws : List Int) (out : Nat) (v : Nat → Nat) : ∀ k, (jw ws out v k).length = ws.length
  | 0 => rfl
  | k + 1 => by rw [jw_succ, List.length_set, jw_len ws out v k]
theorem getD_set_ne (l : List Int) (i j : Nat) (y : Int) (h : i ≠ j) : (l.set i y).getD j 0 = l.getD j 0 := by
  simp only [List.getD_eq_getElem?_getD, List.getElem?_set, if_neg h]
theorem jw_far (ws : List Int) (out : Nat) (v : Nat → Nat) (x : Nat) : ∀ k, (x < out ∨ out + k ≤ x) → (jw ws out v k).getD x 0 = ws.getD x 0
  | 0, _ => rfl
  | k + 1, h => by rw [jw_succ, getD_set_ne _ _ _ _ (by omega), jw_far ws out v x k (by omega)]
theorem jw_at (ws : List Int) (out : Nat) (v : Nat → Nat) (i : Nat) : ∀ k, i < k → out + k ≤ ws.length → (jw ws out v k).getD (out + i) 0 = (v i : Nat)
  | 0, h, _ => by omega
  | k + 1, h, hl => by
    rw [jw_succ]
    by_cases e : i = k
    · subst e
      simp only [List.getD_eq_getElem?_getD, List.getElem?_set, if_pos rfl, jw_len]
      rw [if_pos (show out + i < ws.length by omega)]
      rfl
    · rw [getD_set_ne _ _ _ _ (by omega), jw_at ws out v i k (by omega) (by omega)]
/-- What the i-th byte is joined of. -/
def val (wn : Nat → Nat) (at_ n i k : Nat) : Nat := wn (at_ + k * n + i) % 256
end Sj
theorem sMul_nat (a b : Nat) (ha : a < 4294967296) (hb : b < 256) (w : World) : Calls Try.prog 72 #[.agg #[.int .u32 a], .agg #[.int .u32 b]] w fun e w' => e = .returned (.agg #[.int .u32 (Gf.T (a % 256) b : Nat)]) ∧ Below w.heap.size w w' := by
  have := sMul_any a b w
  rw [Sh.mul_nat a b ha (by omega), Nat.mod_eq_of_lt hb] at this
  exact this
attribute [local irreducible] Gf.T Gf.I Sj.wt Sj.jn Sj.jw
set_option maxRecDepth 100000 in
set_option maxHeartbeats 8000000 in
theorem sJoin_t {w : World} {p g lp : Nat} {FL : Nat → Prop} {ws : List Int} {top : Nat} {evs : List Ev} (h : Ar w p g lp FL ws top evs) (he : evs.length < 900000000000) {A : Option Addr} {m : Nat} {f : Nat → Nat} (hA : Sj.Cl .u8 w A m f) (hf : ∀ i, f i < 256) (hm : m ≤ 1000) (hok : Sj.Ok f m) (c : Nat)
    (at_ n out : Nat) (hn1 : 1 ≤ n) (hn : n ≤ 4096) (h1 : at_ + m * n ≤ top) (h2 : out + n ≤ top) (h3 : out + n ≤ at_ ∨ at_ + m * n ≤ out) (wn : Nat → Nat) (hw : ∀ i, at_ ≤ i → i < at_ + m * n → ws.getD i 0 = (wn i : Nat) ∧ wn i < 4294967296) :
    Calls Try.prog 32 #[.pointer (some ⟨p, 0, none⟩), .slice A m c, .int .i64 at_, .int .i64 n, .int .i64 out] w fun e w' => e = .returned (.bool true) ∧
      ∃ FL' E, Ar w' p g lp FL' (Sj.jw ws out (fun i => Sj.jn f (Sj.val wn at_ n i) m m) n) top E ∧ E.length ≤ evs.length + n * (m + 1) ∧ Step (AF p g FL) (AF p g FL') w w' := by
  have HA := Lib.hid h
  have hmost := h.most
  have htop : (top : Int) ≤ 4194304 := by have := h.ht; have := h.hz; omega
  have HM := Lib.hid hmost
  have HX := Lib.hid hA
  have HW := Lib.hid hw
  have HOK := Lib.hid hok
  have hok0 := hok.1
  have HF := Lib.hid hf
  obtain ⟨S, hS⟩ : ∃ S, m * n = S := ⟨_, rfl⟩
  have hSI : (m : Int) * (n : Int) = (S : Int) := by rw [← hS]; simp
  have HSn := Lib.hid hS
  rw [hS] at h1 h3
  have hun := Lib.hid (fun w' (hb : Below w.heap.size w w') => sUnlike_any (hA.below (Nat.le_refl _) hb) hf hm c)
  rw [decide_eq_true hok] at hun
  obtain ⟨vv, hvv⟩ : ∃ vv : Nat → Nat, (fun i => Sj.jn f (Sj.val wn at_ n i) m m) = vv := ⟨_, rfl⟩
  rw [hvv]
  have HVV := Lib.hid hvv
  clear h hmost hA hw hok hf hS hvv
  go_enter Try.func32, Try.ntmps32
  go_wp2_with (first
    | (go_at_call 80; refine (hun.out _ (Below.refl _ _)).mono ?_; rintro e wu ⟨rfl, hb⟩; have HAu := Lib.hid (HA.out.below (Lib.hid hb)); have BU := Lib.hid hb; have zu := hb.size; clear hb)
    | (go_at_call 61; refine (Fits_t (p := p) (g := g) (lp := lp) (FL := FL) (ws := ws) (top := top) (evs := evs) HAu.out _ _ (by omega) (by omega) (by omega)).mono ?_; rintro e w1 ⟨rfl, hw1⟩; replace hw1 := hw1.symm; subst hw1)
    | (go_at_call 75; refine (sApart_t _ _ _ _ (by omega) (by omega) (by omega) (by omega) (by omega) _).mono ?_; rintro e w1 ⟨rfl, hw1⟩; replace hw1 := hw1.symm; subst hw1)
    | (go_at_call 81; refine (sWeights_any (HX.out.below (Nat.le_refl _) BU.out) HF.out hm c).mono ?_; rintro e wq ⟨gw, rfl, hcl, hlow, hb⟩; have HAq := Lib.hid (HAu.out.below (Lib.hid hb)); have BQ := Lib.hid hb; have zq := hb.size; have HCL := Lib.hid hcl; have HLW := Lib.hid hlow; clear hb hcl hlow))
  obtain ⟨gb, go, hgA, hgs, hgc⟩ := HCL.out hok0
  obtain ⟨rfl, rfl⟩ : gw = gb ∧ 0 = go := by simpa using hgA
  have HG := Lib.hid hgc
  have hng : ¬ AF p g FL gw := fun hf => by have := HAu.out.most _ hf; have := HLW.out; omega
  have HNG := Lib.hid hng
  have HMq := Lib.hid HAq.out.most
  have S0 := Lib.hid (Step.of_below HM.out (bl_then BQ BU.out zu))
  clear hgA hgc hng HCL HLW HAu BU BQ zu hun HX HA
  go_loopw [13, 14, 15, 54] (fun a b d i wr => ∃ (j : Nat) (u1 u2 u3 : Value) (F : Nat → Prop) (E : List Ev), j ≤ n ∧ i = .int .i64 (j : Int) ∧ a = u1 ∧ b = u2 ∧ d = u3 ∧ Ar wr p g lp F (Sj.jw ws out vv j) top E ∧ E.length ≤ evs.length + j * (m + 1) ∧ Step (AF p g FL) (AF p g F) wq wr) (fun _ _ _ i _ => n - (intOf i).toNat)
  case atStart => exact ⟨0, _, _, _, FL, evs, Nat.zero_le _, rfl, rfl, rfl, rfl, by rw [Sj.jw_zero]; exact HAq.out, by omega, HAq.out.step0⟩
  case round =>
    obtain ⟨j, u1, u2, u3, F, E, hj, rfl, rfl, rfl, rfl, hA, hE, hSt⟩ := hrel
    have HA := Lib.hid hA
    have HST := Lib.hid hSt
    have zr := hSt.size
    clear HAq
    by_cases hjn : j < n
    · have hj1 : j * (m + 1) ≤ 4096 * 1001 := Nat.mul_le_mul (by omega) (by omega)
      have hng2 : ¬ AF p g F gw := fun hf => HNG.out ((hSt.foot gw hgs).1 hf)
      have HGr : Hid (∀ k, k < m → wr.cell? ⟨gw, 0 + k, none⟩ = some (.int .u8 (Sj.wt f (f k) m : Nat))) := Lib.hid fun k hk => (old_cell hSt hgs HNG.out).trans (HG.out k hk)
      have HNG2 := Lib.hid hng2
      have hgr : gw < wr.heap.size := by omega
      have HMr := Lib.hid hA.most
      obtain ⟨V, hV⟩ : ∃ V, Sj.jw ws out vv j = V := ⟨_, rfl⟩
      rw [hV] at HA hA
      have HVs := Lib.hid (Sj.jw_succ ws out vv j)
      rw [hV] at HVs
      have HVf : Hid (∀ x, (x < out ∨ out + n ≤ x) → V.getD x 0 = ws.getD x 0) := Lib.hid fun x hx => by rw [← hV]; exact Sj.jw_far ws out vv x j (by omega)
      clear hA hSt hng2 hV
      obtain ⟨JM, hJM⟩ : ∃ JM, j * (m + 1) = JM := ⟨_, rfl⟩
      have HJM := Lib.hid hJM
      rw [hJM] at hE hj1
      clear hJM
      go_wp2_with (first | (go_at_call 62; refine (Of_any _ _).mono ?_; rintro e wf ⟨rfl, hb⟩; have hcf_wf := bcell hb; (try simp only [World.size_alloc, World.size_setCell, drew_size] at hcf_wf); have hz_wf := hb.size; (try simp only [World.size_alloc, World.size_setCell, World.size_drew] at hz_wf); have hbh_wf := Lib.hid hb; clear hb; obtain ⟨hc_wf, hf_wf⟩ := hcf_wf))
      obtain ⟨W1, hW1⟩ : ∃ W1, wf.alloc (.cells #[.int .u32 0] 32) = W1 := ⟨_, rfl⟩
      have BW := Lib.hid (bl_alloc hz_wf hbh_wf.out (.cells #[.int .u32 0] 32))
      rw [hW1] at BW
      have d3 : W1.cell? ⟨wf.heap.size, 0, none⟩ = some (.int .u32 0) := by rw [← hW1]; exact (Blk.new wf _ _).cell 0
      have f3 : W1.frozen? ⟨wf.heap.size, 0, none⟩ = false := by rw [← hW1]; exact (Blk.new wf _ _).frozen 0
      have hB1 : wf.heap.size < W1.heap.size := World.block_lt_of_cell? W1 ⟨_, 0, none⟩ d3
      obtain ⟨B, hB⟩ : ∃ B, wf.heap.size = B := ⟨_, rfl⟩
      rw [hW1]
      rw [hB] at d3 f3 hB1 hz_wf ⊢
      have HA1 := Lib.hid (HA.out.below BW)
      have hnB : ¬ AF p g F B := fun hf => by have := HMr.out _ hf; omega
      have HNB := Lib.hid hnB
      have S1 := Lib.hid (Step.of_below HMr.out BW.out)
      clear hW1 hB hc_wf hf_wf hbh_wf hnB HA
      go_loopw [15, 60] (fun d i w3 => ∃ (k : Nat) (u : Value) (F' : Nat → Prop) (E' : List Ev), k ≤ m ∧ i = .int .i64 (k : Int) ∧ d = u ∧ Ar w3 p g lp F' V top E' ∧ E'.length ≤ E.length + k ∧ Step (AF p g F) (AF p g F') wr w3 ∧ w3.cell? ⟨B, 0, none⟩ = some (.int .u32 (Sj.jn f (Sj.val wn at_ n j) m k : Nat)) ∧ w3.frozen? ⟨B, 0, none⟩ = false ∧ ¬ AF p g F' B) (fun _ i _ => m - (intOf i).toNat)
      case atStart => exact ⟨0, _, F, E, Nat.zero_le _, rfl, rfl, HA1.out, by omega, S1.out, by rw [Sj.jn_zero]; exact d3, f3, HNB.out⟩
      case round =>
        rename World => w3
        obtain ⟨k, u, F', E', hk, rfl, rfl, hA3, hE3, hS3, e3, f3', hn3B⟩ := hrel
        have HA := Lib.hid hA3
        have HS3 := Lib.hid hS3
        have z3 := hS3.size
        have hB3 : B < w3.heap.size := World.block_lt_of_cell? w3 ⟨_, 0, none⟩ e3
        clear HA1 S1 BW d3 f3
        by_cases hkm : k < m
        · have ek := (old_cell hS3 hgr HNG2.out).trans (HGr.out k hkm)
          rw [Nat.zero_add] at ek
          have hg3 : gw < w3.heap.size := by omega
          have hng3 : ¬ AF p g F' gw := fun hf => HNG2.out ((hS3.foot gw hgr).1 hf)
          have hn3 := foot_old hA3.most
          have HM3 := Lib.hid hA3.most
          have p3 : FX (AF p g F') B = False := eq_false hn3B
          have p4 : FX (AF p g F') gw = False := eq_false hng3
          have hkn : (k + 1) * n ≤ m * n := Nat.mul_le_mul_right n (by omega)
          rw [Nat.succ_mul, HSn.out] at hkn
          obtain ⟨KN, hKN⟩ : ∃ KN, k * n = KN := ⟨_, rfl⟩
          have hKNI : (k : Int) * (n : Int) = (KN : Int) := by rw [← hKN]; simp
          have HKN := Lib.hid hKN
          rw [hKN] at hkn
          have hv1 := HVf.out (at_ + KN + j) (by omega)
          have hv2 := HW.out (at_ + KN + j) (by omega) (by rw [HSn.out]; omega)
          rw [hv2.1] at hv1
          have hx32 := hv2.2
          have hjs := Lib.hid (Sj.jn_succ f (Sj.val wn at_ n j) m k)
          have hvl : Hid (Sj.val wn at_ n j k = wn (at_ + KN + j) % 256) := Lib.hid (by unfold Sj.val; rw [HKN.out])
          have hJ := Sj.jn_lt f (Sj.val wn at_ n j) m (fun i => Nat.mod_lt _ (by decide)) k
          have hwl := Sj.wt_lt f (f k) m
          rw [hvl.out] at hjs
          generalize Sj.jn f (Sj.val wn at_ n j) m k = J at *
          generalize Sj.wt f (f k) m = wk at *
          generalize wn (at_ + KN + j) = x at *
          have hv3 : V[at_ + KN + j]?.getD 0 = (x : Int) := by rw [← List.getD_eq_getElem?_getD]; exact hv1
          have hT := Gf.T_lt (x % 256) wk (Nat.mod_lt _ (by decide))
          have HXN := Lib.hid (Ct.xor_nat J (Gf.T (x % 256) wk) (by omega) (by omega))
          have hwm : (wk : Int) % 4294967296 = (wk : Int) := by omega
          have hw1 : IntKind.i64.wrap (KN : Int) = (KN : Int) := IntWalk.i64_in _ (by omega)
          have hw2 : IntKind.i64.wrap ((at_ : Int) + (KN : Int)) = (at_ : Int) + (KN : Int) := IntWalk.i64_in _ (by omega)
          have hw3 : IntKind.i64.wrap ((at_ : Int) + (KN : Int) + (j : Int)) = (at_ : Int) + (KN : Int) + (j : Int) := IntWalk.i64_in _ (by omega)
          clear hA3 hS3 hn3B hng3 hv2 hKN
          go_wp2_with fail
          go_region_with (first
            | (first | (go_at_call 62; refine (Of_any _ _).mono ?_; rintro e w1 ⟨rfl, hb⟩; have hcf := bcell hb; (try simp only [World.size_alloc, World.size_setCell, drew_size] at hcf); have hz := hb.size; (try simp only [World.size_alloc, World.size_setCell, World.size_drew] at hz); have hbh := Lib.hid hb; clear hb; obtain ⟨hc, hf⟩ := hcf) | (go_at_call 82; refine (Xor_any _ _ _).mono ?_; rintro e w1 ⟨rfl, hb⟩; have hcf := bcell hb; (try simp only [World.size_alloc, World.size_setCell, drew_size] at hcf); have hz := hb.size; (try simp only [World.size_alloc, World.size_setCell, World.size_drew] at hz); have hbh := Lib.hid hb; clear hb; obtain ⟨hc, hf⟩ := hcf))
            | (go_at_call 72; (with_reducible refine (sMul_nat x wk hx32 hwl _).mono ?_); rintro e w1 ⟨rfl, hb⟩; have hcf := bcell hb; (try simp only [World.size_alloc, World.size_setCell, drew_size] at hcf); have hz := hb.size; (try simp only [World.size_alloc, World.size_setCell, World.size_drew] at hz); have hbh := Lib.hid hb; clear hb; obtain ⟨hc, hf⟩ := hcf)
            | (go_at_call 77; with_reducible refine' Calls.mono (ALoad_e ?_ ?_ _ (at_ + KN + j) ?_ ?_) ?_; rotate_left 6; (next => (repeat' (first | with_reducible exact HA.out | with_reducible refine' Ar.drewN ?_ _ | with_reducible refine' Ar.drew ?_ | with_reducible refine' Ar.farE ?_ ?_ _ | with_reducible refine' Ar.alloc ?_ _ | with_reducible refine' Ar.below ?_ (by assumption))); (try (all_goals (simp [*, ↓IntWalk.iteOmega]; first | done | fail))); (first | done | fail)); (next => (first | omega | (simp only [List.length_append, List.length_cons, List.length_nil]; omega) | fail)); (next => (first | omega | (simp only [hw1, hw2, hw3]; omega) | fail)); (next => (first | omega | fail)); rintro e wx ⟨rfl, F_wx, hA1, hs1⟩; obtain ⟨hc_wx, hf_wx, hn_wx⟩ := hs1.rules; (try simp only [World.size_alloc, World.size_setCell, drew_size] at hc_wx hf_wx hn_wx); have hz_wx := hs1.size; (try simp only [World.size_alloc, World.size_setCell, World.size_drew] at hz_wx); have hst_wx := Lib.hid hs1; have HA := Lib.hid hA1; clear hA1 hs1))
          all_goals
            go_wp2_with fail
            have HNX : ¬ AF p g F_wx B := by (intro hfoot; simp [*, ↓IntWalk.iteOmega] at hfoot)
            refine ⟨⟨k + 1, _, F_wx, _, by omega, by go_num, rfl, Ar.far (by (repeat' (first | with_reducible exact HA.out | with_reducible refine' Ar.drewN ?_ _ | with_reducible refine' Ar.drew ?_ | with_reducible refine' Ar.farE ?_ ?_ _ | with_reducible refine' Ar.alloc ?_ _ | with_reducible refine' Ar.below ?_ (by assumption))); (try (all_goals (simp [*, ↓IntWalk.iteOmega]; first | done | fail))); (first | done | fail)) HNX _, ?_, ?_, ?_, ?_, HNX⟩, by simp [intOf]; omega⟩
            · rw [List.length_append, List.length_singleton]
              omega
            · have hmost := HM3.out
              have HS3' := HS3.out
              (repeat' (first | exact Step.refl (by assumption) | refine Step.set_ (by (first | omega | (simp; done) | (simp; omega))) ?_ _ | refine Step.alloc ?_ _ | refine Step.drewN ?_ _ | refine Step.drew ?_ | refine Step.then_ (by assumption) ?_ | refine Step.thenB (by assumption) ?_))
            · rw [hjs.out, ← HXN.out]
              simp [go_sem, ↓IntWalk.iteOmega, *]
            · simp [go_sem, ↓IntWalk.iteOmega, *]
        · have hge : (m : Int) ≤ k := by omega
          have ekm : k = m := by omega
          have hvj : Sj.jn f (Sj.val wn at_ n j) m k = vv j := by rw [ekm]; exact congrFun HVV.out j
          rw [hvj] at e3
          have HMj : Hid ((j + 1) * (m + 1) = JM + m + 1) := Lib.hid (by rw [Nat.succ_mul, HJM.out]; omega)
          have hmq := Lib.hid (HST.out.trans hS3)
          clear hA3 hS3 hvj ekm
          generalize vv j = VJ at *
          go_wp2_with ((go_at_call 78; with_reducible refine' Calls.mono (AStore_e ?_ ?_ _ (out + j) ?_ ?_ _) ?_; rotate_left 6; (next => (repeat' (first | with_reducible exact HA.out | with_reducible refine' Ar.drewN ?_ _ | with_reducible refine' Ar.drew ?_ | with_reducible refine' Ar.farE ?_ ?_ _ | with_reducible refine' Ar.alloc ?_ _ | with_reducible refine' Ar.below ?_ (by assumption))); (try (all_goals (simp [*, ↓IntWalk.iteOmega]; first | done | fail))); (first | done | fail)); (next => (first | omega | (simp only [List.length_append, List.length_cons, List.length_nil]; omega) | fail)); (next => (first | omega | fail)); (next => (first | omega | fail)); rintro e wz ⟨rfl, F_wz, hA1, hs1⟩; obtain ⟨hc_wz, hf_wz, hn_wz⟩ := hs1.rules; (try simp only [World.size_alloc, World.size_setCell, drew_size] at hc_wz hf_wz hn_wz); have hz_wz := hs1.size; (try simp only [World.size_alloc, World.size_setCell, World.size_drew] at hz_wz); have hst_wz := Lib.hid hs1; have HA := Lib.hid hA1; clear hA1 hs1))
          go_roundw
          case rel =>
            refine ⟨j + 1, _, _, _, F_wz, _, by omega, by go_num, rfl, rfl, rfl, by rw [HVs.out]; exact HA.out, ?_, ?_⟩
            · rw [HMj.out, List.length_append, List.length_singleton]
              omega
            · exact hmq.out.trans hst_wz.out
          case measure => simp [intOf]; omega
    · have hge : (n : Int) ≤ j := by omega
      have e : j = n := by omega
      rw [e] at hA hE
      have HA2 := Lib.hid hA
      clear hA hSt e
      go_wp2_with fail
      go_ret
      exact ⟨rfl, F, E, HA2.out, hE, S0.out.trans HST.out⟩
end Go.Proofs.Ytdakbejppnijdaa
