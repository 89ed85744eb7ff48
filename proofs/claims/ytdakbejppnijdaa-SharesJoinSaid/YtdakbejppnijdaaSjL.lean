/- SharesJoin: the law's call. No condition. -/
import Derived.Test.YtdakbejppnijdaaSjJ
import Derived.Test.YtdakbejppnijdaaArN
import Derived.Test.YtdakbejppnijdaaArP
import Derived.Deep.AppendLies
import Derived.Test.YtdakbejppnijdaaWords
namespace Go.Proofs.Ytdakbejppnijdaa
open Go.RowKit
set_option linter.unusedSimpArgs false
set_option linter.unusedVariables false
attribute [local go_sem] IntKind.wrap_u32' signed_u32 max_u32
attribute [local go_sem ↓] Go.wp_at_zero Go.wp_at_succ
attribute [local go_sem] Calm.C
attribute [local go_sem low] Calm.al_cell Calm.al_frozen
namespace Sj
theorem pw_get (ws : List Int) (f : Nat → Int) : ∀ k, k ≤ ws.length → ∀ i, i < k → (putw ws 0 f k).getD i 0 = f i
  | 0, _, i, h => by omega
  | k + 1, hk, i, h => by
    rw [putw_succ, Nat.zero_add]
    by_cases e : i = k
    · subst e
      simp only [List.getD_eq_getElem?_getD, List.getElem?_set, if_pos rfl, putw_len]
      rw [if_pos (show i < ws.length by omega)]
      rfl
    · rw [getD_set_ne _ _ _ _ (by omega), pw_get ws f k (by omega) i (by omega)]
def u8l (v : Nat → Nat) (k : Nat) : List Value := (List.range k).map fun i => .int .u8 (v i : Nat)
theorem u8l_zero (v : Nat → Nat) : u8l v 0 = [] := rfl
theorem u8l_succ (v : Nat → Nat) (k : Nat) : u8l v (k + 1) = u8l v k ++ [.int .u8 (v k : Nat)] := by simp [u8l, List.range_succ]
theorem Cl.own {w : World} {base n c : Nat} {A : Option Addr} {v : Nat → Nat} (h : w.ownsRow base 5 1 (.slice A n c) n (u8l v n)) : Cl .u8 w A n v := fun h0 => by
  obtain ⟨g, cap, hv, _, hlt⟩ := h.form h0
  simp only [Value.slice.injEq] at hv
  obtain ⟨rfl, _, rfl⟩ := hv
  refine ⟨g, 0, rfl, hlt, fun i hi => ?_⟩
  have := h.cells (g := g) rfl i (.int .u8 (v i : Nat)) (by simp [u8l, hi])
  rwa [Addr.add_lit] at this
end Sj
theorem APut_z {w : World} {p g lp : Nat} {FL : Nat → Prop} {ws : List Int} {top : Nat} {evs : List Ev} (h : Ar w p g lp FL ws top evs) (n c : Nat) (A : Option Addr) (f : Nat → Int) (hat : n ≤ top) (he : evs.length + n < 1099511627776) (hA : 0 < n → ∃ B off, A = some ⟨B, off, none⟩ ∧ B < w.heap.size ∧ ¬ AF p g FL B ∧ ∀ j, j < n → w.cell? ⟨B, off + j, none⟩ = some (.int .u32 (f j))) :
    Calls Try.prog 31 #[.pointer (some ⟨p, 0, none⟩), .int .i64 0, .slice A n c] w fun e w' => e = .returned (.bool true) ∧ ∃ FL', Ar w' p g lp FL' (putw ws 0 f n) top (evs ++ stEvs 0 n) ∧ Step (AF p g FL) (AF p g FL') w w' := APut_t h 0 n c A f (by omega) he hA
theorem put_src {w W : World} {A' : Option Addr} {nl : Nat} {wn : Nat → Nat} {G : Nat → Prop} (h : Sj.Cl .u32 w A' nl wn) (hb : Below w.heap.size w W) (hl : ∀ i, G i → w.heap.size ≤ i) : 0 < nl → ∃ B off, A' = some ⟨B, off, none⟩ ∧ B < W.heap.size ∧ ¬ G B ∧ ∀ j, j < nl → W.cell? ⟨B, off + j, none⟩ = some (.int .u32 ((fun j => (wn j : Int)) j)) := fun h0 => by
  obtain ⟨b, o, hA, hlt, hc⟩ := h h0
  exact ⟨b, o, hA, Nat.lt_of_lt_of_le hlt hb.size, fun hg => by have := hl b hg; omega, fun j hj => (hb.cell (p := ⟨b, _, none⟩) hlt).trans (hc j hj)⟩
theorem sJoin_z {w : World} {p g lp : Nat} {FL : Nat → Prop} {ws : List Int} {top : Nat} {evs : List Ev} (h : Ar w p g lp FL ws top evs) (he : evs.length < 900000000000) {A : Option Addr} {m : Nat} {f : Nat → Nat} (hA : Sj.Cl .u8 w A m f) (hf : ∀ i, f i < 256) (hm : m ≤ 1000) (hok : Sj.Ok f m) (c : Nat)
    (n out : Nat) (hn1 : 1 ≤ n) (hn : n ≤ 4096) (h1 : m * n ≤ out) (h2 : out + n ≤ top) (wn : Nat → Nat) (hw : ∀ i, i < m * n → ws.getD i 0 = (wn i : Nat) ∧ wn i < 4294967296) :
    Calls Try.prog 32 #[.pointer (some ⟨p, 0, none⟩), .slice A m c, .int .i64 0, .int .i64 n, .int .i64 out] w fun e w' => e = .returned (.bool true) ∧
      ∃ FL' E, Ar w' p g lp FL' (Sj.jw ws out (fun i => Sj.jn f (Sj.val wn 0 n i) m m) n) top E ∧ E.length ≤ evs.length + n * (m + 1) ∧ Step (AF p g FL) (AF p g FL') w w' :=
  sJoin_t h he hA hf hm hok c 0 n out hn1 hn (by omega) h2 (.inr (by omega)) wn (fun i _ hi => hw i (by omega))
theorem own_cl {w : World} {base n c : Nat} {A : Option Addr} {v : Nat → Nat} (h : w.ownsRow base 5 1 (.slice A n c) n (Sj.u8l v n)) (h0 : 0 < n) : ∃ g, A = some ⟨g, 0, none⟩ ∧ base ≤ g ∧ g < w.heap.size ∧ ∀ i, i < n → w.cell? ⟨g, i, none⟩ = some (.int .u8 (v i : Nat)) := by
  obtain ⟨g, cap, hv, hb, hlt⟩ := h.form h0
  simp only [Value.slice.injEq] at hv
  obtain ⟨rfl, _, rfl⟩ := hv
  refine ⟨g, rfl, hb, hlt, fun i hi => ?_⟩
  have := h.cells (g := g) rfl i (.int .u8 (v i : Nat)) (by simp [Sj.u8l, hi])
  rwa [Addr.add_lit, Nat.zero_add] at this
theorem ARelease_e {w : World} {p g lp : Nat} {FL : Nat → Prop} {ws : List Int} {top : Nat} {evs : List Ev} (h : Ar w p g lp FL ws top evs) (hn : evs.length < 1099511627775) (a : Int) (i : Nat) (ha : a = i) (hi : i < top) :
    Calls Try.prog 34 #[.pointer (some ⟨p, 0, none⟩), .int .i64 a] w fun e w' => e = .returned (.int .u32 (ws.getD i 0)) ∧ ∃ FL', Ar w' p g lp FL' ws top (evs ++ [⟨1, i, 0⟩] ++ [⟨3, 0, ws.getD i 0⟩]) ∧ Step (AF p g FL) (AF p g FL') w w' := by
  subst ha
  exact ARelease_t h hn i hi
set_option maxRecDepth 100000 in
set_option maxHeartbeats 4000000 in
theorem sJoin_f {w : World} {p : Nat} {A : Option Addr} {m : Nat} {f : Nat → Nat} (hA : Sj.Cl .u8 w A m f) (hf : ∀ i, f i < 256) (hm : m ≤ 1000) (hok : ¬ Sj.Ok f m) (c : Nat) (at_ n out : Int) :
    Calls Try.prog 32 #[.pointer (some ⟨p, 0, none⟩), .slice A m c, .int .i64 at_, .int .i64 n, .int .i64 out] w fun e w' => e = .returned (.bool false) ∧ Below w.heap.size w w' := by
  have hun := Lib.hid (sUnlike_any hA hf hm c)
  rw [decide_eq_false hok] at hun
  clear hA hf hok
  go_enter Try.func32, Try.ntmps32
  go_wp2_with (go_at_call 80; refine hun.out.mono ?_; rintro e wu ⟨rfl, hb⟩; have BU := Lib.hid hb; clear hb)
  go_ret
  exact ⟨rfl, BU.out⟩
attribute [local irreducible] Gf.T Gf.I Sj.wt Sj.jn Sj.jw
set_option maxRecDepth 100000 in
set_option maxHeartbeats 8000000 in
theorem SharesJoin_any {w : World} {A A' : Option Addr} {n nl : Nat} {f wn : Nat → Nat} (hA : Sj.Cl .u8 w A n f) (hf : ∀ i, f i < 256) (hn : n ≤ 9223372036854775807) (hA' : Sj.Cl .u32 w A' nl wn) (hw : ∀ i, wn i < 4294967296) (hnl : nl ≤ 9223372036854775807) (c c' x : Nat) (hx : x < 256) :
    Calls Try.prog 5 #[.slice A n c, .slice A' nl c', .int .u8 x] w fun e w' => e = .returned (.bool true) ∧ Below w.heap.size w w' := by
  obtain ⟨K, hK⟩ : ∃ K, 1 + x % 4 = K := ⟨_, rfl⟩
  have hK1 : 1 ≤ K ∧ K ≤ 4 := by omega
  have hKI : (1 : Int) + (x : Int) % 4 = (K : Int) := by omega
  rcases (by omega : 6 < n ∨ (n ≤ 6 ∧ nl ≠ K * n) ∨ (n ≤ 6 ∧ nl = K * n)) with h6 | ⟨h6, h7⟩ | ⟨h6, h7⟩
  · clear hA hA'
    go_enter Try.func5, Try.ntmps5
    go_wp2_with (first | (go_at_call 26; refine (awake42_any _).mono ?_; rintro e w1 ⟨rfl, hb⟩; have hcf := bcell hb; (try simp only [World.size_alloc, World.size_setCell, drew_size] at hcf); have hz := hb.size; (try simp only [World.size_alloc, World.size_setCell, World.size_drew] at hz); have hbh := Lib.hid hb; clear hb; obtain ⟨hc, hf⟩ := hcf))
    go_ret
    refine ⟨rfl, ?_⟩
    (repeat' (first | with_reducible exact Below.refl _ _ | with_reducible refine bl_drewN ?_ _ | with_reducible refine bl_drew ?_ | refine bl_set (by (first | omega | (simp; done) | (simp; omega))) ?_ _ | refine bl_alloc (by (first | omega | (simp; done) | (simp; omega))) ?_ _ | refine bl_then (by assumption) ?_ (by (first | omega | (simp; done) | (simp; omega))) | refine Step.bl (by assumption) (by assumption) (by (first | omega | (simp; done) | (simp; omega))) (by (first | omega | (simp; done) | (simp; omega))) ?_))
  · clear hA hA'
    have hKn : (K : Int) * (n : Int) = ((K * n : Nat) : Int) := by simp
    have hq : K * n ≤ 24 := Nat.mul_le_mul hK1.2 h6
    generalize K * n = Q at *
    have hne : ((nl : Int) != (Q : Int)) = true := by simp; omega
    have hd6 : decide ((6 : Int) < (n : Int)) = false := decide_eq_false (by omega)
    go_enter Try.func5, Try.ntmps5
    go_wp2_with (first | (go_at_call 26; refine (awake42_any _).mono ?_; rintro e w1 ⟨rfl, hb⟩; have hcf := bcell hb; (try simp only [World.size_alloc, World.size_setCell, drew_size] at hcf); have hz := hb.size; (try simp only [World.size_alloc, World.size_setCell, World.size_drew] at hz); have hbh := Lib.hid hb; clear hb; obtain ⟨hc, hf⟩ := hcf))
    go_ret
    refine ⟨rfl, ?_⟩
    (repeat' (first | with_reducible exact Below.refl _ _ | with_reducible refine bl_drewN ?_ _ | with_reducible refine bl_drew ?_ | refine bl_set (by (first | omega | (simp; done) | (simp; omega))) ?_ _ | refine bl_alloc (by (first | omega | (simp; done) | (simp; omega))) ?_ _ | refine bl_then (by assumption) ?_ (by (first | omega | (simp; done) | (simp; omega))) | refine Step.bl (by assumption) (by assumption) (by (first | omega | (simp; done) | (simp; omega))) (by (first | omega | (simp; done) | (simp; omega))) ?_))
  · have hKn : (K : Int) * (n : Int) = (nl : Int) := by rw [h7]; simp
    have hq : nl ≤ 24 := by rw [h7]; exact Nat.mul_le_mul hK1.2 h6
    have hd6 : decide ((6 : Int) < (n : Int)) = false := decide_eq_false (by omega)
    have HNL := Lib.hid h7
    have HA := Lib.hid hA
    have HA2 := Lib.hid hA'
    have HF := Lib.hid hf
    have HW := Lib.hid hw
    clear hA hA' h7 hf hw hK
    have hn0 : n ≤ 1000 := by omega
    have hws : Hid (∀ i, i < nl → (putw (List.replicate (nl + K) 0) 0 (fun j => (wn j : Int)) nl).getD i 0 = (wn i : Nat)) := Lib.hid fun i hi => Sj.pw_get _ _ nl (by simp) i hi
    have hwl : Hid ((putw (List.replicate (nl + K) 0) 0 (fun j => (wn j : Int)) nl).length = nl + K) := Lib.hid (by rw [putw_len]; simp)
    have hnK : Hid (n * K = nl) := Lib.hid (by rw [HNL.out, Nat.mul_comm])
    by_cases hok : Sj.Ok f n
    · have HOK := Lib.hid hok
      have hn1 : 0 < n := hok.1
      have hdk : decide (Sj.Ok f n) = true := decide_eq_true hok
      have HDK := Lib.hid hdk
      clear hok hdk
      go_enter Try.func5, Try.ntmps5
      go_wp2_with (first
      | (go_at_call 26; refine (awake42_any _).mono ?_; rintro e wq ⟨rfl, hb⟩; have B1 := Lib.hid hb; have z1 := hb.size; clear hb)
      | (go_at_call 27; refine (ANew_any _ (nl + K) (by split <;> split <;> omega) _).mono ?_; rintro e wn1 ⟨p, g, lp, F0, rfl, hA0, hlow, hb⟩; have HAr := Lib.hid hA0; have HLOW := Lib.hid hlow; have B2 := Lib.hid hb; have z2 := hb.size; clear hb hA0 hlow)
      | (go_at_call 28; refine (ATake_t HAr.out (by simp) (nl + K) (by simp)).mono ?_; rintro e wt ⟨rfl, F1, hA1, hs1⟩; have HAt := Lib.hid hA1; have BT := Lib.hid (hs1.below (bl_then B2 B1.out z1) (by omega) (fun i hi => by have := HLOW.out i hi; omega)); have LW := Lib.hid (hs1.low (B := w.heap.size) (by omega) (fun i hi => by have := HLOW.out i hi; omega)); have zt : w.heap.size ≤ wt.heap.size := BT.out.size; clear hA1 hs1)
      | (go_at_call 31; refine (APut_z HAt.out nl c' A' (fun j => (wn j : Int)) (by omega) (by simp; omega) (put_src HA2.out BT.out LW.out)).mono ?_; rintro e wp ⟨rfl, F2, hA1, hs1⟩; have HAp := Lib.hid hA1; have BP := Lib.hid (hs1.below BT.out zt LW.out); have LP := Lib.hid (hs1.low zt LW.out); have zp : w.heap.size ≤ wp.heap.size := BP.out.size; clear hA1 hs1)
      | (go_at_call 32; refine (sJoin_z HAp.out (by rw [List.length_append, stEvs_len]; simp; omega) (HA.out.below (Nat.le_refl _) BP.out) HF.out hn0 HOK.out c K nl hK1.1 (by omega) (by rw [hnK.out]; exact Nat.le_refl _) (by omega) wn (fun i hi => ⟨hws.out i (by rw [← hnK.out]; exact hi), HW.out i⟩)).mono ?_; rintro e wj ⟨rfl, F3, E3, hA1, hE3, hs1⟩; have HAj := Lib.hid hA1; have HE3 := Lib.hid hE3; have BJ := Lib.hid (hs1.below BP.out zp LP.out); have LJ := Lib.hid (hs1.low zp LP.out); have zj : w.heap.size ≤ wj.heap.size := BJ.out.size; clear hA1 hE3 hs1)
      | (go_at_call 33; refine (rRight_any (HA.out.below (Nat.le_refl _) BJ.out) hn0 c).mono ?_; rintro e wr ⟨rfl, hb⟩; rw [HDK.out]; have HAR := Lib.hid (HAj.out.below (Lib.hid hb)); have BR := Lib.hid (bl_then (Lib.hid hb) BJ.out zj); have zR := hb.size; clear hb))
      have hjat : Hid (∀ i, i < K → (Sj.jw (putw (List.replicate (nl + K) 0) 0 (fun j => (wn j : Int)) nl) nl (fun i => Sj.jn f (Sj.val wn 0 K i) n n) K).getD (nl + i) 0 = (Sj.jn f (Sj.val wn 0 K i) n n : Nat)) := Lib.hid fun i hi => Sj.jw_at _ _ _ i K hi (by rw [hwl.out]; exact Nat.le_refl _)
      have hE30 : E3.length ≤ 1000 := by
        have h1 := HE3.out
        rw [List.length_append, stEvs_len] at h1
        have h2 : K * (n + 1) ≤ 4 * 7 := Nat.mul_le_mul hK1.2 (by omega)
        simp at h1
        omega
      generalize Sj.jw (putw (List.replicate (nl + K) 0) 0 (fun j => (wn j : Int)) nl) nl (fun i => Sj.jn f (Sj.val wn 0 K i) n n) K = WS at *
      obtain ⟨i0, hi, hz0, hz1, hz2⟩ := info_parts Try.infoU8j
      have LR := Lib.hid LJ.out
      clear HAp BP LP HAj BJ LJ HE3 HAt BT LW HAr HLOW B1 B2 hws hwl
      go_loopw [10, 11, 12] (fun i a b wr => ∃ (q : Nat) (u1 u2 : Value) (F : Nat → Prop) (E : List Ev), q ≤ K ∧ i = .int .i64 (q : Int) ∧ a = u1 ∧ b = u2 ∧ Ar wr p g lp F WS (0 + (nl + K)) E ∧ E.length ≤ 1000 + 2 * q ∧ Below w.heap.size w wr ∧ (∀ i, AF p g F i → w.heap.size ≤ i)) (fun i _ _ _ => K - (intOf i).toNat)
      case atStart => exact ⟨0, _, _, F3, E3, Nat.zero_le _, rfl, rfl, rfl, HAR.out, by omega, BR.out, LR.out⟩
      case round =>
        obtain ⟨q, u1, u2, F, E, hq, rfl, rfl, rfl, hAr, hEr, hBr, hLr⟩ := hrel
        have HAr := Lib.hid hAr
        have HBr := Lib.hid hBr
        have HLr := Lib.hid hLr
        have zr := hBr.size
        clear HAR BR LR hAr hLr
        by_cases hqK : q < K
        · go_wp2_with fail
          go_loopw [11, 12, 65] (fun a b i w3 => ∃ (j : Nat) (v u : Value), j ≤ n ∧ i = .int .i64 (j : Int) ∧ a = v ∧ b = u ∧ w3.ownsRow wr.heap.size 5 1 v j (Sj.u8l (Sj.val wn 0 K q) j) ∧ Below wr.heap.size wr w3) (fun _ _ i _ => n - (intOf i).toNat)
          case atStart => exact ⟨0, _, _, Nat.zero_le _, rfl, rfl, rfl, by rw [Sj.u8l_zero]; exact World.ownsRow_nil _ _ _ _, Below.refl _ _⟩
          case round =>
            rename World => w3
            obtain ⟨j, v, u, hj, rfl, rfl, rfl, hO, hB3⟩ := hrel
            have HO := Lib.hid hO
            have HB3 := Lib.hid hB3
            have z3 := hB3.size
            have HBT := Lib.hid (bl_then HB3 HBr.out zr)
            by_cases hjn : j < n
            · have hjK : (j + 1) * K ≤ n * K := Nat.mul_le_mul_right K (by omega)
              rw [hnK.out, Nat.succ_mul] at hjK
              obtain ⟨JK, hJK⟩ : ∃ JK, j * K = JK := ⟨_, rfl⟩
              have hJKI : (j : Int) * (K : Int) = (JK : Int) := by rw [← hJK]; simp
              have HJK := Lib.hid hJK
              rw [hJK] at hjK
              obtain ⟨b, o, rfl, hb, hc⟩ := (HA2.out.below (Nat.le_refl _) HBT.out) (by omega)
              have hx := hc (JK + q) (by omega)
              have hx32 := HW.out (JK + q)
              have hvl : Hid (Sj.val wn 0 K q j = wn (JK + q) % 256) := Lib.hid (by unfold Sj.val; rw [HJK.out, Nat.zero_add])
              have hsn := Lib.hid (Sj.u8l_succ (Sj.val wn 0 K q) j)
              rw [hvl.out] at hsn
              generalize wn (JK + q) = X at *
              clear hO hB3 hc hJK
              go_wp2_with (at_builtin; refine wpList_append_lies _ (by rfl) _ _ 47 (by rfl) wr.heap.size 5 i0 _ 1 1 Try.underlying47 hi hz0 hz1 hz2 (by rfl) (by decide) _ j _ (by rfl) (HO.out.alloc _) ⟨w3.heap.size, 0, none⟩ 1 1 [.int .u8 ((X % 256 : Nat) : Int)] (by rfl) (by rfl) (World.news_of_block (heap_alloc_new _ _)) (by simp [Value.oneCell']) (by decide) (by simp only [maxLen]; omega) (by omega) (by rw [World.size_alloc]; omega) (w3.heap.size + 1) (by simp) ?_; intro ga capa wa hown1 hg1 hat1 hlt1; rw [← hsn.out] at hown1; have hOa := Lib.hid hown1; have hGa := Lib.hid hg1; clear hown1 hg1 hat1)
              go_roundw
              case rel => exact ⟨j + 1, _, _, by omega, by go_num, rfl, rfl, hOa.out, bl_grown hGa (own_base HO.out) (by rw [World.size_alloc]; omega) (bl_alloc z3 HB3.out _)⟩
              case measure => simp [intOf]; omega
            · have hge : (n : Int) ≤ j := by omega
              have ejn : j = n := by omega
              rw [ejn] at hO
              obtain ⟨Av, cv, rfl⟩ := own_slice hO
              obtain ⟨gv, rfl, hgb, hgs, hgc⟩ := own_cl hO hn1
              have hcl : Hid (Sj.Cl .u8 w3 (some ⟨gv, 0, none⟩) n (Sj.val wn 0 K q)) := Lib.hid fun _ => ⟨gv, 0, rfl, hgs, fun i hi => by rw [Nat.zero_add]; exact hgc i hi⟩
              have hjq := Lib.hid (hjat.out q hqK)
              have HRJ := Lib.hid (fun (w : World) (A : Option Addr) (B : Option Addr) (h1 : Sj.Cl .u8 w A n f) (h2 : Sj.Cl .u8 w B n (Sj.val wn 0 K q)) (c c' : Nat) => rJoin42_any h1 HF.out h2 (fun i => Nat.mod_lt _ (by decide)) HOK.out hn0 c c')
              have hJ := Sj.jn_lt f (Sj.val wn 0 K q) n (fun i => Nat.mod_lt _ (by decide)) n
              generalize Sj.jn f (Sj.val wn 0 K q) n n = J at *
              have hJm : (J : Int) % 4294967296 = (J : Int) := by omega
              have hngv : ¬ AF p g F gv := fun hf => by have := HAr.out.most _ hf; omega
              have HNG := Lib.hid hngv
              have HA3 := Lib.hid (HAr.out.below HB3)
              have hgs2 := hgs
              have L3 := Lib.hid HLr.out
              clear hO hB3 hgc hjat hngv ejn
              go_wp2_with (first
                | (go_at_call 34; refine (ARelease_e HA3.out (by omega) _ (nl + q) (by omega) (by omega)).mono ?_; rintro e w4 ⟨rfl, F4, hA4, hs4⟩; rw [hjq.out] at hA4 ⊢; have HA4 := Lib.hid hA4; have HS4 := Lib.hid hs4; have z4 := hs4.size; have BT4 := Lib.hid (hs4.below HBT.out (by omega) HLr.out); have LW4 := Lib.hid (hs4.low (B := w.heap.size) (by omega) HLr.out); have hcl4 : Hid (Sj.Cl .u8 w4 (some ⟨gv, 0, none⟩) n (Sj.val wn 0 K q)) := Lib.hid (fun h0 => by { obtain ⟨b, o, h1, h2, h3⟩ := hcl.out h0; simp only [Option.some.injEq, Addr.mk.injEq] at h1; obtain ⟨rfl, rfl, _⟩ := h1; exact ⟨gv, 0, rfl, by omega, fun i hi => (old_cell hs4 hgs HNG.out).trans (h3 i hi)⟩ }); clear hA4 hs4)
                | (go_at_call 35; refine (HRJ.out _ _ _ (HA.out.below (Nat.le_refl _) BT4.out) hcl4.out c cv).mono ?_; rintro e w5 ⟨rfl, hb⟩; have HA5 := Lib.hid (HA4.out.below (Lib.hid hb)); have BT5 := Lib.hid (bl_then (Lib.hid hb) BT4.out (by omega)); have z5 := hb.size; clear hb))
              go_roundw
              case rel => exact ⟨q + 1, _, _, F4, _, by omega, by go_num, rfl, rfl, HA5.out, by simp only [List.length_append, List.length_singleton]; omega, BT5.out, LW4.out⟩
              case measure => simp [intOf]; omega
        · have hge : (K : Int) ≤ q := by omega
          have hBr2 := HBr.out
          go_wp2_with fail
          go_ret
          exact ⟨rfl, hBr2⟩
    · have hdk : decide (Sj.Ok f n) = false := decide_eq_false hok
      have HDK := Lib.hid hdk
      have HOK := Lib.hid hok
      clear hok hdk
      go_enter Try.func5, Try.ntmps5
      go_wp2_with (first
      | (go_at_call 26; refine (awake42_any _).mono ?_; rintro e wq ⟨rfl, hb⟩; have B1 := Lib.hid hb; have z1 := hb.size; clear hb)
      | (go_at_call 27; refine (ANew_any _ (nl + K) (by split <;> split <;> omega) _).mono ?_; rintro e wn1 ⟨p, g, lp, F0, rfl, hA0, hlow, hb⟩; have HAr := Lib.hid hA0; have HLOW := Lib.hid hlow; have B2 := Lib.hid hb; have z2 := hb.size; clear hb hA0 hlow)
      | (go_at_call 28; refine (ATake_t HAr.out (by simp) (nl + K) (by simp)).mono ?_; rintro e wt ⟨rfl, F1, hA1, hs1⟩; have HAt := Lib.hid hA1; have BT := Lib.hid (hs1.below (bl_then B2 B1.out z1) (by omega) (fun i hi => by have := HLOW.out i hi; omega)); have LW := Lib.hid (hs1.low (B := w.heap.size) (by omega) (fun i hi => by have := HLOW.out i hi; omega)); have zt : w.heap.size ≤ wt.heap.size := BT.out.size; clear hA1 hs1)
      | (go_at_call 31; refine (APut_z HAt.out nl c' A' (fun j => (wn j : Int)) (by omega) (by simp; omega) (put_src HA2.out BT.out LW.out)).mono ?_; rintro e wp ⟨rfl, F2, hA1, hs1⟩; have HAp := Lib.hid hA1; have BP := Lib.hid (hs1.below BT.out zt LW.out); have LP := Lib.hid (hs1.low zt LW.out); have zp : w.heap.size ≤ wp.heap.size := BP.out.size; clear hA1 hs1)
      | (go_at_call 32; refine (sJoin_f (HA.out.below (Nat.le_refl _) BP.out) HF.out hn0 HOK.out c _ _ _).mono ?_; rintro e wj ⟨rfl, hb⟩; have BJ := Lib.hid (bl_then (Lib.hid hb) BP.out zp); have zj := hb.size; clear hb)
      | (go_at_call 33; refine (rRight_any (HA.out.below (Nat.le_refl _) BJ.out) hn0 c).mono ?_; rintro e wr ⟨rfl, hb⟩; rw [HDK.out]; have BR := Lib.hid (bl_then (Lib.hid hb) BJ.out (by omega)); have zR := hb.size; clear hb))
      clear HAp BP LP BJ HAt BT LW HAr HLOW B1 B2 hws hwl
      go_loopw [10] (fun i wr => i = .int .i64 0 ∧ Below w.heap.size w wr) (fun _ _ => 0)
      case atStart => exact ⟨rfl, BR.out⟩
      case round =>
        obtain ⟨rfl, hBr⟩ := hrel
        have HBr := Lib.hid hBr
        clear hBr BR
        go_wp2_with fail
        go_ret
        exact ⟨rfl, HBr.out⟩
end Go.Proofs.Ytdakbejppnijdaa
