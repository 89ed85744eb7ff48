/- ArenaBlind: the law's call. No condition. -/
import Derived.Test.YtflapbnbeipddaaArW
namespace Go.Proofs.Ytflapbnbeipddaa
open Go.RowKit
set_option linter.unusedSimpArgs false
set_option linter.unusedVariables false
attribute [local go_sem] IntKind.wrap_u32' signed_u32 max_u32
attribute [local go_sem ↓] Go.wp_at_zero Go.wp_at_succ
attribute [local go_sem] Calm.C
attribute [local go_sem low] Calm.al_cell Calm.al_frozen
theorem runTop_zero (N : Nat) (K At Nn : Nat → Int) : runTop N K At Nn 0 = 0 := rfl
theorem runTop_succ (N : Nat) (K At Nn : Nat → Int) (k : Nat) : runTop N K At Nn (k + 1) = actTop N (runTop N K At Nn k) (K k) (At k) (Nn k) := rfl
theorem runEvs_zero (N : Nat) (K At Nn : Nat → Int) (mi : Nat → Nat) : runEvs N K At Nn mi 0 = [] := rfl
theorem runEvs_succ (N : Nat) (K At Nn : Nat → Int) (mi : Nat → Nat) (k : Nat) : runEvs N K At Nn mi (k + 1) = runEvs N K At Nn mi k ++ actEvs N (runTop N K At Nn k) (K k) (At k) (Nn k) (mi k) := rfl
/-- What stays from act to act of the two arenas. -/
structure Two (w0 w : World) (p g lp p2 g2 lp2 : Nat) (FA FB : Nat → Prop) (N top : Nat) (bs : List Ev) (wsA wsB : List Int) (esA esB : List Ev) : Prop where
  a : Ar w p g lp FA wsA top esA
  b : Ar w p2 g2 lp2 FB wsB top esB
  na : wsA.length = N
  nb : wsB.length = N
  ba : blind esA = bs
  bb : blind esB = bs
  apart : ∀ i, AF p g FA i → ¬ AF p2 g2 FB i
  la : ∀ i, AF p g FA i → w0.heap.size ≤ i
  lb : ∀ i, AF p2 g2 FB i → w0.heap.size ≤ i
  bl : Below w0.heap.size w0 w
theorem Two.below {w0 w w' : World} {p g lp p2 g2 lp2 : Nat} {FA FB : Nat → Prop} {N top : Nat} {bs : List Ev} {wsA wsB : List Int} {esA esB : List Ev} (h : Two w0 w p g lp p2 g2 lp2 FA FB N top bs wsA wsB esA esB) (hb : Below w.heap.size w w') : Two w0 w' p g lp p2 g2 lp2 FA FB N top bs wsA wsB esA esB where
  a := h.a.below (Lib.hid hb)
  b := h.b.below (Lib.hid hb)
  na := h.na
  nb := h.nb
  ba := h.ba
  bb := h.bb
  apart := h.apart
  la := h.la
  lb := h.lb
  bl := bl_then (Lib.hid hb) h.bl h.bl.size
theorem Two.lens {w0 w : World} {p g lp p2 g2 lp2 : Nat} {FA FB : Nat → Prop} {N top : Nat} {bs : List Ev} {wsA wsB : List Int} {esA esB : List Ev} (h : Two w0 w p g lp p2 g2 lp2 FA FB N top bs wsA wsB esA esB) : esA.length = bs.length ∧ esB.length = bs.length ∧ top ≤ N := by
  refine ⟨?_, ?_, ?_⟩
  · rw [← h.ba, blind, List.length_map]
  · rw [← h.bb, blind, List.length_map]
  · rw [← h.na]; exact h.a.ht
theorem Two.other {w0 w : World} {p g lp p2 g2 lp2 : Nat} {FA FB : Nat → Prop} {N top : Nat} {bs : List Ev} {wsA wsB : List Int} {esA esB : List Ev} (h : Two w0 w p g lp p2 g2 lp2 FA FB N top bs wsA wsB esA esB) : ∀ i, AF p2 g2 FB i → ¬ AF p g FA i :=
  fun i hi hj => h.apart i hj hi
/-- Both acts done: the first one on a, then the other one on b. -/
theorem Two.next {w0 w w1 w2 : World} {p g lp p2 g2 lp2 : Nat} {FA FB : Nat → Prop} {N top top' : Nat} {bs aa : List Ev} {wsA wsB : List Int} {esA esB : List Ev} (h : Two w0 w p g lp p2 g2 lp2 FA FB N top bs wsA wsB esA esB)
    {FA' : Nat → Prop} {wsA' : List Int} {xA : List Ev} (hA : Ar w1 p g lp FA' wsA' top' (esA ++ xA)) (hnA : wsA'.length = wsA.length) (hbA : blind xA = aa) (hsA : Step (AF p g FA) (AF p g FA') w w1)
    {FB' : Nat → Prop} {wsB' : List Int} {xB : List Ev} (hB : Ar w2 p2 g2 lp2 FB' wsB' top' (esB ++ xB)) (hnB : wsB'.length = wsB.length) (hbB : blind xB = aa) (hsB : Step (AF p2 g2 FB) (AF p2 g2 FB') w1 w2) :
    Two w0 w2 p g lp p2 g2 lp2 FA' FB' N top' (bs ++ aa) wsA' wsB' (esA ++ xA) (esB ++ xB) := by
  have hAB : ∀ i, AF p g FA' i → ¬ AF p2 g2 FB i := fun i hi hj => h.apart i ((hsA.foot i (h.b.most i hj)).1 hi) hj
  refine ⟨hA.apart hsB hAB, hB, hnA.trans h.na, hnB.trans h.nb, ?_, ?_, fun i hi hj => ?_, fun i hi => ?_, fun i hi => ?_, ?_⟩
  · rw [blind_append, h.ba, hbA]
  · rw [blind_append, h.bb, hbB]
  · exact hAB i hi ((hsB.foot i (hA.most i hi)).1 hj)
  · exact hsA.low h.bl.size h.la i hi
  · exact hsB.low (Nat.le_trans h.bl.size hsA.size) h.lb i hi
  · exact hsB.below (hsA.below h.bl h.bl.size h.la) (Nat.le_trans h.bl.size hsA.size) h.lb
theorem fill_fin {w w2 w3 : World} {B j cy cap gg : Nat} {Ly : Option Addr} {o : Obj} {X : Array Value} {a b c d u : Value} {l : List Value}
    (hX : Blk w2 B 60 X) (hY : Blk w2 (B + 1) 60 #[a, b, c, d, .slice Ly j cy]) (hO : w2.ownsRow (B + 2) 29 1 (.slice Ly j cy) j l) (hb : Below B w w2)
    (hown : w3.ownsRow (B + 2) 29 1 (.slice (some ⟨gg, 0, none⟩) (j + 1) cap) (j + 1) (l ++ [u])) (hg : (w2.alloc o).grownBy w3 (Value.slice Ly j cy).ownBlock) :
    Blk (w3.setCell ⟨B + 1, 4, none⟩ (.slice (some ⟨gg, 0, none⟩) (j + 1) cap)) B 60 X ∧
    Blk (w3.setCell ⟨B + 1, 4, none⟩ (.slice (some ⟨gg, 0, none⟩) (j + 1) cap)) (B + 1) 60 #[a, b, c, d, .slice (some ⟨gg, 0, none⟩) (j + 1) cap] ∧
    (w3.setCell ⟨B + 1, 4, none⟩ (.slice (some ⟨gg, 0, none⟩) (j + 1) cap)).ownsRow (B + 2) 29 1 (.slice (some ⟨gg, 0, none⟩) (j + 1) cap) (j + 1) (l ++ [u]) ∧ Below B w (w3.setCell ⟨B + 1, 4, none⟩ (.slice (some ⟨gg, 0, none⟩) (j + 1) cap)) := by
  have hBl := hX.lt
  have hX3 : Blk w3 B 60 X := (hX.alloc o).grown hg fun e => by have := own_base hO _ e.symm; omega
  have hY3 : Blk w3 (B + 1) 60 #[a, b, c, d, .slice Ly j cy] := (hY.alloc o).grown hg fun e => by have := own_base hO _ e.symm; omega
  refine ⟨hX3.far (by simp) _, hY3.set_ 4 _, hown.kept (grown_set _ _ _ _) (.inr (own_blk_ne hown hY3 (by decide))), ?_⟩
  exact bl_set (by omega) (bl_grown (Lib.hid hg) (fun k hk => by have := own_base hO k hk; omega) (by rw [World.size_alloc]; omega) (bl_alloc (by omega) hb o)) _
theorem own_u32 {w : World} {base m cy : Nat} {Ly : Option Addr} {f : Nat → Int} (h : w.ownsRow base 29 1 (.slice Ly m cy) m ((List.range m).map fun q => .int .u32 (f q))) (hm : 0 < m) :
    ∃ gg, Ly = some ⟨gg, 0, none⟩ ∧ base ≤ gg ∧ gg < w.heap.size ∧ ∀ j, j < m → w.cell? ⟨gg, 0 + j, none⟩ = some (.int .u32 (f j)) := by
  obtain ⟨gg, cap, hv, hb, hgl⟩ := h.form hm
  injection hv with h1 h2 h3
  subst h1
  refine ⟨gg, rfl, hb, hgl, fun j hj => ?_⟩
  rw [Nat.zero_add]
  refine (h.cellAt j (by omega)).trans ?_
  rw [List.getElem?_map, List.getElem?_range hj]
  rfl
theorem fill_far {w2 w4 : World} {B m cy p g p2 g2 : Nat} {FA FA' FB : Nat → Prop} {Ly : Option Addr} {f : Nat → Int} (h : w2.ownsRow (B + 2) 29 1 (.slice Ly m cy) m ((List.range m).map fun q => .int .u32 (f q)))
    (hs : Step (AF p g FA) (AF p g FA') w2 w4) (nA : ∀ i, AF p g FA i → i < B) (nB : ∀ i, AF p2 g2 FB i → i < B) :
    0 < m → ∃ b o, Ly = some ⟨b, o, none⟩ ∧ b < w4.heap.size ∧ ¬ AF p2 g2 FB b ∧ ∀ q, q < m → w4.cell? ⟨b, o + q, none⟩ = some (.int .u32 (f q)) := by
  intro h0
  obtain ⟨gg, e, hb, hl, hc⟩ := own_u32 h h0
  have hz := hs.size
  refine ⟨gg, 0, e, by omega, fun hf => by have := nB _ hf; omega, fun q hq => ?_⟩
  exact (old_cell hs hl (fun hf => by have := nA _ hf; omega)).trans (hc q hq)
theorem left_ex {w w' : World} {p g lp : Nat} {FL : Nat → Prop} {ws : List Int} {evs : List Ev} {top' : Nat} {bs : List Ev} (h : Left w w' p g lp FL ws evs top' bs) :
    ∃ (FL' : Nat → Prop) (ws' : List Int) (es : List Ev), Ar w' p g lp FL' ws' top' (evs ++ es) ∧ ws'.length = ws.length ∧ blind es = bs ∧ Step (AF p g FL) (AF p g FL') w w' := h
theorem blind_as {w : World} {F : Nat → Prop} {p n : Nat} {evs E : List Ev} (hL : Lg w F p evs) (hn : evs.length = n) (hE : blind evs = E) (h : n < 1099511627776) :
    Calls Try.prog 41 #[.pointer (some ⟨p, 0, none⟩)] w fun e w' => ∃ A c, e = .returned (.slice A n c) ∧ w'.ownsRow w.heap.size 67 3 (.slice A n c) n (evCells E) ∧ Below w.heap.size w w' := by
  refine (Blind_any w F p evs hL (by omega)).mono ?_
  rintro e w' ⟨v, rfl, ho, hb⟩
  rw [hn, hE] at ho
  obtain ⟨A, c, rfl⟩ := own_slice ho
  exact ⟨A, c, rfl, ho, hb⟩
theorem own_blind {w : World} {base n cap : Nat} {A : Option Addr} {E : List Ev} (h : w.ownsRow base 67 3 (.slice A n cap) n (evCells E)) {w' : World} (hb : Below w.heap.size w w') : w'.ownsRow base 67 3 (.slice A n cap) n (evCells E) := pw_own h (Lib.hid hb)
theorem known_at {E : List Ev} {L : Nat} (h : Known E) (hL : E.length = L) : ∀ q, q < L → 1 ≤ (E.getD q evDef).k ∧ (E.getD q evDef).k ≤ 5 := by
  intro q hq
  have h2 := h (E[q]'(by omega)) (List.getElem_mem _)
  rw [List.getD_eq_getElem?_getD, List.getElem?_eq_getElem (by omega)]
  exact h2
attribute [local irreducible] runTop runEvs actTop actEvs
set_option maxRecDepth 10000 in
set_option maxHeartbeats 1000000 in
theorem ArenaBlind_any {w : World} {A : Option Addr} {n : Nat} {K At Nn V : Nat → Int} {Ai : Nat → Option Addr} {mi ci : Nat → Nat} {f : Nat → Nat → Int} {B off : Nat} (h : Acts w A n K At Nn V Ai mi ci f B off) (hn : n ≤ 9223372036854775807) (hm : ∀ i, i < n → mi i ≤ 9223372036854775807)
    (hK : ∀ i, i < n → 0 ≤ K i ∧ K i ≤ 255) (hV : ∀ i, i < n → 0 ≤ V i ∧ V i ≤ 4294967295) (hf : ∀ i c, i < n → c < mi i → 0 ≤ f i c ∧ f i c ≤ 4294967295) (c : Nat) (words more : Int) (hm2 : 0 ≤ more ∧ more < 4294967296) :
    Calls Try.prog 9 #[.int .i64 words, .slice A n c, .int .u32 more] w fun e w' => e = .returned (.bool true) ∧ Below w.heap.size w w' := by
  by_cases h100 : 100 < words
  · clear h
    go_enter Try.func9, Try.ntmps9
    go_wp2_with (first | (go_at_call 29; refine (awake02_any _).mono ?_; rintro e w1 ⟨rfl, hb⟩; have hcf := bcell hb; (try simp only [World.size_alloc, World.size_setCell, World.size_drew] at hcf); have hz := hb.size; (try simp only [World.size_alloc, World.size_setCell, World.size_drew] at hz); have hbh := Lib.hid hb; clear hb; obtain ⟨hc, hf⟩ := hcf))
    go_ret
    refine ⟨rfl, ?_⟩
    (repeat' (first | exact Below.refl _ _ | refine bl_set (by (first | omega | (simp; done) | (simp; omega))) ?_ _ | refine bl_alloc (by (first | omega | (simp; done) | (simp; omega))) ?_ _ | refine bl_drewN ?_ _ | refine bl_drew ?_ | refine bl_then (by assumption) ?_ (by (first | omega | (simp; done) | (simp; omega))) | refine Step.bl (by assumption) (by assumption) (by (first | omega | (simp; done) | (simp; omega))) (by (first | omega | (simp; done) | (simp; omega))) ?_))
  obtain ⟨N, hN⟩ : ∃ N : Nat, (if words < 0 then 0 else words) = (N : Int) := by
    refine ⟨(if words < 0 then 0 else words).toNat, ?_⟩
    split <;> omega
  have hN0 : (if (4194304 : Int) < (if words < 0 then 0 else words) then 4194304 else (if words < 0 then 0 else words)) = (N : Int) := by
    rw [hN, if_neg]
    split at hN <;> omega
  have hN100 : N ≤ 100 := by split at hN <;> omega
  have HN0 := Lib.hid hN0
  have H := Lib.hid h
  have HM := Lib.hid hm
  have HF := Lib.hid hf
  clear h hm hN0 hN hf
  go_enter Try.func9, Try.ntmps9
  go_wp2_with (first | (go_at_call 29; refine (awake02_any _).mono ?_; rintro e w1 ⟨rfl, hb⟩; have hcf := bcell hb; (try simp only [World.size_alloc, World.size_setCell, World.size_drew] at hcf); have hz := hb.size; (try simp only [World.size_alloc, World.size_setCell, World.size_drew] at hz); have hbh := Lib.hid hb; clear hb; obtain ⟨hc, hf⟩ := hcf) | (go_at_call 38; refine (few_any (H.out.below hbh.out) hn HM.out _).mono ?_; rintro e wf ⟨r, rfl, hr, hb⟩; have hz_f := hb.size; have hbh_f := Lib.hid hb; have HR := Lib.hid hr; clear hb hr; cases r) | (go_at_call 30; with_reducible refine (ANew_any words N HN0.out _).mono ?_; rintro e w1 ⟨p2, g2, lp2, G0, rfl, hA, hlow, hb⟩; have HA0 := Lib.hid (H0.out.below (Lib.hid hb)); have HB0 := Lib.hid hA; have LOWB := Lib.hid hlow; have B1 := Lib.hid hb; have z1 := hb.size; clear hA hlow hb) | (go_at_call 30; with_reducible refine (ANew_any words N HN0.out _).mono ?_; rintro e w0 ⟨p, g, lp, F0, rfl, hA, hlow, hb⟩; have H0 := Lib.hid hA; have LOW := Lib.hid hlow; have B0 := Lib.hid hb; have z0 := hb.size; clear hA hlow hb))
  · go_ret
    refine ⟨rfl, ?_⟩
    (repeat' (first | exact Below.refl _ _ | refine bl_set (by (first | omega | (simp; done) | (simp; omega))) ?_ _ | refine bl_alloc (by (first | omega | (simp; done) | (simp; omega))) ?_ _ | refine bl_drewN ?_ _ | refine bl_drew ?_ | refine bl_then (by assumption) ?_ (by (first | omega | (simp; done) | (simp; omega))) | refine Step.bl (by assumption) (by assumption) (by (first | omega | (simp; done) | (simp; omega))) (by (first | omega | (simp; done) | (simp; omega))) ?_))
  · obtain ⟨hn60, hm40⟩ := HR.out (by simp)
    have hBW1 : Hid (Below w.heap.size w w1) := Lib.hid (by (repeat' (first | exact Below.refl _ _ | refine bl_set (by (first | omega | (simp; done) | (simp; omega))) ?_ _ | refine bl_alloc (by (first | omega | (simp; done) | (simp; omega))) ?_ _ | refine bl_drewN ?_ _ | refine bl_drew ?_ | refine bl_then (by assumption) ?_ (by (first | omega | (simp; done) | (simp; omega))) | refine Step.bl (by assumption) (by assumption) (by (first | omega | (simp; done) | (simp; omega))) (by (first | omega | (simp; done) | (simp; omega))) ?_)))
    go_loopw [32] (fun i wr => ∃ (k : Nat) (FA FB : Nat → Prop) (wsA wsB : List Int) (esA esB : List Ev), k ≤ n ∧ i = .int .i64 k ∧ Two w wr p g lp p2 g2 lp2 FA FB N (runTop N K At Nn k) (runEvs N K At Nn mi k) wsA wsB esA esB) (fun i _ => n - (intOf i).toNat)
    case atStart =>
      refine ⟨0, F0, G0, List.replicate N 0, List.replicate N 0, [], [], Nat.zero_le _, rfl, ?_⟩
      rw [runTop_zero, runEvs_zero]
      refine ⟨HA0.out, HB0.out, by simp, by simp, rfl, rfl, fun i ha hb => ?_, fun i hi => ?_, fun i hi => ?_, hBW1.out⟩
      · have := LOWB.out i hb
        have := H0.out.most i ha
        omega
      · have := LOW.out i hi
        omega
      · have := LOWB.out i hi
        omega
    case round =>
      obtain ⟨k, FA, FB, wsA, wsB, esA, esB, hk, rfl, hT⟩ := hrel
      have T := Lib.hid hT
      clear hT
      by_cases hkn : k < n
      · have hTB := T.out.bl
        have hR := H.out.below hTB
        obtain ⟨rfl, hBlt⟩ := hR.at_ (by omega)
        have g0 := hR.c0 k hkn
        have g1 := hR.c1 k hkn
        have g2' := hR.c2 k hkn
        have g3 := hR.c3 k hkn
        have g4 := hR.c4 k hkn
        have g5 := hm40 k hkn
        obtain ⟨m, hm⟩ : ∃ m, mi k = m := ⟨_, rfl⟩
        obtain ⟨Kk, hKk⟩ : ∃ x, K k = x := ⟨_, rfl⟩
        obtain ⟨Ak, hAk⟩ : ∃ x, At k = x := ⟨_, rfl⟩
        obtain ⟨Nk, hNk⟩ : ∃ x, Nn k = x := ⟨_, rfl⟩
        obtain ⟨Vk, hVk⟩ : ∃ x, V k = x := ⟨_, rfl⟩
        obtain ⟨Lk, hLk⟩ : ∃ x, Ai k = x := ⟨_, rfl⟩
        obtain ⟨ck, hck⟩ : ∃ x, ci k = x := ⟨_, rfl⟩
        rw [hm] at g4 g5
        rw [hKk] at g0
        rw [hAk] at g1
        rw [hNk] at g2'
        rw [hVk] at g3
        rw [hLk, hck] at g4
        clear hR hTB
        go_wp2_with fail
        have hyl : ∀ j, j < m → ∃ b o, Lk = some ⟨b, o, none⟩ ∧ b < w.heap.size ∧ w.cell? ⟨b, o + j, none⟩ = some (.int .u32 (f k j)) := by
          intro j hj
          obtain ⟨b, o, e, hl, hcc⟩ := H.out.row k hkn (by omega)
          exact ⟨b, o, by rw [← hLk, e], hl, hcc j (by omega)⟩
        have HYL := Lib.hid hyl
        clear hyl
        go_loopw [46] (fun i w2 => ∃ (j cy : Nat) (Ly : Option Addr), j ≤ m ∧ i = .int .i64 j ∧ Blk w2 wr.heap.size 60 #[.int .u8 Kk, .int .i64 Ak, .int .i64 Nk, .int .u32 Vk, .slice Lk m ck] ∧
          Blk w2 (wr.heap.size + 1) 60 #[.int .u8 Kk, .int .i64 Ak, .int .i64 Nk, .int .u32 ((Vk + more) % 4294967296), .slice Ly j cy] ∧
          w2.ownsRow (wr.heap.size + 2) 29 1 (.slice Ly j cy) j ((List.range j).map fun q => .int .u32 ((f k q + more) % 4294967296)) ∧ Below wr.heap.size wr w2) (fun i _ => m - (intOf i).toNat)
        case atStart =>
          refine ⟨0, 0, none, Nat.zero_le _, rfl, ?_, ?_, ?_, ?_⟩
          · exact (Blk.new _ _ _).alloc _
          · have h := Blk.new (wr.alloc (.cells #[.int .u8 Kk, .int .i64 Ak, .int .i64 Nk, .int .u32 Vk, .slice Lk m ck] 60)) 60 #[.int .u8 Kk, .int .i64 Ak, .int .i64 Nk, .int .u32 ((Vk + more) % 4294967296), .slice none 0 0]
            rw [World.size_alloc] at h
            exact h
          · exact World.ownsRow_nil _ _ _ _
          · exact ((Below.refl _ _).alloc (Nat.le_refl _) _).alloc (by rw [World.size_alloc]; omega) _
        case round =>
          rename World => w2
          obtain ⟨j, cy, Ly, hj, rfl, hX, hY, hO, hB2⟩ := hrel
          have HX := Lib.hid hX
          have HY := Lib.hid hY
          have HO := Lib.hid hO
          have HB2 := Lib.hid hB2
          have hzz2 := hB2.size
          clear hX hY hO hB2
          by_cases hjm : j < m
          · obtain ⟨b, o, rfl, hbl, hcl⟩ := HYL.out j hjm
            have hzw := T.out.bl.size
            have hv1 := T.out.bl.cell (p := ⟨b, o + j, none⟩) hbl
            have hv2 := HB2.out.cell (p := ⟨b, o + j, none⟩) (Nat.lt_of_lt_of_le hbl hzw)
            have hv : w2.cell? ⟨b, o + j, none⟩ = some (.int .u32 (f k j)) := hv2.trans (hv1.trans hcl)
            have hfv := HF.out k j hkn (by omega)
            clear hv1 hv2
            obtain ⟨v, hvv⟩ : ∃ v, f k j = v := ⟨_, rfl⟩
            rw [hvv] at hv hfv
            have hc2 := HY.out.cell 4
            simp only [List.getElem?_toArray, List.getElem?_cons_zero, List.getElem?_cons_succ] at hc2
            have hf2 := HY.out.frozen 4
            have hylt := HY.out.lt
            have hneY := own_blk_ne HO.out HY.out (by decide)
            obtain ⟨i0, hi, hz0, hz1, hz2⟩ := info_parts Try.infoU32A
            have hHO := HO.out
            obtain ⟨l, hl⟩ : ∃ l, (List.range j).map (fun q => Value.int .u32 ((f k q + more) % 4294967296)) = l := ⟨_, rfl⟩
            rw [hl] at hHO
            have hll : l.length = j := by rw [← hl, List.length_map, List.length_range]
            go_wp2_with (at_builtin; refine wpList_append_lies _ (by rfl) _ _ 22 (by rfl) (wr.heap.size + 2) 29 i0 _ 1 4 Try.underlying22 hi hz0 hz1 hz2 (by rfl) (by decide) _ _ _ (by rfl) (hHO.alloc _) ⟨w2.heap.size, 0, none⟩ 1 1 [.int .u32 ((v + more) % 4294967296)] (by rfl) (by rfl) (World.news_of_block (heap_alloc_new _ _)) (by simp [Value.oneCell']) (by decide) (by simp only [maxLen]; omega) (by omega) (by rw [World.size_alloc]; omega) (w2.heap.size + 1) (by simp) ?_; intro g cap w3 hown hg1 hat hlt; have hY3 := Lib.hid ((HY.out.alloc _).grown hg1 (Ne.symm hneY)); have hc3 := hY3.out.cell 4; simp only [List.getElem?_toArray, List.getElem?_cons_zero, List.getElem?_cons_succ] at hc3; have hf3 := hY3.out.frozen 4; have HO3 := Lib.hid hown; have HG3 := Lib.hid hg1; clear hown hg1)
            have hfin := fill_fin HX.out HY.out hHO HB2.out HO3.out HG3.out
            obtain ⟨h1, h2, h3, h4⟩ := hfin
            refine ⟨⟨j + 1, cap, some ⟨g, 0, none⟩, by omega, by go_num, h1, h2, ?_, h4⟩, by simp [intOf]; omega⟩
            rw [List.range_succ, List.map_append, hl, List.map_singleton, hvv]
            exact h3
          · have hjm' : j = m := by omega
            subst hjm'
            have T2 := Lib.hid (T.out.below HB2.out)
            have nA := T.out.a.most
            have nB := T.out.b.most
            have hBA : 0 < j → ∃ b o, Lk = some ⟨b, o, none⟩ ∧ b < w2.heap.size ∧ ¬ AF p g FA b ∧ ∀ q, q < j → w2.cell? ⟨b, o + q, none⟩ = some (.int .u32 (f k q)) := by
              intro h0
              obtain ⟨b, o, e, hbl, _⟩ := HYL.out 0 h0
              have hzw := T.out.bl.size
              refine ⟨b, o, e, by omega, fun hf => by have := T.out.la b hf; omega, fun q hq => ?_⟩
              obtain ⟨b', o', e', _, hc'⟩ := HYL.out q hq
              have e2 := e.symm.trans e'
              injection e2 with e3
              injection e3 with e4 e5
              subst e4 e5
              exact (HB2.out.cell (p := ⟨b, o + q, none⟩) (Nat.lt_of_lt_of_le hbl hzw)).trans ((T.out.bl.cell (p := ⟨b, o + q, none⟩) hbl).trans hc')
            have HBA := Lib.hid hBA
            have hlens := T.out.lens
            have hrl := runEvs_len N K At Nn mi k
            have hkk : k * (2 * N + 2) ≤ 60 * 202 := Nat.mul_le_mul (by omega) (by omega)
            have hx0 := HX.out.cell 0
            have hx1 := HX.out.cell 1
            have hx2 := HX.out.cell 2
            have hx3 := HX.out.cell 3
            have hx4 := HX.out.cell 4
            simp only [List.getElem?_toArray, List.getElem?_cons_zero, List.getElem?_cons_succ] at hx0 hx1 hx2 hx3 hx4
            have hKk0 : 0 ≤ Kk ∧ Kk < 256 := by have := hK k hkn; omega
            clear hBA
            go_wp2_with (go_at_call 39; with_reducible refine (do_any T2.out.a (by omega) Kk Ak Nk Vk Lk j ck (f k) hKk0 HBA.out).mono ?_; rintro e w4 ⟨rfl, hL4⟩; obtain ⟨FA', wsA', xA, hA4, hnA, hbA, hs4⟩ := left_ex hL4; clear hL4; have HA4 := Lib.hid hA4; have S4 := Lib.hid hs4; have z4 := hs4.size; have HY4 := Lib.hid (hs4.blk HY.out (fun hf => by have := nA _ hf; omega)); clear hA4 hs4; have hy0 := HY4.out.cell 0; have hy1 := HY4.out.cell 1; have hy2 := HY4.out.cell 2; have hy3 := HY4.out.cell 3; have hy4 := HY4.out.cell 4; simp only [List.getElem?_toArray, List.getElem?_cons_zero, List.getElem?_cons_succ] at hy0 hy1 hy2 hy3 hy4; clear hx0 hx1 hx2 hx3 hx4; have HB4 := Lib.hid (T2.out.b.apart S4.out T2.out.other); have HBB := Lib.hid (fill_far HO.out S4.out nA nB))
            go_wp2_with (go_at_call 39; with_reducible refine (do_any HB4.out (by omega) Kk Ak Nk ((Vk + more) % 4294967296) Ly j cy (fun q => (f k q + more) % 4294967296) hKk0 HBB.out).mono ?_; rintro e w5 ⟨rfl, hL5⟩; obtain ⟨FB', wsB', xB, hB5, hnB, hbB, hs5⟩ := left_ex hL5; clear hL5; have HB5 := Lib.hid hB5; have S5 := Lib.hid hs5; have z5 := hs5.size; clear hB5 hs5)
            have hA := HA4.out
            have hB := HB5.out
            have hlA := T2.out.na
            have hlB := T2.out.nb
            rw [hlA] at hA hbA
            rw [hlB] at hB hbB
            have hnext := T2.out.next hA hnA hbA S4.out hB hnB hbB S5.out
            refine ⟨⟨k + 1, FA', FB', wsA', wsB', esA ++ xA, esB ++ xB, by omega, by go_num, ?_⟩, by simp [intOf]; omega⟩
            rw [runTop_succ, runEvs_succ, hKk, hAk, hNk, hm]
            exact hnext
      · have hge : n ≤ k := by omega
        have hrl := runEvs_len N K At Nn mi k
        have hkk : k * (2 * N + 2) ≤ 60 * 202 := Nat.mul_le_mul (by omega) (by omega)
        have hkn2 := runEvs_known N K At Nn mi k
        obtain ⟨E, hE⟩ : ∃ E, runEvs N K At Nn mi k = E := ⟨_, rfl⟩
        obtain ⟨tp, htp⟩ : ∃ tp, runTop N K At Nn k = tp := ⟨_, rfl⟩
        obtain ⟨L, hL⟩ : ∃ L, E.length = L := ⟨_, rfl⟩
        rw [hE] at hrl hkn2 T
        rw [htp] at T
        have HK := Lib.hid hkn2
        have HL := Lib.hid hL
        obtain ⟨hlA, hlB, hlt⟩ := T.out.lens
        rw [hL] at hlA hlB hrl
        have HlA := Lib.hid hlA
        have HlB := Lib.hid hlB
        have hL5 : L ≤ 1000000 := by omega
        have hbA := Lib.hid T.out.ba
        have hbB := Lib.hid T.out.bb
        clear hE htp hL hkn2 hlA hlB hlt hrl hkk
        go_wp2_with (first
          | (go_at_call 40; with_reducible refine (ALog_any T.out.a).mono ?_; rintro e w6 ⟨rfl, hw⟩; replace hw := hw.symm; subst hw)
          | (go_at_call 41; with_reducible refine (blind_as T.out.a.lg HlA.out hbA.out (by omega)).mono ?_; rintro e w7 ⟨A7, c7, rfl, hO7, hb7⟩; have O7 := Lib.hid hO7; have B7 := Lib.hid hb7; have HB7 := Lib.hid (T.out.b.below B7); have HA7 := Lib.hid (T.out.a.below B7); have z7 := hb7.size; clear hO7 hb7)
          | (go_at_call 40; with_reducible refine (ALog_any HB7.out).mono ?_; rintro e w6 ⟨rfl, hw⟩; replace hw := hw.symm; subst hw)
          | (go_at_call 41; with_reducible refine (blind_as HB7.out.lg HlB.out hbB.out (by omega)).mono ?_; rintro e w8 ⟨A8, c8, rfl, hO8, hb8⟩; have O8 := Lib.hid hO8; have B8 := Lib.hid hb8; have P8 := Lib.hid (own_blind O7.out hb8); have HA8 := Lib.hid (HA7.out.below B8); have z8 := hb8.size; clear hO8 hb8))
        go_loopw [79] (fun i w9 => ∃ q : Nat, q ≤ L ∧ i = .int .i64 q ∧ Below w8.heap.size w8 w9) (fun i _ => L - (intOf i).toNat)
        case atStart => exact ⟨0, Nat.zero_le _, rfl, Below.refl _ _⟩
        case round =>
          rename World => w9
          obtain ⟨q, hq, rfl, hW⟩ := hrel
          have z9 := hW.size
          have HW := Lib.hid hW
          clear hW
          by_cases hqn : q < L
          · obtain ⟨g7, rfl, hg7, x0, x1, x2⟩ := ev_own P8.out HL.out hqn
            obtain ⟨g8, rfl, hg8, y0, y1, y2⟩ := ev_own O8.out HL.out hqn
            obtain ⟨e, he⟩ : ∃ e, E.getD q evDef = e := ⟨_, rfl⟩
            rw [he] at x0 x1 x2 y0 y1 y2
            have X0 := (HW.out.cell (p := ⟨g7, q * 3, none⟩) hg7).trans x0
            have X1 := (HW.out.cell (p := ⟨g7, q * 3 + 1, none⟩) hg7).trans x1
            have X2 := (HW.out.cell (p := ⟨g7, q * 3 + 2, none⟩) hg7).trans x2
            have Y0 := (HW.out.cell (p := ⟨g8, q * 3, none⟩) hg8).trans y0
            have Y1 := (HW.out.cell (p := ⟨g8, q * 3 + 1, none⟩) hg8).trans y1
            have Y2 := (HW.out.cell (p := ⟨g8, q * 3 + 2, none⟩) hg8).trans y2
            clear x0 x1 x2 y0 y1 y2 he
            go_wp2_with fail
            go_region_held3 (fun w' => w'.cell? ⟨g7, q * 3, none⟩ = some (.int .i64 e.k) ∧ w'.cell? ⟨g7, q * 3 + 1, none⟩ = some (.int .i64 e.i) ∧ w'.cell? ⟨g7, q * 3 + 2, none⟩ = some (.int .u32 e.v) ∧ w'.cell? ⟨g8, q * 3, none⟩ = some (.int .i64 e.k) ∧ w'.cell? ⟨g8, q * 3 + 1, none⟩ = some (.int .i64 e.i) ∧ w'.cell? ⟨g8, q * 3 + 2, none⟩ = some (.int .u32 e.v)) ((simp [go_sem, ↓IntWalk.iteOmega, *]; done)) (fail)
            all_goals (go_wp2_with fail)
            all_goals
              refine ⟨⟨q + 1, by omega, by go_num, ?_⟩, by simp [intOf]; omega⟩
              have HW' := HW.out
              (repeat' (first | exact Below.refl _ _ | refine bl_set (by (first | omega | (simp; done) | (simp; omega))) ?_ _ | refine bl_alloc (by (first | omega | (simp; done) | (simp; omega))) ?_ _ | refine bl_drewN ?_ _ | refine bl_drew ?_ | refine bl_then (by assumption) ?_ (by (first | omega | (simp; done) | (simp; omega))) | refine Step.bl (by assumption) (by assumption) (by (first | omega | (simp; done) | (simp; omega))) (by (first | omega | (simp; done) | (simp; omega))) ?_))
          · have hge2 : L ≤ q := by omega
            have HA9 := Lib.hid (HA8.out.below (Lib.hid HW.out))
            have P9 := Lib.hid (own_blind P8.out HW.out)
            go_wp2_with (first
              | (go_at_call 40; with_reducible refine (ALog_any HA9.out).mono ?_; rintro e w6 ⟨rfl, hw⟩; replace hw := hw.symm; subst hw)
              | (go_at_call 42; with_reducible refine (Len_any _ FA lp esA HA9.out.lg).mono ?_; rintro e w6 ⟨rfl, hw⟩; rw [HlA.out]; subst hw)
              | (go_at_call 43; with_reducible refine (noted_any P9.out HL.out hL5 (known_at HK.out HL.out)).mono ?_; rintro e w10 ⟨rfl, hb10⟩; have z10 := hb10.size; have B10 := Lib.hid hb10; clear hb10))
            go_ret
            refine ⟨by simp, ?_⟩
            have b7 := bl_then B7 T.out.bl T.out.bl.size
            have b8 := bl_then B8 b7 b7.size
            have b9 := bl_then HW b8 b8.size
            exact bl_then B10 b9 b9.size
end Go.Proofs.Ytflapbnbeipddaa
