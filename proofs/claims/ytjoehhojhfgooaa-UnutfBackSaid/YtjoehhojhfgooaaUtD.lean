/- Decode. No condition. -/
import Derived.Test.YtjoehhojhfgooaaUtE
namespace Go.Proofs.Ytjoehhojhfgooaa
open Go.RowKit
set_option linter.unusedSimpArgs false
set_option linter.unusedVariables false
attribute [local go_sem] IntKind.wrap_u32' signed_u32 max_u32
attribute [local go_sem ↓] Go.wp_at_zero Go.wp_at_succ
attribute [local go_sem] Calm.C
attribute [local go_sem low] Calm.al_cell Calm.al_frozen
attribute [local irreducible] Ut.dc Ut.dd Ut.ev1 Ut.ev2 Ut.nm Ut.nl Ut.nh Ut.np Ut.nb Ut.whole
def L3 (a b c : Int) : Nat → Int := fun i => if i = 0 then a else if i = 1 then b else c
theorem lanes3 {W : World} {B : Nat} {t : TypeId} {x y z : Int} (hB : W.heap.size = B) : 0 < 3 → ∃ b o, some (⟨B, 0, none⟩ : Addr) = some ⟨b, o, none⟩ ∧ ∀ i, i < 3 → (W.alloc (.cells #[.int .i64 x, .int .i64 y, .int .i64 z] t)).cell? ⟨b, o + i, none⟩ = some (.int .i64 (L3 x y z i)) := by
  intro _
  refine ⟨B, 0, rfl, fun i hi => ?_⟩
  subst hB
  rw [Nat.zero_add]
  refine ((Blk.new W t _).cell i).trans ?_
  rcases (by omega : i = 0 ∨ i = 1 ∨ i = 2) with rfl | rfl | rfl <;> rfl
theorem late2 {X : Exit → Act → World → Prop} {e : Exit} {a : Act} {W' : World} {m q : Nat} (hp : (a.put (some 17) (.pointer (some ⟨m, 0, none⟩))).put (some 18) (.pointer (some ⟨q, 0, none⟩)) = a) (P : Nat → Nat → World → Prop) (h : P m q W')
    (k : ∀ m q W2, P m q W2 → X e ((a.put (some 17) (.pointer (some ⟨m, 0, none⟩))).put (some 18) (.pointer (some ⟨q, 0, none⟩))) W2) : X e a W' := hp ▸ k m q W' h
theorem not_lanes {r : Bool} {q : Prop} (h : r = true ↔ q) (hn : ¬ q) : r = false := by
  cases r
  · rfl
  · exact absurd (h.1 rfl) hn
theorem ret_sec_tmp {fn : Func} {R : Ending → World → Prop} {a : Act} {w : World} {t u : Tmp} {ad : Addr} {x : Int} {y : Value} (hr : fn.results = #[.cell t 32, .tmp u])
    (ht : a.tmps.getD t undef = .pointer (some ad)) (hu : a.tmps.getD u undef = y) (hc : w.cell? ad = some (.int .u32 x)) (hd : a.defers = [])
    (hR : R (.returned (.tuple #[.agg #[.int .u32 x], y])) w) : bodyPost Try.prog fn R .ret a w := by
  refine bodyPost_ret (v := .tuple #[.agg #[.int .u32 x], y]) ?_ hd hR
  have ht' : a.tmps[t]?.getD undef = .pointer (some ad) := by simpa using ht
  have hu' : a.tmps[u]?.getD undef = y := by simpa using hu
  simp [results, hr, ht', hu', go_sem, hc]
set_option maxRecDepth 10000 in
set_option maxHeartbeats 3200000 in
theorem Decode_any {w : World} {p g lp : Nat} {FL : Nat → Prop} {ws : List Int} {top : Nat} {evs : List Ev} (h : Ar w p g lp FL ws top evs) (inn n out keep len : Int) (he : evs.length < 1000000000000) :
    Calls Try.prog 27 #[.pointer (some ⟨p, 0, none⟩), .int .i64 inn, .int .i64 n, .agg #[.int .u32 len], .int .i64 out, .int .i64 keep] w fun e w' =>
      (¬ (0 ≤ n ∧ n ≤ 4096 ∧ Lanes top n (L3 inn out keep) 3) ∧ e = .returned (.tuple #[.agg #[.int .u32 0], .bool false]) ∧ Below w.heap.size w w') ∨
      (0 ≤ n ∧ n ≤ 4096 ∧ Lanes top n (L3 inn out keep) 3 ∧ e = .returned (.tuple #[.agg #[.int .u32 (Ut.bad (Ut.dc inn.toNat out.toNat keep.toNat len ws n.toNat).2)], .bool true]) ∧
        ∃ FL', Ar w' p g lp FL' (Ut.dd out.toNat keep.toNat (Ut.bad (Ut.dc inn.toNat out.toNat keep.toNat len ws n.toNat).2) (Ut.dc inn.toNat out.toNat keep.toNat len ws n.toNat).1 n.toNat) top (evs ++ Ut.ev1 inn.toNat out.toNat keep.toNat n.toNat ++ Ut.ev2 out.toNat keep.toNat n.toNat) ∧ Step (AF p g FL) (AF p g FL') w w') := by
  have HA := Lib.hid h
  have hmost := h.most
  have hold := foot_old hmost
  have HM := Lib.hid hmost
  clear h hmost
  by_cases h1 : n < 0
  · go_enter Try.func27, Try.ntmps27
    go_wp2_with (first | (go_at_call 28; refine (Of_any _ _).mono ?_; rintro e w1 ⟨rfl, hb⟩; have hcf := bcell hb; (try simp only [World.size_alloc, World.size_setCell, drew_size] at hcf); have hz := hb.size; (try simp only [World.size_alloc, World.size_setCell, World.size_drew] at hz); have hbh := Lib.hid hb; clear hb; obtain ⟨hc, hf⟩ := hcf))
    refine ret_sec_tmp (x := 0) (y := .bool false) rfl rfl rfl ?_ rfl (.inl ⟨by omega, rfl, ?_⟩)
    · simp [go_sem, ↓IntWalk.iteOmega, *]
    · (repeat' (first | with_reducible exact Below.refl _ _ | with_reducible refine bl_drewN ?_ _ | with_reducible refine bl_drew ?_ | refine bl_set (by (first | omega | (simp; done) | (simp; omega))) ?_ _ | refine bl_alloc (by (first | omega | (simp; done) | (simp; omega))) ?_ _ | refine bl_then (by assumption) ?_ (by (first | omega | (simp; done) | (simp; omega))) | refine Step.bl (by assumption) (by assumption) (by (first | omega | (simp; done) | (simp; omega))) (by (first | omega | (simp; done) | (simp; omega))) ?_))
  by_cases h2 : 4096 < n
  · have h1' : 0 ≤ n := by omega
    clear h1
    go_enter Try.func27, Try.ntmps27
    go_wp2_with (first | (go_at_call 28; refine (Of_any _ _).mono ?_; rintro e w1 ⟨rfl, hb⟩; have hcf := bcell hb; (try simp only [World.size_alloc, World.size_setCell, drew_size] at hcf); have hz := hb.size; (try simp only [World.size_alloc, World.size_setCell, World.size_drew] at hz); have hbh := Lib.hid hb; clear hb; obtain ⟨hc, hf⟩ := hcf))
    refine ret_sec_tmp (x := 0) (y := .bool false) rfl rfl rfl ?_ rfl (.inl ⟨by omega, rfl, ?_⟩)
    · simp [go_sem, ↓IntWalk.iteOmega, *]
    · (repeat' (first | with_reducible exact Below.refl _ _ | with_reducible refine bl_drewN ?_ _ | with_reducible refine bl_drew ?_ | refine bl_set (by (first | omega | (simp; done) | (simp; omega))) ?_ _ | refine bl_alloc (by (first | omega | (simp; done) | (simp; omega))) ?_ _ | refine bl_then (by assumption) ?_ (by (first | omega | (simp; done) | (simp; omega))) | refine Step.bl (by assumption) (by assumption) (by (first | omega | (simp; done) | (simp; omega))) (by (first | omega | (simp; done) | (simp; omega))) ?_))
  have h1' : 0 ≤ n := by omega
  have h2' : n ≤ 4096 := by omega
  clear h1 h2
  by_cases hL : Lanes top n (L3 inn out keep) 3
  · obtain ⟨h3, -⟩ := hL 0 (by decide)
    obtain ⟨h4, -⟩ := hL 1 (by decide)
    obtain ⟨h5, -⟩ := hL 2 (by decide)
    simp only [L3, Fit] at h3 h4 h5
    rw [if_pos trivial] at h3
    rw [if_neg (by decide), if_pos trivial] at h4
    rw [if_neg (by decide), if_neg (by decide)] at h5
    have htop : (top : Int) ≤ 4194304 := by have := HA.out.ht; have := HA.out.hz; omega
    have HL := Lib.hid hL
    clear hL
    obtain ⟨n, rfl⟩ := Int.eq_ofNat_of_zero_le h1'
    obtain ⟨inn, rfl⟩ := Int.eq_ofNat_of_zero_le h3.1
    obtain ⟨out, rfl⟩ := Int.eq_ofNat_of_zero_le h4.1
    obtain ⟨keep, rfl⟩ := Int.eq_ofNat_of_zero_le h5.1
    simp only [Int.toNat_natCast]
    go_enter Try.func27, Try.ntmps27
    go_wp2_with (go_at_call 59; with_reducible refine' Calls.mono (uApart_any ?_ _ _ 3 3 (L3 inn out keep) ?_ ?_ ?_) ?_; rotate_left 6; (next => (repeat' (first | with_reducible exact HA.out | with_reducible refine' Ar.drewN ?_ _ | with_reducible refine' Ar.drew ?_ | with_reducible refine' Ar.farE ?_ ?_ _ | with_reducible refine' Ar.alloc ?_ _ | with_reducible refine' Ar.below ?_ (by assumption))); (try (all_goals (simp [*, ↓IntWalk.iteOmega]; first | done | fail))); (first | done | fail)); (next => exact lanes3 (by simp)); (next => decide); (next => decide); rintro e w2 ⟨r, rfl, hr, hw⟩; replace hw := hw.symm; subst hw; obtain rfl : r = true := hr.2 HL.out; clear hr)
    obtain ⟨W0, hW0⟩ : ∃ W0, (((w.alloc (.cells #[.int .u32 len] 32)).alloc (.cells #[.int .u32 0] 32)).alloc (.cells #[.int .i64 inn, .int .i64 out, .int .i64 keep] 3)).alloc (.cells #[.int .u32 0, .int .u32 0, .int .u32 0, .int .u32 0, .int .u32 0] 96) = W0 := ⟨_, rfl⟩
    rw [hW0]
    have hz0 : W0.heap.size = w.heap.size + 4 := by rw [← hW0]; simp
    have HA0 : Hid (Ar W0 p g lp FL ws top evs) := by
      rw [← hW0]
      exact Lib.hid ((((HA.out.alloc _).alloc _).alloc _).alloc _)
    have N0 : ∀ i, w.heap.size ≤ i → ¬ AF p g FL i := fun i hi hf => by
      have := HA.out.most i hf
      omega
    have S0 : Hid (Step (AF p g FL) (AF p g FL) w W0) := by
      rw [← hW0]
      exact Lib.hid ((((HA.out.step0.alloc _).alloc _).alloc _).alloc _)
    go_loopw [39] (fun i wr => ∃ (k : Nat) (F : Nat → Prop) (E : List Ev) (V : List Int) (s : Ut.S), k ≤ n ∧ i = .int .i64 k ∧ Ut.dc inn out keep len ws k = (V, s) ∧ E = evs ++ Ut.ev1 inn out keep k ∧ Ar wr p g lp F V top E ∧ Step (AF p g FL) (AF p g F) w wr ∧ ¬ AF p g F w.heap.size ∧ ¬ AF p g F (w.heap.size + 1) ∧ ¬ AF p g F (w.heap.size + 3) ∧
      wr.cell? ⟨w.heap.size, 0, none⟩ = some (.int .u32 len) ∧ wr.cell? ⟨w.heap.size + 1, 0, none⟩ = some (.int .u32 0) ∧ wr.cell? ⟨w.heap.size + 3, 0, none⟩ = some (.int .u32 s.m) ∧ wr.cell? ⟨w.heap.size + 3, 1, none⟩ = some (.int .u32 s.l) ∧ wr.cell? ⟨w.heap.size + 3, 2, none⟩ = some (.int .u32 s.h) ∧ wr.cell? ⟨w.heap.size + 3, 3, none⟩ = some (.int .u32 s.p) ∧ wr.cell? ⟨w.heap.size + 3, 4, none⟩ = some (.int .u32 s.b) ∧
      wr.frozen? ⟨w.heap.size + 1, 0, none⟩ = false ∧ ∀ j, wr.frozen? ⟨w.heap.size + 3, j, none⟩ = false) (fun i _ => n - (intOf i).toNat)
    case atStart =>
      refine ⟨0, FL, evs, ws, ⟨0, 0, 0, 0, 0⟩, Nat.zero_le _, rfl, Ut.dc_zero _ _ _ _ _, by rw [Ut.ev1_zero, List.append_nil], HA0.out, S0.out, N0 _ (Nat.le_refl _), N0 _ (by omega), N0 _ (by omega), ?_, ?_, ?_, ?_, ?_, ?_, ?_, ?_, ?_⟩
      all_goals (try intro j)
      all_goals (rw [← hW0]; simp [go_sem, ↓IntWalk.iteOmega])
    case round =>
      clear hW0
      obtain ⟨k, F, E, V, s, hk, rfl, hdc, hE, hA, hS, n1, n2, n3, c0, c1, c2, c3, c4, c5, c6, f1, f2⟩ := hrel
      have HA := Lib.hid hA
      have HS := Lib.hid hS
      obtain ⟨-, -, hn⟩ := hS.rules
      have hzr := hS.size
      have m1 : FX (AF p g F) w.heap.size = False := eq_false n1
      have m2 : FX (AF p g F) (w.heap.size + 1) = False := eq_false n2
      have m3 : FX (AF p g F) (w.heap.size + 3) = False := eq_false n3
      have hzr4 : w.heap.size + 4 ≤ wr.heap.size := World.block_lt_of_cell? wr ⟨w.heap.size + 3, 0, none⟩ c2
      clear n1 n2 n3
      have hEl : E.length = evs.length + 3 * k := by rw [hE, List.length_append, Ut.ev1_len]
      have HE := Lib.hid hE
      have HD := Lib.hid hdc
      clear hA hS hE hdc
      by_cases hkn : k < n
      · have hkm : (k : Int) % 4294967296 = k := by omega
        go_wp2_with (first | (go_at_call 52; with_reducible refine' Calls.mono (ALoad_s ?_ ?_ _ _ ?_) ?_; rotate_left 6; (next => (repeat' (first | with_reducible exact HA.out | with_reducible refine' Ar.drewN ?_ _ | with_reducible refine' Ar.drew ?_ | with_reducible refine' Ar.farE ?_ ?_ _ | with_reducible refine' Ar.alloc ?_ _ | with_reducible refine' Ar.below ?_ (by assumption))); (try (all_goals (simp [*, ↓IntWalk.iteOmega]; first | done | fail))); (first | done | fail)); (next => (first | omega | (simp only [List.length_append, List.length_cons, List.length_nil]; omega))); (next => omega); rintro e wl ⟨rfl, F1, hA1, hs1⟩; obtain ⟨hc_wl, hf_wl, hn⟩ := hs1.rules; (try simp only [World.size_alloc, World.size_setCell, drew_size] at hc_wl hf_wl hn); have hz_wl := hs1.size; (try simp only [World.size_alloc, World.size_setCell, World.size_drew] at hz_wl); have hst := Lib.hid hs1; have HA := Lib.hid hA1; clear hA1 hs1) | (go_at_call 28; refine (Of_any _ _).mono ?_; rintro e wo ⟨rfl, hb⟩; have hcf_wo := bcell hb; (try simp only [World.size_alloc, World.size_setCell, drew_size] at hcf_wo); have hz_wo := hb.size; (try simp only [World.size_alloc, World.size_setCell, World.size_drew] at hz_wo); have hbh_wo := Lib.hid hb; clear hb; obtain ⟨hc_wo, hf_wo⟩ := hcf_wo) | (go_at_call 50; refine (And_any _ _ _).mono ?_; rintro e wa ⟨rfl, hb⟩; have hcf_wa := bcell hb; (try simp only [World.size_alloc, World.size_setCell, drew_size] at hcf_wa); have hz_wa := hb.size; (try simp only [World.size_alloc, World.size_setCell, World.size_drew] at hz_wa); have hbh_wa := Lib.hid hb; clear hb; obtain ⟨hc_wa, hf_wa⟩ := hcf_wa))
        obtain ⟨x, hx⟩ : ∃ x, Ct.And (V[inn + k]?.getD 0) 255 = x := ⟨_, rfl⟩
        rw [hx]
        obtain ⟨W1, hW1⟩ : ∃ W1, wa.alloc (.cells #[.int .u32 x] 32) = W1 := ⟨_, rfl⟩
        obtain ⟨b16, hb16⟩ : ∃ b16, wa.heap.size = b16 := ⟨_, rfl⟩
        rw [hW1, hb16]
        have d0 : W1.cell? ⟨w.heap.size, 0, none⟩ = some (.int .u32 len) := by
          rw [← hW1]
          clear hW1
          simp (maxDischargeDepth := 10) [go_sem, ↓IntWalk.iteOmega, *]
        have d1 : W1.cell? ⟨w.heap.size + 1, 0, none⟩ = some (.int .u32 0) := by
          rw [← hW1]
          clear hW1
          simp (maxDischargeDepth := 10) [go_sem, ↓IntWalk.iteOmega, *]
        have d2 : W1.cell? ⟨w.heap.size + 3, 0, none⟩ = some (.int .u32 s.m) := by
          rw [← hW1]
          clear hW1
          simp (maxDischargeDepth := 10) [go_sem, ↓IntWalk.iteOmega, *]
        have d3 : W1.cell? ⟨w.heap.size + 3, 1, none⟩ = some (.int .u32 s.l) := by
          rw [← hW1]
          clear hW1
          simp (maxDischargeDepth := 10) [go_sem, ↓IntWalk.iteOmega, *]
        have d4 : W1.cell? ⟨w.heap.size + 3, 2, none⟩ = some (.int .u32 s.h) := by
          rw [← hW1]
          clear hW1
          simp (maxDischargeDepth := 10) [go_sem, ↓IntWalk.iteOmega, *]
        have d5 : W1.cell? ⟨w.heap.size + 3, 3, none⟩ = some (.int .u32 s.p) := by
          rw [← hW1]
          clear hW1
          simp (maxDischargeDepth := 10) [go_sem, ↓IntWalk.iteOmega, *]
        have d6 : W1.cell? ⟨w.heap.size + 3, 4, none⟩ = some (.int .u32 s.b) := by
          rw [← hW1]
          clear hW1
          simp (maxDischargeDepth := 10) [go_sem, ↓IntWalk.iteOmega, *]
        have d7 : W1.cell? ⟨b16, 0, none⟩ = some (.int .u32 x) := by
          rw [← hW1]
          clear hW1
          rw [← hb16]
          clear hb16
          simp (maxDischargeDepth := 10) [go_sem, ↓IntWalk.iteOmega, *]
        have e1 : W1.frozen? ⟨w.heap.size + 1, 0, none⟩ = false := by
          rw [← hW1]
          clear hW1
          simp (maxDischargeDepth := 10) [go_sem, ↓IntWalk.iteOmega, *]
        have e2 : ∀ j, W1.frozen? ⟨w.heap.size + 3, j, none⟩ = false := by
          rw [← hW1]
          clear hW1
          intro j
          simp (maxDischargeDepth := 10) [go_sem, ↓IntWalk.iteOmega, *]
        have hzW1 : w.heap.size + 4 < W1.heap.size ∧ b16 < W1.heap.size := by
          rw [← hW1]
          simp
          omega
        obtain ⟨hzW1, hzb⟩ := hzW1
        have HA1 : Hid (Ar W1 p g lp F1 V top (E ++ [⟨1, ((inn + k : Nat) : Int), 0⟩])) := by
          rw [← hW1]
          exact Lib.hid (((HA.out.below hbh_wo).below hbh_wa).alloc _)
        have N1 : Hid (¬ AF p g F1 w.heap.size ∧ ¬ AF p g F1 (w.heap.size + 1) ∧ ¬ AF p g F1 (w.heap.size + 3)) := by
          refine Lib.hid ⟨?_, ?_, ?_⟩
          all_goals (intro hfoot; simp [*, ↓IntWalk.iteOmega] at hfoot)
        have S1 : Hid (Step (AF p g FL) (AF p g F1) w W1) := by
          rw [← hW1]
          exact Lib.hid ((Step.thenB hbh_wa (Step.thenB hbh_wo (HS.out.trans hst.out))).alloc _)
        clear hc_wl hf_wl hc_wo hf_wo hc_wa hf_wa hn hW1 hbh_wo hbh_wa hst HA c0 c1 c2 c3 c4 c5 c6 f1 f2 hz_wl hz_wo hz_wa hb16 HS
        have HA := HA1
        clear HA1
        have hnF := foot_old HA.out.most
        go_region_held3 (fun w' => w'.cell? ⟨w.heap.size + 3, 0, none⟩ = some (.int .u32 s.m) ∧ w'.cell? ⟨w.heap.size + 3, 1, none⟩ = some (.int .u32 s.l) ∧ w'.cell? ⟨w.heap.size + 3, 2, none⟩ = some (.int .u32 s.h) ∧ w'.cell? ⟨w.heap.size + 3, 3, none⟩ = some (.int .u32 s.p) ∧ w'.cell? ⟨w.heap.size + 3, 4, none⟩ = some (.int .u32 s.b) ∧ w'.cell? ⟨w.heap.size, 0, none⟩ = some (.int .u32 len) ∧ w'.cell? ⟨b16, 0, none⟩ = some (.int .u32 x)) ((simp [go_sem, ↓IntWalk.iteOmega, *]; done)) (first | (go_at_call 28; refine (Of_any _ _).mono ?_; rintro e w1 ⟨rfl, hb⟩; have hcf := bcell hb; (try simp only [World.size_alloc, World.size_setCell, drew_size] at hcf); have hz := hb.size; (try simp only [World.size_alloc, World.size_setCell, World.size_drew] at hz); have hbh := Lib.hid hb; clear hb; obtain ⟨hc, hf⟩ := hcf) | (go_at_call 48; refine (Lt_any _ _ _).mono ?_; rintro e w1 ⟨rfl, hb⟩; have hcf := bcell hb; (try simp only [World.size_alloc, World.size_setCell, drew_size] at hcf); have hz := hb.size; (try simp only [World.size_alloc, World.size_setCell, World.size_drew] at hz); have hbh := Lib.hid hb; clear hb; obtain ⟨hc, hf⟩ := hcf) | (go_at_call 60; refine (uStep_any _ _ _ _).mono ?_; rintro e w1 ⟨rfl, hb⟩; have hcf := bcell hb; (try simp only [World.size_alloc, World.size_setCell, drew_size] at hcf); have hz := hb.size; (try simp only [World.size_alloc, World.size_setCell, World.size_drew] at hz); have hbh := Lib.hid hb; clear hb; obtain ⟨hc, hf⟩ := hcf))
        all_goals
          refine late2 (X := Exit.then _ _) rfl (fun m q W2 => Ar W2 p g lp F1 V top (E ++ [⟨1, ((inn + k : Nat) : Int), 0⟩]) ∧ Step (AF p g FL) (AF p g F1) w W2 ∧ ¬ AF p g F1 w.heap.size ∧ ¬ AF p g F1 (w.heap.size + 1) ∧ ¬ AF p g F1 (w.heap.size + 3) ∧ ¬ AF p g F1 m ∧ ¬ AF p g F1 q ∧ m < W2.heap.size ∧ q < W2.heap.size ∧ w.heap.size + 4 ≤ m ∧ w.heap.size + 4 ≤ q ∧
            W2.cell? ⟨m, 0, none⟩ = some (.int .u32 (Ut.nm s x (Ct.Lt (↑k) len))) ∧ W2.cell? ⟨m, 1, none⟩ = some (.int .u32 (Ut.nl s x (Ct.Lt (↑k) len))) ∧ W2.cell? ⟨m, 2, none⟩ = some (.int .u32 (Ut.nh s x (Ct.Lt (↑k) len))) ∧ W2.cell? ⟨m, 3, none⟩ = some (.int .u32 (Ut.np s x (Ct.Lt (↑k) len))) ∧ W2.cell? ⟨m, 4, none⟩ = some (.int .u32 (Ut.nb s x (Ct.Lt (↑k) len))) ∧ W2.cell? ⟨q, 0, none⟩ = some (.int .u32 (Ut.whole s x (Ct.Lt (↑k) len))) ∧
            W2.cell? ⟨w.heap.size, 0, none⟩ = some (.int .u32 len) ∧ W2.cell? ⟨w.heap.size + 1, 0, none⟩ = some (.int .u32 0) ∧ W2.cell? ⟨w.heap.size + 3, 0, none⟩ = some (.int .u32 s.m) ∧ W2.cell? ⟨w.heap.size + 3, 1, none⟩ = some (.int .u32 s.l) ∧ W2.cell? ⟨w.heap.size + 3, 2, none⟩ = some (.int .u32 s.h) ∧ W2.cell? ⟨w.heap.size + 3, 3, none⟩ = some (.int .u32 s.p) ∧ W2.cell? ⟨w.heap.size + 3, 4, none⟩ = some (.int .u32 s.b) ∧
            W2.frozen? ⟨w.heap.size + 1, 0, none⟩ = false ∧ ∀ j, W2.frozen? ⟨w.heap.size + 3, j, none⟩ = false) ⟨?_, ?_, ?_, ?_, ?_, ?_, ?_, ?_, ?_, ?_, ?_, ?_, ?_, ?_, ?_, ?_, ?_, ?_, ?_, ?_, ?_, ?_, ?_, ?_, ?_, ?_⟩ ?_
          · (repeat' (first | with_reducible exact HA.out | with_reducible refine' Ar.drewN ?_ _ | with_reducible refine' Ar.drew ?_ | with_reducible refine' Ar.farE ?_ ?_ _ | with_reducible refine' Ar.alloc ?_ _ | with_reducible refine' Ar.below ?_ (by assumption))); (try (all_goals (simp [*, ↓IntWalk.iteOmega]; first | done | fail))); (first | done | fail)
          · have hmost := HM.out
            have S1' := S1.out
            (repeat' (first | exact Step.refl (by assumption) | refine Step.set_ (by (first | omega | (simp; done) | (simp; omega))) ?_ _ | refine Step.alloc ?_ _ | refine Step.drewN ?_ _ | refine Step.drew ?_ | refine Step.then_ (by assumption) ?_ | refine Step.thenB (by assumption) ?_))
          · exact N1.out.1
          · exact N1.out.2.1
          · exact N1.out.2.2
          · exact fun hf => absurd (HA.out.most _ hf) (by omega)
          · exact fun hf => absurd (HA.out.most _ hf) (by omega)
          · first | (simp; done) | (simp; omega)
          · first | (simp; done) | (simp; omega)
          · omega
          · omega
          · first | (simp (maxDischargeDepth := 10) [go_sem, ↓IntWalk.iteOmega, *]; done) | (simp (maxDischargeDepth := 10) [go_sem, ↓IntWalk.iteOmega, *]; intro h; exfalso; omega) | (intro j; simp (maxDischargeDepth := 10) [go_sem, ↓IntWalk.iteOmega, *]; done) | (intro j; simp (maxDischargeDepth := 10) [go_sem, ↓IntWalk.iteOmega, *]; intro h; exfalso; omega)
          · first | (simp (maxDischargeDepth := 10) [go_sem, ↓IntWalk.iteOmega, *]; done) | (simp (maxDischargeDepth := 10) [go_sem, ↓IntWalk.iteOmega, *]; intro h; exfalso; omega) | (intro j; simp (maxDischargeDepth := 10) [go_sem, ↓IntWalk.iteOmega, *]; done) | (intro j; simp (maxDischargeDepth := 10) [go_sem, ↓IntWalk.iteOmega, *]; intro h; exfalso; omega)
          · first | (simp (maxDischargeDepth := 10) [go_sem, ↓IntWalk.iteOmega, *]; done) | (simp (maxDischargeDepth := 10) [go_sem, ↓IntWalk.iteOmega, *]; intro h; exfalso; omega) | (intro j; simp (maxDischargeDepth := 10) [go_sem, ↓IntWalk.iteOmega, *]; done) | (intro j; simp (maxDischargeDepth := 10) [go_sem, ↓IntWalk.iteOmega, *]; intro h; exfalso; omega)
          · first | (simp (maxDischargeDepth := 10) [go_sem, ↓IntWalk.iteOmega, *]; done) | (simp (maxDischargeDepth := 10) [go_sem, ↓IntWalk.iteOmega, *]; intro h; exfalso; omega) | (intro j; simp (maxDischargeDepth := 10) [go_sem, ↓IntWalk.iteOmega, *]; done) | (intro j; simp (maxDischargeDepth := 10) [go_sem, ↓IntWalk.iteOmega, *]; intro h; exfalso; omega)
          · first | (simp (maxDischargeDepth := 10) [go_sem, ↓IntWalk.iteOmega, *]; done) | (simp (maxDischargeDepth := 10) [go_sem, ↓IntWalk.iteOmega, *]; intro h; exfalso; omega) | (intro j; simp (maxDischargeDepth := 10) [go_sem, ↓IntWalk.iteOmega, *]; done) | (intro j; simp (maxDischargeDepth := 10) [go_sem, ↓IntWalk.iteOmega, *]; intro h; exfalso; omega)
          · first | (simp (maxDischargeDepth := 10) [go_sem, ↓IntWalk.iteOmega, *]; done) | (simp (maxDischargeDepth := 10) [go_sem, ↓IntWalk.iteOmega, *]; intro h; exfalso; omega) | (intro j; simp (maxDischargeDepth := 10) [go_sem, ↓IntWalk.iteOmega, *]; done) | (intro j; simp (maxDischargeDepth := 10) [go_sem, ↓IntWalk.iteOmega, *]; intro h; exfalso; omega)
          · first | (simp (maxDischargeDepth := 10) [go_sem, ↓IntWalk.iteOmega, *]; done) | (simp (maxDischargeDepth := 10) [go_sem, ↓IntWalk.iteOmega, *]; intro h; exfalso; omega) | (intro j; simp (maxDischargeDepth := 10) [go_sem, ↓IntWalk.iteOmega, *]; done) | (intro j; simp (maxDischargeDepth := 10) [go_sem, ↓IntWalk.iteOmega, *]; intro h; exfalso; omega)
          · first | (simp (maxDischargeDepth := 10) [go_sem, ↓IntWalk.iteOmega, *]; done) | (simp (maxDischargeDepth := 10) [go_sem, ↓IntWalk.iteOmega, *]; intro h; exfalso; omega) | (intro j; simp (maxDischargeDepth := 10) [go_sem, ↓IntWalk.iteOmega, *]; done) | (intro j; simp (maxDischargeDepth := 10) [go_sem, ↓IntWalk.iteOmega, *]; intro h; exfalso; omega)
          · first | (simp (maxDischargeDepth := 10) [go_sem, ↓IntWalk.iteOmega, *]; done) | (simp (maxDischargeDepth := 10) [go_sem, ↓IntWalk.iteOmega, *]; intro h; exfalso; omega) | (intro j; simp (maxDischargeDepth := 10) [go_sem, ↓IntWalk.iteOmega, *]; done) | (intro j; simp (maxDischargeDepth := 10) [go_sem, ↓IntWalk.iteOmega, *]; intro h; exfalso; omega)
          · first | (simp (maxDischargeDepth := 10) [go_sem, ↓IntWalk.iteOmega, *]; done) | (simp (maxDischargeDepth := 10) [go_sem, ↓IntWalk.iteOmega, *]; intro h; exfalso; omega) | (intro j; simp (maxDischargeDepth := 10) [go_sem, ↓IntWalk.iteOmega, *]; done) | (intro j; simp (maxDischargeDepth := 10) [go_sem, ↓IntWalk.iteOmega, *]; intro h; exfalso; omega)
          · first | (simp (maxDischargeDepth := 10) [go_sem, ↓IntWalk.iteOmega, *]; done) | (simp (maxDischargeDepth := 10) [go_sem, ↓IntWalk.iteOmega, *]; intro h; exfalso; omega) | (intro j; simp (maxDischargeDepth := 10) [go_sem, ↓IntWalk.iteOmega, *]; done) | (intro j; simp (maxDischargeDepth := 10) [go_sem, ↓IntWalk.iteOmega, *]; intro h; exfalso; omega)
          · first | (simp (maxDischargeDepth := 10) [go_sem, ↓IntWalk.iteOmega, *]; done) | (simp (maxDischargeDepth := 10) [go_sem, ↓IntWalk.iteOmega, *]; intro h; exfalso; omega) | (intro j; simp (maxDischargeDepth := 10) [go_sem, ↓IntWalk.iteOmega, *]; done) | (intro j; simp (maxDischargeDepth := 10) [go_sem, ↓IntWalk.iteOmega, *]; intro h; exfalso; omega)
          · first | (simp (maxDischargeDepth := 10) [go_sem, ↓IntWalk.iteOmega, *]; done) | (simp (maxDischargeDepth := 10) [go_sem, ↓IntWalk.iteOmega, *]; intro h; exfalso; omega) | (intro j; simp (maxDischargeDepth := 10) [go_sem, ↓IntWalk.iteOmega, *]; done) | (intro j; simp (maxDischargeDepth := 10) [go_sem, ↓IntWalk.iteOmega, *]; intro h; exfalso; omega)
          · first | (simp (maxDischargeDepth := 10) [go_sem, ↓IntWalk.iteOmega, *]; done) | (simp (maxDischargeDepth := 10) [go_sem, ↓IntWalk.iteOmega, *]; intro h; exfalso; omega) | (intro j; simp (maxDischargeDepth := 10) [go_sem, ↓IntWalk.iteOmega, *]; done) | (intro j; simp (maxDischargeDepth := 10) [go_sem, ↓IntWalk.iteOmega, *]; intro h; exfalso; omega)
          · first | (simp (maxDischargeDepth := 10) [go_sem, ↓IntWalk.iteOmega, *]; done) | (simp (maxDischargeDepth := 10) [go_sem, ↓IntWalk.iteOmega, *]; intro h; exfalso; omega) | (intro j; simp (maxDischargeDepth := 10) [go_sem, ↓IntWalk.iteOmega, *]; done) | (intro j; simp (maxDischargeDepth := 10) [go_sem, ↓IntWalk.iteOmega, *]; intro h; exfalso; omega)
          · clear hnF
            rintro m q W2 ⟨hA2, hS2, n1, n2, n3, hm1, hq1, hml, hql, hmw, hqw, y0, y1, y2, y3, y4, yq, d0, d1, d2, d3, d4, d5, d6, e1, e2⟩
            have HA := Lib.hid hA2
            obtain ⟨-, -, hn0⟩ := hS2.rules
            have hnm : FX (AF p g F1) m = False := eq_false hm1
            have hnq : FX (AF p g F1) q = False := eq_false hq1
            have m1 : FX (AF p g F1) w.heap.size = False := eq_false n1
            have m2 : FX (AF p g F1) (w.heap.size + 1) = False := eq_false n2
            have m3 : FX (AF p g F1) (w.heap.size + 3) = False := eq_false n3
            have HS := Lib.hid hS2
            have z2 := hS2.size
            clear hA2 hS2 n1 n2 n3 hm1 hq1
            go_wp2_with (first | (go_at_call 49; with_reducible refine' Calls.mono (AStore_s ?_ ?_ _ _ ?_ _) ?_; rotate_left 6; (next => (repeat' (first | with_reducible exact HA.out | with_reducible refine' Ar.drewN ?_ _ | with_reducible refine' Ar.drew ?_ | with_reducible refine' Ar.farE ?_ ?_ _ | with_reducible refine' Ar.alloc ?_ _ | with_reducible refine' Ar.below ?_ (by assumption))); (try (all_goals (simp [*, ↓IntWalk.iteOmega]; first | done | fail))); (first | done | fail)); (next => (first | omega | (simp only [List.length_append, List.length_cons, List.length_nil]; omega))); (next => omega); rintro e w1 ⟨rfl, F1, hA1, hs1⟩; obtain ⟨hc, hf, hn⟩ := hs1.rules; (try simp only [World.size_alloc, World.size_setCell, drew_size] at hc hf hn); have hz := hs1.size; (try simp only [World.size_alloc, World.size_setCell, World.size_drew] at hz); have hst := Lib.hid hs1; have HA := Lib.hid hA1; clear hA1 hs1) | (go_at_call 50; refine (And_any _ _ _).mono ?_; rintro e w1 ⟨rfl, hb⟩; have hcf := bcell hb; (try simp only [World.size_alloc, World.size_setCell, drew_size] at hcf); have hz := hb.size; (try simp only [World.size_alloc, World.size_setCell, World.size_drew] at hz); have hbh := Lib.hid hb; clear hb; obtain ⟨hc, hf⟩ := hcf))
            refine ⟨⟨k + 1, F1, _, _, Ut.next s x (Ct.Lt (↑k) len), by omega, by go_num, ?_, ?_, by (repeat' (first | with_reducible exact HA.out | with_reducible refine' Ar.drewN ?_ _ | with_reducible refine' Ar.drew ?_ | with_reducible refine' Ar.farE ?_ ?_ _ | with_reducible refine' Ar.alloc ?_ _ | with_reducible refine' Ar.below ?_ (by assumption))); (try (all_goals (simp [*, ↓IntWalk.iteOmega]; first | done | fail))); (first | done | fail), ?_, ?_, ?_, ?_, ?_, ?_, ?_, ?_, ?_, ?_, ?_, ?_, ?_⟩, by simp [intOf]; omega⟩
            · rw [Ut.dc_succ _ _ _ _ _ _ _ _ HD.out, List.getD_eq_getElem?_getD, hx]
            · rw [HE.out, Ut.ev1_succ]; simp
            · have hmost := HM.out
              (repeat' (first | exact Step.refl (by assumption) | refine Step.set_ (by (first | omega | (simp; done) | (simp; omega))) ?_ _ | refine Step.alloc ?_ _ | refine Step.drewN ?_ _ | refine Step.drew ?_ | refine Step.then_ (by assumption) ?_ | refine Step.thenB (by assumption) ?_))
            · (intro hfoot; simp [*, ↓IntWalk.iteOmega] at hfoot)
            · (intro hfoot; simp [*, ↓IntWalk.iteOmega] at hfoot)
            · (intro hfoot; simp [*, ↓IntWalk.iteOmega] at hfoot)
            · simp [go_sem, ↓IntWalk.iteOmega, *]
            · simp [go_sem, ↓IntWalk.iteOmega, *]
            · simp (maxDischargeDepth := 10) [go_sem, ↓IntWalk.iteOmega, *, Ut.next]
            · simp (maxDischargeDepth := 10) [go_sem, ↓IntWalk.iteOmega, *, Ut.next]
            · simp (maxDischargeDepth := 10) [go_sem, ↓IntWalk.iteOmega, *, Ut.next]
            · simp (maxDischargeDepth := 10) [go_sem, ↓IntWalk.iteOmega, *, Ut.next]
            · simp (maxDischargeDepth := 10) [go_sem, ↓IntWalk.iteOmega, *, Ut.next]
            · simp [go_sem, ↓IntWalk.iteOmega, *]
            · intro j; simp (maxDischargeDepth := 10) [go_sem, ↓IntWalk.iteOmega, *]
      · have hge : n ≤ k := by omega
        go_wp2_with fail
        (refine Calm.go 8 (by kernel_rfl) (by kernel_rfl) (by kernel_rfl) ?_; intro w0 hw0; have hr := Calm.rule hw0; simp only [Calm.heads, Calm.isAlloc]; haveI hnon : Nonempty (Ext (Below w0.heap.size w0)) := ⟨⟨w0, Below.refl _ _⟩⟩; (repeat (go_big_quiet_step (first | (go_at_call 62; exact Ext.calm below_calm (Zero_any _ _)) | (go_at_call 51; exact Ext.calm below_calm (Not_any _ _)) | (go_at_call 61; exact Ext.calm below_calm (Or_any _ _ _))))); refine wpQuiet_nil ?_; clear hnon hr hw0; clear w0; (repeat refine Calm.n_skip rfl ?_); refine Calm.n_new rfl ?_; intro pB1 hpB1 hqB1; (repeat refine Calm.n_skip rfl ?_); refine Calm.n_zero ?_; intro WB hbB hsB; simp only [List.drop_succ_cons, List.drop_zero]; obtain ⟨hcB, hfB⟩ := bcell hbB; (try simp only [World.size_alloc, World.size_setCell, drew_size] at hcB hfB); have hzB := hbB.size; have hbhB := Lib.hid hbB; obtain ⟨hxB1, hyB1, hlB1⟩ := Calm.boxed hsB (p := pB1) (.head _) (by first | exact box_sec | exact box_sec3 | exact box_ust); clear hqB1; clear hsB hbB; (try simp only [World.size_alloc, World.size_setCell, World.size_drew] at hzB hpB1))
        go_wp2_with fail
        obtain ⟨y, hy⟩ : ∃ y, Ut.bad s = y := ⟨_, rfl⟩
        have hy' : Ct.Or s.b (Ct.Not (Ct.Zero s.m)) = y := hy
        rw [hy']
        obtain ⟨W3, hW3⟩ : ∃ W3, WB.setCell ⟨pB1, 0, none⟩ (.int .u32 y) = W3 := ⟨_, rfl⟩
        rw [hW3]
        have d0 : W3.cell? ⟨pB1, 0, none⟩ = some (.int .u32 y) := by
          rw [← hW3]
          clear hW3
          simp (maxDischargeDepth := 10) [go_sem, ↓IntWalk.iteOmega, *]
        have d1 : W3.cell? ⟨w.heap.size + 1, 0, none⟩ = some (.int .u32 0) := by
          rw [← hW3]
          clear hW3
          simp (maxDischargeDepth := 10) [go_sem, ↓IntWalk.iteOmega, *]
        have d2 : W3.frozen? ⟨w.heap.size + 1, 0, none⟩ = false := by
          rw [← hW3]
          clear hW3
          simp (maxDischargeDepth := 10) [go_sem, ↓IntWalk.iteOmega, *]
        have n1 : AF p g F pB1 = False := by
          rw [hn]
          simp (maxDischargeDepth := 10) [↓IntWalk.iteOmega, *]
        have n2 : AF p g F (w.heap.size + 1) = False := by simp [↓IntWalk.iteOmega, *]
        have HA3 : Hid (Ar W3 p g lp F V top E) := by
          rw [← hW3]
          refine Lib.hid ?_
          (repeat' (first | with_reducible exact HA.out | with_reducible refine' Ar.drewN ?_ _ | with_reducible refine' Ar.drew ?_ | with_reducible refine' Ar.farE ?_ ?_ _ | with_reducible refine' Ar.alloc ?_ _ | with_reducible refine' Ar.below ?_ (by assumption))); (try (all_goals (simp [*, ↓IntWalk.iteOmega]; first | done | fail))); (first | done | fail)
        have S3 : Hid (Step (AF p g FL) (AF p g F) w W3) := by
          rw [← hW3]
          refine Lib.hid ?_
          have hmost := HM.out
          have HS' := HS.out
          (repeat' (first | exact Step.refl (by assumption) | refine Step.set_ (by (first | omega | (simp; done) | (simp; omega))) ?_ _ | refine Step.alloc ?_ _ | refine Step.drewN ?_ _ | refine Step.drew ?_ | refine Step.then_ (by assumption) ?_ | refine Step.thenB (by assumption) ?_))
        have hp3 : pB1 < W3.heap.size := World.block_lt_of_cell? W3 ⟨pB1, 0, none⟩ d0
        have hpw : w.heap.size + 4 ≤ pB1 := by omega
        have q1 : FX (AF p g F) pB1 = False := n1
        have q2 : FX (AF p g F) (w.heap.size + 1) = False := n2
        clear hcB hfB hn hold hW3 hbhB HA HS n1 n2 c0 c1 c2 c3 c4 c5 c6 f1 f2 m1 m2 m3
        go_loopw [85] (fun i wr => ∃ (j : Nat) (F' : Nat → Prop) (E' : List Ev) (V' : List Int), j ≤ n ∧ i = .int .i64 j ∧ Ut.dd out keep y V j = V' ∧ E' = E ++ Ut.ev2 out keep j ∧ Ar wr p g lp F' V' top E' ∧ Step (AF p g FL) (AF p g F') w wr ∧ ¬ AF p g F' pB1 ∧ ¬ AF p g F' (w.heap.size + 1) ∧
          wr.cell? ⟨pB1, 0, none⟩ = some (.int .u32 y) ∧ wr.cell? ⟨w.heap.size + 1, 0, none⟩ = some (.int .u32 0) ∧ wr.frozen? ⟨w.heap.size + 1, 0, none⟩ = false) (fun i _ => n - (intOf i).toNat)
        case atStart => exact ⟨0, F, E, V, Nat.zero_le _, rfl, Ut.dd_zero _ _ _ _, by rw [Ut.ev2_zero, List.append_nil], HA3.out, S3.out, fun h => q1.mp h, fun h => q2.mp h, d0, d1, d2⟩
        case round =>
          rename World => wr2
          obtain ⟨j, F', E', V', hj, rfl, hdd, hE', hA, hS, n1, n2, c0, c1, f1⟩ := hrel
          have HA := Lib.hid hA
          obtain ⟨-, -, hn⟩ := hS.rules
          have HS := Lib.hid hS
          have hzr2 := hS.size
          have m1 : FX (AF p g F') pB1 = False := eq_false n1
          have m2 : FX (AF p g F') (w.heap.size + 1) = False := eq_false n2
          have hp4 : pB1 < wr2.heap.size := World.block_lt_of_cell? wr2 ⟨pB1, 0, none⟩ c0
          have hEl2 : E'.length = evs.length + 3 * k + 4 * j := by rw [hE', List.length_append, Ut.ev2_len, hEl]
          have HE2 := Lib.hid hE'
          have HD2 := Lib.hid hdd
          clear hA hS hE' hdd n1 n2
          by_cases hjn : j < n
          · go_wp2_with (first | (go_at_call 52; with_reducible refine' Calls.mono (ALoad_s ?_ ?_ _ _ ?_) ?_; rotate_left 6; (next => (repeat' (first | with_reducible exact HA.out | with_reducible refine' Ar.drewN ?_ _ | with_reducible refine' Ar.drew ?_ | with_reducible refine' Ar.farE ?_ ?_ _ | with_reducible refine' Ar.alloc ?_ _ | with_reducible refine' Ar.below ?_ (by assumption))); (try (all_goals (simp [*, ↓IntWalk.iteOmega]; first | done | fail))); (first | done | fail)); (next => (first | omega | (simp only [List.length_append, List.length_cons, List.length_nil]; omega))); (next => omega); rintro e w1 ⟨rfl, F1, hA1, hs1⟩; obtain ⟨hc, hf, hn⟩ := hs1.rules; (try simp only [World.size_alloc, World.size_setCell, drew_size] at hc hf hn); have hz := hs1.size; (try simp only [World.size_alloc, World.size_setCell, World.size_drew] at hz); have hst := Lib.hid hs1; have HA := Lib.hid hA1; clear hA1 hs1) | (go_at_call 49; with_reducible refine' Calls.mono (AStore_s ?_ ?_ _ _ ?_ _) ?_; rotate_left 6; (next => (repeat' (first | with_reducible exact HA.out | with_reducible refine' Ar.drewN ?_ _ | with_reducible refine' Ar.drew ?_ | with_reducible refine' Ar.farE ?_ ?_ _ | with_reducible refine' Ar.alloc ?_ _ | with_reducible refine' Ar.below ?_ (by assumption))); (try (all_goals (simp [*, ↓IntWalk.iteOmega]; first | done | fail))); (first | done | fail)); (next => (first | omega | (simp only [List.length_append, List.length_cons, List.length_nil]; omega))); (next => omega); rintro e w1 ⟨rfl, F1, hA1, hs1⟩; obtain ⟨hc, hf, hn⟩ := hs1.rules; (try simp only [World.size_alloc, World.size_setCell, drew_size] at hc hf hn); have hz := hs1.size; (try simp only [World.size_alloc, World.size_setCell, World.size_drew] at hz); have hst := Lib.hid hs1; have HA := Lib.hid hA1; clear hA1 hs1) | (go_at_call 51; refine (Not_any _ _).mono ?_; rintro e w1 ⟨rfl, hb⟩; have hcf := bcell hb; (try simp only [World.size_alloc, World.size_setCell, drew_size] at hcf); have hz := hb.size; (try simp only [World.size_alloc, World.size_setCell, World.size_drew] at hz); have hbh := Lib.hid hb; clear hb; obtain ⟨hc, hf⟩ := hcf) | (go_at_call 50; refine (And_any _ _ _).mono ?_; rintro e w1 ⟨rfl, hb⟩; have hcf := bcell hb; (try simp only [World.size_alloc, World.size_setCell, drew_size] at hcf); have hz := hb.size; (try simp only [World.size_alloc, World.size_setCell, World.size_drew] at hz); have hbh := Lib.hid hb; clear hb; obtain ⟨hc, hf⟩ := hcf))
            refine ⟨⟨j + 1, F1, _, _, by omega, by go_num, ?_, ?_, by (repeat' (first | with_reducible exact HA.out | with_reducible refine' Ar.drewN ?_ _ | with_reducible refine' Ar.drew ?_ | with_reducible refine' Ar.farE ?_ ?_ _ | with_reducible refine' Ar.alloc ?_ _ | with_reducible refine' Ar.below ?_ (by assumption))); (try (all_goals (simp [*, ↓IntWalk.iteOmega]; first | done | fail))); (first | done | fail), ?_, ?_, ?_, ?_, ?_, ?_⟩, by simp [intOf]; omega⟩
            · rw [Ut.dd_succ _ _ _ _ _ _ HD2.out]; simp only [List.getD_eq_getElem?_getD]
            · rw [HE2.out, Ut.ev2_succ]; simp
            · have hmost := HM.out
              (repeat' (first | exact Step.refl (by assumption) | refine Step.set_ (by (first | omega | (simp; done) | (simp; omega))) ?_ _ | refine Step.alloc ?_ _ | refine Step.drewN ?_ _ | refine Step.drew ?_ | refine Step.then_ (by assumption) ?_ | refine Step.thenB (by assumption) ?_))
            · (intro hfoot; simp [*, ↓IntWalk.iteOmega] at hfoot)
            · (intro hfoot; simp [*, ↓IntWalk.iteOmega] at hfoot)
            · simp [go_sem, ↓IntWalk.iteOmega, *]
            · simp [go_sem, ↓IntWalk.iteOmega, *]
            · simp [go_sem, ↓IntWalk.iteOmega, *]
          · have hge2 : n ≤ j := by omega
            go_wp2_with fail
            obtain rfl : k = n := by omega
            obtain rfl : j = k := by omega
            refine ret_sec_tmp (x := y) (y := .bool true) rfl rfl rfl (by simp [go_sem, ↓IntWalk.iteOmega, *]) rfl (.inr ⟨h1', h2', HL.out, ?_, F', ?_, ?_⟩)
            · rw [HD.out, hy]
            · rw [HD.out, hy, HD2.out, ← HE.out, ← HE2.out]
              (repeat' (first | with_reducible exact HA.out | with_reducible refine' Ar.drewN ?_ _ | with_reducible refine' Ar.drew ?_ | with_reducible refine' Ar.farE ?_ ?_ _ | with_reducible refine' Ar.alloc ?_ _ | with_reducible refine' Ar.below ?_ (by assumption))); (try (all_goals (simp [*, ↓IntWalk.iteOmega]; first | done | fail))); (first | done | fail)
            · have hmost := HM.out
              have HS' := HS.out
              (repeat' (first | exact Step.refl (by assumption) | refine Step.set_ (by (first | omega | (simp; done) | (simp; omega))) ?_ _ | refine Step.alloc ?_ _ | refine Step.drewN ?_ _ | refine Step.drew ?_ | refine Step.then_ (by assumption) ?_ | refine Step.thenB (by assumption) ?_))
  · go_enter Try.func27, Try.ntmps27
    go_wp2_with (first | (go_at_call 28; refine (Of_any _ _).mono ?_; rintro e w1 ⟨rfl, hb⟩; have hcf := bcell hb; (try simp only [World.size_alloc, World.size_setCell, drew_size] at hcf); have hz := hb.size; (try simp only [World.size_alloc, World.size_setCell, World.size_drew] at hz); have hbh := Lib.hid hb; clear hb; obtain ⟨hc, hf⟩ := hcf) | (go_at_call 59; with_reducible refine' Calls.mono (uApart_any ?_ _ _ 3 3 (L3 inn out keep) ?_ ?_ ?_) ?_; rotate_left 6; (next => (repeat' (first | with_reducible exact HA.out | with_reducible refine' Ar.drewN ?_ _ | with_reducible refine' Ar.drew ?_ | with_reducible refine' Ar.farE ?_ ?_ _ | with_reducible refine' Ar.alloc ?_ _ | with_reducible refine' Ar.below ?_ (by assumption))); (try (all_goals (simp [*, ↓IntWalk.iteOmega]; first | done | fail))); (first | done | fail)); (next => exact lanes3 (by simp)); (next => decide); (next => decide); rintro e w2 ⟨r, rfl, hr, hw⟩; replace hw := hw.symm; subst hw; obtain rfl : r = false := (not_lanes hr hL); clear hr))
    refine ret_sec_tmp (x := 0) (y := .bool false) rfl rfl rfl ?_ rfl (.inl ⟨fun hc => hL hc.2.2, rfl, ?_⟩)
    · simp [go_sem, ↓IntWalk.iteOmega, *]
    · (repeat' (first | with_reducible exact Below.refl _ _ | with_reducible refine bl_drewN ?_ _ | with_reducible refine bl_drew ?_ | refine bl_set (by (first | omega | (simp; done) | (simp; omega))) ?_ _ | refine bl_alloc (by (first | omega | (simp; done) | (simp; omega))) ?_ _ | refine bl_then (by assumption) ?_ (by (first | omega | (simp; done) | (simp; omega))) | refine Step.bl (by assumption) (by assumption) (by (first | omega | (simp; done) | (simp; omega))) (by (first | omega | (simp; done) | (simp; omega))) ?_))
end Go.Proofs.Ytjoehhojhfgooaa
