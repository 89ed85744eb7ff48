/- Package pack: Steps, Pack. No condition. -/
import Derived.Test.YtjoehhojhfgooaaPk2
import Derived.Test.YtjoehhojhfgooaaApf
import Derived.Test.YtjoehhojhfgooaaBits
namespace Go.Proofs.Ytjoehhojhfgooaa
open Go.RowKit
set_option linter.unusedSimpArgs false
set_option linter.unusedVariables false
attribute [local go_sem] IntKind.wrap_u32' signed_u32 max_u32
attribute [local go_sem ↓] Go.wp_at_zero Go.wp_at_succ
attribute [local go_sem] Calm.C
attribute [local go_sem low] Calm.al_cell Calm.al_frozen
namespace Pk
def stp (n : Nat) : Nat := if n < 2 then 0 else Lib.bitLen (n - 1)
def KL {α : Type} (keep : α) (L : Nat → α) (j : Nat) : α := if j = 0 then keep else L (j - 1)
/-- All lanes, and the ways. -/
def AL (keep far : Nat) (L : Nat → Nat) (m j : Nat) : Nat := if j = m + 1 then far else KL keep L j
def kept (keep n top m : Nat) (L : Nat → Nat) (ws : List Int) : Int := (bg keep top L m ws n).kept
def out (keep n top m : Nat) (L : Nat → Nat) (ws : List Int) : List Int := gvw (mvs top n (AL keep top L m) (m + 2) (bg keep top L m ws n).ws (stp n)) (top + n) n
def evs (keep n top m : Nat) (L : Nat → Nat) : List Ev := [⟨4, (top : Int), (n : Int)⟩] ++ bge keep top L m n ++ mvse top n (AL keep top L m) (m + 2) (stp n) ++ gvEvs (top + n) n ++ [⟨5, (top : Int), (n : Int)⟩]
theorem stp_le (n : Nat) (h : n ≤ 65536) : stp n ≤ 16 := by
  unfold stp
  split
  · omega
  · exact (bitLen_bound 16 (n - 1) (by omega) (by decide)).1
end Pk
set_option maxHeartbeats 400000 in
theorem pkSteps_any (n : Nat) (hn : n ≤ 1000000000) (w : World) : Calls Try.prog 65 #[.int .i64 n] w fun e w' => e = .returned (.int .i64 (Pk.stp n)) ∧ w' = w := by
  unfold Pk.stp
  by_cases h2 : n < 2
  · rw [if_pos h2]
    go_enter Try.func65, Try.ntmps65
    go_wp2_with fail
    go_ret
    exact ⟨rfl, rfl⟩
  · rw [if_neg h2]
    have h3 : ((n : Int) - 1).toNat = n - 1 := by omega
    have h4 : (n : Int) - 1 = ((n - 1 : Nat) : Int) := by omega
    have H4 := Lib.hid h4
    clear h4
    go_enter Try.func65, Try.ntmps65
    go_wp2_with (go_at_call 82; refine (bLen_any _ _ (by omega) (by omega)).mono ?_; rintro e w' ⟨rfl, rfl⟩)
    go_ret
    refine ⟨?_, rfl⟩
    congr 3
theorem al_lanes {keep top m n : Nat} {L : Nat → Int} (hk : keep + n ≤ top) (hL : ∀ j, j < m → L j + n ≤ top ∧ 0 ≤ L j) : ∀ j, j < 1 + m + 1 → Pk.AL keep top (fun j => (L j).toNat) m j + n ≤ top + n := by
  intro j hj
  unfold Pk.AL Pk.KL
  split
  · exact Nat.le_refl _
  · split
    · omega
    · have := hL (j - 1) (by omega)
      show (L (j - 1)).toNat + n ≤ top + n
      omega
theorem own_one {W : World} {g base : Nat} {e : TypeId} {x : Value} (hb : base ≤ g) (hW : W.heap[g]? = some (.cells #[x] e (0, 0))) : W.ownsRow base e 1 (.slice (some ⟨g, 0, none⟩) 1 1) 1 [x] :=
  ⟨rfl, .inr ⟨g, 1, #[x], rfl, hb, hW, Nat.le_refl _, by decide, rfl, rfl⟩⟩
def i64s (L : Nat → Int) (m : Nat) : List Value := (List.range m).map fun j => .int .i64 (L j)
theorem i64s_len (L : Nat → Int) (m : Nat) : (i64s L m).length = m := by simp [i64s]
theorem i64s_get (L : Nat → Int) (m j : Nat) (h : j < m) : (i64s L m)[j]? = some (.int .i64 (L j)) := by
  unfold i64s
  rw [List.getElem?_map, List.getElem?_range h]
  rfl
theorem i64s_one (L : Nat → Int) (m : Nat) : ∀ u ∈ i64s L m, u.oneCell' = true := by
  intro u hu
  simp only [i64s, List.mem_map] at hu
  obtain ⟨i, _, rfl⟩ := hu
  rfl
theorem i64s_kl (keep : Int) (L : Nat → Int) (m : Nat) : [.int .i64 keep] ++ i64s L m = i64s (Pk.KL keep L) (1 + m) := by
  refine List.ext_getElem? fun i => ?_
  cases i with
  | zero => rw [i64s_get _ _ 0 (by omega)]; rfl
  | succ i =>
    rw [List.getElem?_append_right (by simp), List.length_singleton, Nat.add_sub_cancel]
    rcases Nat.lt_or_ge i m with h | h
    · rw [i64s_get L m i h, i64s_get _ _ _ (by omega)]
      unfold Pk.KL
      rw [if_neg (by omega), Nat.add_sub_cancel]
    · rw [List.getElem?_eq_none (by rw [i64s_len]; exact h), List.getElem?_eq_none (by rw [i64s_len]; omega)]
theorem al_cells {w6 : World} {H keep top m : Nat} {L : Nat → Int} (hL : ∀ j, j < m → 0 ≤ L j) (hc : ∀ j, j < 1 + m + 1 → w6.cell? ⟨H, j, none⟩ = (i64s (Pk.KL (keep : Int) L) (1 + m) ++ [.int .i64 (top : Int)])[j]?) :
    ∀ j, j < 1 + m + 1 → w6.cell? ⟨H, 0 + j, none⟩ = some (.int .i64 (Pk.AL keep top (fun j => (L j).toNat) m j)) := by
  intro j hj
  rw [Nat.zero_add, hc j hj]
  unfold Pk.AL
  by_cases h : j = m + 1
  · rw [if_pos h, List.getElem?_append_right (by rw [i64s_len]; omega), i64s_len]
    subst h
    rw [show m + 1 - (1 + m) = 0 by omega]
    rfl
  · rw [if_neg h, List.getElem?_append_left (by rw [i64s_len]; omega), i64s_get _ _ _ (by omega)]
    unfold Pk.KL
    by_cases h0 : j = 0
    · rw [if_pos h0, if_pos h0]
    · rw [if_neg h0, if_neg h0, Int.toNat_of_nonneg (hL _ (by omega))]
/-- A slice of ints that is read, apart from an arena (any ints). -/
def Iti (w : World) (G : Nat → Prop) (A : Option Addr) (m : Nat) (L : Nat → Int) : Prop := 0 < m → ∃ b o, A = some ⟨b, o, none⟩ ∧ b < w.heap.size ∧ ¬ G b ∧ ∀ j, j < m → w.cell? ⟨b, o + j, none⟩ = some (.int .i64 (L j))
theorem Iti.step {w w' : World} {G G' : Nat → Prop} {A : Option Addr} {m : Nat} {L : Nat → Int} (h : Iti w G A m L) (hs : Step G G' w w') : Iti w' G' A m L := fun h0 => by
  obtain ⟨b, o, e, hl, hn, hc⟩ := h h0
  exact ⟨b, o, e, Nat.lt_of_lt_of_le hl hs.size, fun hf => hn ((hs.foot b hl).1 hf), fun j hj => (old_cell hs hl hn).trans (hc j hj)⟩
theorem Iti.nat {w : World} {G : Nat → Prop} {A : Option Addr} {m : Nat} {L : Nat → Int} (h : Iti w G A m L) (hL : ∀ j, j < m → 0 ≤ L j) : Its w G A m (fun j => (L j).toNat) := fun h0 => by
  obtain ⟨b, o, e, hl, hn, hc⟩ := h h0
  exact ⟨b, o, e, hl, hn, fun j hj => by rw [hc j hj, Int.toNat_of_nonneg (hL j hj)]⟩
theorem Iti.reads {w : World} {G : Nat → Prop} {A : Option Addr} {m : Nat} {L : Nat → Int} (h : Iti w G A m L) {B : Nat} (hB : w.heap.size ≤ B) : Reads w B 1 A m (i64s L m) := by
  refine ⟨by rw [i64s_len]; omega, fun h0 => ?_⟩
  obtain ⟨b, o, rfl, hl, _, hc⟩ := h h0
  refine ⟨⟨b, o, none⟩, rfl, Nat.lt_of_lt_of_le hl hB, fun j u hu => ?_⟩
  have hj : j < m := by
    rcases Nat.lt_or_ge j m with h1 | h1
    · exact h1
    · rw [List.getElem?_eq_none (by rw [i64s_len]; exact h1)] at hu; cases hu
  rw [i64s_get L m j hj] at hu
  rw [Addr.add_mid, hc j hj, hu]
theorem own_i64 {w : World} {base m c : Nat} {A : Option Addr} {L : Nat → Int} (h : w.ownsRow base 3 1 (.slice A m c) m (i64s L m)) (h0 : 0 < m) : ∃ g, A = some ⟨g, 0, none⟩ ∧ base ≤ g ∧ g < w.heap.size ∧ m ≤ c ∧ ∀ j, j < m → w.cell? ⟨g, j, none⟩ = some (.int .i64 (L j)) := by
  obtain ⟨g, cap, hv, hb, hgl⟩ := h.form h0
  injection hv with h1 h2 h3
  subst h1
  refine ⟨g, rfl, hb, hgl, ?_, fun j hj => (h.cellAt j (by omega)).trans (i64s_get L m j hj)⟩
  rcases h.2 with ⟨h0', h1⟩ | ⟨g', cap', cur, hv', h1, h2', h3', _⟩
  · omega
  · injection hv' with e1 e2 e3
    omega
theorem Try.infoInt : (Try.prog.info? 3).map (fun i => (i.zero, i.size, i.bytes)) = some (some (.int .i64 0), 1, 8) := by kernel_rfl
theorem Ar.low {w : World} {p g lp : Nat} {FL : Nat → Prop} {ws : List Int} {top : Nat} {evs : List Ev} (h : Ar w p g lp FL ws top evs) {w' : World} {B : Nat} (hb : Below B w w') (hB : ∀ i, AF p g FL i → i < B) : Ar w' p g lp FL ws top evs := by
  have hs : Step (fun i => B ≤ i ∧ i < w.heap.size) (fun i => B ≤ i ∧ i < w.heap.size) w w' := ⟨hb.os, hb.tape, hb.output, hb.size, fun i hi hn => hb.block i (by
    rcases Nat.lt_or_ge i B with h1 | h1
    · exact h1
    · exact absurd ⟨h1, hi⟩ hn), fun i _ => Iff.rfl, fun i hi => Nat.lt_of_lt_of_le hi.2 hb.size⟩
  exact { bp := hs.blk h.bp (fun hf => by have := hB p af_p; omega), bg := hs.blk h.bg (fun hf => by have := hB g af_g; omega), lg := h.lg.step hs (fun i hi hf => by have := hB i (.inr (.inr hi)); omega), np := h.np, ng := h.ng, ht := h.ht, hz := h.hz }
theorem ret_sec_tmpP {fn : Func} {R : Ending → World → Prop} {a : Act} {w : World} {t u : Tmp} {ad : Addr} {x : Int} {y : Value} (hr : fn.results = #[.cell t 32, .tmp u])
    (ht : a.tmps.getD t undef = .pointer (some ad)) (hu : a.tmps.getD u undef = y) (hc : w.cell? ad = some (.int .u32 x)) (hd : a.defers = [])
    (hR : R (.returned (.tuple #[.agg #[.int .u32 x], y])) w) : bodyPost Try.prog fn R .ret a w := by
  refine bodyPost_ret (v := .tuple #[.agg #[.int .u32 x], y]) ?_ hd hR
  have ht' : a.tmps[t]?.getD undef = .pointer (some ad) := by simpa using ht
  have hu' : a.tmps[u]?.getD undef = y := by simpa using hu
  simp [results, hr, ht', hu', go_sem, hc]
theorem pk_first {w w1 : World} {v : Value} {keep : Int} (hg : ((w.alloc (.cells #[.int .u32 0] 32)).alloc (.cells #[.int .i64 keep] 3)).grownBy w1 (some (w.heap.size + 1))) :
    Below w.heap.size w w1 ∧ w1.cell? ⟨w.heap.size, 0, none⟩ = some (.int .u32 0) ∧ w1.frozen? ⟨w.heap.size, 0, none⟩ = false ∧ w.heap.size + 2 ≤ w1.heap.size := by
  have hz := hg.size
  rw [World.size_alloc, World.size_alloc] at hz
  have hb : Below (w.heap.size + 1) ((w.alloc (.cells #[.int .u32 0] 32)).alloc (.cells #[.int .i64 keep] 3)) w1 := bl_grown (Lib.hid hg) (fun k hk => by injection hk with hk; omega) (by simp) (Below.refl _ _)
  refine ⟨bl_grown (Lib.hid hg) (fun k hk => by injection hk with hk; omega) (by simp; omega) (((Below.refl w.heap.size w).alloc (Nat.le_refl _) _).alloc (by simp) _), ?_, ?_, hz⟩
  · refine (hb.cell (p := ⟨w.heap.size, 0, none⟩) (Nat.lt_succ_self _)).trans ?_
    exact ((Blk.new w _ _).alloc _).cell 0
  · refine (hb.frozen (p := ⟨w.heap.size, 0, none⟩) (Nat.lt_succ_self _)).trans ?_
    exact ((Blk.new w _ _).alloc _).frozen 0
attribute [local irreducible] i64s Pk.mvs Pk.mvse Pk.bg Pk.bge
set_option maxRecDepth 10000 in
set_option maxHeartbeats 3200000 in
theorem Pack_any {w : World} {p g lp : Nat} {FL : Nat → Prop} {ws : List Int} {top : Nat} {evs : List Ev} (h : Ar w p g lp FL ws top evs) (he : evs.length < 1000000000) (keep n : Int) (A : Option Addr) (m c : Nat) (L : Nat → Int) (hA : Iti w (AF p g FL) A m L) (hm : m ≤ 100) :
    Calls Try.prog 37 #[.pointer (some ⟨p, 0, none⟩), .int .i64 keep, .int .i64 n, .slice A m c] w fun e w' =>
      (¬ (0 ≤ n ∧ n ≤ 49152 ∧ Lanes top n (Pk.KL keep L) (1 + m) ∧ top + n ≤ ws.length) ∧ e = .returned (.tuple #[.agg #[.int .u32 0], .bool false]) ∧ Below w.heap.size w w') ∨
      (0 ≤ n ∧ n ≤ 49152 ∧ Lanes top n (Pk.KL keep L) (1 + m) ∧ top + n ≤ ws.length ∧ e = .returned (.tuple #[.agg #[.int .u32 (Pk.kept keep.toNat n.toNat top m (fun j => (L j).toNat) ws)], .bool true]) ∧
        ∃ FL', Ar w' p g lp FL' (Pk.out keep.toNat n.toNat top m (fun j => (L j).toNat) ws) top (evs ++ Pk.evs keep.toNat n.toNat top m (fun j => (L j).toNat)) ∧ Step (AF p g FL) (AF p g FL') w w') := by
  have HA := Lib.hid h
  have hmost := h.most
  have htop : (top : Int) ≤ 4194304 := by have := h.ht; have := h.hz; omega
  have hN0 : ∀ i, w.heap.size ≤ i → ¬ AF p g FL i := fun i hi hf => by have := hmost i hf; omega
  have HN0 := Lib.hid hN0
  have HM := Lib.hid hmost
  have HX := Lib.hid hA
  obtain ⟨i0, hi, hz0, hz1, hz2⟩ := info_parts Try.infoInt
  clear h hmost hA hN0
  rcases (by omega : n < 0 ∨ 49152 < n ∨ (0 ≤ n ∧ n ≤ 49152)) with h0 | h0 | ⟨h0, h1⟩
  · go_enter Try.func37, Try.ntmps37
    go_wp2_with (first
      | (at_builtin; refine wpList_append_any _ (by rfl) _ _ 62 (by rfl) w.heap.size 3 i0 _ 1 8 Try.underlying62 hi hz0 hz1 hz2 (by rfl) (by decide) (.slice (some ⟨w.heap.size + 1, 0, none⟩) 1 1) 1 [.int .i64 keep] (by rfl) (own_one (by simp) (by first | exact heap_alloc_new _ _ | (have h1 := heap_alloc_new (w.alloc (.cells #[.int .u32 0] 32)) (.cells #[.int .i64 keep] 3); rw [World.size_alloc] at h1; exact h1))) (w.heap.size + 2) A m c (i64s L m) (by rfl) (((HX.out.step ((HA.out.step0.alloc _).alloc _))).reads (by simp)) (i64s_one L m) (by simp only [maxLen]; omega) (by omega) (by simp; omega) ?_; intro v1 w1 hown1 hg1 hat1; rw [i64s_kl] at hown1; have D1 := Lib.hid hown1; obtain ⟨hb1, d8, f8, zw1⟩ := pk_first (v := v1) hg1; have B1 := Lib.hid hb1; clear hg1 hown1 hat1 hb1)
      | (first | (go_at_call 28; refine (Of_any _ _).mono ?_; rintro e w1 ⟨rfl, hb⟩; have hcf := bcell hb; (try simp only [World.size_alloc, World.size_setCell, drew_size] at hcf); have hz := hb.size; (try simp only [World.size_alloc, World.size_setCell, World.size_drew] at hz); have hbh := Lib.hid hb; clear hb; obtain ⟨hc, hf⟩ := hcf)))
    all_goals
      refine ret_sec_tmpP (x := 0) (y := .bool false) rfl rfl rfl ?_ rfl (.inl ⟨by omega, rfl, ?_⟩)
      · simp (maxDischargeDepth := 10) [go_sem, ↓IntWalk.iteOmega, *]
      · (repeat' (first | with_reducible exact Below.refl _ _ | with_reducible refine bl_drewN ?_ _ | with_reducible refine bl_drew ?_ | refine bl_set (by (first | omega | (simp; done) | (simp; omega))) ?_ _ | refine bl_alloc (by (first | omega | (simp; done) | (simp; omega))) ?_ _ | refine bl_then (by assumption) ?_ (by (first | omega | (simp; done) | (simp; omega))) | refine Step.bl (by assumption) (by assumption) (by (first | omega | (simp; done) | (simp; omega))) (by (first | omega | (simp; done) | (simp; omega))) ?_))
  · have h00 : ¬ n < 0 := by omega
    go_enter Try.func37, Try.ntmps37
    go_wp2_with (first
      | (at_builtin; refine wpList_append_any _ (by rfl) _ _ 62 (by rfl) w.heap.size 3 i0 _ 1 8 Try.underlying62 hi hz0 hz1 hz2 (by rfl) (by decide) (.slice (some ⟨w.heap.size + 1, 0, none⟩) 1 1) 1 [.int .i64 keep] (by rfl) (own_one (by simp) (by first | exact heap_alloc_new _ _ | (have h1 := heap_alloc_new (w.alloc (.cells #[.int .u32 0] 32)) (.cells #[.int .i64 keep] 3); rw [World.size_alloc] at h1; exact h1))) (w.heap.size + 2) A m c (i64s L m) (by rfl) (((HX.out.step ((HA.out.step0.alloc _).alloc _))).reads (by simp)) (i64s_one L m) (by simp only [maxLen]; omega) (by omega) (by simp; omega) ?_; intro v1 w1 hown1 hg1 hat1; rw [i64s_kl] at hown1; have D1 := Lib.hid hown1; obtain ⟨hb1, d8, f8, zw1⟩ := pk_first (v := v1) hg1; have B1 := Lib.hid hb1; clear hg1 hown1 hat1 hb1)
      | (first | (go_at_call 28; refine (Of_any _ _).mono ?_; rintro e w1 ⟨rfl, hb⟩; have hcf := bcell hb; (try simp only [World.size_alloc, World.size_setCell, drew_size] at hcf); have hz := hb.size; (try simp only [World.size_alloc, World.size_setCell, World.size_drew] at hz); have hbh := Lib.hid hb; clear hb; obtain ⟨hc, hf⟩ := hcf)))
    all_goals
      refine ret_sec_tmpP (x := 0) (y := .bool false) rfl rfl rfl ?_ rfl (.inl ⟨by omega, rfl, ?_⟩)
      · simp (maxDischargeDepth := 10) [go_sem, ↓IntWalk.iteOmega, *]
      · (repeat' (first | with_reducible exact Below.refl _ _ | with_reducible refine bl_drewN ?_ _ | with_reducible refine bl_drew ?_ | refine bl_set (by (first | omega | (simp; done) | (simp; omega))) ?_ _ | refine bl_alloc (by (first | omega | (simp; done) | (simp; omega))) ?_ _ | refine bl_then (by assumption) ?_ (by (first | omega | (simp; done) | (simp; omega))) | refine Step.bl (by assumption) (by assumption) (by (first | omega | (simp; done) | (simp; omega))) (by (first | omega | (simp; done) | (simp; omega))) ?_))
  · by_cases hL : Lanes top n (Pk.KL keep L) (1 + m)
    · have HL := Lib.hid hL
      obtain ⟨n, rfl⟩ := Int.eq_ofNat_of_zero_le h0
      have hk0 := (hL 0 (by omega)).1
      have hLj := fun (j : Nat) (hj : j < m) => (hL (j + 1) (by omega)).1
      simp only [Fit, Pk.KL, if_pos trivial] at hk0
      simp only [Fit, Pk.KL, Nat.add_sub_cancel, if_neg (Nat.succ_ne_zero _)] at hLj
      obtain ⟨keep, rfl⟩ := Int.eq_ofNat_of_zero_le hk0.1
      have hk1 : keep + n ≤ top := by omega
      have HLJ := Lib.hid hLj
      simp only [Int.toNat_natCast]
      clear hLj hk0 hL
      have d1 : decide ((n : Int) < 0) = false := decide_eq_false (by omega)
      have d2 : decide ((49152 : Int) < n) = false := decide_eq_false (by omega)
      by_cases hroom : top + n ≤ ws.length
      · go_enter Try.func37, Try.ntmps37
        go_wp2_with (first
          | (at_builtin; refine wpList_append_any _ (by rfl) _ _ 62 (by rfl) w.heap.size 3 i0 _ 1 8 Try.underlying62 hi hz0 hz1 hz2 (by rfl) (by decide) (.slice (some ⟨w.heap.size + 1, 0, none⟩) 1 1) 1 [.int .i64 keep] (by rfl) (own_one (by simp) (by first | exact heap_alloc_new _ _ | (have h1 := heap_alloc_new (w.alloc (.cells #[.int .u32 0] 32)) (.cells #[.int .i64 keep] 3); rw [World.size_alloc] at h1; exact h1))) (w.heap.size + 2) A m c (i64s L m) (by rfl) (((HX.out.step ((HA.out.step0.alloc _).alloc _))).reads (by simp)) (i64s_one L m) (by simp only [maxLen]; omega) (by omega) (by simp; omega) ?_; intro v1 w1 hown1 hg1 hat1; rw [i64s_kl] at hown1; have D1 := Lib.hid hown1; obtain ⟨hb1, d8, f8, zw1⟩ := pk_first (v := v1) hg1; have B1 := Lib.hid hb1; clear hg1 hown1 hat1 hb1))
        obtain ⟨A1, c1, rfl⟩ := own_slice D1.out
        obtain ⟨g1, rfl, hg1b, hg1l, hmc, hcs⟩ := own_i64 D1.out (by omega)
        have HA1 := Lib.hid (HA.out.low B1.out HM.out)
        have S1 := Lib.hid (Step.of_below HM.out B1.out)
        have HCS := Lib.hid hcs
        clear hcs
        with_reducible refine (pApart_any HA1.out n _ (1 + m) c1 (Pk.KL keep L) (fun _ => ⟨g1, 0, rfl, fun i hi => by rw [Nat.zero_add]; exact HCS.out i hi⟩) (by omega) hmc).mono ?_
        rintro e w2 ⟨r, rfl, hr, hw⟩
        replace hw := hw.symm
        subst hw
        obtain rfl : r = true := hr.2 HL.out
        clear hr
        have HIT := Lib.hid ((HX.out.nat (fun j hj => (HLJ.out j hj).1)).step S1.out)
        go_wp2_with (first
          | (go_at_call 25; with_reducible refine (ATake_t HA1.out (by omega) n hroom).mono ?_; rintro e w3 ⟨rfl, F3, hA3, hs3⟩; have HA3 := Lib.hid hA3; have S3 := Lib.hid hs3; clear hA3 hs3)
          | (go_at_call 64; with_reducible refine (pkBegin_any HA3.out (by rw [List.length_append]; simp only [List.length_cons, List.length_nil]; omega) keep top n A m c (fun j => (L j).toNat) (HIT.out.step S3.out) (by omega) (by omega) (by omega) (by omega) (fun j hj => by have := HLJ.out j hj; omega)).mono ?_; rintro e w4 ⟨rfl, F4, hA4, hs4⟩; have HA4 := Lib.hid hA4; have S4 := Lib.hid hs4; clear hA4 hs4)
          | (go_at_call 65; with_reducible refine (pkSteps_any n (by omega) _).mono ?_; rintro e w5 ⟨rfl, hw5⟩; replace hw5 := hw5.symm; subst hw5))
        obtain ⟨BG, hBG⟩ : ∃ BG, Pk.bg keep top (fun j => (L j).toNat) m ws n = BG := ⟨_, rfl⟩
        rw [hBG] at HA4 ⊢
        have HBG := Lib.hid hBG
        obtain ⟨E4, hE4⟩ : ∃ E4, evs ++ [⟨4, (top : Int), (n : Int)⟩] ++ Pk.bge keep top (fun j => (L j).toNat) m n = E4 := ⟨_, rfl⟩
        rw [hE4] at HA4
        have HE4 := Lib.hid hE4
        have hEl4 : E4.length ≤ evs.length + 1 + 49152 * 203 := by
          rw [← hE4, List.length_append, List.length_append, Pk.bge_len]
          have : n * (3 + 2 * m) ≤ 49152 * 203 := Nat.mul_le_mul (by omega) (by omega)
          simp only [List.length_cons, List.length_nil]
          omega
        obtain ⟨W5, hW5⟩ : ∃ W5, w4.alloc (.cells #[.int .u32 BG.kept] 32) = W5 := ⟨_, rfl⟩
        have S14 := S3.out.trans S4.out
        have z14 := S14.size
        have S5 := Lib.hid (show Step (AF p g FL) (AF p g F4) w1 W5 by rw [← hW5]; exact S14.alloc _)
        have HA5 := Lib.hid (show Ar W5 p g lp F4 BG.ws (top + n) E4 by rw [← hW5]; exact HA4.out.alloc _)
        have zW5 : W5.heap.size = w4.heap.size + 1 := by rw [← hW5]; simp
        have c13 : W5.cell? ⟨w4.heap.size, 0, none⟩ = some (.int .u32 BG.kept) := by rw [← hW5]; exact (Blk.new w4 _ _).cell 0
        have n13 : ¬ AF p g F4 w4.heap.size := fun hf => absurd (HA4.out.most _ hf) (Nat.lt_irrefl _)
        have n8 : ¬ AF p g F4 w.heap.size := fun hf => HN0.out _ (Nat.le_refl _) ((S5.out.foot _ (by omega)).1 hf)
        have ng1 : ¬ AF p g F4 g1 := fun hf => HN0.out _ hg1b ((S5.out.foot _ hg1l).1 hf)
        have c8 := (old_cell (o := 0) S5.out (by omega) (HN0.out _ (Nat.le_refl _))).trans d8
        have e8 := (old_frozen (o := 0) S5.out (by omega) (HN0.out _ (Nat.le_refl _))).trans f8
        have HC1 := Lib.hid (show ∀ j, j < 1 + m → W5.cell? ⟨g1, j, none⟩ = some (.int .i64 (Pk.KL (keep : Int) L j)) from fun j hj => (old_cell (o := j) S5.out hg1l (HN0.out _ hg1b)).trans (HCS.out j hj))
        have S05 := Lib.hid (S1.out.trans S5.out)
        rw [hW5]
        have hstp := Pk.stp_le n (by omega)
        obtain ⟨S, hS⟩ : ∃ S, Pk.stp n = S := ⟨_, rfl⟩
        rw [hS] at hstp ⊢
        have HSS := Lib.hid hS
        obtain ⟨B13, hB13⟩ : ∃ B13, w4.heap.size = B13 := ⟨_, rfl⟩
        rw [hB13] at c13 n13 zW5 z14 ⊢
        have h2n : (2 : Nat) ^ 16 = 65536 := rfl
        clear S14 hW5 S3 S4 HA3 HA4 HA1 d8 f8 hE4 hBG hS HCS D1 HIT hB13 h2n S1 B1 S5
        go_loopw [50] (fun i wr => ∃ (b : Nat) (F : Nat → Prop) (E : List Ev) (V : List Int), b ≤ S ∧ i = .int .i64 b ∧ Pk.mvs top n (Pk.AL keep top (fun j => (L j).toNat) m) (m + 2) BG.ws b = V ∧ E = E4 ++ Pk.mvse top n (Pk.AL keep top (fun j => (L j).toNat) m) (m + 2) b ∧ E.length ≤ E4.length + b * 30000000 ∧ Ar wr p g lp F V (top + n) E ∧ Step (AF p g F4) (AF p g F) W5 wr) (fun i _ => S - (intOf i).toNat)
        case atStart => exact ⟨0, F4, E4, BG.ws, Nat.zero_le _, rfl, Pk.mvs_zero _ _ _ _ _, by rw [Pk.mvse_zero, List.append_nil], by omega, HA5.out, HA5.out.step0⟩
        case round =>
          obtain ⟨b, F, E, V, hb, rfl, hmv, hE, hEb, hA, hSr⟩ := hrel
          have HA := Lib.hid hA
          have HSR := Lib.hid hSr
          have HMV := Lib.hid hmv
          have HE := Lib.hid hE
          have zr := hSr.size
          by_cases hbS : b < S
          · have ng : ¬ AF p g F g1 := fun hf => ng1 ((hSr.foot _ (by omega)).1 hf)
            have HCR := Lib.hid (show ∀ j, j < 1 + m → wr.cell? ⟨g1, j, none⟩ = some (.int .i64 (Pk.KL (keep : Int) L j)) from fun j hj => (old_cell (o := j) hSr (by omega) ng1).trans (HC1.out j hj))
            clear hA hSr hmv hE
            go_wp2_with (first
              | (at_builtin; refine wpList_append_full (by rfl) _ _ 62 (by rfl) 3 i0 _ 8 Try.underlying62 hi hz0 hz1 hz2 g1 0 (1 + m) (by rfl) (i64s (Pk.KL (keep : Int) L) (1 + m)) (i64s_len _ _) (fun j hj => by rw [Nat.zero_add, i64s_get _ _ _ hj, ← HCR.out j hj]; exact World.cell?_alloc_lt wr _ ⟨g1, j, none⟩ (by show g1 < wr.heap.size; omega)) ⟨wr.heap.size, 0, none⟩ 1 (by rfl) (.int .i64 top) ((Blk.new wr _ _).cell 0) (by rfl) (by omega) (by simp only [maxLen]; omega) (wr.heap.size + 1) (by simp) ?_; intro cap w6 hb6 hl6 hc6; have B6 := Lib.hid hb6; have HC6 := Lib.hid hc6; have z6 := hb6.size; clear hb6 hc6))
            have HA6 := Lib.hid ((HA.out.alloc (.cells #[.int .i64 (top : Int)] 3)).below B6)
            have S6 := Lib.hid (Step.thenB B6 (HSR.out.alloc (.cells #[.int .i64 (top : Int)] 3)))
            have hgw : ¬ AF p g F (wr.heap.size + 1) := fun hf => by have := HA.out.most _ hf; omega
            have HIT : Hid (Its w6 (AF p g F) (some ⟨wr.heap.size + 1, 0, none⟩) (1 + m + 1) (Pk.AL keep top (fun j => (L j).toNat) m)) := Lib.hid (fun _ => ⟨wr.heap.size + 1, 0, rfl, hl6, hgw, al_cells (fun j hj => (HLJ.out j hj).1) HC6.out⟩)
            with_reducible refine (pkMove_any HA6.out (by omega) top n b _ (1 + m + 1) cap _ HIT.out (by omega) (by omega) (by omega) (by omega) (al_lanes hk1 (fun j hj => ⟨by have := HLJ.out j hj; omega, (HLJ.out j hj).1⟩))).mono ?_
            rintro e w7 ⟨rfl, F7, hA7, hs7⟩
            rw [show 1 + m + 1 = m + 2 by omega] at hA7
            have hml := Pk.mve_len top b (Pk.AL keep top (fun j => (L j).toNat) m) (m + 2) (n - 2 ^ b)
            have hmb : (n - 2 ^ b) * (1 + 4 * (m + 2)) ≤ 49152 * 409 := Nat.mul_le_mul (Nat.le_trans (Nat.sub_le _ _) (by omega)) (by omega)
            have HA7 := Lib.hid hA7
            have S7 := Lib.hid (S6.out.trans hs7)
            clear hA7 hs7
            go_wp2_with fail
            refine ⟨⟨b + 1, F7, _, _, by omega, by go_num, ?_, ?_, ?_, HA7.out, S7.out⟩, by simp [intOf]; omega⟩
            · rw [Pk.mvs_succ _ _ _ _ _ _ _ HMV.out]
            · rw [HE.out, Pk.mvse_succ, List.append_assoc]
            · rw [List.length_append, hml]; omega
          · have hbE : b = S := by omega
            have HBE := Lib.hid hbE
            have hge : S ≤ b := by omega
            have g13 := (old_cell (o := 0) hSr (by omega) n13).trans c13
            have g8 := (old_cell (o := 0) hSr (by omega) n8).trans c8
            have k8 := (old_frozen (o := 0) hSr (by omega) n8).trans e8
            have hn4 := foot_old hA.most
            have p13 : FX (AF p g F) B13 = False := eq_false (fun hf => n13 ((hSr.foot _ (by omega)).1 hf))
            have p8 : FX (AF p g F) w.heap.size = False := eq_false (fun hf => n8 ((hSr.foot _ (by omega)).1 hf))
            have SR := Lib.hid (S05.out.trans hSr)
            clear hA hSr hmv hE hbE
            go_wp2_with (go_at_call 46; with_reducible refine (AGive_t HA.out top (by omega) (by omega)).mono ?_; rintro e w1 ⟨rfl, F1, hA1, hs1⟩; rw [Nat.add_sub_cancel_left] at hA1; obtain ⟨hc, hf, hn⟩ := hs1.rules; (try simp only [World.size_alloc, World.size_setCell, drew_size] at hc hf hn); have hz := hs1.size; (try simp only [World.size_alloc, World.size_setCell, World.size_drew] at hz); have hst := Lib.hid hs1; have HA := Lib.hid hA1; clear hA1 hs1)
            refine ret_sec_tmpP (x := BG.kept) (y := .bool true) rfl rfl rfl ?_ rfl (.inr ⟨h0, h1, HL.out, by omega, ?_, F1, ?_, ?_⟩)
            · refine World.cell?_setCell_same' _ _ _ ?_
              simp (maxDischargeDepth := 10) [go_sem, ↓IntWalk.iteOmega, *]
            · unfold Pk.kept
              rw [HBG.out]
            · have hEE : E ++ gvEvs (top + n) n ++ [⟨5, (top : Int), (n : Int)⟩] = evs ++ Pk.evs keep n top m (fun j => (L j).toNat) := by
                unfold Pk.evs
                rw [HE.out, ← HE4.out, HBE.out, HSS.out]
                simp [List.append_assoc]
              have hA9 := HA.out
              rw [hEE] at hA9
              unfold Pk.out
              rw [HBG.out, HSS.out, ← HBE.out, HMV.out]
              refine hA9.far ?_ _
              (intro hfoot; simp [*, ↓IntWalk.iteOmega] at hfoot)
            · exact (SR.out.trans hst.out).set_ (Nat.le_refl _) _
      · go_enter Try.func37, Try.ntmps37
        go_wp2_with (first
          | (at_builtin; refine wpList_append_any _ (by rfl) _ _ 62 (by rfl) w.heap.size 3 i0 _ 1 8 Try.underlying62 hi hz0 hz1 hz2 (by rfl) (by decide) (.slice (some ⟨w.heap.size + 1, 0, none⟩) 1 1) 1 [.int .i64 keep] (by rfl) (own_one (by simp) (by first | exact heap_alloc_new _ _ | (have h1 := heap_alloc_new (w.alloc (.cells #[.int .u32 0] 32)) (.cells #[.int .i64 keep] 3); rw [World.size_alloc] at h1; exact h1))) (w.heap.size + 2) A m c (i64s L m) (by rfl) (((HX.out.step ((HA.out.step0.alloc _).alloc _))).reads (by simp)) (i64s_one L m) (by simp only [maxLen]; omega) (by omega) (by simp; omega) ?_; intro v1 w1 hown1 hg1 hat1; rw [i64s_kl] at hown1; have D1 := Lib.hid hown1; obtain ⟨hb1, d8, f8, zw1⟩ := pk_first (v := v1) hg1; have B1 := Lib.hid hb1; clear hg1 hown1 hat1 hb1))
        obtain ⟨A1, c1, rfl⟩ := own_slice D1.out
        obtain ⟨g1, rfl, hg1b, hg1l, hmc, hcs⟩ := own_i64 D1.out (by omega)
        have HA1 := Lib.hid (HA.out.low B1.out HM.out)
        have S1 := Lib.hid (Step.of_below HM.out B1.out)
        have HCS := Lib.hid hcs
        clear hcs
        with_reducible refine (pApart_any HA1.out n _ (1 + m) c1 (Pk.KL keep L) (fun _ => ⟨g1, 0, rfl, fun i hi => by rw [Nat.zero_add]; exact HCS.out i hi⟩) (by omega) hmc).mono ?_
        rintro e w2 ⟨r, rfl, hr, hw⟩
        replace hw := hw.symm
        subst hw
        obtain rfl : r = true := hr.2 HL.out
        clear hr
        go_wp2_with (first
          | (first | (go_at_call 28; refine (Of_any _ _).mono ?_; rintro e w1 ⟨rfl, hb⟩; have hcf := bcell hb; (try simp only [World.size_alloc, World.size_setCell, drew_size] at hcf); have hz := hb.size; (try simp only [World.size_alloc, World.size_setCell, World.size_drew] at hz); have hbh := Lib.hid hb; clear hb; obtain ⟨hc, hf⟩ := hcf))
          | (go_at_call 25; with_reducible refine (ATake_f HA1.out n (by omega)).mono ?_; rintro e w3 ⟨rfl, hb⟩; have hcf := bcell hb; have hz := hb.size; have hbh := Lib.hid hb; clear hb; obtain ⟨hc, hf⟩ := hcf))
        refine ret_sec_tmpP (x := 0) (y := .bool false) rfl rfl rfl ?_ rfl (.inl ⟨fun hc => hroom (by have := hc.2.2.2; omega), rfl, ?_⟩)
        · simp (maxDischargeDepth := 10) [go_sem, ↓IntWalk.iteOmega, *]
        · (repeat' (first | with_reducible exact Below.refl _ _ | with_reducible refine bl_drewN ?_ _ | with_reducible refine bl_drew ?_ | refine bl_set (by (first | omega | (simp; done) | (simp; omega))) ?_ _ | refine bl_alloc (by (first | omega | (simp; done) | (simp; omega))) ?_ _ | refine bl_then (by assumption) ?_ (by (first | omega | (simp; done) | (simp; omega))) | refine Step.bl (by assumption) (by assumption) (by (first | omega | (simp; done) | (simp; omega))) (by (first | omega | (simp; done) | (simp; omega))) ?_))
    · go_enter Try.func37, Try.ntmps37
      go_wp2_with (first
        | (at_builtin; refine wpList_append_any _ (by rfl) _ _ 62 (by rfl) w.heap.size 3 i0 _ 1 8 Try.underlying62 hi hz0 hz1 hz2 (by rfl) (by decide) (.slice (some ⟨w.heap.size + 1, 0, none⟩) 1 1) 1 [.int .i64 keep] (by rfl) (own_one (by simp) (by first | exact heap_alloc_new _ _ | (have h1 := heap_alloc_new (w.alloc (.cells #[.int .u32 0] 32)) (.cells #[.int .i64 keep] 3); rw [World.size_alloc] at h1; exact h1))) (w.heap.size + 2) A m c (i64s L m) (by rfl) (((HX.out.step ((HA.out.step0.alloc _).alloc _))).reads (by simp)) (i64s_one L m) (by simp only [maxLen]; omega) (by omega) (by simp; omega) ?_; intro v1 w1 hown1 hg1 hat1; rw [i64s_kl] at hown1; have D1 := Lib.hid hown1; obtain ⟨hb1, d8, f8, zw1⟩ := pk_first (v := v1) hg1; have B1 := Lib.hid hb1; clear hg1 hown1 hat1 hb1))
      obtain ⟨A1, c1, rfl⟩ := own_slice D1.out
      obtain ⟨g1, rfl, hg1b, hg1l, hmc, hcs⟩ := own_i64 D1.out (by omega)
      have HA1 := Lib.hid (HA.out.low B1.out HM.out)
      have S1 := Lib.hid (Step.of_below HM.out B1.out)
      have HCS := Lib.hid hcs
      clear hcs
      with_reducible refine (pApart_any HA1.out n _ (1 + m) c1 (Pk.KL keep L) (fun _ => ⟨g1, 0, rfl, fun i hi => by rw [Nat.zero_add]; exact HCS.out i hi⟩) (by omega) hmc).mono ?_
      rintro e w2 ⟨r, rfl, hr, hw⟩
      replace hw := hw.symm
      subst hw
      have hrf : r = false := by
        cases r
        · rfl
        · exact absurd (hr.1 rfl) hL
      subst hrf
      clear hr
      go_wp2_with (first | (go_at_call 28; refine (Of_any _ _).mono ?_; rintro e w1 ⟨rfl, hb⟩; have hcf := bcell hb; (try simp only [World.size_alloc, World.size_setCell, drew_size] at hcf); have hz := hb.size; (try simp only [World.size_alloc, World.size_setCell, World.size_drew] at hz); have hbh := Lib.hid hb; clear hb; obtain ⟨hc, hf⟩ := hcf))
      refine ret_sec_tmpP (x := 0) (y := .bool false) rfl rfl rfl ?_ rfl (.inl ⟨fun hc => hL hc.2.2.1, rfl, ?_⟩)
      · simp (maxDischargeDepth := 10) [go_sem, ↓IntWalk.iteOmega, *]
      · (repeat' (first | with_reducible exact Below.refl _ _ | with_reducible refine bl_drewN ?_ _ | with_reducible refine bl_drew ?_ | refine bl_set (by (first | omega | (simp; done) | (simp; omega))) ?_ _ | refine bl_alloc (by (first | omega | (simp; done) | (simp; omega))) ?_ _ | refine bl_then (by assumption) ?_ (by (first | omega | (simp; done) | (simp; omega))) | refine Step.bl (by assumption) (by assumption) (by (first | omega | (simp; done) | (simp; omega))) (by (first | omega | (simp; done) | (simp; omega))) ?_))
end Go.Proofs.Ytjoehhojhfgooaa
