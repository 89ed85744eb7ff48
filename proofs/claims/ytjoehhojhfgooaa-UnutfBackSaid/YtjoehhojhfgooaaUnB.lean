/- unutf: shape, bytes, and what spread does, plainly. No condition. -/
import Derived.Test.YtjoehhojhfgooaaUnA
import Derived.Test.YtjoehhojhfgooaaCalm
import Derived.Test.YtjoehhojhfgooaaUtDc
namespace Go.Proofs.Ytjoehhojhfgooaa
open Go.RowKit
set_option linter.unusedSimpArgs false
set_option linter.unusedVariables false
attribute [local go_sem] IntKind.wrap_u32' signed_u32 max_u32
attribute [local go_sem ↓] Go.wp_at_zero Go.wp_at_succ
attribute [local go_sem] Calm.C
attribute [local go_sem low] Calm.al_cell Calm.al_frozen
theorem ret_four {fn : Func} {R : Ending → World → Prop} {a : Act} {w : World} {t : Tmp} {b : Nat} {x y z v : Int} (hr : fn.results = #[.cell t 103])
    (ht : a.tmps.getD t undef = .pointer (some ⟨b, 0, none⟩)) (h0 : w.cell? ⟨b, 0, none⟩ = some (.int .u32 x)) (h1 : w.cell? ⟨b, 1, none⟩ = some (.int .u32 y)) (h2 : w.cell? ⟨b, 2, none⟩ = some (.int .u32 z))
    (h3 : w.cell? ⟨b, 3, none⟩ = some (.int .u32 v)) (hd : a.defers = [])
    (hR : R (.returned (.agg #[.int .u32 x, .int .u32 y, .int .u32 z, .int .u32 v])) w) : bodyPost Try.prog fn R .ret a w := by
  refine bodyPost_ret (v := .agg #[.int .u32 x, .int .u32 y, .int .u32 z, .int .u32 v]) ?_ hd hR
  have ht' : a.tmps[t]?.getD undef = .pointer (some ⟨b, 0, none⟩) := by simpa using ht
  simp [results, hr, ht', go_sem, h0, h1, h2, h3]
set_option maxRecDepth 10000 in
set_option maxHeartbeats 1600000 in
theorem unShape_any (x : Int) (w : World) : Calls Try.prog 70 #[.agg #[.int .u32 x]] w fun e w' =>
    e = .returned (.agg #[.int .u32 (Ct.Mask true), .int .u32 (Ct.Not (Ct.Lt x 128)), .int .u32 (Ct.Not (Ct.Lt x 2048)), .int .u32 (Ct.Not (Ct.Lt x 65536))]) ∧ Below w.heap.size w w' := by
  go_enter Try.func70, Try.ntmps70
  go_wp2_with fail
  (refine Calm.go 14 (by kernel_rfl) (by kernel_rfl) (by kernel_rfl) ?_; intro w0 hw0; have hr := Calm.rule hw0; simp only [Calm.heads, Calm.isAlloc]; haveI hnon : Nonempty (Ext (Below w0.heap.size w0)) := ⟨⟨w0, Below.refl _ _⟩⟩; (repeat (go_big_quiet_step (first | (go_at_call 84; exact Ext.calm below_calm (Mask_any _ _)) | (go_at_call 28; exact Ext.calm below_calm (Of_any _ _)) | (go_at_call 48; exact Ext.calm below_calm (Lt_any _ _ _)) | (go_at_call 51; exact Ext.calm below_calm (Not_any _ _))))); refine wpQuiet_nil ?_; clear hnon hr hw0; clear w0; (repeat refine Calm.n_skip rfl ?_); refine Calm.n_zero ?_; intro WA hbA hsA; simp only [List.drop_succ_cons, List.drop_zero]; obtain ⟨hcA, hfA⟩ := bcell hbA; (try simp only [World.size_alloc, World.size_setCell, drew_size] at hcA hfA); have hzA := hbA.size; have hbhA := Lib.hid hbA; clear hsA hbA; (try simp only [World.size_alloc, World.size_setCell, World.size_drew] at hzA))
  go_wp2_with fail
  refine ret_four rfl rfl ?_ ?_ ?_ ?_ rfl ⟨rfl, ?_⟩
  · simp (maxDischargeDepth := 14) [go_sem, ↓IntWalk.iteOmega, *]
  · simp (maxDischargeDepth := 14) [go_sem, ↓IntWalk.iteOmega, *]
  · simp (maxDischargeDepth := 14) [go_sem, ↓IntWalk.iteOmega, *]
  · simp (maxDischargeDepth := 14) [go_sem, ↓IntWalk.iteOmega, *]
  · (repeat' (first | with_reducible exact Below.refl _ _ | with_reducible refine bl_drewN ?_ _ | with_reducible refine bl_drew ?_ | refine bl_set (by (first | omega | (simp; done) | (simp; omega))) ?_ _ | refine bl_alloc (by (first | omega | (simp; done) | (simp; omega))) ?_ _ | refine bl_then (by assumption) ?_ (by (first | omega | (simp; done) | (simp; omega))) | refine Step.bl (by assumption) (by assumption) (by (first | omega | (simp; done) | (simp; omega))) (by (first | omega | (simp; done) | (simp; omega))) ?_))
namespace Un
/-- What is put ahead of the first byte of u bytes. -/
def ld (u : Nat) : Int := if u = 2 then 192 else if u = 3 then 224 else if u = 4 then 240 else 0
/-- The byte at k of u bytes. -/
def tl (p : Int) (u k : Nat) : Int := if 0 < k then Ct.Or (Ct.And (Ct.Shr p (6 * ((u : Int) - 1 - k))) 63) 128 else Ct.Shr p (6 * ((u : Int) - 1 - k))
def ob (p : Int) (u k : Nat) : Int := if k < u then (if k = 0 ∧ 1 < u then Ct.Or (tl p u 0) (ld u) else tl p u k) else 0
def gt (s : Nat → Int) (p : Int) : Nat → Nat → Int
  | 0, _ => 0
  | u + 1, k => Ct.Sel (s u) (ob p (u + 1) k) (gt s p u k)
theorem gt_zero (s : Nat → Int) (p : Int) (k : Nat) : gt s p 0 k = 0 := rfl
theorem gt_succ (s : Nat → Int) (p : Int) (u k : Nat) : gt s p (u + 1) k = Ct.Sel (s u) (ob p (u + 1) k) (gt s p u k) := rfl
theorem tl_pos {p : Int} {u k : Nat} (h : 0 < k) : tl p u k = Ct.Or (Ct.And (Ct.Shr p (6 * ((u : Int) - 1 - k))) 63) 128 := if_pos h
theorem tl_neg {p : Int} {u k : Nat} (h : ¬ 0 < k) : tl p u k = Ct.Shr p (6 * ((u : Int) - 1 - k)) := if_neg h
end Un
theorem upto4 {P : Nat → Prop} (h0 : P 0) (h1 : P 1) (h2 : P 2) (h3 : P 3) : ∀ k, k < 4 → P k := fun k hk => by
  rcases (by omega : k = 0 ∨ k = 1 ∨ k = 2 ∨ k = 3) with rfl | rfl | rfl | rfl
  · exact h0
  · exact h1
  · exact h2
  · exact h3
theorem ld_at {u : Nat} (h : 1 ≤ u) (h4 : u ≤ 4) : ([.int .u32 0, .int .u32 0, .int .u32 192, .int .u32 224, .int .u32 240] : List Value)[u]? = some (.int .u32 (Un.ld u)) := by
  rcases (by omega : u = 1 ∨ u = 2 ∨ u = 3 ∨ u = 4) with rfl | rfl | rfl | rfl <;> rfl
theorem putk {W : World} {m i c : Nat} {u v : Value} (h : W.cell? ⟨m, c, none⟩ = some v) : (W.setCell ⟨m, i, none⟩ u).cell? ⟨m, c, none⟩ = some (if c = i then u else v) := by
  by_cases e : c = i
  · subst e
    rw [if_pos rfl]
    exact World.cell?_setCell_same _ _ _ h
  · rw [if_neg e]
    exact (World.cell?_setCell_other _ _ _ _ (fun e2 => e (by injection e2 with _ e3; exact e3.symm))).trans h
theorem upto_if {j k : Nat} {x y : Int} (hx : k = j → x = y) : (if k = j then Value.int .u32 x else .int .u32 (if k < j then y else 0)) = .int .u32 (if k < j + 1 then y else 0) := by
  by_cases e : k = j
  · rw [if_pos e, if_pos (by omega), hx e]
  · rw [if_neg e]
    by_cases h : k < j
    · rw [if_pos h, if_pos (by omega)]
    · rw [if_neg h, if_neg (by omega)]
structure UB (w : World) (S : Nat) (p : Int) (s g : Nat → Int) (w' : World) : Prop where
  c0 : w'.cell? ⟨S, 0, none⟩ = some (.int .u32 p)
  cs : ∀ k, k < 4 → w'.cell? ⟨S + 1, k, none⟩ = some (.int .u32 (s k))
  cg : ∀ k, k < 4 → w'.cell? ⟨S + 3, k, none⟩ = some (.int .u32 (g k))
  fg : ∀ k, w'.frozen? ⟨S + 3, k, none⟩ = false
  fr : ∀ k, w'.frozen? ⟨S + 2, k, none⟩ = false
  cr : ∀ k, k < 4 → ∃ z, w'.cell? ⟨S + 2, k, none⟩ = some (.int .u32 z)
  sz : S + 4 ≤ w'.heap.size
  bl : Below w.heap.size w w'
theorem UB.below {w w' W : World} {S : Nat} {p : Int} {s g : Nat → Int} (h : UB w S p s g w') (hw : w.heap.size = S) (hb : Below w'.heap.size w' W) : UB w S p s g W where
  c0 := (hb.cell (p := ⟨S, 0, none⟩) (by have := h.sz; show S < _; omega)).trans h.c0
  cs k hk := (hb.cell (p := ⟨S + 1, k, none⟩) (by have := h.sz; show S + 1 < _; omega)).trans (h.cs k hk)
  cg k hk := (hb.cell (p := ⟨S + 3, k, none⟩) (by have := h.sz; show S + 3 < _; omega)).trans (h.cg k hk)
  fg k := (hb.frozen (p := ⟨S + 3, k, none⟩) (by have := h.sz; show S + 3 < _; omega)).trans (h.fg k)
  fr k := (hb.frozen (p := ⟨S + 2, k, none⟩) (by have := h.sz; show S + 2 < _; omega)).trans (h.fr k)
  cr k hk := (h.cr k hk).imp fun z hz => (hb.cell (p := ⟨S + 2, k, none⟩) (by have := h.sz; show S + 2 < _; omega)).trans hz
  sz := Nat.le_trans h.sz hb.size
  bl := bl_then (Lib.hid hb) h.bl (by have := h.sz; omega)
theorem UB.congr {w w' : World} {S : Nat} {p : Int} {s g g' : Nat → Int} (h : UB w S p s g w') (e : ∀ k, k < 4 → g k = g' k) : UB w S p s g' w' where
  c0 := h.c0
  cs := h.cs
  cg k hk := by rw [← e k hk]; exact h.cg k hk
  fg := h.fg
  fr := h.fr
  cr := h.cr
  sz := h.sz
  bl := h.bl
theorem UB.set {w W : World} {S : Nat} {p : Int} {s g : Nat → Int} (h : UB w S p s g W) (hw : w.heap.size = S) {k : Nat} (z : Int) : UB w S p s (fun c => if c = k then z else g c) (W.setCell ⟨S + 3, k, none⟩ (.int .u32 z)) where
  c0 := (World.cell?_setCell_far W ⟨S + 3, k, none⟩ ⟨S, 0, none⟩ _ (by show S + 3 ≠ S; omega)).trans h.c0
  cs c hc := (World.cell?_setCell_far W ⟨S + 3, k, none⟩ ⟨S + 1, c, none⟩ _ (by show S + 3 ≠ S + 1; omega)).trans (h.cs c hc)
  cg c hc := (putk (h.cg c hc)).trans (congrArg some (by by_cases e : c = k <;> simp [e]))
  fg c := by simp only [World.frozen?_setCell]; exact h.fg c
  fr c := by simp only [World.frozen?_setCell]; exact h.fr c
  cr c hc := (h.cr c hc).imp fun z hz => (World.cell?_setCell_far W ⟨S + 3, k, none⟩ ⟨S + 2, c, none⟩ _ (by show S + 3 ≠ S + 2; omega)).trans hz
  sz := by simp only [World.size_setCell]; exact h.sz
  bl := h.bl.setCell (p := ⟨S + 3, k, none⟩) (by show w.heap.size ≤ S + 3; omega) _
attribute [local irreducible] Un.gt Un.ob Un.tl Un.ld
set_option maxRecDepth 10000 in
set_option maxHeartbeats 1600000 in
theorem unBytes_any (p : Int) (s : Nat → Int) (w : World) : Calls Try.prog 71 #[.agg #[.int .u32 p], .agg #[.int .u32 (s 0), .int .u32 (s 1), .int .u32 (s 2), .int .u32 (s 3)]] w fun e w' =>
    e = .returned (.agg #[.int .u32 (Un.gt s p 4 0), .int .u32 (Un.gt s p 4 1), .int .u32 (Un.gt s p 4 2), .int .u32 (Un.gt s p 4 3)]) ∧ Below w.heap.size w w' := by
  go_enter Try.func71, Try.ntmps71
  go_wp2_with fail
  obtain ⟨S, hS⟩ : ∃ S, w.heap.size = S := ⟨_, rfl⟩
  simp only [hS]
  go_loopw [6] (fun i wr => ∃ u : Nat, 1 ≤ u ∧ u ≤ 5 ∧ i = .int .i64 u ∧ UB w S p s (Un.gt s p (u - 1)) wr) (fun i _ => 5 - (intOf i).toNat)
  case atStart =>
    refine ⟨1, by omega, by omega, rfl, ⟨?_, upto4 ?_ ?_ ?_ ?_, upto4 ?_ ?_ ?_ ?_, fun k => ?_, fun k => ?_, upto4 ⟨0, ?_⟩ ⟨0, ?_⟩ ⟨0, ?_⟩ ⟨0, ?_⟩, ?_, ?_⟩⟩
    all_goals first
      | (simp [go_sem, ↓IntWalk.iteOmega, Un.gt_zero, *]; done)
      | (simp [go_sem, hS]; omega)
      | ((repeat' (first | with_reducible exact Below.refl _ _ | with_reducible refine bl_drewN ?_ _ | with_reducible refine bl_drew ?_ | refine bl_set (by (first | omega | (simp; done) | (simp; omega))) ?_ _ | refine bl_alloc (by (first | omega | (simp; done) | (simp; omega))) ?_ _ | refine bl_then (by assumption) ?_ (by (first | omega | (simp; done) | (simp; omega))) | refine Step.bl (by assumption) (by assumption) (by (first | omega | (simp; done) | (simp; omega))) (by (first | omega | (simp; done) | (simp; omega))) ?_)); done)
  case round =>
    obtain ⟨u, hu1, hu5, rfl, hU⟩ := hrel
    have HU := Lib.hid hU
    have c0 := hU.c0
    have z0 := hU.sz
    clear hU
    by_cases hu : u ≤ 4
    · have hu' : decide ((u : Int) ≤ 4) = true := decide_eq_true (by omega)
      go_wp2_with fail
      obtain ⟨D, hD⟩ : ∃ D, wr.heap.size = D := ⟨_, rfl⟩
      simp only [hD]
      go_loopw [16] (fun i wi => ∃ j : Nat, j ≤ u ∧ i = .int .i64 j ∧ Below wr.heap.size wr wi ∧ D < wi.heap.size ∧ (∀ k, k < 4 → wi.cell? ⟨D, k, none⟩ = some (.int .u32 (if k < j then Un.tl p u k else 0))) ∧ ∀ k, wi.frozen? ⟨D, k, none⟩ = false) (fun i _ => u - (intOf i).toNat)
      case atStart =>
        refine ⟨0, Nat.zero_le _, rfl, ?_, ?_, upto4 ?_ ?_ ?_ ?_, fun k => ?_⟩
        all_goals first
          | (simp [go_sem, ↓IntWalk.iteOmega, *]; done)
          | (simp [go_sem, hD]; omega)
          | ((repeat' (first | with_reducible exact Below.refl _ _ | with_reducible refine bl_drewN ?_ _ | with_reducible refine bl_drew ?_ | refine bl_set (by (first | omega | (simp; done) | (simp; omega))) ?_ _ | refine bl_alloc (by (first | omega | (simp; done) | (simp; omega))) ?_ _ | refine bl_then (by assumption) ?_ (by (first | omega | (simp; done) | (simp; omega))) | refine Step.bl (by assumption) (by assumption) (by (first | omega | (simp; done) | (simp; omega))) (by (first | omega | (simp; done) | (simp; omega))) ?_)); done)
      case round =>
        rename World => wi
        obtain ⟨j, hj, rfl, hb, hDi, hcs, hfz⟩ := hrel
        have HU2 := Lib.hid (HU.out.below hS hb)
        have c0' := HU2.out.c0
        have HB := Lib.hid hb
        have HCS := Lib.hid hcs
        have HFZ := Lib.hid hfz
        have zi := hb.size
        clear hb hcs hfz c0
        by_cases hju : j < u
        · have hcj := HCS.out j (by omega)
          have hfj := HFZ.out j
          rw [if_neg (Nat.lt_irrefl j)] at hcj
          by_cases hj0 : 0 < j
          · go_wp2_with (first | (go_at_call 83; refine (Shr_any _ _ _).mono ?_; rintro e ws ⟨rfl, hb⟩; have hcf_ws := bcell hb; (try simp only [World.size_alloc, World.size_setCell, drew_size] at hcf_ws); have hz_ws := hb.size; (try simp only [World.size_alloc, World.size_setCell, World.size_drew] at hz_ws); have hbh_ws := Lib.hid hb; clear hb; obtain ⟨hc_ws, hf_ws⟩ := hcf_ws))
            (refine Calm.go 5 (by kernel_rfl) (by kernel_rfl) (by kernel_rfl) ?_; intro w0 hw0; have hr := Calm.rule hw0; simp only [Calm.heads, Calm.isAlloc]; haveI hnon : Nonempty (Ext (Below w0.heap.size w0)) := ⟨⟨w0, Below.refl _ _⟩⟩; (repeat (go_big_quiet_step (first | (go_at_call 28; exact Ext.calm below_calm (Of_any _ _)) | (go_at_call 50; exact Ext.calm below_calm (And_any _ _ _)) | (go_at_call 61; exact Ext.calm below_calm (Or_any _ _ _))))); refine wpQuiet_nil ?_; clear hnon hr hw0; clear w0; (repeat refine Calm.n_skip rfl ?_); refine Calm.n_zero ?_; intro WB hbB hsB; simp only [List.drop_succ_cons, List.drop_zero]; obtain ⟨hcB, hfB⟩ := bcell hbB; (try simp only [World.size_alloc, World.size_setCell, drew_size] at hcB hfB); have hzB := hbB.size; have hbhB := Lib.hid hbB; clear hsB hbB; (try simp only [World.size_alloc, World.size_setCell, World.size_drew] at hzB))
            go_wp2_with fail
            refine ⟨⟨j + 1, by omega, by go_num, ?_, ?_, ?_, ?_⟩, by simp [intOf]; omega⟩
            · have HB' := HB.out
              (repeat' (first | with_reducible exact Below.refl _ _ | with_reducible refine bl_drewN ?_ _ | with_reducible refine bl_drew ?_ | refine bl_set (by (first | omega | (simp; done) | (simp; omega))) ?_ _ | refine bl_alloc (by (first | omega | (simp; done) | (simp; omega))) ?_ _ | refine bl_then (by assumption) ?_ (by (first | omega | (simp; done) | (simp; omega))) | refine Step.bl (by assumption) (by assumption) (by (first | omega | (simp; done) | (simp; omega))) (by (first | omega | (simp; done) | (simp; omega))) ?_))
            · simp; omega
            · intro k hk
              refine (putk (v := .int .u32 (if k < j then Un.tl p u k else 0)) ?_).trans (congrArg some (upto_if fun e => by rw [e, Un.tl_pos hj0]))
              have := HCS.out k hk
              simp [go_sem, ↓IntWalk.iteOmega, *]
            · intro k
              have := HFZ.out k
              simp [go_sem, ↓IntWalk.iteOmega, *]
          · go_wp2_with (first | (go_at_call 83; refine (Shr_any _ _ _).mono ?_; rintro e ws ⟨rfl, hb⟩; have hcf_ws := bcell hb; (try simp only [World.size_alloc, World.size_setCell, drew_size] at hcf_ws); have hz_ws := hb.size; (try simp only [World.size_alloc, World.size_setCell, World.size_drew] at hz_ws); have hbh_ws := Lib.hid hb; clear hb; obtain ⟨hc_ws, hf_ws⟩ := hcf_ws))
            refine ⟨⟨j + 1, by omega, by go_num, ?_, ?_, ?_, ?_⟩, by simp [intOf]; omega⟩
            · have HB' := HB.out
              (repeat' (first | with_reducible exact Below.refl _ _ | with_reducible refine bl_drewN ?_ _ | with_reducible refine bl_drew ?_ | refine bl_set (by (first | omega | (simp; done) | (simp; omega))) ?_ _ | refine bl_alloc (by (first | omega | (simp; done) | (simp; omega))) ?_ _ | refine bl_then (by assumption) ?_ (by (first | omega | (simp; done) | (simp; omega))) | refine Step.bl (by assumption) (by assumption) (by (first | omega | (simp; done) | (simp; omega))) (by (first | omega | (simp; done) | (simp; omega))) ?_))
            · simp; omega
            · intro k hk
              refine (putk (v := .int .u32 (if k < j then Un.tl p u k else 0)) ?_).trans (congrArg some (upto_if fun e => by rw [e, Un.tl_neg hj0]))
              have := HCS.out k hk
              simp [go_sem, ↓IntWalk.iteOmega, *]
            · intro k
              have := HFZ.out k
              simp [go_sem, ↓IntWalk.iteOmega, *]
        · have hc0 := HCS.out 0 (by omega)
          rw [if_pos (by omega)] at hc0
          have hf0 := HFZ.out 0
          have hld := ld_at hu1 hu
          have hwu : IntKind.i64.wrap (u : Int) = u := IntWalk.i64_in _ (by omega)
          obtain ⟨v, hv⟩ : ∃ v, u - 1 = v := ⟨_, rfl⟩
          have hvi : (u : Int) - 1 = (v : Int) := by omega
          have hwv : IntKind.i64.wrap (v : Int) = v := IntWalk.i64_in _ (by omega)
          have hjE : u ≤ j := by omega
          have HV := Lib.hid hv
          have HVi := Lib.hid hvi
          have HJ := Lib.hid (show ∀ c, c < 4 → (if c < j then Un.tl p u c else 0) = if c = 0 ∧ 1 < u then Un.tl p u 0 else Un.ob p u c from fun c hc => by
            by_cases h : c = 0 ∧ 1 < u
            · rw [if_pos h, if_pos (by omega), h.1]
            · rw [if_neg h]
              by_cases h2 : c < u
              · rw [if_pos (by omega)]
                unfold Un.ob
                rw [if_pos h2, if_neg h]
              · rw [if_neg (by omega)]
                unfold Un.ob
                rw [if_neg h2])
          clear hv hvi
          have hd1 : decide ((1 : Int) < u) = decide (1 < u) := by congr 1; simp only [eq_iff_iff]; omega
          by_cases hu1' : 1 < u
          · have hob : Ct.Or (Un.tl p u 0) (Un.ld u) = Un.ob p u 0 := by unfold Un.ob; rw [if_pos (by omega), if_pos ⟨rfl, hu1'⟩]
            have HOB := Lib.hid hob
            clear hob
            rw [decide_eq_true hu1'] at hd1
            go_wp2_with fail
            go_region_with (first | (go_at_call 28; refine (Of_any _ _).mono ?_; rintro e w1 ⟨rfl, hb⟩; have hcf := bcell hb; have hz := hb.size; (try simp only [World.size_alloc, World.size_setCell, World.size_drew] at hz); have hbh := Lib.hid hb; clear hb; obtain ⟨hc, hf⟩ := hcf) | (go_at_call 61; refine (Or_any _ _ _).mono ?_; rintro e w1 ⟨rfl, hb⟩; have hcf := bcell hb; have hz := hb.size; (try simp only [World.size_alloc, World.size_setCell, World.size_drew] at hz); have hbh := Lib.hid hb; clear hb; obtain ⟨hc, hf⟩ := hcf))
            all_goals
              go_wp2_with fail
              go_loopw [48] (fun i wk => ∃ k : Nat, k ≤ 4 ∧ i = .int .i64 k ∧ D < wk.heap.size ∧ (∀ c, c < 4 → wk.cell? ⟨D, c, none⟩ = some (.int .u32 (Un.ob p u c))) ∧ UB w S p s (fun c => if c < k then Un.gt s p u c else Un.gt s p v c) wk) (fun i _ => 4 - (intOf i).toNat)
              case atStart =>
                refine ⟨0, by omega, rfl, ?_, ?_, ?_⟩
                · (simp; omega)
                · intro c hc
                  refine (putk (v := .int .u32 (if c < j then Un.tl p u c else 0)) ?_).trans (congrArg some ?_)
                  · have h1 := HCS.out c hc
                    clear HJ HOB hc0
                    simp [go_sem, ↓IntWalk.iteOmega, *]
                  · by_cases e : c = 0
                    · rw [if_pos e, HOB.out, e]
                    · rw [if_neg e, HJ.out c hc, if_neg (fun h => e h.1)]
                · have HB' := HB.out
                  refine (HU.out.below hS (by (repeat' (first | with_reducible exact Below.refl _ _ | with_reducible refine bl_drewN ?_ _ | with_reducible refine bl_drew ?_ | refine bl_set (by (first | omega | (simp; done) | (simp; omega))) ?_ _ | refine bl_alloc (by (first | omega | (simp; done) | (simp; omega))) ?_ _ | refine bl_then (by assumption) ?_ (by (first | omega | (simp; done) | (simp; omega))) | refine Step.bl (by assumption) (by assumption) (by (first | omega | (simp; done) | (simp; omega))) (by (first | omega | (simp; done) | (simp; omega))) ?_)))).congr fun k hk => ?_
                  rw [if_neg (Nat.not_lt_zero k), ← HV.out]
              case round =>
                rename World => wk
                obtain ⟨k, hk, rfl, hDk, hob, hUk⟩ := hrel
                have HO := Lib.hid hob
                have HUk := Lib.hid hUk
                by_cases hk4 : k < 4
                · have hx1 := hUk.cs v (by have := HV.out; omega)
                  have hx2 := hob k hk4
                  have hx3 := hUk.cg k hk4
                  have hx4 := hUk.fg k
                  have zk := hUk.sz
                  rw [if_neg (Nat.lt_irrefl k)] at hx3
                  have hvi := HVi.out
                  have hwk : IntKind.i64.wrap (k : Int) = k := IntWalk.i64_in _ (by omega)
                  clear hob hUk
                  go_wp2_with fail
                  (refine Calm.go 13 (by kernel_rfl) (by kernel_rfl) (by kernel_rfl) ?_; intro w0 hw0; have hr := Calm.rule hw0; simp only [Calm.heads, Calm.isAlloc]; haveI hnon : Nonempty (Ext (Below w0.heap.size w0)) := ⟨⟨w0, Below.refl _ _⟩⟩; (repeat (go_big_quiet_step (first | (go_at_call 78; exact Ext.calm below_calm (Sel_any _ _ _ _))))); refine wpQuiet_nil ?_; clear hnon hr hw0; clear w0; (repeat refine Calm.n_skip rfl ?_); refine Calm.n_zero ?_; intro WE hbE hsE; simp only [List.drop_succ_cons, List.drop_zero]; obtain ⟨hcE, hfE⟩ := bcell hbE; (try simp only [World.size_alloc, World.size_setCell, drew_size] at hcE hfE); have hzE := hbE.size; have hbhE := Lib.hid hbE; clear hsE hbE; (try simp only [World.size_alloc, World.size_setCell, World.size_drew] at hzE))
                  go_wp2_with fail
                  refine ⟨⟨k + 1, by omega, by go_num, ?_, ?_, ?_⟩, by simp [intOf]; omega⟩
                  · simp; omega
                  · intro c hc
                    have := HO.out c hc
                    have hne : S + 3 ≠ D := by omega
                    simp [go_sem, ↓IntWalk.iteOmega, *]
                  · refine ((HUk.out.below hS (W := WE) hbhE.out).set hS (k := k) _).congr fun c hc => ?_
                    have h1 := HV.out
                    obtain rfl : u = v + 1 := by omega
                    by_cases e : c = k
                    · rw [if_pos e, if_pos (by omega), e, Un.gt_succ]
                    · rw [if_neg e]
                      by_cases e2 : c < k
                      · rw [if_pos e2, if_pos (by omega)]
                      · rw [if_neg e2, if_neg (by omega)]
                · have hv := HV.out
                  clear hob hUk
                  go_wp2_with fail
                  refine ⟨⟨u + 1, by omega, by omega, by go_num, ?_⟩, by simp [intOf]; omega⟩
                  refine HUk.out.congr fun c hc => ?_
                  rw [if_pos (by omega)]
                  rfl
          · rw [decide_eq_false hu1'] at hd1
            go_wp2_with fail
            go_loopw [48] (fun i wk => ∃ k : Nat, k ≤ 4 ∧ i = .int .i64 k ∧ D < wk.heap.size ∧ (∀ c, c < 4 → wk.cell? ⟨D, c, none⟩ = some (.int .u32 (Un.ob p u c))) ∧ UB w S p s (fun c => if c < k then Un.gt s p u c else Un.gt s p v c) wk) (fun i _ => 4 - (intOf i).toNat)
            case atStart =>
              refine ⟨0, by omega, rfl, ?_, ?_, ?_⟩
              · first | exact hDi | (simp; omega)
              · intro c hc
                have h1 := HCS.out c hc
                rw [HJ.out c hc, if_neg (by omega)] at h1
                exact h1
              · have HB' := HB.out
                refine (HU.out.below hS (W := wi) (by (repeat' (first | with_reducible exact Below.refl _ _ | with_reducible refine bl_drewN ?_ _ | with_reducible refine bl_drew ?_ | refine bl_set (by (first | omega | (simp; done) | (simp; omega))) ?_ _ | refine bl_alloc (by (first | omega | (simp; done) | (simp; omega))) ?_ _ | refine bl_then (by assumption) ?_ (by (first | omega | (simp; done) | (simp; omega))) | refine Step.bl (by assumption) (by assumption) (by (first | omega | (simp; done) | (simp; omega))) (by (first | omega | (simp; done) | (simp; omega))) ?_)))).congr fun k hk => ?_
                rw [if_neg (Nat.not_lt_zero k), ← HV.out]
            case round =>
              rename World => wk
              obtain ⟨k, hk, rfl, hDk, hob, hUk⟩ := hrel
              have HO := Lib.hid hob
              have HUk := Lib.hid hUk
              by_cases hk4 : k < 4
              · have hx1 := hUk.cs v (by have := HV.out; omega)
                have hx2 := hob k hk4
                have hx3 := hUk.cg k hk4
                have hx4 := hUk.fg k
                have zk := hUk.sz
                rw [if_neg (Nat.lt_irrefl k)] at hx3
                have hvi := HVi.out
                have hwk : IntKind.i64.wrap (k : Int) = k := IntWalk.i64_in _ (by omega)
                clear hob hUk
                go_wp2_with fail
                (refine Calm.go 13 (by kernel_rfl) (by kernel_rfl) (by kernel_rfl) ?_; intro w0 hw0; have hr := Calm.rule hw0; simp only [Calm.heads, Calm.isAlloc]; haveI hnon : Nonempty (Ext (Below w0.heap.size w0)) := ⟨⟨w0, Below.refl _ _⟩⟩; (repeat (go_big_quiet_step (first | (go_at_call 78; exact Ext.calm below_calm (Sel_any _ _ _ _))))); refine wpQuiet_nil ?_; clear hnon hr hw0; clear w0; (repeat refine Calm.n_skip rfl ?_); refine Calm.n_zero ?_; intro WE hbE hsE; simp only [List.drop_succ_cons, List.drop_zero]; obtain ⟨hcE, hfE⟩ := bcell hbE; (try simp only [World.size_alloc, World.size_setCell, drew_size] at hcE hfE); have hzE := hbE.size; have hbhE := Lib.hid hbE; clear hsE hbE; (try simp only [World.size_alloc, World.size_setCell, World.size_drew] at hzE))
                go_wp2_with fail
                refine ⟨⟨k + 1, by omega, by go_num, ?_, ?_, ?_⟩, by simp [intOf]; omega⟩
                · simp; omega
                · intro c hc
                  have := HO.out c hc
                  have hne : S + 3 ≠ D := by omega
                  simp [go_sem, ↓IntWalk.iteOmega, *]
                · refine ((HUk.out.below hS (W := WE) hbhE.out).set hS (k := k) _).congr fun c hc => ?_
                  have h1 := HV.out
                  obtain rfl : u = v + 1 := by omega
                  by_cases e : c = k
                  · rw [if_pos e, if_pos (by omega), e, Un.gt_succ]
                  · rw [if_neg e]
                    by_cases e2 : c < k
                    · rw [if_pos e2, if_pos (by omega)]
                    · rw [if_neg e2, if_neg (by omega)]
              · have hv := HV.out
                clear hob hUk
                go_wp2_with fail
                refine ⟨⟨u + 1, by omega, by omega, by go_num, ?_⟩, by simp [intOf]; omega⟩
                refine HUk.out.congr fun c hc => ?_
                rw [if_pos (by omega)]
                rfl
    · have hu' : decide ((u : Int) ≤ 4) = false := decide_eq_false (by omega)
      have hu5' : u - 1 = 4 := by omega
      have g0 := HU.out.cg 0 (by omega)
      have g1 := HU.out.cg 1 (by omega)
      have g2 := HU.out.cg 2 (by omega)
      have g3 := HU.out.cg 3 (by omega)
      obtain ⟨y0, r0⟩ := HU.out.cr 0 (by omega)
      obtain ⟨y1, r1⟩ := HU.out.cr 1 (by omega)
      obtain ⟨y2, r2⟩ := HU.out.cr 2 (by omega)
      obtain ⟨y3, r3⟩ := HU.out.cr 3 (by omega)
      have f0 := HU.out.fr 0
      have f1 := HU.out.fr 1
      have f2 := HU.out.fr 2
      have f3 := HU.out.fr 3
      have HB := Lib.hid HU.out.bl
      rw [hu5'] at g0 g1 g2 g3
      clear hu5'
      go_wp2_with fail
      refine ret_four (b := S + 2) rfl rfl ?_ ?_ ?_ ?_ rfl ⟨rfl, ?_⟩
      · simp (maxDischargeDepth := 14) [go_sem, ↓IntWalk.iteOmega, *]
      · simp (maxDischargeDepth := 14) [go_sem, ↓IntWalk.iteOmega, *]
      · simp (maxDischargeDepth := 14) [go_sem, ↓IntWalk.iteOmega, *]
      · simp (maxDischargeDepth := 14) [go_sem, ↓IntWalk.iteOmega, *]
      · have HB' := HB.out
        (repeat' (first | with_reducible exact Below.refl _ _ | with_reducible refine bl_drewN ?_ _ | with_reducible refine bl_drew ?_ | refine bl_set (by (first | omega | (simp; done) | (simp; omega))) ?_ _ | refine bl_alloc (by (first | omega | (simp; done) | (simp; omega))) ?_ _ | refine bl_then (by assumption) ?_ (by (first | omega | (simp; done) | (simp; omega))) | refine Step.bl (by assumption) (by assumption) (by (first | omega | (simp; done) | (simp; omega))) (by (first | omega | (simp; done) | (simp; omega))) ?_))
namespace Un
/-- The masks of how long a point is. -/
def sh (x : Int) (k : Nat) : Int := if k = 0 then Ct.Mask true else if k = 1 then Ct.Not (Ct.Lt x 128) else if k = 2 then Ct.Not (Ct.Lt x 2048) else Ct.Not (Ct.Lt x 65536)
/-- The bytes of a point. -/
def byt (x : Int) (k : Nat) : Int := gt (sh x) x 4 k
def in4 (b s : Nat → Int) (y : Int) (at_ st : Nat) (ws : List Int) : Nat → List Int
  | 0 => ws
  | k + 1 => ((in4 b s y at_ st ws k).set (at_ + k) (b k)).set (st + k) (Ct.And y (s k))
theorem in4_zero (b s : Nat → Int) (y : Int) (at_ st : Nat) (ws : List Int) : in4 b s y at_ st ws 0 = ws := rfl
theorem in4_succ (b s : Nat → Int) (y : Int) (at_ st : Nat) (ws W : List Int) (k : Nat) (h : in4 b s y at_ st ws k = W) : in4 b s y at_ st ws (k + 1) = (W.set (at_ + k) (b k)).set (st + k) (Ct.And y (s k)) := by subst h; rfl
theorem in4_len (b s : Nat → Int) (y : Int) (at_ st : Nat) (ws : List Int) : ∀ k, (in4 b s y at_ st ws k).length = ws.length
  | 0 => rfl
  | k + 1 => by rw [in4_succ _ _ _ _ _ _ _ _ rfl, List.length_set, List.length_set, in4_len b s y at_ st ws k]
def in4e (at_ st : Nat) : Nat → List Ev
  | 0 => []
  | k + 1 => in4e at_ st k ++ [⟨2, ((at_ + k : Nat) : Int), 0⟩, ⟨2, ((st + k : Nat) : Int), 0⟩]
theorem in4e_zero (at_ st : Nat) : in4e at_ st 0 = [] := rfl
theorem in4e_succ (at_ st k : Nat) : in4e at_ st (k + 1) = in4e at_ st k ++ [⟨2, ((at_ + k : Nat) : Int), 0⟩, ⟨2, ((st + k : Nat) : Int), 0⟩] := rfl
theorem in4e_len (at_ st : Nat) : ∀ k, (in4e at_ st k).length = 2 * k
  | 0 => rfl
  | k + 1 => by rw [in4e_succ, List.length_append, in4e_len at_ st k]; simp; omega
def sx (pt i : Nat) (W : List Int) : Int := Ct.And (W.getD (pt + i) 0) 2097151
def sy (kl i : Nat) (W : List Int) : Int := Ct.Sub 0 (Ct.And (W.getD (kl + i) 0) 1)
/-- spread: the words behind k points. -/
def sp (pt kl to st : Nat) (ws : List Int) : Nat → List Int
  | 0 => ws
  | k + 1 => in4 (byt (sx pt k (sp pt kl to st ws k))) (sh (sx pt k (sp pt kl to st ws k))) (sy kl k (sp pt kl to st ws k)) (to + 4 * k) (st + 4 * k) (sp pt kl to st ws k) 4
theorem sp_zero (pt kl to st : Nat) (ws : List Int) : sp pt kl to st ws 0 = ws := rfl
theorem sp_succ (pt kl to st : Nat) (ws W : List Int) (k : Nat) (h : sp pt kl to st ws k = W) : sp pt kl to st ws (k + 1) = in4 (byt (sx pt k W)) (sh (sx pt k W)) (sy kl k W) (to + 4 * k) (st + 4 * k) W 4 := by subst h; rfl
theorem sp_len (pt kl to st : Nat) (ws : List Int) : ∀ k, (sp pt kl to st ws k).length = ws.length
  | 0 => rfl
  | k + 1 => by rw [sp_succ _ _ _ _ _ _ _ rfl, in4_len, sp_len pt kl to st ws k]
def spe (pt kl to st : Nat) : Nat → List Ev
  | 0 => []
  | k + 1 => spe pt kl to st k ++ ([⟨1, ((pt + k : Nat) : Int), 0⟩, ⟨1, ((kl + k : Nat) : Int), 0⟩] ++ in4e (to + 4 * k) (st + 4 * k) 4)
theorem spe_zero (pt kl to st : Nat) : spe pt kl to st 0 = [] := rfl
theorem spe_succ (pt kl to st k : Nat) : spe pt kl to st (k + 1) = spe pt kl to st k ++ ([⟨1, ((pt + k : Nat) : Int), 0⟩, ⟨1, ((kl + k : Nat) : Int), 0⟩] ++ in4e (to + 4 * k) (st + 4 * k) 4) := rfl
theorem spe_len (pt kl to st : Nat) : ∀ k, (spe pt kl to st k).length = 10 * k
  | 0 => rfl
  | k + 1 => by rw [spe_succ, List.length_append, List.length_append, spe_len pt kl to st k, in4e_len]; simp; omega
end Un
theorem unShapeS_any (x : Int) (w : World) : Calls Try.prog 70 #[.agg #[.int .u32 x]] w fun e w' =>
    e = .returned (.agg #[.int .u32 (Un.sh x 0), .int .u32 (Un.sh x 1), .int .u32 (Un.sh x 2), .int .u32 (Un.sh x 3)]) ∧ Below w.heap.size w w' := unShape_any x w
theorem unBytesS_any (x : Int) (w : World) : Calls Try.prog 71 #[.agg #[.int .u32 x], .agg #[.int .u32 (Un.sh x 0), .int .u32 (Un.sh x 1), .int .u32 (Un.sh x 2), .int .u32 (Un.sh x 3)]] w fun e w' =>
    e = .returned (.agg #[.int .u32 (Un.byt x 0), .int .u32 (Un.byt x 1), .int .u32 (Un.byt x 2), .int .u32 (Un.byt x 3)]) ∧ Below w.heap.size w w' := unBytes_any x (Un.sh x) w
theorem And21_any (a : Int) (w : World) : Calls Try.prog 50 #[.agg #[.int .u32 a], .agg #[.int .u32 2097151]] w fun e w' => e = .returned (.agg #[.int .u32 (Ct.And a 2097151)]) ∧ Below w.heap.size w w' := And_any a 2097151 w
theorem Of21_any (w : World) : Calls Try.prog 28 #[.int .u32 2097151] w fun e w' => e = .returned (.agg #[.int .u32 2097151]) ∧ Below w.heap.size w w' := Of_any 2097151 w
theorem ix_four (f : Nat → Int) {k : Nat} (hk : k < 4) : ∀ w : World, (Instr.index 103 (.agg #[.int .u32 (f 0), .int .u32 (f 1), .int .u32 (f 2), .int .u32 (f 3)]) (.int .i64 (k : Int))).run Try.prog w = .ok (.agg #[.int .u32 (f k)]) w := fun _ => by
  rcases (by omega : k = 0 ∨ k = 1 ∨ k = 2 ∨ k = 3) with rfl | rfl | rfl | rfl <;> kernel_rfl
end Go.Proofs.Ytjoehhojhfgooaa
