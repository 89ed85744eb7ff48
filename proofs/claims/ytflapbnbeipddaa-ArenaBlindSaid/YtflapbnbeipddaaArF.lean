/- ArenaBlind: few, noted. No condition. -/
import Derived.Test.YtflapbnbeipddaaArE
namespace Go.Proofs.Ytflapbnbeipddaa
open Go.RowKit
set_option linter.unusedSimpArgs false
set_option linter.unusedVariables false
attribute [local go_sem] IntKind.wrap_u32' signed_u32 max_u32
attribute [local go_sem ↓] Go.wp_at_zero Go.wp_at_succ
attribute [local go_sem] Calm.C
attribute [local go_sem low] Calm.al_cell Calm.al_frozen
theorem ev_own {w : World} {base n cap : Nat} {A : Option Addr} {E : List Ev} (h : w.ownsRow base 67 3 (.slice A n cap) n (evCells E)) (hE : E.length = n) {q : Nat} (hq : q < n) : ∃ g, A = some ⟨g, 0, none⟩ ∧ g < w.heap.size ∧
    w.cell? ⟨g, q * 3, none⟩ = some (.int .i64 (E.getD q evDef).k) ∧ w.cell? ⟨g, q * 3 + 1, none⟩ = some (.int .i64 (E.getD q evDef).i) ∧ w.cell? ⟨g, q * 3 + 2, none⟩ = some (.int .u32 (E.getD q evDef).v) := by
  obtain ⟨g, cap', hv, _, hgl⟩ := h.form (by omega)
  injection hv with h1 h2 h3
  subst h1
  have hc := evCells_get E q (by omega)
  exact ⟨g, rfl, hgl, (h.cellAt (q * 3) (by omega)).trans hc.1, (h.cellAt (q * 3 + 1) (by omega)).trans hc.2.1, (h.cellAt (q * 3 + 2) (by omega)).trans hc.2.2⟩
/-- A slice of acts that is read, nil let in. -/
structure Acts (w : World) (A : Option Addr) (n : Nat) (K At N V : Nat → Int) (Ai : Nat → Option Addr) (mi ci : Nat → Nat) (f : Nat → Nat → Int) (B off : Nat) : Prop where
  at_ : 0 < n → A = some ⟨B, off, none⟩ ∧ B < w.heap.size
  c0 : ∀ i, i < n → w.cell? ⟨B, off + i * 5, none⟩ = some (.int .u8 (K i))
  c1 : ∀ i, i < n → w.cell? ⟨B, off + i * 5 + 1, none⟩ = some (.int .i64 (At i))
  c2 : ∀ i, i < n → w.cell? ⟨B, off + i * 5 + 2, none⟩ = some (.int .i64 (N i))
  c3 : ∀ i, i < n → w.cell? ⟨B, off + i * 5 + 3, none⟩ = some (.int .u32 (V i))
  c4 : ∀ i, i < n → w.cell? ⟨B, off + i * 5 + 4, none⟩ = some (.slice (Ai i) (mi i) (ci i))
  row : ∀ i, i < n → 0 < mi i → ∃ b o, Ai i = some ⟨b, o, none⟩ ∧ b < w.heap.size ∧ ∀ c, c < mi i → w.cell? ⟨b, o + c, none⟩ = some (.int .u32 (f i c))
theorem Acts.below {w w' : World} {A : Option Addr} {n : Nat} {K At N V : Nat → Int} {Ai : Nat → Option Addr} {mi ci : Nat → Nat} {f : Nat → Nat → Int} {B off : Nat} (h : Acts w A n K At N V Ai mi ci f B off) (hb : Below w.heap.size w w') : Acts w' A n K At N V Ai mi ci f B off where
  at_ hn := ⟨(h.at_ hn).1, Nat.lt_of_lt_of_le (h.at_ hn).2 hb.size⟩
  c0 i hi := (hb.cell (p := ⟨B, off + i * 5, none⟩) (h.at_ (by omega)).2).trans (h.c0 i hi)
  c1 i hi := (hb.cell (p := ⟨B, off + i * 5 + 1, none⟩) (h.at_ (by omega)).2).trans (h.c1 i hi)
  c2 i hi := (hb.cell (p := ⟨B, off + i * 5 + 2, none⟩) (h.at_ (by omega)).2).trans (h.c2 i hi)
  c3 i hi := (hb.cell (p := ⟨B, off + i * 5 + 3, none⟩) (h.at_ (by omega)).2).trans (h.c3 i hi)
  c4 i hi := (hb.cell (p := ⟨B, off + i * 5 + 4, none⟩) (h.at_ (by omega)).2).trans (h.c4 i hi)
  row i hi hm := by
    obtain ⟨b, o, e, hl, hc⟩ := h.row i hi hm
    exact ⟨b, o, e, Nat.lt_of_lt_of_le hl hb.size, fun c hcc => (hb.cell (p := ⟨b, o + c, none⟩) hl).trans (hc c hcc)⟩
set_option maxRecDepth 10000 in
set_option maxHeartbeats 1600000 in
theorem few_any {w : World} {A : Option Addr} {n : Nat} {K At N V : Nat → Int} {Ai : Nat → Option Addr} {mi ci : Nat → Nat} {f : Nat → Nat → Int} {B off : Nat} (h : Acts w A n K At N V Ai mi ci f B off) (hn : n ≤ 9223372036854775807) (hm : ∀ i, i < n → mi i ≤ 9223372036854775807) (c : Nat) :
    Calls Try.prog 38 #[.slice A n c] w fun e w' => ∃ r : Bool, e = .returned (.bool r) ∧ (r = true → n ≤ 60 ∧ ∀ i, i < n → mi i ≤ 40) ∧ Below w.heap.size w w' := by
  by_cases h60 : 60 < n
  · clear h
    go_enter Try.func38, Try.ntmps38
    go_wp2_with fail
    go_ret
    exact ⟨false, rfl, fun hf => (by cases hf), Below.refl _ _⟩
  have H := Lib.hid h
  have HM := Lib.hid hm
  clear h hm
  go_enter Try.func38, Try.ntmps38
  go_wp2_with fail
  go_loopw [10] (fun i wr => ∃ k : Nat, k ≤ n ∧ i = .int .i64 k ∧ (∀ j, j < k → mi j ≤ 40) ∧ Below w.heap.size w wr) (fun i _ => n - (intOf i).toNat)
  case atStart => exact ⟨0, Nat.zero_le _, rfl, fun j hj => absurd hj (Nat.not_lt_zero j), Below.refl _ _⟩
  case round =>
    obtain ⟨k, hk, rfl, hj, hW⟩ := hrel
    have hWs := hW.size
    have HJ := Lib.hid hj
    have HW := Lib.hid hW
    by_cases hkn : k < n
    · have hR := H.out.below hW
      obtain ⟨rfl, hB⟩ := hR.at_ (by omega)
      have g0 := hR.c0 k hkn
      have g1 := hR.c1 k hkn
      have g2 := hR.c2 k hkn
      have g3 := hR.c3 k hkn
      have g4 := hR.c4 k hkn
      have g5 := HM.out k hkn
      obtain ⟨r, hr⟩ : ∃ r, mi k = r := ⟨_, rfl⟩
      rw [hr] at g4 g5
      clear hR hj hW
      by_cases h40 : 40 < r
      · go_wp2_with fail
        go_ret
        refine ⟨false, rfl, fun hf => (by cases hf), ?_⟩
        have HW' := HW.out
        (repeat' (first | exact Below.refl _ _ | refine bl_set (by (first | omega | (simp; done) | (simp; omega))) ?_ _ | refine bl_alloc (by (first | omega | (simp; done) | (simp; omega))) ?_ _ | refine bl_drewN ?_ _ | refine bl_drew ?_ | refine bl_then (by assumption) ?_ (by (first | omega | (simp; done) | (simp; omega))) | refine Step.bl (by assumption) (by assumption) (by (first | omega | (simp; done) | (simp; omega))) (by (first | omega | (simp; done) | (simp; omega))) ?_))
      · go_wp2_with fail
        refine ⟨⟨k + 1, by omega, by go_num, fun j hj => ?_, ?_⟩, by simp [intOf]; omega⟩
        · rcases (by omega : j < k ∨ j = k) with h1 | rfl
          · exact HJ.out j h1
          · omega
        · have HW' := HW.out
          (repeat' (first | exact Below.refl _ _ | refine bl_set (by (first | omega | (simp; done) | (simp; omega))) ?_ _ | refine bl_alloc (by (first | omega | (simp; done) | (simp; omega))) ?_ _ | refine bl_drewN ?_ _ | refine bl_drew ?_ | refine bl_then (by assumption) ?_ (by (first | omega | (simp; done) | (simp; omega))) | refine Step.bl (by assumption) (by assumption) (by (first | omega | (simp; done) | (simp; omega))) (by (first | omega | (simp; done) | (simp; omega))) ?_))
    · have hge : n ≤ k := by omega
      clear hj hW
      go_wp2_with fail
      go_ret
      exact ⟨true, rfl, fun _ => ⟨by omega, fun i hi => HJ.out i (by omega)⟩, HW.out⟩
set_option maxRecDepth 10000 in
set_option maxHeartbeats 1600000 in
theorem noted_any {w : World} {base n cap : Nat} {A : Option Addr} {E : List Ev} (h : w.ownsRow base 67 3 (.slice A n cap) n (evCells E)) (hE : E.length = n) (hn : n ≤ 1000000) (hk : ∀ q, q < n → 1 ≤ (E.getD q evDef).k ∧ (E.getD q evDef).k ≤ 5) :
    Calls Try.prog 43 #[.slice A n cap] w fun e w' => e = .returned (.bool true) ∧ Below w.heap.size w w' := by
  have H := Lib.hid h
  have HE := Lib.hid hE
  have HK := Lib.hid hk
  clear h hE hk
  go_enter Try.func43, Try.ntmps43
  go_wp2_with fail
  go_loopw [7] (fun i wr => ∃ k : Nat, k ≤ n ∧ i = .int .i64 k ∧ Below w.heap.size w wr) (fun i _ => n - (intOf i).toNat)
  case atStart => exact ⟨0, Nat.zero_le _, rfl, Below.refl _ _⟩
  case round =>
    obtain ⟨q, hq, rfl, hW⟩ := hrel
    have hWs := hW.size
    have HW := Lib.hid hW
    by_cases hqn : q < n
    · obtain ⟨g, rfl, hg, x0, x1, x2⟩ := ev_own H.out HE.out hqn
      have y0 := (hW.cell (p := ⟨g, q * 3, none⟩) hg).trans x0
      have y1 := (hW.cell (p := ⟨g, q * 3 + 1, none⟩) hg).trans x1
      have y2 := (hW.cell (p := ⟨g, q * 3 + 2, none⟩) hg).trans x2
      obtain ⟨k1, k2⟩ := HK.out q hqn
      obtain ⟨e, he⟩ : ∃ e, E.getD q evDef = e := ⟨_, rfl⟩
      rw [he] at y0 y1 y2 k1 k2
      clear hW x0 x1 x2 he
      go_wp2_with fail
      refine ⟨⟨q + 1, by omega, by go_num, ?_⟩, by simp [intOf]; omega⟩
      have HW' := HW.out
      (repeat' (first | exact Below.refl _ _ | refine bl_set (by (first | omega | (simp; done) | (simp; omega))) ?_ _ | refine bl_alloc (by (first | omega | (simp; done) | (simp; omega))) ?_ _ | refine bl_drewN ?_ _ | refine bl_drew ?_ | refine bl_then (by assumption) ?_ (by (first | omega | (simp; done) | (simp; omega))) | refine Step.bl (by assumption) (by assumption) (by (first | omega | (simp; done) | (simp; omega))) (by (first | omega | (simp; done) | (simp; omega))) ?_))
    · have hge : n ≤ q := by omega
      go_wp2_with fail
      go_ret
      exact ⟨rfl, hW⟩
end Go.Proofs.Ytflapbnbeipddaa
