/- The document's Points and Bytes. No condition. -/
import Derived.Test.YtjoehhojhfgooaaUtM
namespace Go.Proofs.Ytjoehhojhfgooaa
open Go.RowKit
set_option linter.unusedSimpArgs false
set_option linter.unusedVariables false
attribute [local go_sem] IntKind.wrap_u32' signed_u32 max_u32
attribute [local go_sem ↓] Go.wp_at_zero Go.wp_at_succ
attribute [local go_sem] Calm.C
attribute [local go_sem low] Calm.al_cell Calm.al_frozen
theorem Try.infoU32 : (Try.prog.info? 30).map (fun i => (i.zero, i.size, i.bytes)) = some (some (.int .u32 0), 1, 4) := by kernel_rfl
def slLen : Value → Nat
  | .slice _ n _ => n
  | _ => 0
theorem U8s.below {w W : World} {A : Option Addr} {n : Nat} {f : Nat → Nat} (h : U8s w A n f) (hb : Below w.heap.size w W) : U8s W A n f := fun h0 => by
  obtain ⟨b, o, e, hl, hc⟩ := h h0
  exact ⟨b, o, e, Nat.lt_of_lt_of_le hl hb.size, fun i hi => (hb.cell (p := ⟨b, o + i, none⟩) hl).trans (hc i hi)⟩
theorem U8s.cut {w : World} {A : Option Addr} {n c k : Nat} {f : Nat → Nat} (h : U8s w A n f) (hc : n ≤ c) (_hk : k ≤ n) : U8s w (if c = k then A else A.map (fun x => x.add k)) (n - k) (fun i => f (k + i)) := fun h0 => by
  obtain ⟨b, o, rfl, hl, hcs⟩ := h (by omega)
  rw [if_neg (by omega)]
  refine ⟨b, o + k, by simp [Addr.add_mid], hl, fun i hi => ?_⟩
  rw [Nat.add_assoc]
  exact hcs (k + i) (by omega)
theorem rPoint_at {w : World} {A : Option Addr} {n J : Nat} {f : Nat → Nat} (hA : U8s w A (n - Ut.pos f n J) (fun i => f (Ut.pos f n J + i))) (hf : ∀ i, f i < 256) (hn : n ≤ 1000000) (c : Nat) :
    Calls Try.prog 57 #[.slice A (n - Ut.pos f n J) c] w fun e w' => e = .returned (.tuple #[.int .u32 (Ut.val f n J), .int .i64 (Ut.nof f n J)]) ∧ w' = w :=
  rPoint_any hA (fun i => hf _) (by omega) c
theorem rights_zero (f : Nat → Nat) (n : Nat) : Ut.Rights f n 0 := fun q hq => by omega
theorem rights_succ {f : Nat → Nat} {n J : Nat} (h : Ut.Rights f n J) (hn : Ut.nof f n J ≠ 0) : Ut.Rights f n (J + 1) := fun q hq => by
  rcases Nat.lt_or_ge q J with h' | h'
  · exact h q h'
  · obtain rfl : q = J := by omega
    exact hn
def vals (f : Nat → Nat) (n J : Nat) : List Value := (List.range J).map fun q => .int .u32 (Ut.val f n q)
theorem vals_succ (f : Nat → Nat) (n J : Nat) : vals f n (J + 1) = vals f n J ++ [.int .u32 (Ut.val f n J)] := by
  unfold vals
  rw [List.range_succ, List.map_append]
  rfl
theorem vals_len (f : Nat → Nat) (n J : Nat) : (vals f n J).length = J := by simp [vals]
theorem vals_zero (f : Nat → Nat) (n : Nat) : vals f n 0 = [] := rfl
theorem rights_le (f : Nat → Nat) (n : Nat) : ∀ J, Ut.Rights f n J → J ≤ Ut.pos f n J
  | 0, _ => Nat.zero_le _
  | J + 1, h => by
    have ih := rights_le f n J (fun q hq => h q (by omega))
    have := h J (by omega)
    rw [Ut.pos_succ]
    omega
attribute [local irreducible] Ut.val Ut.nof Ut.pos vals
set_option maxRecDepth 10000 in
set_option maxHeartbeats 1600000 in
theorem rPoints_any {w : World} {A : Option Addr} {n : Nat} {f : Nat → Nat} (hA : U8s w A n f) (hf : ∀ i, f i < 256) (hn : n ≤ 1000000) (c : Nat) (hc : n ≤ c) :
    Calls Try.prog 23 #[.slice A n c] w fun e w' => Below w.heap.size w w' ∧
      ((∃ J A' c', Ut.Rights f n J ∧ Ut.pos f n J = n ∧ e = .returned (.tuple #[.slice A' J c', .bool true]) ∧ w'.ownsRow w.heap.size 30 1 (.slice A' J c') J (vals f n J)) ∨
       (∃ J, Ut.Rights f n J ∧ Ut.pos f n J < n ∧ Ut.nof f n J = 0 ∧ e = .returned (.tuple #[.slice none 0 0, .bool false]))) := by
  have HX := Lib.hid hA
  have HF := Lib.hid hf
  obtain ⟨i0, hi, hz0, hz1, hz2⟩ := info_parts Try.infoU32
  clear hA hf
  go_enter Try.func23, Try.ntmps23
  go_wp2_with fail
  go_loopw [0, 4] (fun a0 a4 wr => ∃ (J m : Nat) (A0 : Option Addr) (c0 : Nat) (v : Value), m = n - Ut.pos f n J ∧ m ≤ c0 ∧ Ut.Rights f n J ∧ a0 = .slice A0 m c0 ∧ a4 = v ∧ U8s w A0 (n - Ut.pos f n J) (fun i => f (Ut.pos f n J + i)) ∧ wr.ownsRow w.heap.size 30 1 v J (vals f n J) ∧ Below w.heap.size w wr) (fun a0 _ _ => slLen a0)
  case atStart =>
    refine ⟨0, n, A, c, _, ?_, hc, rights_zero f n, rfl, rfl, ?_, ?_, Below.refl _ _⟩
    · rw [Ut.pos_zero]; rfl
    · rw [Ut.pos_zero, Nat.sub_zero]
      simp only [Nat.zero_add]
      exact HX.out
    · rw [vals_zero]; exact World.ownsRow_nil _ _ _ _
  case round =>
    obtain ⟨J, m, A0, c0, v, hm, hc0, hR, rfl, rfl, hU, hO, hB⟩ := hrel
    obtain ⟨hp1, -, -⟩ := Ut.run_pos f n J hR
    have HU := Lib.hid hU
    have HO := Lib.hid hO
    have HB := Lib.hid hB
    have HR := Lib.hid hR
    have HM := Lib.hid hm
    have zr := hB.size
    clear hU hO hB hR
    have hJ := rights_le f n J HR.out
    by_cases hm0 : m = 0
    · obtain ⟨A4, c4, rfl⟩ := own_slice HO.out
      have HM0 := Lib.hid hm0
      have hm00 : (m : Int) = 0 := by omega
      clear hm
      go_wp2_with fail
      refine ret_two (x := .slice A4 J c4) (y := .bool true) rfl rfl rfl rfl ⟨HB.out, .inl ⟨J, A4, c4, HR.out, ?_, rfl, HO.out⟩⟩
      have h1 := HM.out
      have h2 := HM0.out
      omega
    · have h3 : n - Ut.pos f n J ≠ 0 := by omega
      by_cases hnf : Ut.nof f n J = 0
      · have d1 : ((Ut.nof f n J : Int) == 0) = true := by rw [hnf]; rfl
        have HN := Lib.hid hnf
        have HP := Lib.hid (show Ut.pos f n J < n by omega)
        clear hm hnf
        go_wp2_with (first | (go_at_call 57; rw [HM.out]; with_reducible refine (rPoint_at (HU.out.below HB.out) HF.out (by omega) _).mono ?_; rintro e w1 ⟨rfl, hw⟩; replace hw := hw.symm; subst hw))
        exact ret_two (x := .slice none 0 0) (y := .bool false) rfl rfl rfl rfl ⟨HB.out, .inr ⟨J, HR.out, HP.out, HN.out, rfl⟩⟩
      · have d1 : ((Ut.nof f n J : Int) == 0) = false := by simp; omega
        have hR1 := rights_succ HR.out hnf
        obtain ⟨hp2, -, -⟩ := Ut.run_pos f n (J + 1) hR1
        rw [Ut.pos_succ] at hp2
        have HR1 := Lib.hid hR1
        have hlo : Ut.nof f n J ≤ m := by omega
        clear hm hR1 hnf
        go_wp2_with (first | (go_at_call 57; rw [HM.out]; with_reducible refine (rPoint_at (HU.out.below HB.out) HF.out (by omega) _).mono ?_; rintro e w1 ⟨rfl, hw⟩; replace hw := hw.symm; subst hw) | (at_builtin; refine wpList_append_lies _ (by rfl) _ _ 22 (by rfl) w.heap.size 30 i0 _ 1 4 Try.underlying22 hi hz0 hz1 hz2 (by rfl) (by decide) _ J (vals f n J) (by rfl) (HO.out.alloc _) ⟨wr.heap.size, 0, none⟩ 1 1 [.int .u32 (Ut.val f n J)] (by rfl) (by rfl) (World.news_of_block (heap_alloc_new _ _)) (by simp [Value.oneCell']) (by decide) (by simp only [maxLen]; omega) (by omega) (by simp; omega) (wr.heap.size + 1) (by simp) ?_; intro g cap w2 hown1 hg1 hat1 hlt1; have hO2 := Lib.hid hown1; have hG2 := Lib.hid hg1; clear hown1 hg1 hat1))
        have hm := HM.out
        refine ⟨⟨J + 1, n - Ut.pos f n J - Ut.nof f n J, _, _, _, ?_, ?_, HR1.out, rfl, rfl, ?_, ?_, ?_⟩, ?_⟩
        · rw [Ut.pos_succ]; omega
        · omega
        · have h4 := HU.out.cut (c := c0) (k := Ut.nof f n J) (by omega) (by omega)
          rw [Ut.pos_succ, ← Nat.sub_sub]
          simp only [Nat.add_assoc]
          exact h4
        · rw [vals_succ]; exact hO2.out
        · refine bl_grown hG2 (own_base HO.out) (by simp; omega) ?_
          have HB' := HB.out
          (repeat' (first | with_reducible exact Below.refl _ _ | with_reducible refine bl_drewN ?_ _ | with_reducible refine bl_drew ?_ | refine bl_set (by (first | omega | (simp; done) | (simp; omega))) ?_ _ | refine bl_alloc (by (first | omega | (simp; done) | (simp; omega))) ?_ _ | refine bl_then (by assumption) ?_ (by (first | omega | (simp; done) | (simp; omega))) | refine Step.bl (by assumption) (by assumption) (by (first | omega | (simp; done) | (simp; omega))) (by (first | omega | (simp; done) | (simp; omega))) ?_))
        · show n - Ut.pos f n J - Ut.nof f n J < m
          have : Ut.nof f n J ≠ 0 := fun h => by rw [h] at d1; cases d1
          omega
/-- A point's bytes. -/
def bat (p i : Nat) : Nat :=
  if p < 128 then p
  else if p < 2048 then (if i = 0 then 192 + p / 64 else 128 + p % 64)
  else if p < 65536 then (if i = 0 then 224 + p / 4096 else if i = 1 then 128 + p / 64 % 64 else 128 + p % 64)
  else if i = 0 then 240 + p / 262144 % 8 else if i = 1 then 128 + p / 4096 % 64 else if i = 2 then 128 + p / 64 % 64 else 128 + p % 64
set_option maxRecDepth 10000 in
set_option maxHeartbeats 1600000 in
theorem rBytes_any (p : Nat) (hp : p < 2097152) (w : World) : Calls Try.prog 32 #[.int .u32 p] w fun e w' =>
    e = .returned (.slice (some ⟨w.heap.size, 0, none⟩) (Ut.blen p) (Ut.blen p)) ∧ (∀ i, i < Ut.blen p → w'.cell? ⟨w.heap.size, i, none⟩ = some (.int .u8 (bat p i))) ∧ w.heap.size < w'.heap.size ∧ Below w.heap.size w w' := by
  unfold Ut.blen bat
  rcases (by omega : p < 128 ∨ (128 ≤ p ∧ p < 2048) ∨ (2048 ≤ p ∧ p < 65536) ∨ 65536 ≤ p) with h | h | h | h
  · rw [if_pos h]
    simp only [if_pos h]
    go_enter Try.func32, Try.ntmps32
    go_wp2_with fail
    go_ret
    refine ⟨rfl, fun i hi => ?_, by simp, by (repeat' (first | with_reducible exact Below.refl _ _ | with_reducible refine bl_drewN ?_ _ | with_reducible refine bl_drew ?_ | refine bl_set (by (first | omega | (simp; done) | (simp; omega))) ?_ _ | refine bl_alloc (by (first | omega | (simp; done) | (simp; omega))) ?_ _ | refine bl_then (by assumption) ?_ (by (first | omega | (simp; done) | (simp; omega))) | refine Step.bl (by assumption) (by assumption) (by (first | omega | (simp; done) | (simp; omega))) (by (first | omega | (simp; done) | (simp; omega))) ?_))⟩
    obtain rfl : i = 0 := by omega
    refine ((Blk.new w _ _).cell 0).trans ?_
    simp
    try omega
  · have h1 : ¬ p < 128 := by omega
    rw [if_neg h1, if_pos h.2]
    simp only [if_neg h1, if_pos h.2]
    go_enter Try.func32, Try.ntmps32
    go_wp2_with fail
    go_ret
    refine ⟨rfl, fun i hi => ?_, by simp, by (repeat' (first | with_reducible exact Below.refl _ _ | with_reducible refine bl_drewN ?_ _ | with_reducible refine bl_drew ?_ | refine bl_set (by (first | omega | (simp; done) | (simp; omega))) ?_ _ | refine bl_alloc (by (first | omega | (simp; done) | (simp; omega))) ?_ _ | refine bl_then (by assumption) ?_ (by (first | omega | (simp; done) | (simp; omega))) | refine Step.bl (by assumption) (by assumption) (by (first | omega | (simp; done) | (simp; omega))) (by (first | omega | (simp; done) | (simp; omega))) ?_))⟩
    rcases (by omega : i = 0 ∨ i = 1) with rfl | rfl
    all_goals
      refine ((Blk.new w _ _).cell _).trans ?_
      simp
      try omega
  · have h1 : ¬ p < 128 := by omega
    have h2 : ¬ p < 2048 := by omega
    rw [if_neg h1, if_neg h2, if_pos h.2]
    simp only [if_neg h1, if_neg h2, if_pos h.2]
    have i1 : ¬ (p : Int) < 128 := by omega
    have i2 : ¬ (p : Int) < 2048 := by omega
    have i3 : (p : Int) < 65536 := by omega
    clear h h1 h2 hp
    go_enter Try.func32, Try.ntmps32
    go_wp2_with fail
    go_ret
    refine ⟨rfl, fun i hi => ?_, by simp, by (repeat' (first | with_reducible exact Below.refl _ _ | with_reducible refine bl_drewN ?_ _ | with_reducible refine bl_drew ?_ | refine bl_set (by (first | omega | (simp; done) | (simp; omega))) ?_ _ | refine bl_alloc (by (first | omega | (simp; done) | (simp; omega))) ?_ _ | refine bl_then (by assumption) ?_ (by (first | omega | (simp; done) | (simp; omega))) | refine Step.bl (by assumption) (by assumption) (by (first | omega | (simp; done) | (simp; omega))) (by (first | omega | (simp; done) | (simp; omega))) ?_))⟩
    rcases (by omega : i = 0 ∨ i = 1 ∨ i = 2) with rfl | rfl | rfl
    all_goals
      refine ((Blk.new w _ _).cell _).trans ?_
      simp
      try omega
  · have h1 : ¬ p < 128 := by omega
    have h2 : ¬ p < 2048 := by omega
    have h3 : ¬ p < 65536 := by omega
    rw [if_neg h1, if_neg h2, if_neg h3]
    simp only [if_neg h1, if_neg h2, if_neg h3]
    have i1 : ¬ (p : Int) < 128 := by omega
    have i2 : ¬ (p : Int) < 2048 := by omega
    have i3 : ¬ (p : Int) < 65536 := by omega
    clear h h1 h2 h3 hp
    go_enter Try.func32, Try.ntmps32
    go_wp2_with fail
    go_ret
    refine ⟨rfl, fun i hi => ?_, by simp, by (repeat' (first | with_reducible exact Below.refl _ _ | with_reducible refine bl_drewN ?_ _ | with_reducible refine bl_drew ?_ | refine bl_set (by (first | omega | (simp; done) | (simp; omega))) ?_ _ | refine bl_alloc (by (first | omega | (simp; done) | (simp; omega))) ?_ _ | refine bl_then (by assumption) ?_ (by (first | omega | (simp; done) | (simp; omega))) | refine Step.bl (by assumption) (by assumption) (by (first | omega | (simp; done) | (simp; omega))) (by (first | omega | (simp; done) | (simp; omega))) ?_))⟩
    rcases (by omega : i = 0 ∨ i = 1 ∨ i = 2 ∨ i = 3) with rfl | rfl | rfl | rfl
    all_goals
      refine ((Blk.new w _ _).cell _).trans ?_
      simp
      try omega
end Go.Proofs.Ytjoehhojhfgooaa
