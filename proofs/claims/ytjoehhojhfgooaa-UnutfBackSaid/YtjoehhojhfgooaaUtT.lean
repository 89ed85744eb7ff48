/- sabretachelaw09.points: of bytes, by the program; same. No condition. -/
import Derived.Test.YtjoehhojhfgooaaUtDc
namespace Go.Proofs.Ytjoehhojhfgooaa
open Go.RowKit
set_option linter.unusedSimpArgs false
set_option linter.unusedVariables false
attribute [local go_sem] IntKind.wrap_u32' signed_u32 max_u32
attribute [local go_sem ↓] Go.wp_at_zero Go.wp_at_succ
attribute [local go_sem] Calm.C
attribute [local go_sem low] Calm.al_cell Calm.al_frozen
theorem own_step {w w' : World} {F F' : Nat → Prop} {base n : Nat} {e : TypeId} {size : Nat} {v : Value} {xs : List Value} (hs : Step F F' w w') (h : w.ownsRow base e size v n xs) (hn : ∀ k, v.ownBlock = some k → ¬ F k) : w'.ownsRow base e size v n xs := by
  refine ⟨h.1, ?_⟩
  rcases h.2 with h0 | ⟨g, cap, cur, rfl, h1, h2, h3⟩
  · exact .inl h0
  · exact .inr ⟨g, cap, cur, rfl, h1, (hs.keep g (Array.getElem?_eq_some_iff.1 h2).1 (hn g rfl)).trans h2, h3⟩
theorem Ar.grown {w : World} {p g lp : Nat} {FL : Nat → Prop} {ws : List Int} {top : Nat} {evs : List Ev} (h : Ar w p g lp FL ws top evs) {w' : World} {row : Option Nat} (hg : w.grownBy w' row) (hr : ∀ k, row = some k → ¬ AF p g FL k) : Ar w' p g lp FL ws top evs := by
  refine h.beside (G := fun i => row = some i ∧ i < w.heap.size) (G' := fun i => row = some i ∧ i < w.heap.size) ⟨hg.os, hg.tape, hg.output, hg.size, fun i hi hn => hg.block i hi (fun e => hn ⟨e.symm, hi⟩), fun i _ => Iff.rfl, fun i hi => Nat.lt_of_lt_of_le hi.2 hg.size⟩ (fun i hi hf => hr i hf.1 hi)
/-- What is put out of the bytes ahead of k. -/
def lst (f : Nat → Nat) (n : Nat) : Nat → List Nat
  | 0 => []
  | k + 1 => lst f n k ++ (if !Ut.isBad f n && Ut.wk f n k then [Ut.ov f n k] else [])
theorem lst_zero (f : Nat → Nat) (n : Nat) : lst f n 0 = [] := rfl
theorem lst_succ (f : Nat → Nat) (n k : Nat) : lst f n (k + 1) = lst f n k ++ (if !Ut.isBad f n && Ut.wk f n k then [Ut.ov f n k] else []) := rfl
theorem lst_len (f : Nat → Nat) (n : Nat) : ∀ k, (lst f n k).length ≤ k
  | 0 => Nat.le_refl _
  | k + 1 => by
    have := lst_len f n k
    rw [lst_succ, List.length_append]
    split
    · simp; omega
    · simp; omega
def u32s (l : List Nat) : List Value := l.map fun (x : Nat) => .int .u32 (x : Int)
theorem u32s_app (a b : List Nat) : u32s (a ++ b) = u32s a ++ u32s b := by unfold u32s; exact List.map_append
theorem u32s_one (a : Nat) : u32s [a] = [.int .u32 a] := rfl
theorem u32s_nil : u32s [] = [] := rfl
theorem own_after {wr w1 : World} {F F' : Nat → Prop} {base m sz cB : Nat} {e : TypeId} {v : Value} {xs : List Value} (hs : Step F F' wr w1) (hO : wr.ownsRow base e sz v m xs) (hV : ∀ b, v.ownBlock = some b → ¬ F b ∧ b ≠ cB) :
    w1.ownsRow base e sz v m xs ∧ ∀ b, v.ownBlock = some b → ¬ F' b ∧ b ≠ cB :=
  ⟨own_step hs hO (fun b hb => (hV b hb).1), fun b hb => ⟨fun hf => (hV b hb).1 ((hs.foot b (own_lt hO b hb)).1 hf), (hV b hb).2⟩⟩
theorem min_self (n : Nat) : min n n = n := by omega
attribute [local irreducible] Ut.out Ut.answer Ut.evs Ut.lay stEvs lst u32s
set_option maxRecDepth 10000 in
set_option maxHeartbeats 3200000 in
theorem points09_any {w : World} {A : Option Addr} {n : Nat} {f : Nat → Nat} (hA : U8s w A n f) (hf : ∀ i, f i < 256) (hn : n ≤ 100) (c : Nat) :
    Calls Try.prog 33 #[.slice A n c] w fun e w' => ∃ A' m c', e = .returned (.tuple #[.slice A' m c', .bool (!Ut.isBad f n)]) ∧ m = (lst f n n).length ∧ w'.ownsRow w.heap.size 30 1 (.slice A' m c') m (u32s (lst f n n)) ∧ Below w.heap.size w w' := by
  have HX := Lib.hid hA
  have HF := Lib.hid hf
  clear hA hf
  have hnm : (n : Int) % 4294967296 = n := by omega
  obtain ⟨i0, hi, hz0, hz1, hz2⟩ := info_parts Try.infoU32
  go_enter Try.func33, Try.ntmps33
  go_wp2_with (first | (go_at_call 30; with_reducible refine (Lay_any HX.out.ints (by omega) (fun i hi => by have := HF.out i; omega)).mono ?_; rintro e wX ⟨p, g, lp, F1, rfl, hA1, hlow1, hb1⟩; have HA := Lib.hid hA1; have LOWA := Lib.hid hlow1; have BA := Lib.hid hb1; have zA := hb1.size; clear hA1 hlow1 hb1))
  obtain ⟨E0, hE0⟩ : ∃ E0, [(⟨4, 0, (n : Int) * 3⟩ : Ev)] ++ stEvs 0 n = E0 := ⟨_, rfl⟩
  rw [hE0] at HA
  have HL0 := Lib.hid (show E0.length = n + 1 by rw [← hE0, List.length_append, stEvs_len]; simp; omega)
  obtain ⟨W0, hW0⟩ : ∃ W0, Ut.lay n (fun i => (f i : Int)) n = W0 := ⟨_, rfl⟩
  rw [hW0] at HA
  have HW0 := Lib.hid (show W0.length = 3 * n by rw [← hW0, Ut.lay_len])
  have HWg := Lib.hid (show ∀ k, k < n → Ct.And (W0.getD k 0) 255 = f k from fun k hk => by
    have h1 := HF.out k
    rw [← hW0, Ut.lay_get _ _ _ (by omega), if_pos hk, show (255 : Int) = ((255 : Nat) : Int) from rfl, Ct.and_nat _ 255 (by omega) (by decide), show (255 : Nat) = 2 ^ 8 - 1 from rfl, Nat.and_two_pow_sub_one_eq_mod, Nat.mod_eq_of_lt h1])
  clear hE0 hW0
  go_wp2_with (first | (go_at_call 28; refine (Of_any _ _).mono ?_; rintro e wo ⟨rfl, hb⟩; have hcf_wo := bcell hb; (try simp only [World.size_alloc, World.size_setCell, drew_size] at hcf_wo); have hz_wo := hb.size; (try simp only [World.size_alloc, World.size_setCell, World.size_drew] at hz_wo); have hbh_wo := Lib.hid hb; clear hb; obtain ⟨hc_wo, hf_wo⟩ := hcf_wo) | (go_at_call 27; with_reducible refine (Decode_n (HA.out.below hbh_wo) (by rw [HL0.out]; omega) (by omega) n).mono ?_; rintro e w3 ⟨rfl, F3, hA3, hs3⟩; have HA3 := Lib.hid hA3; have S3 := Lib.hid hs3; clear hA3 hs3))
  have B3 := Lib.hid (S3.out.below (bl_then hbh_wo BA.out BA.out.size) (Nat.le_trans BA.out.size hbh_wo.out.size) LOWA.out)
  have LX3 := Lib.hid (S3.out.low (Nat.le_trans BA.out.size hbh_wo.out.size) LOWA.out)
  have hans := Ut.answer_form n W0 (by rw [HW0.out]; omega) f HF.out HWg.out n (by omega) (by omega)
  have HG := Lib.hid (Ut.out_form n W0 (by rw [HW0.out]; omega) f HF.out HWg.out n (by omega) (by omega))
  rw [min_self] at hans HG
  rw [hans]
  obtain ⟨W3, hW3⟩ : ∃ W3, Ut.out 0 n (2 * n) n n W0 = W3 := ⟨_, rfl⟩
  rw [hW3] at HA3 HG
  obtain ⟨E1, hE1⟩ : ∃ E1, E0 ++ Ut.evs 0 n (2 * n) n = E1 := ⟨_, rfl⟩
  rw [hE1] at HA3
  have HL1 := Lib.hid (show E1.length = 8 * n + 1 by rw [← hE1, List.length_append, Ut.evs_len, HL0.out]; omega)
  obtain ⟨BB, hBB⟩ : ∃ BB, Ut.isBad f n = BB := ⟨_, rfl⟩
  rw [hBB] at HG ⊢
  have HBB := Lib.hid hBB
  clear hW3 hans hc_wo hf_wo hbh_wo S3 HA hE1 hBB BA LOWA
  have z3 := B3.out.size
  have hcB : ¬ AF p g F3 w3.heap.size := fun hf => absurd (HA3.out.most _ hf) (Nat.lt_irrefl _)
  go_loopw [8, 27] (fun a8 i wr => ∃ (k : Nat) (F : Nat → Prop) (E : List Ev) (v : Value) (m : Nat), k ≤ n ∧ i = .int .i64 k ∧ a8 = v ∧ Ar wr p g lp F W3 (3 * n) E ∧ E.length ≤ 8 * n + 1 + 4 * k ∧ m = (lst f n k).length ∧ wr.ownsRow w.heap.size 30 1 v m (u32s (lst f n k)) ∧
    (∀ b, v.ownBlock = some b → ¬ AF p g F b ∧ b ≠ w3.heap.size) ∧ (∀ i, AF p g F i → w.heap.size ≤ i) ∧ Below w.heap.size w wr ∧ ¬ AF p g F w3.heap.size ∧ w3.heap.size < wr.heap.size ∧ wr.cell? ⟨w3.heap.size, 0, none⟩ = some (.int .u32 (Ct.Mask BB))) (fun _ i _ => n - (intOf i).toNat)
  case atStart =>
    refine ⟨0, F3, E1, _, 0, Nat.zero_le _, rfl, rfl, HA3.out.alloc _, by rw [HL1.out]; omega, by rw [lst_zero]; rfl, ?_, fun b hb => by simp [Value.ownBlock] at hb, LX3.out, B3.out.alloc z3 _, hcB, by simp, new_cell _ _ _⟩
    rw [lst_zero, u32s_nil]
    exact World.ownsRow_nil _ _ _ _
  case round =>
    obtain ⟨k, F, E, v, m, hk, rfl, rfl, hA, hE, hm, hO, hv, hlow, hB, hn1, hz1', hc1⟩ := hrel
    clear HA3 hcB
    have HA := Lib.hid hA
    have HO := Lib.hid hO
    have HV := Lib.hid hv
    have HLOW := Lib.hid hlow
    have HB := Lib.hid hB
    have HM := Lib.hid hm
    have zr := hB.size
    have hml := lst_len f n k
    have m1 : FX (AF p g F) w3.heap.size = False := eq_false hn1
    have hn := foot_old hA.most
    clear hA hO hv hlow hB hn1
    by_cases hkn : k < n
    · obtain ⟨b, hb⟩ : ∃ b, (!BB && Ut.wk f n k) = b := ⟨_, rfl⟩
      have hg2 := HG.out (2 * n + k)
      rw [if_neg (by omega), if_pos (by omega), Nat.add_sub_cancel_left, hb] at hg2
      have HG2 := Lib.hid hg2
      have HB2 := Lib.hid hb
      have hmk : m ≤ k := by omega
      clear hg2 hb hm
      cases b
      · have x1 : (Ct.Mask false != 0) = false := rfl
        go_wp2_with (first | (go_at_call 22; with_reducible refine' Calls.mono (ARelease_e ?_ ?_ _ (2 * n + k) ?_ ?_) ?_; rotate_left 6; (next => (repeat' (first | with_reducible exact HA.out | with_reducible refine' Ar.drewN ?_ _ | with_reducible refine' Ar.drew ?_ | with_reducible refine' Ar.farE ?_ ?_ _ | with_reducible refine' Ar.alloc ?_ _ | with_reducible refine' Ar.below ?_ (by assumption))); (try (all_goals (simp [*, ↓IntWalk.iteOmega]; first | done | fail))); (first | done | fail)); (next => omega); (next => omega); (next => omega); rintro e w1 ⟨rfl, F1, hA1, hs1⟩; rw [HG2.out]; obtain ⟨hc, hf, hn⟩ := hs1.rules; (try simp only [World.size_alloc, World.size_setCell, drew_size] at hc hf hn); have hz := hs1.size; (try simp only [World.size_alloc, World.size_setCell, World.size_drew] at hz); have hst := Lib.hid hs1; have HA := Lib.hid hA1; clear hA1 hs1))
        have HO1 := Lib.hid (own_after hst.out HO.out HV.out)
        refine ⟨⟨k + 1, F1, _, _, m, by omega, by go_num, rfl, HA.out, ?_, ?_, ?_, HO1.out.2, hst.out.low zr HLOW.out, hst.out.below HB.out zr HLOW.out, ?_, by omega, ?_⟩, by simp [intOf]; omega⟩
        · simp only [List.length_append, List.length_cons, List.length_nil]; omega
        · rw [lst_succ, HBB.out, HB2.out]; simp [HM.out]
        · rw [lst_succ, HBB.out, HB2.out]; simp only [Bool.false_eq_true, if_false, List.append_nil]; exact HO1.out.1
        · (intro hfoot; simp [*, ↓IntWalk.iteOmega] at hfoot)
        · simp [go_sem, ↓IntWalk.iteOmega, *]
      · have x1 : (Ct.Mask true != 0) = true := rfl
        have hg1 := HG.out (n + k)
        have hBB0 : BB = false := by
          have h := HB2.out
          cases BB
          · rfl
          · cases h
        rw [if_pos (by omega), Nat.add_sub_cancel_left, hBB0] at hg1
        have HG1 := Lib.hid (show W3.getD (n + k) 0 = (Ut.ov f n k : Int) from hg1)
        clear hg1 hBB0
        go_wp2_with (first
          | (go_at_call 22; with_reducible refine' Calls.mono (ARelease_e ?_ ?_ _ (2 * n + k) ?_ ?_) ?_; rotate_left 6; (next => (repeat' (first | with_reducible exact HA.out | with_reducible refine' Ar.drewN ?_ _ | with_reducible refine' Ar.drew ?_ | with_reducible refine' Ar.farE ?_ ?_ _ | with_reducible refine' Ar.alloc ?_ _ | with_reducible refine' Ar.below ?_ (by assumption))); (try (all_goals (simp [*, ↓IntWalk.iteOmega]; first | done | fail))); (first | done | fail)); (next => omega); (next => omega); (next => omega); rintro e w1 ⟨rfl, F1, hA1, hs1⟩; rw [HG2.out]; obtain ⟨hc, hf, hn⟩ := hs1.rules; (try simp only [World.size_alloc, World.size_setCell, drew_size] at hc hf hn); have hz := hs1.size; (try simp only [World.size_alloc, World.size_setCell, World.size_drew] at hz); have hst := Lib.hid hs1; have HA := Lib.hid hA1; clear hA1 hs1; have HO1 := Lib.hid (own_after hst.out HO.out HV.out); have ST1 := hst; clear hst)
          | (go_at_call 22; with_reducible refine' Calls.mono (ARelease_e ?_ ?_ _ (n + k) ?_ ?_) ?_; rotate_left 6; (next => (repeat' (first | with_reducible exact HA.out | with_reducible refine' Ar.drewN ?_ _ | with_reducible refine' Ar.drew ?_ | with_reducible refine' Ar.farE ?_ ?_ _ | with_reducible refine' Ar.alloc ?_ _ | with_reducible refine' Ar.below ?_ (by assumption))); (try (all_goals (simp [*, ↓IntWalk.iteOmega]; first | done | fail))); (first | done | fail)); (next => (first | omega | (simp only [List.length_append, List.length_cons, List.length_nil]; omega))); (next => omega); (next => omega); rintro e w2 ⟨rfl, F2, hA2, hs2⟩; rw [HG1.out]; have HO2 := Lib.hid (own_after hs2 HO1.out.1 HO1.out.2); have HA2 := Lib.hid hA2; have ST2 := Lib.hid hs2; obtain ⟨hc2, hf2, hn2⟩ := hs2.rules; have hz_2 := hs2.size; clear hA2 hs2)
          | (at_builtin; refine wpList_append_lies _ (by rfl) _ _ 22 (by rfl) w.heap.size 30 i0 _ 1 4 Try.underlying22 hi hz0 hz1 hz2 (by rfl) (by decide) _ m (u32s (lst f n k)) (by rfl) (HO2.out.1.alloc _) ⟨w2.heap.size, 0, none⟩ 1 1 [.int .u32 (Ut.ov f n k)] (by rfl) (by rfl) (World.news_of_block (heap_alloc_new _ _)) (by simp [Value.oneCell']) (by decide) (by simp only [maxLen]; omega) (by omega) (by simp; omega) (w2.heap.size + 1) (by simp) ?_; intro gg cap w4 hown1 hg1 hat1 hlt1; have hO4 := Lib.hid hown1; have hG4 := Lib.hid hg1; have hAT := Lib.hid hat1; clear hg1 hown1 hat1))
        have S12 := Lib.hid (ST1.out.trans ST2.out)
        have B2 := Lib.hid (S12.out.below HB.out zr HLOW.out)
        have LW2 := Lib.hid (S12.out.low zr HLOW.out)
        have zs := S12.out.size
        have hn3 : ¬ AF p g F2 w3.heap.size := by (intro hfoot; simp [*, ↓IntWalk.iteOmega] at hfoot)
        have hgg : gg ≠ w3.heap.size ∧ ¬ AF p g F2 gg := by
          rcases hAT.out with h | h
          · exact ⟨(HO2.out.2 gg h).2, (HO2.out.2 gg h).1⟩
          · subst h
            exact ⟨by omega, fun hf => by have := HA2.out.most _ hf; omega⟩
        have zg := hG4.out.size
        rw [World.size_alloc] at zg
        refine ⟨⟨k + 1, F2, _, _, m + 1, by omega, by go_num, rfl, (HA2.out.alloc _).grown hG4.out (fun b hb => (HO2.out.2 b hb).1), ?_, ?_, ?_, ?_, LW2.out, ?_, hn3, by omega, ?_⟩, by simp [intOf]; omega⟩
        · simp only [List.length_append, List.length_cons, List.length_nil]; omega
        · rw [lst_succ, HBB.out, HB2.out]; simp [HM.out]
        · rw [lst_succ, HBB.out, HB2.out, if_pos rfl, u32s_app, u32s_one]; exact hO4.out
        · intro b hb
          obtain rfl : gg = b := by simpa [Value.ownBlock] using hb
          exact ⟨hgg.2, hgg.1⟩
        · refine bl_grown hG4 (own_base HO2.out.1) (by simp; omega) ?_
          exact B2.out.alloc (by omega) _
        · have h1 : w4.cell? ⟨w3.heap.size, 0, none⟩ = (w2.alloc (.cells #[.int .u32 (Ut.ov f n k)] 30)).cell? ⟨w3.heap.size, 0, none⟩ := World.cell?_of_block (a := ⟨w3.heap.size, 0, none⟩) (hG4.out.block _ (by rw [World.size_alloc]; show w3.heap.size < _; omega) (fun e => (HO2.out.2 _ e.symm).2 rfl))
          rw [h1]
          simp [go_sem, ↓IntWalk.iteOmega, *]
    · have hkE : k = n := by omega
      have HKE := Lib.hid hkE
      have hge : n ≤ k := by omega
      obtain ⟨A8, c8, rfl⟩ := own_slice HO.out
      clear hkE hm
      have e0 : (Ct.Mask BB == 0) = !BB := by cases BB <;> rfl
      go_wp2_with (first | (go_at_call 31; refine (told09_any _ _).mono ?_; rintro e wt ⟨rfl, hb⟩; have hcf_wt := bcell hb; (try simp only [World.size_alloc, World.size_setCell, drew_size] at hcf_wt); have hz_wt := hb.size; (try simp only [World.size_alloc, World.size_setCell, World.size_drew] at hz_wt); have hbh_wt := Lib.hid hb; clear hb; obtain ⟨hc_wt, hf_wt⟩ := hcf_wt))
      have hb5 : Below wr.heap.size wr wt := by (repeat' (first | with_reducible exact Below.refl _ _ | with_reducible refine bl_drewN ?_ _ | with_reducible refine bl_drew ?_ | refine bl_set (by (first | omega | (simp; done) | (simp; omega))) ?_ _ | refine bl_alloc (by (first | omega | (simp; done) | (simp; omega))) ?_ _ | refine bl_then (by assumption) ?_ (by (first | omega | (simp; done) | (simp; omega))) | refine Step.bl (by assumption) (by assumption) (by (first | omega | (simp; done) | (simp; omega))) (by (first | omega | (simp; done) | (simp; omega))) ?_))
      refine ret_two (x := .slice A8 m c8) (y := .bool (!BB)) rfl rfl rfl rfl ⟨A8, m, c8, by rw [HBB.out], ?_, ?_, bl_then (Lib.hid hb5) HB.out zr⟩
      · rw [HM.out, HKE.out]
      · have h := pw_own HO.out (Lib.hid hb5)
        rw [HKE.out] at h
        exact h
/-- Words that are read. -/
def Rd (w : World) (A : Option Addr) (n : Nat) (g : Nat → Int) : Prop := 0 < n → ∃ b o, A = some ⟨b, o, none⟩ ∧ b < w.heap.size ∧ ∀ i, i < n → w.cell? ⟨b, o + i, none⟩ = some (.int .u32 (g i))
theorem Rd.below {w W : World} {A : Option Addr} {n : Nat} {g : Nat → Int} (h : Rd w A n g) (hb : Below w.heap.size w W) : Rd W A n g := fun h0 => by
  obtain ⟨b, o, e, hl, hc⟩ := h h0
  exact ⟨b, o, e, Nat.lt_of_lt_of_le hl hb.size, fun i hi => (hb.cell (p := ⟨b, o + i, none⟩) hl).trans (hc i hi)⟩
theorem Rd.take {w : World} {A : Option Addr} {n m : Nat} {g : Nat → Int} (h : Rd w A n g) (hm : m ≤ n) : Rd w A m g := fun h0 => by
  obtain ⟨b, o, rfl, hl, hcs⟩ := h (by omega)
  exact ⟨b, o, rfl, hl, fun i hi => hcs i (by omega)⟩
theorem Rd.cut {w : World} {A : Option Addr} {n c k : Nat} {g : Nat → Int} (h : Rd w A n g) (hc : n ≤ c) (_hk : k ≤ n) : Rd w (if c = k then A else A.map (fun x => x.add k)) (n - k) (fun i => g (k + i)) := fun h0 => by
  obtain ⟨b, o, rfl, hl, hcs⟩ := h (by omega)
  rw [if_neg (by omega)]
  refine ⟨b, o + k, by simp [Addr.add_mid], hl, fun i hi => ?_⟩
  rw [Nat.add_assoc]
  exact hcs (k + i) (by omega)
theorem Rd.eq {w : World} {A : Option Addr} {n m : Nat} {g g' : Nat → Int} (h : Rd w A n g) (hn : m = n) (hg : ∀ i, i < n → g i = g' i) : Rd w A m g' := by
  subst hn
  intro h0
  obtain ⟨b, o, e, hl, hc⟩ := h h0
  exact ⟨b, o, e, hl, fun i hi => by rw [← hg i hi]; exact hc i hi⟩
theorem Rd.own {w : World} {base m c : Nat} {A : Option Addr} {l : List Nat} (h : w.ownsRow base 30 1 (.slice A m c) m (u32s l)) : Rd w A m (fun i => (l.getD i 0 : Int)) ∧ m ≤ c ∧ m = l.length := by
  have hl : m = l.length := by have := h.1; unfold u32s at this; simpa using this.symm
  refine ⟨fun h0 => ?_, ?_, hl⟩
  · obtain ⟨g, cap, hv, hb, hgl⟩ := h.form h0
    injection hv with h1 h2 h3
    subst h1
    refine ⟨g, 0, rfl, hgl, fun i hi => ?_⟩
    rw [Nat.zero_add]
    refine (h.cellAt i (by omega)).trans ?_
    unfold u32s
    rw [List.getElem?_map, List.getElem?_eq_getElem (by omega)]
    simp only [Option.map_some]
    rw [List.getD_eq_getElem?_getD, List.getElem?_eq_getElem (by omega)]
    rfl
  · rcases h.2 with ⟨h0, h1⟩ | ⟨g, cap, cur, hv, h1, h2, h3⟩
    · omega
    · injection hv with e1 e2 e3
      omega
set_option maxRecDepth 10000 in
set_option maxHeartbeats 1600000 in
theorem same09_any {w : World} {A B : Option Addr} {n : Nat} {g : Nat → Int} (hA : Rd w A n g) (hB : Rd w B n g) (hn : n ≤ 1000000) (c d : Nat) :
    Calls Try.prog 34 #[.slice A n c, .slice B n d] w fun e w' => e = .returned (.bool true) ∧ Below w.heap.size w w' := by
  have HA := Lib.hid hA
  have HB := Lib.hid hB
  clear hA hB
  go_enter Try.func34, Try.ntmps34
  go_wp2_with fail
  go_loopw [8] (fun i wr => ∃ k : Nat, k ≤ n ∧ i = .int .i64 k ∧ Below w.heap.size w wr) (fun i _ => n - (intOf i).toNat)
  case atStart => exact ⟨0, Nat.zero_le _, rfl, Below.refl _ _⟩
  case round =>
    obtain ⟨k, hk, rfl, hW⟩ := hrel
    have HW := Lib.hid hW
    have zr := hW.size
    clear hW
    by_cases hkn : k < n
    · obtain ⟨b1, o1, rfl, hb1, hc1⟩ := HA.out (by omega)
      obtain ⟨b2, o2, rfl, hb2, hc2⟩ := HB.out (by omega)
      have x1 := (HW.out.cell (p := ⟨b1, o1 + k, none⟩) hb1).trans (hc1 k hkn)
      have x2 := (HW.out.cell (p := ⟨b2, o2 + k, none⟩) hb2).trans (hc2 k hkn)
      obtain ⟨X, hX⟩ : ∃ X, g k = X := ⟨_, rfl⟩
      rw [hX] at x1 x2
      clear hc1 hc2 hX
      go_wp2_with fail
      go_region_held3 (fun w' => w'.cell? ⟨b1, o1 + k, none⟩ = some (.int .u32 X) ∧ w'.cell? ⟨b2, o2 + k, none⟩ = some (.int .u32 X)) ((simp [go_sem, ↓IntWalk.iteOmega, *]; done)) (fail)
      all_goals (go_wp2_with fail)
      all_goals
        refine ⟨⟨k + 1, by omega, by go_num, ?_⟩, by simp [intOf]; omega⟩
        have HW' := HW.out
        (repeat' (first | with_reducible exact Below.refl _ _ | with_reducible refine bl_drewN ?_ _ | with_reducible refine bl_drew ?_ | refine bl_set (by (first | omega | (simp; done) | (simp; omega))) ?_ _ | refine bl_alloc (by (first | omega | (simp; done) | (simp; omega))) ?_ _ | refine bl_then (by assumption) ?_ (by (first | omega | (simp; done) | (simp; omega))) | refine Step.bl (by assumption) (by assumption) (by (first | omega | (simp; done) | (simp; omega))) (by (first | omega | (simp; done) | (simp; omega))) ?_))
    · have hge : n ≤ k := by omega
      go_wp2_with fail
      go_ret
      exact ⟨by simp, HW.out⟩
end Go.Proofs.Ytjoehhojhfgooaa
