/- The law of scan: told, same, lay, awake. No condition. -/
import Derived.Test.YtdakbejppnijdaaSaE
import Derived.Test.YtdakbejppnijdaaArN
import Derived.Test.YtdakbejppnijdaaArP
import Derived.Test.YtdakbejppnijdaaArS
namespace Go.Proofs.Ytdakbejppnijdaa
open Go.RowKit
set_option linter.unusedSimpArgs false
set_option linter.unusedVariables false
attribute [local go_sem] IntKind.wrap_u32' signed_u32 max_u32
attribute [local go_sem ↓] Go.wp_at_zero Go.wp_at_succ
attribute [local go_sem] Calm.C
attribute [local go_sem low] Calm.al_cell Calm.al_frozen
set_option maxHeartbeats 400000 in
theorem told05_any (a : Int) (w : World) : Calls Try.prog 23 #[.agg #[.int .u32 a]] w fun e w' => e = .returned (.int .u32 a) ∧ Below w.heap.size w w' := by
  go_enter Try.func23, Try.ntmps23
  go_wp2_with fail
  go_region_held3 (fun w' => w'.cell? ⟨w.heap.size, 0, none⟩ = some (.int .u32 a)) ((simp [go_sem, ↓IntWalk.iteOmega, *]; done)) (first | (go_at_call 68; refine (NewLog_any _).mono ?_; rintro e w1 ⟨p1, F1, rfl, hL1, hlow1, hb⟩; obtain ⟨hc, hf⟩ := bcell hb; have hz := hb.size; (try simp only [World.size_alloc, World.size_setCell, World.size_drew] at hz); have hn := foot_new hL1.most hlow1; have hlo := Lib.hid hlow1; clear hlow1; have hbh := Lib.hid hb; clear hb) | (go_at_call 69; refine' Calls.mono (Release_any _ _ _ _ _ ?_ ?_) ?_; rotate_left; rotate_left; (next => ((repeat' (first | assumption | refine Lg.alloc ?_ _ | refine Lg.set_ ?_ (by (intro hfoot; simp [*, ↓IntWalk.iteOmega] at hfoot)) _ | refine Lg.below ?_ (by assumption) | refine Lg.drew ?_ | refine Lg.drewN ?_ _)))); (next => (first | omega | (simp; done) | (simp; omega))); rintro e w1 ⟨rfl, F1, hL1, hs1⟩; obtain ⟨hc, hf, hn⟩ := hs1.rules; have hz := hs1.size; (try simp only [World.size_alloc, World.size_setCell, World.size_drew] at hz); have hsh := Lib.hid hs1; clear hs1))
  go_wp2_with fail
  go_ret
  refine ⟨rfl, ?_⟩
  (repeat' (first | with_reducible exact Below.refl _ _ | with_reducible refine bl_drewN ?_ _ | with_reducible refine bl_drew ?_ | refine bl_set (by (first | omega | (simp; done) | (simp; omega))) ?_ _ | refine bl_alloc (by (first | omega | (simp; done) | (simp; omega))) ?_ _ | refine bl_then (by assumption) ?_ (by (first | omega | (simp; done) | (simp; omega))) | refine Step.bl (by assumption) (by assumption) (by (first | omega | (simp; done) | (simp; omega))) (by (first | omega | (simp; done) | (simp; omega))) ?_))
namespace Sa
/-- Words read. -/
def Wd (w : World) (A : Option Addr) (n : Nat) (g : Nat → Int) : Prop := 0 < n → ∃ b o, A = some ⟨b, o, none⟩ ∧ b < w.heap.size ∧ ∀ i, i < n → w.cell? ⟨b, o + i, none⟩ = some (.int .u32 (g i))
theorem Wd.below {w W : World} {A : Option Addr} {n : Nat} {g : Nat → Int} (h : Wd w A n g) {B : Nat} (hB : w.heap.size ≤ B) (hb : Below B w W) : Wd W A n g := fun h0 => by
  obtain ⟨b, o, hA, hlt, hc⟩ := h h0
  exact ⟨b, o, hA, Nat.lt_of_lt_of_le hlt hb.size, fun i hi => (hb.cell (p := ⟨b, _, none⟩) (Nat.lt_of_lt_of_le hlt hB)).trans (hc i hi)⟩
theorem Wd.cl {w : World} {A : Option Addr} {n : Nat} {f : Nat → Nat} (h : Sj.Cl .u32 w A n f) : Wd w A n (fun i => (f i : Int)) := h
end Sa
set_option maxRecDepth 10000 in
set_option maxHeartbeats 1600000 in
theorem saSame_any {w : World} {A B : Option Addr} {n : Nat} {g h : Nat → Int} (hA : Sa.Wd w A n g) (hB : Sa.Wd w B n h) (he : ∀ i, i < n → g i = h i) (hn : n ≤ 1000000) (c d : Nat) :
    Calls Try.prog 24 #[.slice A n c, .slice B n d] w fun e w' => e = .returned (.bool true) ∧ Below w.heap.size w w' := by
  have HA := Lib.hid hA
  have HB := Lib.hid hB
  have HE := Lib.hid he
  clear hA hB he
  go_enter Try.func24, Try.ntmps24
  go_wp2_with fail
  go_loopw [13] (fun i wr => ∃ k : Nat, k ≤ n ∧ i = .int .i64 k ∧ Below w.heap.size w wr) (fun i _ => n - (intOf i).toNat)
  case atStart => exact ⟨0, Nat.zero_le _, rfl, Below.refl _ _⟩
  case round =>
    obtain ⟨k, hk, rfl, hW⟩ := hrel
    have HW := Lib.hid hW
    have zr := hW.size
    clear hW
    by_cases hkn : k < n
    · obtain ⟨b1, o1, rfl, hb1, hc1⟩ := HA.out (by omega)
      obtain ⟨b2, o2, rfl, hb2, hc2⟩ := HB.out (by omega)
      have x1 := (HW.out.cell (p := ⟨b1, o1 + k, none⟩) hb1).trans (hc1 k hkn)
      have x2 := (HW.out.cell (p := ⟨b2, o2 + k, none⟩) hb2).trans (hc2 k hkn)
      rw [← HE.out k hkn] at x2
      obtain ⟨X, hX⟩ : ∃ X, g k = X := ⟨_, rfl⟩
      rw [hX] at x1 x2
      clear hc1 hc2 hX
      go_wp2_with fail
      go_region_held3 (fun w' => w'.cell? ⟨b1, o1 + k, none⟩ = some (.int .u32 X) ∧ w'.cell? ⟨b2, o2 + k, none⟩ = some (.int .u32 X)) ((simp [go_sem, ↓IntWalk.iteOmega, *]; done)) (fail)
      all_goals (go_wp2_with fail)
      all_goals
        refine ⟨⟨k + 1, by omega, by go_num, ?_⟩, by simp [intOf]; omega⟩
        have HW' := HW.out
        (repeat' (first | with_reducible exact Below.refl _ _ | with_reducible refine bl_drewN ?_ _ | with_reducible refine bl_drew ?_ | refine bl_set (by (first | omega | (simp; done) | (simp; omega))) ?_ _ | refine bl_alloc (by (first | omega | (simp; done) | (simp; omega))) ?_ _ | refine bl_then (by assumption) ?_ (by (first | omega | (simp; done) | (simp; omega))) | refine Step.bl (by assumption) (by assumption) (by (first | omega | (simp; done) | (simp; omega))) (by (first | omega | (simp; done) | (simp; omega))) ?_))
    · have hge : n ≤ k := by omega
      go_wp2_with fail
      go_ret
      exact ⟨by simp, HW.out⟩
theorem ATake_eS {w : World} {p g lp : Nat} {FL : Nat → Prop} {ws : List Int} {top : Nat} {evs : List Ev} (h : Ar w p g lp FL ws top evs) (hn : evs.length < 1099511627776) (a : Int) (n : Nat) (ha : a = n) (hn2 : top + n ≤ ws.length) :
    Calls Try.prog 28 #[.pointer (some ⟨p, 0, none⟩), .int .i64 a] w fun e w' => e = .returned (.tuple #[.int .i64 top, .bool true]) ∧ ∃ FL', Ar w' p g lp FL' ws (top + n) (evs ++ [⟨4, top, n⟩]) ∧ Step (AF p g FL) (AF p g FL') w w' := by
  subst ha
  exact ATake_t h hn n hn2
theorem APut_zS {w : World} {p g lp : Nat} {FL : Nat → Prop} {ws : List Int} {top : Nat} {evs : List Ev} (h : Ar w p g lp FL ws top evs) (n c : Nat) (A : Option Addr) (f : Nat → Int) (hat : n ≤ top) (he : evs.length + n < 1099511627776) (hA : 0 < n → ∃ B off, A = some ⟨B, off, none⟩ ∧ B < w.heap.size ∧ ¬ AF p g FL B ∧ ∀ j, j < n → w.cell? ⟨B, off + j, none⟩ = some (.int .u32 (f j))) :
    Calls Try.prog 31 #[.pointer (some ⟨p, 0, none⟩), .int .i64 0, .slice A n c] w fun e w' => e = .returned (.bool true) ∧ ∃ FL', Ar w' p g lp FL' (putw ws 0 f n) top (evs ++ stEvs 0 n) ∧ Step (AF p g FL) (AF p g FL') w w' := APut_t h 0 n c A f (by omega) he hA
theorem put_srcS {w W : World} {A' : Option Addr} {nl : Nat} {wn : Nat → Nat} {G : Nat → Prop} (h : Sj.Cl .u32 w A' nl wn) (hb : Below w.heap.size w W) (hl : ∀ i, G i → w.heap.size ≤ i) : 0 < nl → ∃ B off, A' = some ⟨B, off, none⟩ ∧ B < W.heap.size ∧ ¬ G B ∧ ∀ j, j < nl → W.cell? ⟨B, off + j, none⟩ = some (.int .u32 ((fun j => (wn j : Int)) j)) := fun h0 => by
  obtain ⟨b, o, hA, hlt, hc⟩ := h h0
  exact ⟨b, o, hA, Nat.lt_of_lt_of_le hlt hb.size, fun hg => by have := hl b hg; omega, fun j hj => (hb.cell (p := ⟨b, _, none⟩) hlt).trans (hc j hj)⟩
/-- What the two lanes hold. -/
def Sa.la (n m : Nat) (f g : Nat → Nat) : List Int := putw (putw (List.replicate (n + m) 0) 0 (fun i => (f i : Int)) n) n (fun i => (g i : Int)) m
theorem Sa.la_len (n m : Nat) (f g : Nat → Nat) : (Sa.la n m f g).length = n + m := by
  unfold Sa.la
  rw [putw_len, putw_len, List.length_replicate]
theorem Sa.aw : Sa.st Ct.Add 0 false (Sa.la 3 0 (fun i => i + 1) (fun _ => 0)) (Sa.us 3) = (6, [1, 3, 6]) := by decide
attribute [local irreducible] putw stEvs shEvs Sa.la Sa.st Sa.ev
set_option maxRecDepth 10000 in
set_option maxHeartbeats 1600000 in
theorem saLay_any {w : World} {A B : Option Addr} {n m : Nat} {f g : Nat → Nat} (hA : Sj.Cl .u32 w A n f) (hB : Sj.Cl .u32 w B m g) (hn : n ≤ 1000) (hm : m ≤ 1000) (c d : Nat) :
    Calls Try.prog 14 #[.slice A n c, .slice B m d] w fun e w' => ∃ p q lp F, e = .returned (.pointer (some ⟨p, 0, none⟩)) ∧ Ar w' p q lp F (Sa.la n m f g) (n + m) ([⟨4, 0, (n : Int) + m⟩] ++ stEvs 0 n ++ stEvs n m) ∧ (∀ i, AF p q F i → w.heap.size ≤ i) ∧ Below w.heap.size w w' := by
  have HA := Lib.hid hA
  have HB := Lib.hid hB
  clear hA hB
  go_enter Try.func14, Try.ntmps14
  go_wp2_with (first
    | (go_at_call 27; with_reducible refine (ANew_any _ (n + m) (by split <;> split <;> omega) _).mono ?_; rintro e w0 ⟨p, q, lp, F0, rfl, hA0, hlow, hb⟩; have H0 := Lib.hid hA0; have LOW := Lib.hid hlow; have B0 := Lib.hid hb; have z0 := hb.size; clear hA0 hlow hb)
    | (go_at_call 28; with_reducible refine (ATake_eS H0.out (by decide) _ (n + m) (by omega) (by simp)).mono ?_; rintro e w1 ⟨rfl, F1, hA1, hs1⟩; have H1 := Lib.hid hA1; have B1 := Lib.hid (hs1.below B0.out z0 LOW.out); have L1 := Lib.hid (hs1.low (B := w.heap.size) z0 LOW.out); have z1 : w.heap.size ≤ w1.heap.size := B1.out.size; clear hA1 hs1)
    | (go_at_call 31; with_reducible refine (APut_zS H1.out n c A (fun j => (f j : Int)) (by omega) (by simp; omega) (put_srcS HA.out B1.out L1.out)).mono ?_; rintro e w2 ⟨rfl, F2, hA2, hs2⟩; have H2 := Lib.hid hA2; have B2 := Lib.hid (hs2.below B1.out z1 L1.out); have L2 := Lib.hid (hs2.low (B := w.heap.size) z1 L1.out); have z2 : w.heap.size ≤ w2.heap.size := B2.out.size; clear hA2 hs2))
  with_reducible refine (APut_t H2.out n m d B (fun j => (g j : Int)) (by omega) (by rw [List.length_append, stEvs_len]; simp; omega) (put_srcS HB.out B2.out L2.out)).mono ?_
  rintro e w3 ⟨rfl, F3, hA3, hs3⟩
  have H3 := Lib.hid hA3
  have B3 := Lib.hid (hs3.below B2.out z2 L2.out)
  have L3 := Lib.hid (hs3.low (B := w.heap.size) z2 L2.out)
  clear hA3 hs3
  go_wp2_with fail
  go_ret
  refine ⟨p, q, lp, F3, rfl, ?_, L3.out, B3.out⟩
  have h3 := H3.out
  unfold Sa.la
  simpa using h3
end Go.Proofs.Ytdakbejppnijdaa
