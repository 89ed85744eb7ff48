/- script.Encode. No condition. -/
import Derived.Test.YtflapbnbeipddaaScO
namespace Go.Proofs.Ytflapbnbeipddaa
open Go.RowKit
set_option linter.unusedSimpArgs false
set_option linter.unusedVariables false
attribute [local go_sem] IntKind.wrap_u32' signed_u32 max_u32
attribute [local go_sem ↓] Go.wp_at_zero Go.wp_at_succ
attribute [local go_sem] Calm.C
attribute [local go_sem low] Calm.al_cell Calm.al_frozen
attribute [local go_sem] Sc.S_size
namespace Sc
/-- Ops read from a slice. -/
def Opz (w : World) (A : Option Addr) (n : Nat) (f : Nat → Op) : Prop :=
  0 < n → ∃ b off, A = some ⟨b, off, none⟩ ∧ b < w.heap.size ∧ ∀ i, i < n → ∀ c v, (ops (f i))[c]? = some v → w.cell? ⟨b, off + i * 11 + c, none⟩ = some v
theorem Opz.below {w W : World} {A : Option Addr} {n : Nat} {f : Nat → Op} (h : Opz w A n f) {B : Nat} (hB : w.heap.size ≤ B) (hb : Below B w W) : Opz W A n f := fun h0 => by
  obtain ⟨b, off, hA, hlt, hc⟩ := h h0
  exact ⟨b, off, hA, Nat.lt_of_lt_of_le hlt hb.size, fun i hi c v hv => (hb.cell (p := ⟨b, _, none⟩) (Nat.lt_of_lt_of_le hlt hB)).trans (hc i hi c v hv)⟩
theorem enc1_len (o : Op) (h : fit o) : (enc1 o).length ≤ 262166 := by
  have e : ∀ j, (txts o (j + 1)).length = (txts o j).length + (2 + (txt o j).length) := fun j => by rw [txts, List.length_append, List.length_append, be_len]
  have h0 : (txts o 0).length = 18 := by show (nums o 7).length = 18; rw [nums_len]; rfl
  have e0 : (txts o 1).length = (txts o 0).length + (2 + (txt o 0).length) := e 0
  have e1 : (txts o 2).length = (txts o 1).length + (2 + (txt o 1).length) := e 1
  have e2 : (txts o 3).length = (txts o 2).length + (2 + (txt o 2).length) := e 2
  have e3 : (txts o 4).length = (txts o 3).length + (2 + (txt o 3).length) := e 3
  have t0 := h.2 0 (by decide)
  have t1 := h.2 1 (by decide)
  have t2 := h.2 2 (by decide)
  have t3 := h.2 3 (by decide)
  show (txts o 4).length ≤ _
  omega
theorem enc1_pos (o : Op) : 26 ≤ (enc1 o).length := by
  have e : ∀ j, (txts o (j + 1)).length = (txts o j).length + (2 + (txt o j).length) := fun j => by rw [txts, List.length_append, List.length_append, be_len]
  have h0 : (txts o 0).length = 18 := by show (nums o 7).length = 18; rw [nums_len]; rfl
  have e0 : (txts o 1).length = (txts o 0).length + (2 + (txt o 0).length) := e 0
  have e1 : (txts o 2).length = (txts o 1).length + (2 + (txt o 1).length) := e 1
  have e2 : (txts o 3).length = (txts o 2).length + (2 + (txt o 2).length) := e 2
  have e3 : (txts o 4).length = (txts o 3).length + (2 + (txt o 3).length) := e 3
  show 26 ≤ (txts o 4).length
  omega
end Sc
theorem enc_snoc (f : Nat → Sc.Op) (k : Nat) : Sc.enc f (k + 1) = Sc.enc f k ++ Sc.enc1 (f k) := rfl
theorem enc_nil (f : Nat → Sc.Op) : Sc.enc f 0 = [] := rfl
theorem scFits_t (o : Sc.Op) (h : Sc.fit o) (w : World) : Calls Try.prog 20 #[.agg (Sc.ops o)] w fun e w' => e = .returned (.bool true) ∧ Below w.heap.size w w' := by
  have := scFits_any o w
  rwa [decide_eq_true h] at this
theorem scFits_f (o : Sc.Op) (h : ¬ Sc.fit o) (w : World) : Calls Try.prog 20 #[.agg (Sc.ops o)] w fun e w' => e = .returned (.bool false) ∧ Below w.heap.size w w' := by
  have := scFits_any o w
  rwa [decide_eq_false h] at this
attribute [local go_sem] Sc.ops
attribute [local irreducible] Sc.enc1 Sc.enc Sc.fit
set_option maxRecDepth 20000 in
set_option maxHeartbeats 8000000 in
theorem scEncode_any {w : World} {A : Option Addr} {n : Nat} {f : Nat → Sc.Op} (hA : Sc.Opz w A n f) (hn : n ≤ 1000) (c : Nat) :
    Calls Try.prog 23 #[.slice A n c] w fun e w' => ((∀ i, i < n → Sc.fit (f i)) → e = .returned (.tuple #[.string (Sc.S (Sc.enc f n)), .int .i64 0])) ∧ ((¬ ∀ i, i < n → Sc.fit (f i)) → e = .returned (.tuple #[.string (Sc.S []), .int .i64 1])) ∧ Below w.heap.size w w' := by
  obtain ⟨i0, hi, hz0, hz1, hz2⟩ := info_parts Try.infoU8
  have HA := Lib.hid hA
  clear hA
  go_enter Try.func23, Try.ntmps23
  go_wp2_with fail
  go_loopw [4, 9] (fun b i wr => ∃ (k m : Nat) (v : Value), k ≤ n ∧ i = .int .i64 (k : Int) ∧ b = v ∧ m ≤ 262166 * k ∧ wr.ownsRow w.heap.size 5 1 v m (Sc.u8c (Sc.enc f k)) ∧ (∀ i, i < k → Sc.fit (f i)) ∧ Below w.heap.size w wr) (fun _ i _ => n - (intOf i).toNat)
  case atStart => exact ⟨0, 0, _, Nat.zero_le _, rfl, rfl, Nat.zero_le _, by rw [enc_nil]; exact World.ownsRow_nil _ _ _ _, fun i h => absurd h (Nat.not_lt_zero i), Below.refl _ _⟩
  case round =>
    obtain ⟨k, m, v, hk, rfl, rfl, hm, hO, hok, hB⟩ := hrel
    have HO := Lib.hid hO
    have HOK := Lib.hid hok
    have HB := Lib.hid hB
    clear hok
    by_cases hlt : k < n
    · obtain ⟨b, off, rfl, hb, hc⟩ := (HA.out.below (Nat.le_refl _) hB) (by omega)
      have hcc := hc k hlt
      have hpos := Lib.hid (Sc.enc1_pos (f k))
      have hle := Lib.hid (Sc.enc1_len (f k))
      have hsn := Lib.hid (enc_snoc f k)
      obtain ⟨o, ho⟩ : ∃ o, f k = o := ⟨_, rfl⟩
      rw [ho] at hcc hpos hle hsn
      have hok' : Hid (Sc.fit o → Sc.fit (f k)) := Lib.hid fun h => by rw [ho]; exact h
      have hok'' : Hid (¬ Sc.fit o → ¬ Sc.fit (f k)) := Lib.hid fun h => by rw [ho]; exact h
      clear ho
      have c0 : wr.cell? ⟨b, off + k * 11, none⟩ = some (.int .i64 o.k) := hcc 0 _ rfl
      have c1 : wr.cell? ⟨b, off + k * 11 + 1, none⟩ = some (.int .i64 o.p) := hcc 1 _ rfl
      have c2 : wr.cell? ⟨b, off + k * 11 + 2, none⟩ = some (.int .i64 o.c) := hcc 2 _ rfl
      have c3 : wr.cell? ⟨b, off + k * 11 + 3, none⟩ = some (.int .i64 o.l) := hcc 3 _ rfl
      have c4 : wr.cell? ⟨b, off + k * 11 + 4, none⟩ = some (.string (Sc.S o.s)) := hcc 4 _ rfl
      have c5 : wr.cell? ⟨b, off + k * 11 + 5, none⟩ = some (.int .i64 o.o) := hcc 5 _ rfl
      have c6 : wr.cell? ⟨b, off + k * 11 + 6, none⟩ = some (.string (Sc.S o.sa)) := hcc 6 _ rfl
      have c7 : wr.cell? ⟨b, off + k * 11 + 7, none⟩ = some (.int .i64 o.it) := hcc 7 _ rfl
      have c8 : wr.cell? ⟨b, off + k * 11 + 8, none⟩ = some (.string (Sc.S o.r)) := hcc 8 _ rfl
      have c9 : wr.cell? ⟨b, off + k * 11 + 9, none⟩ = some (.string (Sc.S o.ot)) := hcc 9 _ rfl
      have c10 : wr.cell? ⟨b, off + k * 11 + 10, none⟩ = some (.int .i64 o.on) := hcc 10 _ rfl
      clear hc hcc hO hB
      have HS : Hid (Sc.Bst w (wr.alloc (.cells (Sc.ops o) 34)) wr.heap.size u4 m (Sc.enc f k) o) := Lib.hid ⟨HO.out.alloc _, Blk.new _ _ _, bl_alloc HB.out.size HB.out _⟩
      have hsz := HB.out.size
      by_cases hfit : Sc.fit o
      · have FIT := Lib.hid hfit
        clear hfit
        go_wp2_with (first
          | (go_at_call 20; refine (scFits_t o FIT.out _).mono ?_; rintro e w1 ⟨rfl, hb⟩; have HS := Lib.hid (HS.out.below hb); have hg := HS.out.box.cell; clear hb)
          | (go_at_call 60; refine (scOne_any o FIT.out _).mono ?_; rintro e w2 ⟨g, cap, rfl, hown, hb⟩; have HN := Lib.hid hown; have HS := Lib.hid (HS.out.below hb); clear hown hb)
          | (at_builtin; refine wpList_append_lies _ (by rfl) _ _ 32 (by rfl) w.heap.size 5 i0 _ 1 1 Try.underlying32 hi hz0 hz1 hz2 (by rfl) (by decide) _ _ _ (by rfl) HS.out.own ⟨_, 0, none⟩ _ _ _ (by rfl) HN.out.1 (HN.out.cells rfl) (Sc.u8c_one _) (by have := hpos.out; omega) (by have := hle.out FIT.out; simp only [maxLen]; omega) (by have := hle.out FIT.out; omega) HS.out.low.size _ rfl ?_; intro ga capa wa hown1 hg1 hat1 hlt1; rw [← Sc.u8c_app, ← hsn.out] at hown1; have HS := Lib.hid (HS.out.app hown1 hg1); clear hown1 hg1 hat1 hlt1 HN))
        go_roundw
        case rel =>
          refine ⟨k + 1, _, _, by omega, by go_num, rfl, ?_, HS.out.own, fun i hi => ?_, HS.out.low⟩
          · have := hle.out FIT.out
            omega
          · by_cases e : i = k
            · subst e; exact hok'.out FIT.out
            · exact HOK.out i (by omega)
        case measure => simp [intOf]; omega
      · have FIT := Lib.hid hfit
        clear hfit
        go_wp2_with (first
          | (go_at_call 20; refine (scFits_f o FIT.out _).mono ?_; rintro e w1 ⟨rfl, hb⟩; have HS := Lib.hid (HS.out.below hb); have hg := HS.out.box.cell; clear hb))
        refine ret_tmp2 (x := .string (Sc.S [])) (y := .int .i64 1) rfl rfl rfl rfl ⟨fun h => absurd (h k hlt) (hok''.out FIT.out), fun _ => rfl, HS.out.low⟩
    · have hge : (n : Int) ≤ k := by omega
      have e : k = n := by omega
      have hcv := Sc.conv_own (P := Try.prog) Try.underlying32 Try.underlying5 Try.underlying9 hO
      clear hO hB
      go_wp2_with fail
      refine ret_tmp2 (x := .string (Sc.S (Sc.enc f n))) (y := .int .i64 0) rfl rfl rfl rfl ⟨fun _ => rfl, fun h => absurd (fun i hi => HOK.out i (by omega)) h, HB.out⟩
end Go.Proofs.Ytflapbnbeipddaa
