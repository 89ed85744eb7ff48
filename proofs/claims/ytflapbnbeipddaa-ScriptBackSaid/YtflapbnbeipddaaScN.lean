/- ScriptBack. No condition. -/
import Derived.Test.YtflapbnbeipddaaScM
namespace Go.Proofs.Ytflapbnbeipddaa
open Go.RowKit
set_option linter.unusedSimpArgs false
set_option linter.unusedVariables false
attribute [local go_sem] IntKind.wrap_u32' signed_u32 max_u32
attribute [local go_sem ↓] Go.wp_at_zero Go.wp_at_succ
attribute [local go_sem] Calm.C
attribute [local go_sem low] Calm.al_cell Calm.al_frozen
attribute [local go_sem] Sc.S_size Sc.ops Sc.S_toList
theorem scShort_t (o : Sc.Op) (w : World) (h : Sc.sh o) : Calls Try.prog 19 #[.agg (Sc.ops o)] w fun e w' => e = .returned (.bool true) ∧ Below w.heap.size w w' := by
  have := scShort_any o w (fun j hj => by have := h j hj; omega)
  rwa [decide_eq_true h] at this
theorem scShort_f (o : Sc.Op) (w : World) (hl : ∀ j, j < 4 → (Sc.txt o j).length ≤ 9223372036854775807) (h : ¬ Sc.sh o) : Calls Try.prog 19 #[.agg (Sc.ops o)] w fun e w' => e = .returned (.bool false) ∧ Below w.heap.size w w' := by
  have := scShort_any o w hl
  rwa [decide_eq_false h] at this
theorem sc_back (f : Nat → Sc.Op) (n : Nat) (hf : ∀ i, i < n → Sc.fit (f i)) (k : Nat) (h1 : Sc.Goods (Sc.enc f n) k) (h2 : ¬ Sc.good ((Sc.enc f n).drop (Sc.P (Sc.enc f n) k))) : k = n ∧ Sc.P (Sc.enc f n) k = (Sc.enc f n).length ∧ ∀ i, i < n → Sc.op (Sc.enc f n) i = f i := by
  obtain ⟨a1, a2, a3⟩ := Sc.back f n hf n (Nat.le_refl n)
  obtain rfl := Sc.ends_one h1 h2 a1 (Sc.back_end f n hf)
  exact ⟨rfl, a2, a3⟩
theorem enc_le (f : Nat → Sc.Op) : ∀ n, (∀ i, i < n → Sc.fit (f i)) → (Sc.enc f n).length ≤ 262166 * n
  | 0, _ => Nat.le_refl _
  | n + 1, h => by
    have h1 := enc_le f n (fun i hi => h i (by omega))
    have h2 := Sc.enc1_len (f n) (h n (by omega))
    rw [enc_snoc, List.length_append]
    omega
attribute [local irreducible] Sc.v Sc.at_ Sc.tx Sc.val Sc.opOf Sc.P Sc.good Sc.op Sc.enc Sc.enc1 Sc.fit Sc.sh
set_option maxRecDepth 20000 in
set_option maxHeartbeats 16000000 in
theorem ScriptBack_any {w : World} {A : Option Addr} {n : Nat} {f : Nat → Sc.Op} (hA : Sc.Opz w A n f) (hn : n ≤ 9223372036854775807) (hw : ∀ i, i < n → Sc.wd (f i)) (hx : ∀ i, i < n → ∀ j, j < 4 → (Sc.txt (f i) j).length ≤ 9223372036854775807) (c : Nat) :
    Calls Try.prog 5 #[.slice A n c] w fun e w' => e = .returned (.bool true) ∧ Below w.heap.size w w' := by
  obtain ⟨i0, hi, hz0, hz1, hz2⟩ := info_parts Try.infoU8
  by_cases h20 : 20 < n
  · clear hA hw hx
    go_enter Try.func5, Try.ntmps5
    go_wp2_with (first | (go_at_call 18; refine (awake30_any _).mono ?_; rintro e w1 ⟨rfl, hb⟩; have hcf := bcell hb; (try simp only [World.size_alloc, World.size_setCell, drew_size] at hcf); have hz := hb.size; (try simp only [World.size_alloc, World.size_setCell, World.size_drew] at hz); have hbh := Lib.hid hb; clear hb; obtain ⟨hc, hf⟩ := hcf))
    go_ret
    refine ⟨rfl, ?_⟩
    (repeat' (first | with_reducible exact Below.refl _ _ | with_reducible refine bl_drewN ?_ _ | with_reducible refine bl_drew ?_ | refine bl_set (by (first | omega | (simp; done) | (simp; omega))) ?_ _ | refine bl_alloc (by (first | omega | (simp; done) | (simp; omega))) ?_ _ | refine bl_then (by assumption) ?_ (by (first | omega | (simp; done) | (simp; omega))) | refine Step.bl (by assumption) (by assumption) (by (first | omega | (simp; done) | (simp; omega))) (by (first | omega | (simp; done) | (simp; omega))) ?_))
  have HA0 := Lib.hid hA
  have HWD := Lib.hid hw
  have HX := Lib.hid hx
  clear hA hw hx
  go_enter Try.func5, Try.ntmps5
  go_wp2_with (go_at_call 18; refine (awake30_any _).mono ?_; rintro e wq ⟨rfl, hb⟩; have B1 := Lib.hid hb; have z1 := hb.size; clear hb)
  have HA := Lib.hid (HA0.out.below (Nat.le_refl _) B1.out)
  have HAw := Lib.hid (HA0.out)
  clear HA0
  go_loopw [3, 4, 6, 19] (fun a4 b5 u6 i wr => ∃ (k m : Nat) (v u : Value) (b : Bool) (l : Sc.Bs), k ≤ n ∧ i = .int .i64 (k : Int) ∧ a4 = v ∧ b5 = .bool b ∧ u6 = u ∧ m ≤ 262166 * k ∧ wr.ownsRow wq.heap.size 5 1 v m (Sc.u8c l) ∧ (b = true ↔ ∀ i, i < k → Sc.fit (f i)) ∧ (b = true → l = Sc.enc f k) ∧ Below wq.heap.size wq wr) (fun _ _ _ i _ => n - (intOf i).toNat)
  case atStart => exact ⟨0, 0, _, _, true, [], Nat.zero_le _, rfl, rfl, rfl, rfl, Nat.zero_le _, World.ownsRow_nil _ _ _ _, ⟨fun _ i h => absurd h (Nat.not_lt_zero i), fun _ => rfl⟩, fun _ => (enc_nil f).symm, Below.refl _ _⟩
  case round =>
    obtain ⟨k, m, v, u, b, l, hk, rfl, rfl, rfl, rfl, hm, hO, hbf, hbl, hB⟩ := hrel
    have HO := Lib.hid hO
    have HB := Lib.hid hB
    have HBF := Lib.hid hbf
    have HBL := Lib.hid hbl
    have hzB := hB.size
    clear hbf hbl
    by_cases hlt : k < n
    · obtain ⟨b0, off, rfl, hb0, hc⟩ := (HA.out.below (Nat.le_refl _) hB) (by omega)
      have hcc := hc k hlt
      have hsn := Lib.hid (enc_snoc f k)
      have hle := Lib.hid (Sc.enc1_len (f k))
      have hpos := Lib.hid (Sc.enc1_pos (f k))
      have hwd := Lib.hid (HWD.out k hlt)
      have hxx := Lib.hid (HX.out k hlt)
      have HFK : Hid (∀ g : Sc.Op, f k = g → (Sc.fit g ↔ Sc.fit (f k))) := Lib.hid fun g hg => by rw [hg]
      obtain ⟨o, ho⟩ : ∃ o, f k = o := ⟨_, rfl⟩
      have HFO := Lib.hid (HFK.out o ho)
      rw [ho] at hcc hsn hle hpos hwd hxx
      clear ho HFK
      have c0 : wr.cell? ⟨b0, off + k * 11, none⟩ = some (.int .i64 o.k) := hcc 0 _ rfl
      have c1 : wr.cell? ⟨b0, off + k * 11 + 1, none⟩ = some (.int .i64 o.p) := hcc 1 _ rfl
      have c2 : wr.cell? ⟨b0, off + k * 11 + 2, none⟩ = some (.int .i64 o.c) := hcc 2 _ rfl
      have c3 : wr.cell? ⟨b0, off + k * 11 + 3, none⟩ = some (.int .i64 o.l) := hcc 3 _ rfl
      have c4 : wr.cell? ⟨b0, off + k * 11 + 4, none⟩ = some (.string (Sc.S o.s)) := hcc 4 _ rfl
      have c5 : wr.cell? ⟨b0, off + k * 11 + 5, none⟩ = some (.int .i64 o.o) := hcc 5 _ rfl
      have c6 : wr.cell? ⟨b0, off + k * 11 + 6, none⟩ = some (.string (Sc.S o.sa)) := hcc 6 _ rfl
      have c7 : wr.cell? ⟨b0, off + k * 11 + 7, none⟩ = some (.int .i64 o.it) := hcc 7 _ rfl
      have c8 : wr.cell? ⟨b0, off + k * 11 + 8, none⟩ = some (.string (Sc.S o.r)) := hcc 8 _ rfl
      have c9 : wr.cell? ⟨b0, off + k * 11 + 9, none⟩ = some (.string (Sc.S o.ot)) := hcc 9 _ rfl
      have c10 : wr.cell? ⟨b0, off + k * 11 + 10, none⟩ = some (.int .i64 o.on) := hcc 10 _ rfl
      have HS : Hid (Sc.Bst wq (wr.alloc (.cells (Sc.ops o) 34)) wr.heap.size u3 m l o) := Lib.hid ⟨HO.out.alloc _, Blk.new _ _ _, bl_alloc hzB hB _⟩
      clear hc hcc hO hB
      by_cases hsh : Sc.sh o
      · have HSH := Lib.hid hsh
        clear hsh
        obtain ⟨q, hq⟩ : ∃ q, decide (Sc.fit o) = q := ⟨_, rfl⟩
        have CF : Hid (∀ w, Calls Try.prog 20 #[(.agg #[.int .i64 o.k, .int .i64 o.p, .int .i64 o.c, .int .i64 o.l, .string (Sc.S o.s), .int .i64 o.o, .string (Sc.S o.sa), .int .i64 o.it, .string (Sc.S o.r), .string (Sc.S o.ot), .int .i64 o.on])] w fun e w' => e = .returned (.bool q) ∧ Below w.heap.size w w') := Lib.hid fun w => hq ▸ scFits_any o w
        have CR : Hid (∀ w, Calls Try.prog 21 #[(.agg #[.int .i64 o.k, .int .i64 o.p, .int .i64 o.c, .int .i64 o.l, .string (Sc.S o.s), .int .i64 o.o, .string (Sc.S o.sa), .int .i64 o.it, .string (Sc.S o.r), .string (Sc.S o.ot), .int .i64 o.on])] w fun e w' => e = .returned (.bool q) ∧ Below w.heap.size w w') := Lib.hid fun w => hq ▸ rScFits_any o hwd.out HSH.out w
        have HQ : Hid (q = true ↔ Sc.fit o) := Lib.hid (by rw [← hq]; exact decide_eq_true_iff)
        clear hq
        go_wp2_with (go_at_call 19; refine (scShort_t o _ HSH.out).mono ?_; rintro e w1 ⟨rfl, hb⟩; have HS := Lib.hid (HS.out.below hb); clear hb)
        have s0 : ∀ m : Ext (Below w1.heap.size w1), m.w.cell? ⟨wr.heap.size, 0, none⟩ = some (.int .i64 o.k) := Ext.rd (HS.out.box.cell 0)
        have s1 : ∀ m : Ext (Below w1.heap.size w1), m.w.cell? ⟨wr.heap.size, 1, none⟩ = some (.int .i64 o.p) := Ext.rd (HS.out.box.cell 1)
        have s2 : ∀ m : Ext (Below w1.heap.size w1), m.w.cell? ⟨wr.heap.size, 2, none⟩ = some (.int .i64 o.c) := Ext.rd (HS.out.box.cell 2)
        have s3 : ∀ m : Ext (Below w1.heap.size w1), m.w.cell? ⟨wr.heap.size, 3, none⟩ = some (.int .i64 o.l) := Ext.rd (HS.out.box.cell 3)
        have s4 : ∀ m : Ext (Below w1.heap.size w1), m.w.cell? ⟨wr.heap.size, 4, none⟩ = some (.string (Sc.S o.s)) := Ext.rd (HS.out.box.cell 4)
        have s5 : ∀ m : Ext (Below w1.heap.size w1), m.w.cell? ⟨wr.heap.size, 5, none⟩ = some (.int .i64 o.o) := Ext.rd (HS.out.box.cell 5)
        have s6 : ∀ m : Ext (Below w1.heap.size w1), m.w.cell? ⟨wr.heap.size, 6, none⟩ = some (.string (Sc.S o.sa)) := Ext.rd (HS.out.box.cell 6)
        have s7 : ∀ m : Ext (Below w1.heap.size w1), m.w.cell? ⟨wr.heap.size, 7, none⟩ = some (.int .i64 o.it) := Ext.rd (HS.out.box.cell 7)
        have s8 : ∀ m : Ext (Below w1.heap.size w1), m.w.cell? ⟨wr.heap.size, 8, none⟩ = some (.string (Sc.S o.r)) := Ext.rd (HS.out.box.cell 8)
        have s9 : ∀ m : Ext (Below w1.heap.size w1), m.w.cell? ⟨wr.heap.size, 9, none⟩ = some (.string (Sc.S o.ot)) := Ext.rd (HS.out.box.cell 9)
        have s10 : ∀ m : Ext (Below w1.heap.size w1), m.w.cell? ⟨wr.heap.size, 10, none⟩ = some (.int .i64 o.on) := Ext.rd (HS.out.box.cell 10)
        haveI hnn : Nonempty (Ext (Below w1.heap.size w1)) := ⟨⟨w1.drew, below_start _⟩⟩
        refine wp_region_calm (S := Below w1.heap.size w1) (by kernel_rfl) (by kernel_rfl) (below_start _) ?_
        repeat (go_big_quiet_step (first | (go_at_call 20; with_reducible exact Ext.calm below_calm (CF.out _)) | (go_at_call 21; with_reducible exact Ext.calm below_calm (CR.out _))))
        refine wpQuiet_nil ?_
        rintro _ ⟨m1, rfl⟩
        have HS2 := Lib.hid (HS.out.below m1.h)
        generalize m1.w = W2 at *
        clear HS hnn s0 c0 s1 c1 s2 c2 s3 c3 s4 c4 s5 c5 s6 c6 s7 c7 s8 c8 s9 c9 s10 c10
        have hg2 := HS2.out.box.cell
        cases b <;> cases q
        all_goals
          go_wp2_with (first
            | (go_at_call 21; (with_reducible refine (CR.out _).mono ?_); rintro e w3 ⟨rfl, hb⟩; have HS2 := Lib.hid (HS2.out.below hb); have hg3 := HS2.out.box.cell; clear hb)
            | (go_at_call 22; refine (rScBytes_any o (HQ.out.1 (by simp)) _).mono ?_; rintro e w4 ⟨g, cap, rfl, hown, hb⟩; have HN := Lib.hid hown; have HS2 := Lib.hid (HS2.out.below hb); clear hown hb)
            | (at_builtin; refine wpList_append_lies _ (by rfl) _ _ 32 (by rfl) wq.heap.size 5 i0 _ 1 1 Try.underlying32 hi hz0 hz1 hz2 (by rfl) (by decide) _ _ _ (by rfl) HS2.out.own ⟨_, 0, none⟩ _ _ _ (by rfl) HN.out.1 (HN.out.cells rfl) (Sc.u8c_one _) (by have := hpos.out; omega) (by have := hle.out (HQ.out.1 (by simp)); simp only [maxLen]; omega) (by have := hle.out (HQ.out.1 (by simp)); omega) HS2.out.low.size _ rfl ?_; intro ga capa wa hown1 hg1 hat1 hlt1; rw [← Sc.u8c_app, HBL.out (by simp), ← hsn.out] at hown1; have HS3 := Lib.hid (HS2.out.app hown1 hg1); clear hown1 hg1 hat1 hlt1 HN))
        · refine ⟨⟨k + 1, m, _, _, false, l, by omega, by go_num, rfl, rfl, rfl, by omega, HS2.out.own, ⟨fun h => by simp at h, fun h => ?_⟩, fun h => by simp at h, HS2.out.low⟩, by simp [intOf]; omega⟩
          exact absurd (HBF.out.2 fun i hi => h i (by omega)) (by simp)
        · refine ⟨⟨k + 1, m, _, _, false, l, by omega, by go_num, rfl, rfl, rfl, by omega, HS2.out.own, ⟨fun h => by simp at h, fun h => ?_⟩, fun h => by simp at h, HS2.out.low⟩, by simp [intOf]; omega⟩
          exact absurd (HBF.out.2 fun i hi => h i (by omega)) (by simp)
        · refine ⟨⟨k + 1, m, _, _, false, l, by omega, by go_num, rfl, rfl, rfl, by omega, HS2.out.own, ⟨fun h => by simp at h, fun h => ?_⟩, fun h => by simp at h, HS2.out.low⟩, by simp [intOf]; omega⟩
          exact absurd (HQ.out.2 (HFO.out.2 (h k (by omega)))) (by simp)
        · refine ⟨⟨k + 1, _, _, _, true, _, by omega, by go_num, rfl, rfl, rfl, ?_, HS3.out.own, ⟨fun _ i hi => ?_, fun _ => rfl⟩, fun _ => rfl, HS3.out.low⟩, by simp [intOf]; omega⟩
          · have := hle.out (HQ.out.1 (by simp))
            omega
          · by_cases e : i = k
            · subst e
              exact HFO.out.1 (HQ.out.1 (by simp))
            · exact HBF.out.1 (by simp) i (by omega)
      · have HSH := Lib.hid hsh
        clear hsh
        go_wp2_with (go_at_call 19; refine (scShort_f o _ hxx.out HSH.out).mono ?_; rintro e w1 ⟨rfl, hb⟩; have HS := Lib.hid (HS.out.below hb); clear hb)
        go_ret
        exact ⟨rfl, bl_then (Lib.hid HS.out.low) B1.out z1⟩
    · have hge : (n : Int) ≤ k := by omega
      have ekn : k = n := by omega
      have HAr := HA.out.below (Nat.le_refl _) hB
      have HE := Lib.hid (scEncode_any HAr (by omega) c)
      have HArr := Lib.hid HAr
      rw [ekn] at HBF HBL
      have hcv := Sc.conv_own (P := Try.prog) Try.underlying32 Try.underlying5 Try.underlying9 hO
      have HO2 := Lib.hid hO
      clear hB hO HO ekn HAr
      by_cases hall : ∀ i, i < n → Sc.fit (f i)
      · have hb : b = true := HBF.out.2 hall
        subst hb
        have hle := enc_le f n hall
        have HD := Lib.hid (sc_back f n hall)
        have HEt := Lib.hid (HE.out.mono fun e w' h => (show e = .returned (.tuple #[.string (Sc.S (Sc.enc f n)), .int .i64 0]) ∧ Below _ _ w' from ⟨h.1 hall, h.2.2⟩))
        have HLE := Lib.hid (HBL.out (by simp))
        clear hall HE HBF HBL hcv
        obtain ⟨L, hL⟩ : ∃ L, Sc.enc f n = L := ⟨_, rfl⟩
        rw [hL] at HD HEt HLE hle
        clear hL
        have HOo := HO2.out
        rw [HLE.out] at HOo
        have HO3 := Lib.hid HOo
        clear HO2 HOo HLE
        go_wp2_with (first
          | (go_at_call 23; refine HEt.out.mono ?_; rintro e w2 ⟨rfl, hb⟩; have B2 := Lib.hid hb; have z2 := hb.size; have HO3 := Lib.hid (pw_own HO3.out (Lib.hid hb)); clear hb)
          | (go_at_call 24; refine (scDecode_any L (by omega) _).mono ?_; rintro e w3 ⟨k2, v2, hg, hng, rfl, hown, hb⟩; obtain ⟨e2, hP, hop⟩ := HD.out k2 hg hng; rw [hP, Nat.sub_self]; replace e2 := e2.symm; subst e2; obtain ⟨A2, c2, rfl⟩ := own_slice hown; have HOP := Lib.hid hop; have HA2 := Lib.hid (Sc.Opz.own hown); have hcv := Sc.conv_own (P := Try.prog) Try.underlying32 Try.underlying5 Try.underlying9 (pw_own HO3.out (Lib.hid hb)); have B3 := Lib.hid hb; have z3 := hb.size; clear hb hown hg hng hP hop))
        have HAB := Lib.hid ((HArr.out.below (Nat.le_refl _) B2.out).below (Nat.le_refl _) B3.out)
        have BT := Lib.hid (bl_then B3 (bl_then B2 (bl_then HB B1.out z1) (by omega)) (by omega))
        clear HArr B1 B2 B3 HB HO3 hcv HAw HA HWD HX HD HEt
        go_loopw [11, 81] (fun a i wr => ∃ (j : Nat) (u : Value), j ≤ n ∧ i = .int .i64 (j : Int) ∧ a = u ∧ Below w3.heap.size w3 wr) (fun _ i _ => n - (intOf i).toNat)
        case atStart => exact ⟨0, _, Nat.zero_le _, rfl, rfl, Below.refl _ _⟩
        case round =>
          obtain ⟨j, u, hj, rfl, rfl, hB⟩ := hrel
          have HB := Lib.hid hB
          by_cases hlt : j < n
          · obtain ⟨b, off, rfl, hb, hc⟩ := (HA2.out.below (Nat.le_refl _) hB) (by omega)
            obtain ⟨b', off', rfl, hb', hc'⟩ := (HAB.out.below (Nat.le_refl _) hB) (by omega)
            have hcj := hc j hlt
            have hcj' := hc' j hlt
            rw [HOP.out j hlt] at hcj
            obtain ⟨o, ho⟩ : ∃ o, f j = o := ⟨_, rfl⟩
            rw [ho] at hcj hcj'
            clear ho
            have a0 : ∀ m : Ext (Below wr.heap.size wr), m.w.cell? ⟨b, off + j * 11, none⟩ = some (.int .i64 o.k) := Ext.rd (hcj 0 _ rfl)
            have a1 : ∀ m : Ext (Below wr.heap.size wr), m.w.cell? ⟨b, off + j * 11 + 1, none⟩ = some (.int .i64 o.p) := Ext.rd (hcj 1 _ rfl)
            have a2 : ∀ m : Ext (Below wr.heap.size wr), m.w.cell? ⟨b, off + j * 11 + 2, none⟩ = some (.int .i64 o.c) := Ext.rd (hcj 2 _ rfl)
            have a3 : ∀ m : Ext (Below wr.heap.size wr), m.w.cell? ⟨b, off + j * 11 + 3, none⟩ = some (.int .i64 o.l) := Ext.rd (hcj 3 _ rfl)
            have a4 : ∀ m : Ext (Below wr.heap.size wr), m.w.cell? ⟨b, off + j * 11 + 4, none⟩ = some (.string (Sc.S o.s)) := Ext.rd (hcj 4 _ rfl)
            have a5 : ∀ m : Ext (Below wr.heap.size wr), m.w.cell? ⟨b, off + j * 11 + 5, none⟩ = some (.int .i64 o.o) := Ext.rd (hcj 5 _ rfl)
            have a6 : ∀ m : Ext (Below wr.heap.size wr), m.w.cell? ⟨b, off + j * 11 + 6, none⟩ = some (.string (Sc.S o.sa)) := Ext.rd (hcj 6 _ rfl)
            have a7 : ∀ m : Ext (Below wr.heap.size wr), m.w.cell? ⟨b, off + j * 11 + 7, none⟩ = some (.int .i64 o.it) := Ext.rd (hcj 7 _ rfl)
            have a8 : ∀ m : Ext (Below wr.heap.size wr), m.w.cell? ⟨b, off + j * 11 + 8, none⟩ = some (.string (Sc.S o.r)) := Ext.rd (hcj 8 _ rfl)
            have a9 : ∀ m : Ext (Below wr.heap.size wr), m.w.cell? ⟨b, off + j * 11 + 9, none⟩ = some (.string (Sc.S o.ot)) := Ext.rd (hcj 9 _ rfl)
            have a10 : ∀ m : Ext (Below wr.heap.size wr), m.w.cell? ⟨b, off + j * 11 + 10, none⟩ = some (.int .i64 o.on) := Ext.rd (hcj 10 _ rfl)
            have d0 : ∀ m : Ext (Below wr.heap.size wr), m.w.cell? ⟨b', off' + j * 11, none⟩ = some (.int .i64 o.k) := Ext.rd (hcj' 0 _ rfl)
            have d1 : ∀ m : Ext (Below wr.heap.size wr), m.w.cell? ⟨b', off' + j * 11 + 1, none⟩ = some (.int .i64 o.p) := Ext.rd (hcj' 1 _ rfl)
            have d2 : ∀ m : Ext (Below wr.heap.size wr), m.w.cell? ⟨b', off' + j * 11 + 2, none⟩ = some (.int .i64 o.c) := Ext.rd (hcj' 2 _ rfl)
            have d3 : ∀ m : Ext (Below wr.heap.size wr), m.w.cell? ⟨b', off' + j * 11 + 3, none⟩ = some (.int .i64 o.l) := Ext.rd (hcj' 3 _ rfl)
            have d4 : ∀ m : Ext (Below wr.heap.size wr), m.w.cell? ⟨b', off' + j * 11 + 4, none⟩ = some (.string (Sc.S o.s)) := Ext.rd (hcj' 4 _ rfl)
            have d5 : ∀ m : Ext (Below wr.heap.size wr), m.w.cell? ⟨b', off' + j * 11 + 5, none⟩ = some (.int .i64 o.o) := Ext.rd (hcj' 5 _ rfl)
            have d6 : ∀ m : Ext (Below wr.heap.size wr), m.w.cell? ⟨b', off' + j * 11 + 6, none⟩ = some (.string (Sc.S o.sa)) := Ext.rd (hcj' 6 _ rfl)
            have d7 : ∀ m : Ext (Below wr.heap.size wr), m.w.cell? ⟨b', off' + j * 11 + 7, none⟩ = some (.int .i64 o.it) := Ext.rd (hcj' 7 _ rfl)
            have d8 : ∀ m : Ext (Below wr.heap.size wr), m.w.cell? ⟨b', off' + j * 11 + 8, none⟩ = some (.string (Sc.S o.r)) := Ext.rd (hcj' 8 _ rfl)
            have d9 : ∀ m : Ext (Below wr.heap.size wr), m.w.cell? ⟨b', off' + j * 11 + 9, none⟩ = some (.string (Sc.S o.ot)) := Ext.rd (hcj' 9 _ rfl)
            have d10 : ∀ m : Ext (Below wr.heap.size wr), m.w.cell? ⟨b', off' + j * 11 + 10, none⟩ = some (.int .i64 o.on) := Ext.rd (hcj' 10 _ rfl)
            have hne := sc_neq' o
            clear hc hc' hcj hcj' hB
            go_wp2_with fail
            haveI hnn : Nonempty (Ext (Below wr.heap.size wr)) := ⟨⟨wr.drew, below_start _⟩⟩
            refine wp_region_calm (S := Below wr.heap.size wr) (by kernel_rfl) (by kernel_rfl) (below_start _) ?_
            repeat (go_big_quiet_step (fail))
            refine wpQuiet_nil ?_
            rintro _ ⟨m1, rfl⟩
            have hb1 := Lib.hid m1.h
            generalize m1.w = W2 at *
            have hzW := hb1.out.size
            have hzB := HB.out.size
            clear hnn hne a0 d0 a1 d1 a2 d2 a3 d3 a4 d4 a5 d5 a6 d6 a7 d7 a8 d8 a9 d9 a10 d10
            go_wp2_with fail
            go_roundw
            case rel => exact ⟨j + 1, _, by omega, by go_num, rfl, bl_then hb1 HB.out (by omega)⟩
            case measure => simp [intOf]; omega
          · have hge : (n : Int) ≤ j := by omega
            clear hB
            go_wp2_with fail
            go_ret
            exact ⟨rfl, bl_then HB BT.out BT.out.size⟩
      · have hb : b = false := by
          cases b with
          | false => rfl
          | true => exact absurd (HBF.out.1 rfl) hall
        subst hb
        have HEf := Lib.hid (HE.out.mono fun e w' h => (show e = .returned (.tuple #[.string (Sc.S []), .int .i64 1]) ∧ Below _ _ w' from ⟨h.2.1 hall, h.2.2⟩))
        clear hall HE HBF HBL hcv
        go_wp2_with (go_at_call 23; refine HEf.out.mono ?_; rintro e w2 ⟨rfl, hb⟩; have B2 := Lib.hid hb; have z2 := hb.size; clear hb)
        go_ret
        exact ⟨rfl, bl_then B2 (bl_then HB B1.out z1) (by omega)⟩
end Go.Proofs.Ytflapbnbeipddaa
