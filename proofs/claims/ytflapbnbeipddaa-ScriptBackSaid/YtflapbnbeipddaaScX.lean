/- script.Decode, the document's Decode. No condition. -/
import Derived.Test.YtflapbnbeipddaaScU
namespace Go.Proofs.Ytflapbnbeipddaa
open Go.RowKit
set_option linter.unusedSimpArgs false
set_option linter.unusedVariables false
attribute [local go_sem] IntKind.wrap_u32' signed_u32 max_u32
attribute [local go_sem ↓] Go.wp_at_zero Go.wp_at_succ
attribute [local go_sem] Calm.C
attribute [local go_sem low] Calm.al_cell Calm.al_frozen
attribute [local go_sem] Sc.S_size Sc.ops
theorem Try.infoOp : (Try.prog.info? 34).map (fun i => (i.zero, i.size, i.bytes)) = some (some (.agg (Sc.ops Sc.op0)), 11, 120) := by kernel_rfl
namespace Sc
def opcs (f : Nat → Op) (k : Nat) : List Value := (List.range k).flatMap fun i => (ops (f i)).toList
theorem opcs_zero (f : Nat → Op) : opcs f 0 = [] := rfl
theorem opcs_succ (f : Nat → Op) (k : Nat) : opcs f (k + 1) = opcs f k ++ (ops (f k)).toList := by simp [opcs, List.range_succ]
theorem opcs_len (f : Nat → Op) : ∀ k, (opcs f k).length = k * 11
  | 0 => rfl
  | k + 1 => by rw [opcs_succ, List.length_append, opcs_len f k]; show k * 11 + 11 = _; omega
theorem opcs_at (f : Nat → Op) (c : Nat) (v : Value) : ∀ (k i : Nat), i < k → (ops (f i))[c]? = some v → (opcs f k)[i * 11 + c]? = some v
  | 0, i, h, _ => by omega
  | k + 1, i, h, hv => by
    have hc : c < 11 := by have := (Array.getElem?_eq_some_iff.1 hv).1; exact this
    rw [opcs_succ]
    by_cases e : i = k
    · subst e
      rw [List.getElem?_append_right (by rw [opcs_len]; omega), opcs_len, show i * 11 + c - i * 11 = c by omega, Array.getElem?_toList]
      exact hv
    · rw [List.getElem?_append_left (by rw [opcs_len]; omega)]
      exact opcs_at f c v k i (by omega) hv
theorem Opz.own {w : World} {base k c : Nat} {A : Option Addr} {f : Nat → Op} (h : w.ownsRow base 34 11 (.slice A k c) k (opcs f k)) : Opz w A k f := fun h0 => by
  obtain ⟨g, cap, hv, _, hlt⟩ := h.form h0
  simp only [Value.slice.injEq] at hv
  obtain ⟨rfl, _, rfl⟩ := hv
  refine ⟨g, 0, rfl, hlt, fun i hi c v hv => ?_⟩
  have := h.cells (g := g) rfl (i * 11 + c) v (opcs_at f c v k i hi hv)
  rwa [Addr.add_lit, ← Nat.add_assoc] at this
theorem ops_one (o : Op) : ∀ u ∈ (ops o).toList, u.oneCell' = true := by
  intro u hu
  simp [ops] at hu
  rcases hu with rfl | rfl | rfl | rfl | rfl | rfl | rfl | rfl | rfl | rfl | rfl <;> rfl
end Sc
theorem alloc2_new1 (w : World) (o1 o2 : Obj) : ((w.alloc o1).alloc o2).heap[w.heap.size + 1]? = some o2 := by
  have := heap_alloc_new (w.alloc o1) o2
  rwa [World.size_alloc] at this
theorem scFirst_t (l : Sc.Bs) (hl : l.length ≤ 9223372036854775807) (hg : Sc.good l) (w : World) : Calls Try.prog 61 #[.string (Sc.S l)] w fun e w' => e = .returned (.tuple #[.agg (Sc.ops (Sc.opOf l)), .string (Sc.S (l.drop (Sc.at_ l 4))), .bool true]) ∧ Below w.heap.size w w' :=
  (scFirst_any l hl w).mono fun _ _ h => ⟨h.1 hg, h.2.2⟩
theorem scFirst_f (l : Sc.Bs) (hl : l.length ≤ 9223372036854775807) (hg : ¬ Sc.good l) (w : World) : Calls Try.prog 61 #[.string (Sc.S l)] w fun e w' => ∃ rest, e = .returned (.tuple #[.agg (Sc.ops Sc.op0), .string (Sc.S rest), .bool false]) ∧ Below w.heap.size w w' :=
  (scFirst_any l hl w).mono fun _ _ h => by
    obtain ⟨r, hr⟩ := h.2.1 hg
    exact ⟨r, hr, h.2.2⟩
theorem rScFirst_t (l : Sc.Bs) (hl : l.length ≤ 1152921504606846975) (hg : Sc.good l) (w : World) : Calls Try.prog 62 #[.string (Sc.S l)] w fun e w' => e = .returned (.tuple #[.agg (Sc.ops (Sc.opOf l)), .int .i64 (Sc.at_ l 4 : Nat)]) ∧ Below w.heap.size w w' :=
  (rScFirst_any l hl w).mono fun _ _ h => ⟨h.1 hg, h.2.2⟩
theorem rScFirst_f (l : Sc.Bs) (hl : l.length ≤ 1152921504606846975) (hg : ¬ Sc.good l) (w : World) : Calls Try.prog 62 #[.string (Sc.S l)] w fun e w' => e = .returned (.tuple #[.agg (Sc.ops Sc.op0), .int .i64 0]) ∧ Below w.heap.size w w' :=
  (rScFirst_any l hl w).mono fun _ _ h => ⟨h.2.1 hg, h.2.2⟩
theorem P_succ (l : Sc.Bs) (k : Nat) : Sc.P l (k + 1) = Sc.P l k + Sc.at_ (l.drop (Sc.P l k)) 4 := rfl
theorem op_def (l : Sc.Bs) (k : Nat) : Sc.op l k = Sc.opOf (l.drop (Sc.P l k)) := rfl
attribute [local irreducible] Sc.v Sc.at_ Sc.tx Sc.val Sc.opOf Sc.P Sc.good Sc.op
set_option maxRecDepth 20000 in
set_option maxHeartbeats 8000000 in
theorem scDecode_any (l : Sc.Bs) (hl : l.length ≤ 1000000000) (w : World) :
    Calls Try.prog 24 #[.string (Sc.S l)] w fun e w' => ∃ k v, Sc.Goods l k ∧ ¬ Sc.good (l.drop (Sc.P l k)) ∧ e = .returned (.tuple #[v, .int .i64 ((l.length - Sc.P l k : Nat) : Int)]) ∧ w'.ownsRow w.heap.size 34 11 v k (Sc.opcs (Sc.op l) k) ∧ Below w.heap.size w w' := by
  obtain ⟨i0, hi, hz0, hz1, hz2⟩ := info_parts Try.infoOp
  go_enter Try.func24, Try.ntmps24
  go_wp2_with fail
  go_loopw [0, 4, 5, 6, 7] (fun s o a b c wr => ∃ (k : Nat) (v a' b' c' : Value), Sc.Goods l k ∧ s = .string (Sc.S (l.drop (Sc.P l k))) ∧ o = v ∧ a = a' ∧ b = b' ∧ c = c' ∧ wr.ownsRow w.heap.size 34 11 v k (Sc.opcs (Sc.op l) k) ∧ Below w.heap.size w wr) (fun s _ _ _ _ _ => match s with | .string x => x.size | _ => 0)
  case atStart => exact ⟨0, _, _, _, _, Sc.Goods.zero l, by simp [Sc.P], rfl, rfl, rfl, rfl, by rw [Sc.opcs_zero]; exact World.ownsRow_nil _ _ _ _, Below.refl _ _⟩
  case round =>
    obtain ⟨k, v, a', b', c', hG, rfl, rfl, rfl, rfl, rfl, hO, hB⟩ := hrel
    have HO := Lib.hid hO
    have HB := Lib.hid hB
    have hPl := hG.2
    have hPk := Sc.P_ge l k
    have HG := Lib.hid hG
    have hdl : (l.drop (Sc.P l k)).length = l.length - Sc.P l k := List.length_drop
    have hps := Lib.hid (P_succ l k)
    have hopd := Lib.hid (op_def l k)
    have hdd := Lib.hid (fun n => (List.drop_drop : (l.drop (Sc.P l k)).drop n = l.drop (Sc.P l k + n)))
    have hsn := Lib.hid (Sc.opcs_succ (Sc.op l) k)
    have hsize := hB.size
    clear hG hO hB
    by_cases hg : Sc.good (l.drop (Sc.P l k))
    · have hpos := Sc.at_ge (l.drop (Sc.P l k))
      have hGS := Lib.hid (HG.out.succ hg)
      have hle : Sc.at_ (l.drop (Sc.P l k)) 4 ≤ (l.drop (Sc.P l k)).length := by have := HG.out.succ hg; have h2 := this.2; rw [hps.out] at h2; omega
      have HF := Lib.hid (fun w => scFirst_t (l.drop (Sc.P l k)) (by omega) hg w)
      rw [← hopd.out] at HF
      rw [hdd.out, ← hps.out] at HF
      clear hg
      obtain ⟨o, ho⟩ : ∃ o, Sc.op l k = o := ⟨_, rfl⟩
      rw [ho] at hsn HF
      clear ho
      go_wp2_with (first
        | (go_at_call 61; refine (HF.out _).mono ?_; rintro e w1 ⟨rfl, hb⟩; have HO1 := Lib.hid (pw_own HO.out (Lib.hid hb)); have HB1 := Lib.hid (bl_then (Lib.hid hb) HB.out (by omega)); have hz := hb.size; clear hb)
        | (at_builtin; refine wpList_append_lies _ (by rfl) _ _ 31 (by rfl) w.heap.size 34 i0 _ 11 120 Try.underlying31 hi hz0 hz1 hz2 (by rfl) (by decide) _ _ _ (by rfl) ((HO1.out.alloc _).alloc _) ⟨w1.heap.size + 1, 0, none⟩ 1 1 (Sc.ops o).toList (by rfl) (by rfl) (World.news_of_block (alloc2_new1 w1 _ _)) (Sc.ops_one o) (by decide) (by simp only [maxLen]; omega) (by omega) (by simp; omega) _ rfl ?_; intro ga capa wa hown1 hg1 hat1 hlt1; rw [← hsn.out] at hown1; have hOa := Lib.hid hown1; have hGa := Lib.hid hg1; clear hown1 hg1 hat1))
      have hlt : (l.drop (Sc.P l (k + 1))).length < (l.drop (Sc.P l k)).length := by rw [List.length_drop, List.length_drop, hps.out]; omega
      refine ⟨⟨k + 1, _, _, _, _, hGS.out, rfl, rfl, rfl, rfl, rfl, hOa.out, bl_grown hGa (own_base HO1.out) (by simp; omega) (bl_alloc (by simp; omega) (bl_alloc (by omega) HB1.out _) _)⟩, ?_⟩
      simp only [Sc.S_size]
      exact hlt
    · have HF := Lib.hid (fun w => scFirst_f (l.drop (Sc.P l k)) (by omega) hg w)
      have hng := Lib.hid hg
      clear hg
      go_wp2_with (go_at_call 61; refine (HF.out _).mono ?_; rintro e w1 ⟨rest, rfl, hb⟩; have HO1 := Lib.hid (pw_own HO.out (Lib.hid hb)); have HB1 := Lib.hid (bl_then (Lib.hid hb) HB.out (by omega)); have hz := hb.size; clear hb)
      refine ret_tmp2 (x := u4) (y := .int .i64 ((l.length - Sc.P l k : Nat) : Int)) rfl rfl (by rw [← hdl]; rfl) rfl ⟨k, _, HG.out, hng.out, rfl, HO1.out.alloc _, ?_⟩
      have hB1 := HB1.out
      exact bl_alloc (by omega) hB1 _
set_option maxRecDepth 20000 in
set_option maxHeartbeats 8000000 in
theorem rScDecode_any (l : Sc.Bs) (hl : l.length ≤ 1000000000) (w : World) :
    Calls Try.prog 25 #[.string (Sc.S l)] w fun e w' => ∃ k v, Sc.Goods l k ∧ ¬ Sc.good (l.drop (Sc.P l k)) ∧ e = .returned (.tuple #[v, .int .i64 ((l.length - Sc.P l k : Nat) : Int)]) ∧ w'.ownsRow w.heap.size 34 11 v k (Sc.opcs (Sc.op l) k) ∧ Below w.heap.size w w' := by
  obtain ⟨i0, hi, hz0, hz1, hz2⟩ := info_parts Try.infoOp
  go_enter Try.func25, Try.ntmps25
  go_wp2_with fail
  go_loopw [0, 4, 5, 6] (fun s o a b wr => ∃ (k : Nat) (v a' b' : Value), Sc.Goods l k ∧ s = .string (Sc.S (l.drop (Sc.P l k))) ∧ o = v ∧ a = a' ∧ b = b' ∧ wr.ownsRow w.heap.size 34 11 v k (Sc.opcs (Sc.op l) k) ∧ Below w.heap.size w wr) (fun s _ _ _ _ => match s with | .string x => x.size | _ => 0)
  case atStart => exact ⟨0, _, _, _, Sc.Goods.zero l, by simp [Sc.P], rfl, rfl, rfl, by rw [Sc.opcs_zero]; exact World.ownsRow_nil _ _ _ _, Below.refl _ _⟩
  case round =>
    obtain ⟨k, v, a', b', hG, rfl, rfl, rfl, rfl, hO, hB⟩ := hrel
    have HO := Lib.hid hO
    have HB := Lib.hid hB
    have hPl := hG.2
    have hPk := Sc.P_ge l k
    have HG := Lib.hid hG
    have hdl : (l.drop (Sc.P l k)).length = l.length - Sc.P l k := List.length_drop
    have hps := Lib.hid (P_succ l k)
    have hopd := Lib.hid (op_def l k)
    have hdd := Lib.hid (fun n => (List.drop_drop : (l.drop (Sc.P l k)).drop n = l.drop (Sc.P l k + n)))
    have hsn := Lib.hid (Sc.opcs_succ (Sc.op l) k)
    have hsize := hB.size
    clear hG hO hB
    by_cases hg : Sc.good (l.drop (Sc.P l k))
    · have hpos := Sc.at_ge (l.drop (Sc.P l k))
      have hGS := Lib.hid (HG.out.succ hg)
      have hle : Sc.at_ (l.drop (Sc.P l k)) 4 ≤ (l.drop (Sc.P l k)).length := by have := HG.out.succ hg; have h2 := this.2; rw [hps.out] at h2; omega
      have HF := Lib.hid (fun w => rScFirst_t (l.drop (Sc.P l k)) (by omega) hg w)
      have hsl := Sc.sl_S_lo (P := Try.prog) 9 (l.drop (Sc.P l k)) (Sc.at_ (l.drop (Sc.P l k)) 4) Try.underlying9 hle
      rw [hdd.out, ← hps.out] at hsl
      rw [← hopd.out] at HF
      clear hg
      obtain ⟨o, ho⟩ : ∃ o, Sc.op l k = o := ⟨_, rfl⟩
      rw [ho] at hsn HF
      obtain ⟨a4, ha4⟩ : ∃ a4, Sc.at_ (l.drop (Sc.P l k)) 4 = a4 := ⟨_, rfl⟩
      rw [ha4] at hps hpos hle HF hsl
      have hne0 : ¬ (a4 : Int) = 0 := by omega
      clear ho ha4
      go_wp2_with (first
        | (go_at_call 62; refine (HF.out _).mono ?_; rintro e w1 ⟨rfl, hb⟩; have HO1 := Lib.hid (pw_own HO.out (Lib.hid hb)); have HB1 := Lib.hid (bl_then (Lib.hid hb) HB.out (by omega)); have hz := hb.size; clear hb)
        | (at_builtin; refine wpList_append_lies _ (by rfl) _ _ 31 (by rfl) w.heap.size 34 i0 _ 11 120 Try.underlying31 hi hz0 hz1 hz2 (by rfl) (by decide) _ _ _ (by rfl) ((HO1.out.alloc _).alloc _) ⟨w1.heap.size + 1, 0, none⟩ 1 1 (Sc.ops o).toList (by rfl) (by rfl) (World.news_of_block (alloc2_new1 w1 _ _)) (Sc.ops_one o) (by decide) (by simp only [maxLen]; omega) (by omega) (by simp; omega) _ rfl ?_; intro ga capa wa hown1 hg1 hat1 hlt1; rw [← hsn.out] at hown1; have hOa := Lib.hid hown1; have hGa := Lib.hid hg1; clear hown1 hg1 hat1))
      have hlt : (l.drop (Sc.P l (k + 1))).length < (l.drop (Sc.P l k)).length := by rw [List.length_drop, List.length_drop, hps.out]; omega
      refine ⟨⟨k + 1, _, _, _, hGS.out, rfl, rfl, rfl, rfl, hOa.out, bl_grown hGa (own_base HO1.out) (by simp; omega) (bl_alloc (by simp; omega) (bl_alloc (by omega) HB1.out _) _)⟩, ?_⟩
      simp only [Sc.S_size]
      exact hlt
    · have HF := Lib.hid (fun w => rScFirst_f (l.drop (Sc.P l k)) (by omega) hg w)
      have hng := Lib.hid hg
      clear hg
      go_wp2_with (go_at_call 62; refine (HF.out _).mono ?_; rintro e w1 ⟨rfl, hb⟩; have HO1 := Lib.hid (pw_own HO.out (Lib.hid hb)); have HB1 := Lib.hid (bl_then (Lib.hid hb) HB.out (by omega)); have hz := hb.size; clear hb)
      refine ret_tmp2 (x := u4) (y := .int .i64 ((l.length - Sc.P l k : Nat) : Int)) rfl rfl (by rw [← hdl]; rfl) rfl ⟨k, _, HG.out, hng.out, rfl, HO1.out.alloc _, ?_⟩
      have hB1 := HB1.out
      exact bl_alloc (by omega) hB1 _
end Go.Proofs.Ytflapbnbeipddaa
