/- Ops are compared; the law's awake. No condition. -/
import Derived.Test.YtflapbnbeipddaaScX
import Derived.Laws.StructEq
namespace Go.Proofs.Ytflapbnbeipddaa
open Go.RowKit
set_option linter.unusedSimpArgs false
set_option linter.unusedVariables false
attribute [local go_sem] IntKind.wrap_u32' signed_u32 max_u32
attribute [local go_sem ↓] Go.wp_at_zero Go.wp_at_succ
attribute [local go_sem] Calm.C
attribute [local go_sem low] Calm.al_cell Calm.al_frozen
attribute [local go_sem] Sc.S_size Sc.ops Sc.S_toList
theorem sc_neq (o : Sc.Op) (w : World) : (binOp .neq 34 (.agg (Sc.ops o)) (.agg (Sc.ops o))).run Try.prog w = .ok (.bool false) w := by
  simp [go_sem, Sc.ops]
namespace Sc
def opA : Op := { op0 with k := 1, c := 258 }
theorem fit_A : fit opA := ⟨seven (by decide) (by decide) (by decide) (by decide) (by decide) (by decide) (by decide), four (by decide) (by decide) (by decide) (by decide)⟩
theorem enc_A : ∃ L : Bs, enc (fun _ => opA) 1 = L ∧ L.length = 26 ∧ L.take 4 = [1, 0, 1, 2] := ⟨_, rfl, rfl, rfl⟩
theorem add_L (L : Bs) (h : L.length = 26) : Op.stringOp .add (S L) ⟨#[120]⟩ = pure (.string (S (L ++ [120]))) :=
  (binOp_string_add 0 (S L) (S [120])).symm.trans (add_S 0 L [120] (by rw [h]; decide))
theorem P_zero (l : Bs) : P l 0 = 0 := rfl
theorem dec_A (L : Bs) (hL : enc (fun _ => opA) 1 = L) (k : Nat) (h1 : Goods (L ++ [120]) k) (h2 : ¬ good ((L ++ [120]).drop (P (L ++ [120]) k))) : k = 1 ∧ P (L ++ [120]) k = L.length ∧ op (L ++ [120]) 0 = opA := by
  have e : L = enc1 opA := by rw [← hL]; rfl
  have hgg := enc_good opA fit_A [120]
  rw [← e] at hgg
  obtain ⟨g1, g2, g3⟩ := hgg
  clear e hL
  have hP0 : P (L ++ [120]) 0 = 0 := P_zero _
  have hP1 : P (L ++ [120]) 1 = L.length := by
    have := P_succ (L ++ [120]) 0
    rw [hP0, List.drop_zero, g2, Nat.zero_add, Nat.zero_add] at this
    exact this
  have hG1 : Goods (L ++ [120]) 1 := (Goods.zero _).succ (by rw [hP0, List.drop_zero]; exact g1)
  have hn : ¬ good ((L ++ [120]).drop (P (L ++ [120]) 1)) := by
    rw [hP1, List.drop_left]
    intro h
    have h3 := at_ge ([120] : Bs)
    have h4 : at_ ([120] : Bs) 4 ≤ 1 := h
    omega
  have := ends_one h1 h2 hG1 hn
  subst this
  exact ⟨rfl, hP1, by rw [op, hP0, List.drop_zero, g3]⟩
end Sc
attribute [local irreducible] Sc.v Sc.at_ Sc.tx Sc.val Sc.opOf Sc.P Sc.good Sc.op Sc.enc
set_option maxRecDepth 20000 in
set_option maxHeartbeats 8000000 in
theorem awake30_any (w : World) : Calls Try.prog 18 #[] w fun e w' => e = .returned (.bool true) ∧ Below w.heap.size w w' := by
  obtain ⟨L, hL, hL1, hL2⟩ := Sc.enc_A
  have hadd := Sc.add_L L hL1
  have hsl := Sc.S_ext L 0 4
  rw [List.drop_zero, show 4 - 0 = 4 from rfl, hL2] at hsl
  have HD := Lib.hid (Sc.dec_A L hL)
  have hL27 : (L ++ [120]).length = 27 := by simp [hL1]
  have h0 : Sc.Opz (w.alloc (.cells (Sc.ops Sc.opA) 34)) (some ⟨w.heap.size, 0, none⟩) 1 (fun _ => Sc.opA) := fun _ => ⟨_, 0, rfl, by simp, fun i hi c v hv => by
    have : i = 0 := by omega
    subst this
    rw [Nat.zero_mul, Nat.add_zero, Nat.zero_add]
    exact (Blk.cell (Blk.new w _ _) c).trans hv⟩
  have HE := Lib.hid ((scEncode_any h0 (by decide) 1).mono fun e w' h => (show e = .returned (.tuple #[.string (Sc.S L), .int .i64 0]) ∧ Below _ _ w' from ⟨by rw [← hL]; exact h.1 fun i _ => Sc.fit_A, h.2.2⟩))
  clear h0 hL2 hL
  go_enter Try.func18, Try.ntmps18
  go_wp2_with (first
    | (go_at_call 23; refine HE.out.mono ?_; rintro e w1 ⟨rfl, hb⟩; have HB1 := Lib.hid hb; have hz1 := hb.size; clear hb)
    | (go_at_call 24; refine (scDecode_any (L ++ [120]) (by omega) _).mono ?_; rintro e w2 ⟨k, v, hg, hng, rfl, hown, hb⟩; obtain ⟨rfl, hP, hop⟩ := HD.out k hg hng; rw [hP, hL27, hL1]; obtain ⟨g, cap, rfl, _⟩ := hown.form (by decide); have hc2 : w2.cell? ⟨g, 2, none⟩ = some (.int .i64 258) := (Sc.Opz.own hown (by decide)).elim fun b h => by { obtain ⟨off, h1, _, h2⟩ := h; simp only [Option.some.injEq, Addr.mk.injEq] at h1; obtain ⟨rfl, rfl, _⟩ := h1; exact h2 0 (by decide) 2 _ (by rw [hop]; rfl) }; have HB2 := Lib.hid hb; have hz2 := hb.size; clear hb hown hg hng hP))
  go_ret
  refine ⟨rfl, ?_⟩
  have hB1 := HB1.out
  rw [World.size_alloc] at hz1
  exact bl_then HB2 (bl_then HB1 (bl_alloc (Nat.le_refl _) (Below.refl _ _) _) (by simp)) (by omega)
end Go.Proofs.Ytflapbnbeipddaa
