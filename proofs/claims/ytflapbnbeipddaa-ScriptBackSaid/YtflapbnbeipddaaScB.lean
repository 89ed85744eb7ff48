/- The document's Bytes. No condition. -/
import Derived.Test.YtflapbnbeipddaaScR
namespace Go.Proofs.Ytflapbnbeipddaa
open Go.RowKit
set_option linter.unusedSimpArgs false
set_option linter.unusedVariables false
attribute [local go_sem] IntKind.wrap_u32' signed_u32 max_u32
attribute [local go_sem ↓] Go.wp_at_zero Go.wp_at_succ
attribute [local go_sem] Calm.C
attribute [local go_sem low] Calm.al_cell Calm.al_frozen
attribute [local go_sem] Sc.S_size Sc.ops
namespace Sc
/-- Bytes that are built beside an op's box. -/
structure Bst (w0 W : World) (G : Nat) (v : Value) (n : Nat) (l : Bs) (o : Op) : Prop where
  own : W.ownsRow w0.heap.size 5 1 v n (u8c l)
  box : Blk W G 34 (ops o)
  low : Below w0.heap.size w0 W
theorem Bst.len {w0 W : World} {G n : Nat} {v : Value} {l : Bs} {o : Op} (h : Bst w0 W G v n l o) : n = l.length := by
  have := h.own.1
  rw [u8c_len] at this
  omega
theorem Bst.below {w0 W W' : World} {G n : Nat} {v : Value} {l : Bs} {o : Op} (h : Bst w0 W G v n l o) (hb : Below W.heap.size W W') : Bst w0 W' G v n l o :=
  ⟨pw_own h.own (Lib.hid hb), h.box.below hb h.box.lt, bl_then (Lib.hid hb) h.low h.low.size⟩
theorem Bst.app {w0 W W' : World} {G n n' : Nat} {v v' : Value} {l l' : Bs} {o : Op} (h : Bst w0 W G v n l o) (ho : W'.ownsRow w0.heap.size 5 1 v' n' (u8c l')) (hg : W.grownBy W' v.ownBlock) : Bst w0 W' G v' n' l' o :=
  ⟨ho, h.box.grown hg (Ne.symm (own_blk_ne h.own h.box (by decide))), bl_grown (Lib.hid hg) (own_base h.own) h.low.size h.low⟩
theorem Bst.fin {w0 W : World} {G n cap : Nat} {A : Option Addr} {l m : Bs} {o : Op} (h : Bst w0 W G (.slice A n cap) n l o) (e : l = m) : Value.slice A n cap = .slice A m.length cap ∧ W.ownsRow w0.heap.size 5 1 (.slice A m.length cap) m.length (u8c m) := by
  subst e
  have hl := h.len
  subst hl
  exact ⟨rfl, h.own⟩
end Sc
set_option maxRecDepth 20000 in
set_option maxHeartbeats 8000000 in
theorem rScBytes_any (o : Sc.Op) (hfit : Sc.fit o) (w : World) :
    Calls Try.prog 22 #[.agg (Sc.ops o)] w fun e w' => ∃ g cap, e = .returned (.slice (some ⟨g, 0, none⟩) (Sc.enc1 o).length cap) ∧ w'.ownsRow w.heap.size 5 1 (.slice (some ⟨g, 0, none⟩) (Sc.enc1 o).length cap) (Sc.enc1 o).length (Sc.u8c (Sc.enc1 o)) ∧ Below w.heap.size w w' := by
  obtain ⟨i0, hi, hz0, hz1, hz2⟩ := info_parts Try.infoU8
  obtain ⟨k, p, c, l, s, oo, sa, it, r, ot, on⟩ := o
  have f0 := hfit.1 0 (by decide)
  have f1 := hfit.1 1 (by decide)
  have f2 := hfit.1 2 (by decide)
  have f3 := hfit.1 3 (by decide)
  have f4 := hfit.1 4 (by decide)
  have f5 := hfit.1 5 (by decide)
  have f6 := hfit.1 6 (by decide)
  have t0 := hfit.2 0 (by decide)
  have t1 := hfit.2 1 (by decide)
  have t2 := hfit.2 2 (by decide)
  have t3 := hfit.2 3 (by decide)
  simp only [Sc.num, Sc.siz, Sc.txt] at f0 f1 f2 f3 f4 f5 f6 t0 t1 t2 t3
  clear hfit
  obtain ⟨k, rfl⟩ : ∃ n : Nat, k = n := ⟨k.toNat, by omega⟩
  obtain ⟨p, rfl⟩ : ∃ n : Nat, p = n := ⟨p.toNat, by omega⟩
  obtain ⟨c, rfl⟩ : ∃ n : Nat, c = n := ⟨c.toNat, by omega⟩
  obtain ⟨l, rfl⟩ : ∃ n : Nat, l = n := ⟨l.toNat, by omega⟩
  obtain ⟨oo, rfl⟩ : ∃ n : Nat, oo = n := ⟨oo.toNat, by omega⟩
  obtain ⟨it, rfl⟩ : ∃ n : Nat, it = n := ⟨it.toNat, by omega⟩
  obtain ⟨on, rfl⟩ : ∃ n : Nat, on = n := ⟨on.toNat, by omega⟩
  go_enter Try.func22, Try.ntmps22
  have HS : Hid (Sc.Bst w (w.alloc (.cells (Sc.ops ⟨k, p, c, l, s, oo, sa, it, r, ot, on⟩) 34)) w.heap.size (.slice none 0 0) 0 [] ⟨k, p, c, l, s, oo, sa, it, r, ot, on⟩) := Lib.hid ⟨World.ownsRow_nil _ _ _ _, Blk.new _ _ _, bl_alloc (Nat.le_refl _) (Below.refl _ _) _⟩
  go_wp2_with (first
    | (go_at_call 58; (first | (with_reducible refine (scNumber_1 _ (by omega) _).mono ?_) | (with_reducible refine (scNumber_2 _ (by omega) _).mono ?_) | (with_reducible refine (scNumber_4 _ (by omega) _).mono ?_)); rintro e w1 ⟨g, cap, rfl, hown, hb⟩; have HN := Lib.hid hown; have HS := Lib.hid (HS.out.below hb); have hg := HS.out.box.cell; have hzz := hb.size; clear hown hb)
    | (go_at_call 59; (with_reducible refine (scText_any _ (by omega) _).mono ?_); rintro e w1 ⟨v, rfl, hown, hb⟩; obtain ⟨g, cap, rfl, _⟩ := hown.form (by omega); have HN := Lib.hid hown; have HS := Lib.hid (HS.out.below hb); have hg := HS.out.box.cell; have hzz := hb.size; clear hown hb)
    | (at_builtin; refine wpList_append_lies _ (by rfl) _ _ 32 (by rfl) w.heap.size 5 i0 _ 1 1 Try.underlying32 hi hz0 hz1 hz2 (by rfl) (by decide) _ _ _ (by rfl) HS.out.own ⟨_, 0, none⟩ _ _ _ (by rfl) HN.out.1 (HN.out.cells rfl) (Sc.u8c_one _) (by omega) (by simp only [maxLen]; omega) (by omega) HS.out.low.size _ rfl ?_; intro ga capa wa hown1 hg1 hat1 hlt1; rw [← Sc.u8c_app] at hown1; have HS := Lib.hid (HS.out.app hown1 hg1); have hg := HS.out.box.cell; clear hown1 hg1 hat1 hlt1 HN))
  go_ret
  obtain ⟨h1, h2⟩ := HS.out.fin (m := Sc.enc1 ⟨k, p, c, l, s, oo, sa, it, r, ot, on⟩) (by simp only [Sc.enc1, Sc.txts, Sc.nums, Sc.num, Sc.siz, Sc.txt, Int.toNat_natCast, List.append_assoc, List.nil_append])
  exact ⟨_, _, congrArg Ending.returned h1, h2, HS.out.low⟩
end Go.Proofs.Ytflapbnbeipddaa
