/- script.one. No condition. -/
import Derived.Test.YtflapbnbeipddaaScB
import Derived.Deep.RegionHeld3
namespace Go.Proofs.Ytflapbnbeipddaa
open Go.RowKit
set_option linter.unusedSimpArgs false
set_option linter.unusedVariables false
attribute [local go_sem] IntKind.wrap_u32' signed_u32 max_u32
attribute [local go_sem ↓] Go.wp_at_zero Go.wp_at_succ
attribute [local go_sem] Calm.C
attribute [local go_sem low] Calm.al_cell Calm.al_frozen
attribute [local go_sem] Sc.S_size
theorem step_append_str {P : Program} {w : World} {ops : Array Oper} {o : Oper} {a : Act} {K : Act → World → Prop} {Q : Exit → Act → World → Prop} {E : Prop} (hgd : o.guard = none) (sl x : Operand) (t u : TypeId)
    (ho : o.op = .call { callee := .builtin .append, args := #[sl, x], argTypes := #[t, u] })
    (base : Nat) (e : TypeId) (i : TypeInfo) (ht : P.underlying t = some (.slice e)) (hu : P.underlying u = some .string) (hi : P.info? e = some i) (hz : i.zero = some (.int .u8 0))
    (hsize : i.size = 1) (hby : i.bytes = 1)
    (v : Value) (n : Nat) (xs : List Value) (hs : a.eval sl = v) (hown : w.ownsRow base e 1 v n xs) (s : ByteArray) (hx : a.eval x = .string s)
    (h63 : n + s.size ≤ maxLen) (hbytes : n + s.size ≤ 140737488355328) (hbase : base ≤ w.heap.size)
    (h : ∀ v' w', w'.ownsRow base e 1 v' (n + s.size) (xs ++ Lib.strCells s) → w.grownBy w' v.ownBlock → K (a.put o.dst v') w') :
    if Region.wanted o (yielded ops a.tmps) = true then Oper.wp P o a w K Q else E := by
  have hw : Region.wanted o (yielded ops a.tmps) = true := by simp [Region.wanted, hgd]
  rw [if_pos hw]
  obtain ⟨v', w', hr, h2, h3, h4⟩ := Lib.run_append_own_string (P := P) w base t u o.type e i ht hu hi hz hsize hby v n xs hown s h63 hbytes hbase
  unfold Oper.wp execOp
  simp only [ho, resolve, invoke, builtin, Sem.run_bind, Sem.run_pure, Result.andThen_ok, List.map_toArray, List.map_cons, List.map_nil, hs, hx, hr]
  exact h v' w' h2 h3
namespace Sc
theorem Bst.set {w0 W : World} {G n : Nat} {v : Value} {l : Bs} {o : Op} (h : Bst w0 W G v n l o) {b : Nat} (hb : W.heap.size ≤ b) (i : Nat) (u : Value) : Bst w0 (W.setCell ⟨b, i, none⟩ u) G v n l o :=
  h.below (bl_set hb (Below.refl _ _) u)
theorem nums_fit (o : Op) (h : fit o) (j : Nat) (hj : j < 7) : ∃ N : Nat, num o j = N ∧ N ≤ 4294967296 := by
  have h1 := h.1 j hj
  have h2 := pw_le (siz j) (siz_le j hj)
  exact ⟨(num o j).toNat, by omega, by omega⟩
end Sc
set_option maxRecDepth 20000 in
set_option maxHeartbeats 8000000 in
theorem scOne_any (o : Sc.Op) (hfit : Sc.fit o) (w : World) :
    Calls Try.prog 60 #[.agg (Sc.ops o)] w fun e w' => ∃ g cap, e = .returned (.slice (some ⟨g, 0, none⟩) (Sc.enc1 o).length cap) ∧ w'.ownsRow w.heap.size 5 1 (.slice (some ⟨g, 0, none⟩) (Sc.enc1 o).length cap) (Sc.enc1 o).length (Sc.u8c (Sc.enc1 o)) ∧ Below w.heap.size w w' := by
  obtain ⟨i0, hi, hz0, hz1, hz2⟩ := info_parts Try.infoU8
  go_enter Try.func60, Try.ntmps60
  have HS : Hid (Sc.Bst w (w.alloc (.cells (Sc.ops o) 34)) w.heap.size (.slice none 0 0) 0 [] o) := Lib.hid ⟨World.ownsRow_nil _ _ _ _, Blk.new _ _ _, bl_alloc (Nat.le_refl _) (Below.refl _ _) _⟩
  go_wp2_with (go_at_call 55; refine (scFields_any w.heap.size _).mono ?_; rintro e wf ⟨rfl, hfb, hbf⟩; have HFB := Lib.hid hfb; have HS := Lib.hid (HS.out.below hbf); clear hfb hbf)
  have hB := HFB.out
  rw [World.size_alloc] at hB
  have HB := Lib.hid hB
  clear hB HFB
  obtain ⟨G, hGs⟩ : ∃ G, w.heap.size = G := ⟨_, rfl⟩
  rw [hGs] at HB HS
  simp only [World.size_alloc, hGs]
  go_loopw [3, 10] (fun b i wr => ∃ (j n : Nat) (v : Value), j ≤ 7 ∧ i = .int .i64 (j : Int) ∧ b = v ∧ Sc.Bst w wr G v n (Sc.nums o j) o ∧ Blk wr (G + 1) 95 (Sc.fcs G)) (fun _ i _ => 7 - (intOf i).toNat)
  case atStart => exact ⟨0, 0, _, Nat.zero_le _, rfl, rfl, HS.out, HB.out⟩
  case round =>
    obtain ⟨j, n, v, hk, rfl, rfl, hS, hb2⟩ := hrel
    have HSr := Lib.hid hS
    have H2 := Lib.hid hb2
    have hsz := hb2.lt
    have hnl := hS.len
    rw [Sc.nums_len] at hnl
    clear HS HB
    by_cases hlt : j < 7
    · have c0 := (hb2.cell (j * 2)).trans (Sc.fcs_at G j hlt).1
      have c1 := (hb2.cell (j * 2 + 1)).trans (Sc.fcs_at G j hlt).2
      have c2 := (hS.box.cell (Sc.fo j)).trans (Sc.ops_num o j hlt)
      have hz4 := Sc.siz_le j hlt
      have hoff := Sc.off_le j hlt
      obtain ⟨N, hN, hN4⟩ := Sc.nums_fit o hfit j hlt
      have hnum := Lib.hid (show Sc.nums o (j + 1) = Sc.nums o j ++ Sc.be (Sc.siz j) N by rw [Sc.nums, hN]; rfl)
      rw [hN] at c2
      clear hS hb2 hN
      generalize Sc.siz j = z at *
      generalize Sc.fo j = f at *
      generalize Sc.nums o j = L at *
      go_wp2_with fail
      refine wp_gen _ (fun W hW => ?_)
      have d0 : W.cell? ⟨wr.heap.size, 0, none⟩ = some (.pointer (some ⟨G, f, none⟩)) := by rw [hW]; simp [go_sem, ↓IntWalk.iteOmega, *]
      have d1 : W.cell? ⟨wr.heap.size, 1, none⟩ = some (.int .i64 z) := by rw [hW]; simp [go_sem, ↓IntWalk.iteOmega, *]
      have d2 : W.cell? ⟨G, f, none⟩ = some (.int .i64 N) := by rw [hW]; simp [go_sem, ↓IntWalk.iteOmega, *]
      have hWb : Below wr.heap.size wr W := by rw [hW]; (repeat' (first | with_reducible exact Below.refl _ _ | with_reducible refine bl_drewN ?_ _ | with_reducible refine bl_drew ?_ | refine bl_set (by (first | omega | (simp; done) | (simp; omega))) ?_ _ | refine bl_alloc (by (first | omega | (simp; done) | (simp; omega))) ?_ _ | refine bl_then (by assumption) ?_ (by (first | omega | (simp; done) | (simp; omega))) | refine Step.bl (by assumption) (by assumption) (by (first | omega | (simp; done) | (simp; omega))) (by (first | omega | (simp; done) | (simp; omega))) ?_))
      have HSW := Lib.hid (HSr.out.below hWb)
      have H2W := Lib.hid (H2.out.below hWb (by omega))
      have hszW : wr.heap.size < W.heap.size := by rw [hW]; simp
      clear hW c0 c1 c2 hWb HSr H2
      (refine Calm.go 7 (by kernel_rfl) (by kernel_rfl) (by kernel_rfl) ?_; intro w0 hw0; have hr := Calm.rule hw0; simp only [Calm.heads, Calm.isAlloc]; haveI hnon : Nonempty (Ext (Below w0.heap.size w0)) := ⟨⟨w0, Below.refl _ _⟩⟩; (repeat (go_big_quiet_step (fail))); refine wpQuiet_nil ?_; clear hnon hr hw0; clear w0; (repeat refine Calm.n_skip rfl ?_); refine Calm.n_zero ?_; intro WA hbA hsA; simp only [List.drop_succ_cons, List.drop_zero]; obtain ⟨hcA, hfA⟩ := bcell hbA; (try simp only [World.size_alloc, World.size_setCell, drew_size] at hcA hfA); have hzA := hbA.size; have hbhA := Lib.hid hbA; clear hsA hbA; (try simp only [World.size_alloc, World.size_setCell, World.size_drew] at hzA))
      have HSA := Lib.hid (HSW.out.below hbhA.out)
      have H2A := Lib.hid (H2W.out.below hbhA.out (by omega))
      clear hcA hfA HSW H2W
      go_wp2_with (go_at_call 82; refine (scPut_any HSA.out.own HSA.out.low.size (by omega) N z (by omega) hz4).mono ?_; rintro e w2 ⟨v', rfl, hown2, hg2⟩; have HS2 := Lib.hid (HSA.out.app hown2 hg2); have H22 := Lib.hid (H2A.out.grown hg2 (Ne.symm (own_blk_ne HSA.out.own H2A.out (by decide)))); clear hown2 hg2)
      go_roundw
      case rel => exact ⟨j + 1, _, _, by omega, by go_num, rfl, by rw [hnum.out]; exact HS2.out, H22.out⟩
      case measure => simp [intOf]; omega
    · have hge : (7 : Int) ≤ j := by omega
      have e7 : j = 7 := by omega
      have HS7 : Hid (Sc.Bst w wr G u3 n (Sc.txts o 0) o) := by rw [e7] at hS; exact Lib.hid hS
      have hn18 : n = 18 := by have := HS7.out.len; rw [show Sc.txts o 0 = Sc.nums o 7 from rfl, Sc.nums_len] at this; exact this
      have HN := Lib.hid hn18
      clear hS hb2 HSr H2 hn18 hnl e7
      go_wp2_with (go_at_call 56; refine (scTexts_any G _).mono ?_; rintro e wt ⟨rfl, htb, hbt⟩; have HTB := Lib.hid htb; have HST := Lib.hid (HS7.out.below hbt); clear htb hbt)
      obtain ⟨T, hT⟩ : ∃ T, wr.heap.size = T := ⟨_, rfl⟩
      rw [hT] at HTB hsz ⊢
      clear HS7
      go_loopw [3, 25] (fun b i wr => ∃ (q m : Nat) (v : Value), q ≤ 4 ∧ i = .int .i64 (q : Int) ∧ b = v ∧ m ≤ 18 + 65537 * q ∧ Sc.Bst w wr G v m (Sc.txts o q) o ∧ Blk wr T 98 (Sc.tcs G)) (fun _ i _ => 4 - (intOf i).toNat)
      case atStart => exact ⟨0, n, _, Nat.zero_le _, rfl, rfl, by rw [HN.out]; exact Nat.le_refl _, HST.out, HTB.out⟩
      case round =>
        obtain ⟨q, m, v4, hq, rfl, rfl, hm, hS, hb2⟩ := hrel
        have HSr := Lib.hid hS
        have H2 := Lib.hid hb2
        have hsz2 := hb2.lt
        clear HST HTB
        by_cases hlt4 : q < 4
        · have c0 := (hb2.cell q).trans (Sc.tcs_at G q hlt4)
          have c2 := (hS.box.cell (Sc.to q)).trans (Sc.ops_txt o q hlt4)
          have hot := Lib.hid (Sc.ops_txt o q hlt4)
          have hx2 := hfit.2 q hlt4
          have htx := Lib.hid (show Sc.txts o (q + 1) = Sc.txts o q ++ Sc.be 2 (Sc.txt o q).length ++ Sc.txt o q by rw [Sc.txts, List.append_assoc])
          clear hb2 hS
          generalize Sc.to q = f at *
          generalize Sc.txt o q = x at *
          generalize Sc.txts o q = L at *
          go_wp2_with fail
          go_region_held3 (fun w' => w'.cell? ⟨G, f, none⟩ = some (.string (Sc.S x))) ((first | assumption | (simp [go_sem, ↓IntWalk.iteOmega, *]; done))) (first
            | (go_at_call 82; refine (scPut_2 (HSr.out.below (bl_drew (Below.refl _ _))).own (HSr.out.below (bl_drew (Below.refl _ _))).low.size (by omega) x.length (by omega)).mono ?_; rintro e w2 ⟨v', rfl, hown2, hg2⟩; have HS2 := Lib.hid ((HSr.out.below (bl_drew (Below.refl _ _))).app hown2 hg2); have H22 := Lib.hid ((H2.out.drew).grown hg2 (Ne.symm (own_blk_ne HSr.out.own H2.out (by decide)))); have c3 := (HS2.out.box.cell f).trans hot.out; clear hown2 hg2)
            | (refine step_append_str (by rfl) _ _ 32 9 (by rfl) w.heap.size 5 i0 Try.underlying32 Try.underlying9 hi hz0 hz1 hz2 _ _ _ (by rfl) HS2.out.own (Sc.S x) (by rfl) (by simp only [maxLen, Sc.S_size]; omega) (by simp only [Sc.S_size]; omega) HS2.out.low.size ?_; intro v2 w3 hown3 hg3; rw [Sc.u8c_S, Sc.S_size, ← Sc.u8c_app] at hown3; have HS3 := Lib.hid (HS2.out.app hown3 hg3); have H23 := Lib.hid (H22.out.grown hg3 (Ne.symm (own_blk_ne HS2.out.own H22.out (by decide)))); have c4 := (HS3.out.box.cell f).trans hot.out; clear hown3 hg3))
          go_wp2_with fail
          go_roundw
          case rel =>
            refine ⟨q + 1, m + 2 + x.length, _, by omega, by go_num, rfl, ?_, by rw [htx.out]; exact HS3.out, H23.out⟩
            omega
          case measure => simp [intOf]; omega
        · have hge4 : (4 : Int) ≤ q := by omega
          have e4 : q = 4 := by omega
          have HF : Hid (Sc.Bst w wr G u3 m (Sc.enc1 o) o) := by rw [e4] at hS; exact Lib.hid hS
          clear hb2 hS e4
          go_wp2_with fail
          go_ret
          obtain ⟨g, cap, rfl, _⟩ := HF.out.own.form (by have := HF.out.len; have h1 := congrArg List.length (show Sc.enc1 o = Sc.txts o 3 ++ (Sc.be 2 (Sc.txt o 3).length ++ Sc.txt o 3) from rfl); rw [List.length_append, List.length_append, Sc.be_len] at h1; omega)
          obtain ⟨h1, h2⟩ := HF.out.fin (m := Sc.enc1 o) rfl
          exact ⟨_, _, congrArg Ending.returned h1, h2, HF.out.low⟩
end Go.Proofs.Ytflapbnbeipddaa
