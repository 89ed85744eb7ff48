/- What a log told. No condition. -/
import Derived.Test.YtcaaapfminenoaaLogB
import Derived.Test.YtcaaapfminenoaaRef01
import Derived.Test.YtcaaapfminenoaaLaw01
import Derived.Deep.AppendLies
namespace Go.Proofs.Ytcaaapfminenoaa
open Go.RowKit
set_option linter.unusedSimpArgs false
set_option linter.unusedVariables false
attribute [local go_sem] IntKind.wrap_u32' signed_u32 max_u32
attribute [local go_sem ↓] Go.wp_at_zero Go.wp_at_succ
theorem Try.infoU32L : (Try.prog.info? 22).map (fun i => (i.zero, i.size, i.bytes)) = some (some (.int .u32 0), 1, 4) := by kernel_rfl
def relv (l : List Ev) : List Int := (l.filter fun e => e.k == 3).map (·.v)
def u32s (l : List Int) : List Value := l.map fun x => .int .u32 x
theorem u32s_snoc (l : List Int) (x : Int) : u32s (l ++ [x]) = u32s l ++ [.int .u32 x] := by simp [u32s]
theorem relv_len (l : List Ev) : (relv l).length ≤ l.length := by
  unfold relv
  rw [List.length_map]
  exact List.length_filter_le _ _
theorem relv_snoc (l : List Ev) (e : Ev) : relv (l ++ [e]) = if e.k = 3 then relv l ++ [e.v] else relv l := by
  unfold relv
  rw [List.filter_append, List.map_append]
  by_cases h : e.k = 3
  · rw [if_pos h, List.filter_cons_of_pos (by simp [h])]; rfl
  · rw [if_neg h, List.filter_cons_of_neg (by simp [h])]; simp
theorem alloc2_new1 (w : World) (o1 o2 : Obj) : ((w.alloc o1).alloc o2).heap[w.heap.size + 1]? = some o2 := by
  have := heap_alloc_new (w.alloc o1) o2
  rwa [World.size_alloc] at this
theorem alloc2_old1 (w : World) (o1 o2 : Obj) : ((w.alloc o1).alloc o2).heap[w.heap.size]? = some o1 := (Below.heap_alloc (w.alloc o1) o2 w.heap.size (by simp)).trans (heap_alloc_new w o1)
theorem own_apart1 {w : World} {b1 b2 s1 s2 n1 n2 : Nat} {e1 e2 : TypeId} {v1 v2 : Value} {xs1 xs2 : List Value} (h1 : w.ownsRow b1 e1 s1 v1 n1 xs1) (h2 : w.ownsRow b2 e2 s2 v2 n2 xs2) (hne : e1 ≠ e2) : v1.ownBlock = none ∨ v1.ownBlock ≠ v2.ownBlock := by
  rcases h1.2 with ⟨rfl, _⟩ | ⟨g1, c1, cur1, rfl, _, k1, _⟩
  · exact .inl rfl
  · refine .inr ?_
    rcases h2.2 with ⟨rfl, _⟩ | ⟨g2, c2, cur2, rfl, _, k2, _⟩
    · intro h; cases h
    · intro h
      simp only [Value.ownBlock, Option.some.injEq] at h
      subst h
      rw [k1] at k2
      simp only [Option.some.injEq, Obj.cells.injEq] at k2
      exact hne k2.2.1
set_option maxRecDepth 10000 in
set_option maxHeartbeats 1000000 in
theorem Released_any (w : World) (F : Nat → Prop) (p : Nat) (evs : List Ev) (hL : Lg w F p evs) (hn : evs.length < 1099511627776) :
    Calls Try.prog 46 #[.pointer (some ⟨p, 0, none⟩)] w fun e w' => ∃ v, e = .returned v ∧ w'.ownsRow w.heap.size 22 1 v (relv evs).length (u32s (relv evs)) ∧ Below w.heap.size w w' := by
  obtain ⟨i0, hi, hz0, hz1, hz2⟩ := info_parts Try.infoU32L
  go_enter Try.func46, Try.ntmps46
  go_wp2_with (go_at_call 44; refine (Events_any _ F p evs hL hn).mono ?_; rintro e w1 ⟨v, rfl, hown, hb⟩; obtain ⟨A, c, rfl⟩ := own_slice hown; have HO := Lib.hid hown; have HB := Lib.hid hb; clear hown hb)
  go_loopw [3, 9] (fun s i wr => ∃ (k : Nat) (v : Value), k ≤ evs.length ∧ i = .int .i64 k ∧ s = v ∧ wr.ownsRow w.heap.size 54 3 (.slice A evs.length c) evs.length (evCells evs) ∧ wr.ownsRow w.heap.size 22 1 v (relv (evs.take k)).length (u32s (relv (evs.take k))) ∧ Below w.heap.size w wr) (fun _ i _ => evs.length - (intOf i).toNat)
  case atStart => exact ⟨0, _, Nat.zero_le _, rfl, rfl, HO.out, World.ownsRow_nil _ _ _ _, HB.out⟩
  case round =>
    obtain ⟨k, v, hk, rfl, rfl, hO, hOv, hW⟩ := hrel
    have hWs := hW.size
    have HW := Lib.hid hW
    have HOv := Lib.hid hOv
    have HO1 := Lib.hid hO
    clear hW
    by_cases hlt : k < evs.length
    · obtain ⟨g, cap, hv, hgb, hgl⟩ := hO.form (by omega)
      injection hv with hv1 hv2 hv3
      subst hv1
      subst hv3
      have hc := evCells_get evs k hlt
      have h0 := (hO.cellAt (k * 3) (by omega)).trans hc.1
      have h1 := (hO.cellAt (k * 3 + 1) (by omega)).trans hc.2.1
      have h2 := (hO.cellAt (k * 3 + 2) (by omega)).trans hc.2.2
      have hap := Lib.hid (own_apart1 hO hOv (by decide))
      have hsn : relv (evs.take (k + 1)) = if (evs.getD k evDef).k = 3 then relv (evs.take k) ++ [(evs.getD k evDef).v] else relv (evs.take k) := by
        rw [List.take_succ_eq_append_getElem hlt, relv_snoc, List.getD_eq_getElem?_getD, List.getElem?_eq_getElem hlt]
        rfl
      have hrl := relv_len (evs.take k)
      have hrl2 : (evs.take k).length ≤ k := by rw [List.length_take]; omega
      have HSN := Lib.hid hsn
      clear hO hOv hc hsn
      obtain ⟨e, he⟩ : ∃ e, evs.getD k evDef = e := ⟨_, rfl⟩
      obtain ⟨N, hN⟩ : ∃ N, (relv (evs.take k)).length = N := ⟨_, rfl⟩
      have hNk : N ≤ k := by omega
      have HSN2 := HSN.out
      rw [he] at h0 h1 h2 HSN2
      have HSN := Lib.hid HSN2
      clear HSN2 he hrl hrl2
      by_cases h3 : e.k = 3
      · rw [h3] at h0
        have HN := Lib.hid hN
        have H3 := Lib.hid h3
        clear hN h3
        go_wp2_with (at_builtin; refine wpList_append_lies _ (by rfl) _ _ 36 (by rfl) w.heap.size 22 i0 _ 1 4 Try.underlying36 hi hz0 hz1 hz2 (by rfl) (by decide) _ N (u32s (relv (evs.take k))) (by rfl) (((HN.out ▸ HOv.out).alloc _).alloc _) ⟨wr.heap.size + 1, 0, none⟩ 1 1 [.int .u32 e.v] (by rfl) (by rfl) (World.news_of_block (alloc2_new1 wr _ _)) (by simp [Value.oneCell']) (by decide) (by simp only [maxLen]; omega) (by omega) (by simp; omega) (wr.heap.size + 1 + 1) (by simp) ?_; intro ga capa wa hown1 hg1 hat1 hlt1; have hOa := Lib.hid hown1; have hGa := Lib.hid hg1; clear hown1 hg1 hat1)
        go_roundw
        case rel =>
          refine ⟨k + 1, _, by omega, by go_num, rfl, ?_, ?_, ?_⟩
          · exact (((HO1.out.alloc _).alloc _).kept hGa.out hap.out)
          · rw [HSN.out, if_pos H3.out, u32s_snoc, List.length_append, HN.out]
            exact hOa.out
          · refine bl_grown hGa (own_base HOv.out) (by simp; omega) ?_
            have HW' := HW
            (repeat' (first | exact Below.refl _ _ | refine bl_set (by (first | omega | (simp; done) | (simp; omega))) ?_ _ | refine bl_alloc (by (first | omega | (simp; done) | (simp; omega))) ?_ _ | refine bl_drewN ?_ _ | refine bl_drew ?_ | refine bl_then (by assumption) ?_ (by (first | omega | (simp; done) | (simp; omega))) | refine Step.bl (by assumption) (by assumption) (by (first | omega | (simp; done) | (simp; omega))) (by (first | omega | (simp; done) | (simp; omega))) ?_))
        case measure => simp [intOf]; omega
      · have h3' : (e.k == 3) = false := by simpa using h3
        have H3 := Lib.hid h3
        clear h3
        go_wp2_with fail
        go_roundw
        case rel =>
          refine ⟨k + 1, _, by omega, by go_num, rfl, HO1.out.alloc _, ?_, ?_⟩
          · rw [HSN.out, if_neg H3.out]
            exact HOv.out.alloc _
          · have HW' := HW
            (repeat' (first | exact Below.refl _ _ | refine bl_set (by (first | omega | (simp; done) | (simp; omega))) ?_ _ | refine bl_alloc (by (first | omega | (simp; done) | (simp; omega))) ?_ _ | refine bl_drewN ?_ _ | refine bl_drew ?_ | refine bl_then (by assumption) ?_ (by (first | omega | (simp; done) | (simp; omega))) | refine Step.bl (by assumption) (by assumption) (by (first | omega | (simp; done) | (simp; omega))) (by (first | omega | (simp; done) | (simp; omega))) ?_))
        case measure => simp [intOf]; omega
    · have hge : evs.length ≤ k := by omega
      have HK := Lib.hid (show evs.take k = evs from List.take_of_length_le hge)
      clear hO hOv
      go_wp2_with fail
      go_ret
      refine ⟨_, rfl, ?_, HW.out⟩
      rw [← HK.out]
      exact HOv.out
end Go.Proofs.Ytcaaapfminenoaa
