/- The calls of package ct on a log: what each notes and hands back. The log has fewer than 2^40 events. -/
import Derived.Test.YtdakbejppnijdaaKit
import Derived.Test.YtdakbejppnijdaaCt
import Derived.Test.YtdakbejppnijdaaWords
namespace Go.Proofs.Ytdakbejppnijdaa
open Go.RowKit
set_option linter.unusedSimpArgs false
set_option linter.unusedVariables false
attribute [local go_sem] IntKind.wrap_u32' signed_u32 max_u32
attribute [local go_sem ↓] Go.wp_at_zero Go.wp_at_succ
theorem Try.infoEvent : (Try.prog.info? 78).map (fun i => (i.zero, i.size, i.bytes)) = some (some (.agg #[.int .i64 0, .int .i64 0, .int .u32 0]), 3, 24) := by kernel_rfl
set_option maxHeartbeats 400000 in
theorem NewLog_any (w : World) : Calls Try.prog 68 #[] w fun e w' => ∃ p F, e = .returned (.pointer (some ⟨p, 0, none⟩)) ∧ Lg w' F p [] ∧ (∀ i, F i → w.heap.size ≤ i) ∧ Below w.heap.size w w' := by
  go_enter Try.func68, Try.ntmps68
  go_wp2
  go_ret
  refine ⟨w.heap.size, fun i => i = w.heap.size, rfl, ⟨.slice none 0 0, Blk.new _ _ _, World.ownsRow_nil _ _ _ _, rfl, fun k hk => by simp [Value.ownBlock] at hk, fun i hi => by simp; omega⟩, fun i hi => by omega, ?_⟩
  (repeat' (first | with_reducible exact Below.refl _ _ | with_reducible refine bl_drewN ?_ _ | with_reducible refine bl_drew ?_ | refine bl_set (by (first | omega | (simp; done) | (simp; omega))) ?_ _ | refine bl_alloc (by (first | omega | (simp; done) | (simp; omega))) ?_ _ | refine bl_then (by assumption) ?_ (by (first | omega | (simp; done) | (simp; omega))) | refine Step.bl (by assumption) (by assumption) (by (first | omega | (simp; done) | (simp; omega))) (by (first | omega | (simp; done) | (simp; omega))) ?_))
theorem note_fin {w w1 : World} {F : Nat → Prop} {p g cap n c : Nat} {A : Option Addr} {evs : List Ev} {o : Obj} {k i v : Int} (hp : Blk w p 102 #[.slice A n c]) (hFp : F p)
    (hFe : ∀ k, (Value.slice A n c).ownBlock = some k → F k) (hF : ∀ i, F i → i < w.heap.size) (hp1 : Blk w1 p 102 #[.slice A n c])
    (hown1 : w1.ownsRow 0 78 3 (.slice (some ⟨g, 0, none⟩) (evs.length + 1) cap) (evs.length + 1) (evCells evs ++ [.int .i64 k, .int .i64 i, .int .u32 v]))
    (hg1 : (w.alloc o).grownBy w1 (Value.slice A n c).ownBlock) (hat : (Value.slice A n c).ownBlock = some g ∨ g = w.heap.size + 1) (hlt : g < w1.heap.size) :
    ∃ F', Lg (w1.setCell ⟨p, 0, none⟩ (.slice (some ⟨g, 0, none⟩) (evs.length + 1) cap)) F' p (evs ++ [⟨k, i, v⟩]) ∧ Step F F' w (w1.setCell ⟨p, 0, none⟩ (.slice (some ⟨g, 0, none⟩) (evs.length + 1) cap)) := by
  have hs := hg1.size
  simp only [World.size_alloc] at hs
  refine ⟨fun b => F b ∨ b = g, ⟨.slice (some ⟨g, 0, none⟩) (evs.length + 1) cap, hp1.set_ 0 _, ?_, .inl hFp, fun k hk => .inr (by simpa [Value.ownBlock] using hk.symm), fun b hb => ?_⟩, ⟨?_, ?_, ?_, ?_, fun b hb hn => ?_, fun b hb => ?_, fun b hb => ?_⟩⟩
  · rw [evCells_snoc, List.length_append, List.length_singleton]
    exact hown1.kept (grown_set _ _ _ _) (.inr (own_blk_ne hown1 hp1 (by decide)))
  · rw [World.size_setCell]
    rcases hb with hb | rfl
    · have := hF b hb; omega
    · exact hlt
  · exact hg1.os
  · exact hg1.tape
  · exact hg1.output
  · rw [World.size_setCell]; omega
  · rw [Below.heap_setCell _ _ _ _ (by rintro rfl; exact hn hFp)]
    rw [hg1.block b (by simp; omega) (fun e => hn (hFe b e.symm))]
    exact Below.heap_alloc w o b hb
  · refine ⟨fun h => ?_, .inl⟩
    rcases h with h | rfl
    · exact h
    · rcases hat with h | h
      · exact hFe _ h
      · omega
  · rw [World.size_setCell]
    rcases hb with hb | rfl
    · have := hF b hb; omega
    · exact hlt
set_option maxRecDepth 10000 in
set_option maxHeartbeats 400000 in
theorem note_any (w : World) (F : Nat → Prop) (p : Nat) (evs : List Ev) (k i v : Int) (hL : Lg w F p evs) (hn : evs.length < 1099511627776) :
    Calls Try.prog 103 #[.pointer (some ⟨p, 0, none⟩), .int .i64 k, .int .i64 i, .int .u32 v] w fun e w' => e = .returned (.tuple #[]) ∧ ∃ F', Lg w' F' p (evs ++ [⟨k, i, v⟩]) ∧ Step F F' w w' := by
  obtain ⟨ev, hp, hown, hFp, hFe, hF⟩ := hL
  obtain ⟨A, c, rfl⟩ := own_slice hown
  have hc := hp.cell 0
  simp only [List.getElem?_toArray, List.getElem?_cons_zero] at hc
  have hf := hp.frozen 0
  have hplt := hp.lt
  obtain ⟨i0, hi, hz0, hz1, hz2⟩ := info_parts Try.infoEvent
  have hne := own_blk_ne hown hp (by decide)
  have hnew := World.new_ne w _ hc
  have HF := Lib.hid hF
  have HFe := Lib.hid hFe
  clear hF hFe
  go_enter Try.func103, Try.ntmps103
  go_wp2_with (at_builtin; refine wpList_append_lies _ (by rfl) _ _ 75 (by rfl) 0 78 i0 _ 3 24 Try.underlying75 hi hz0 hz1 hz2 (by rfl) (by decide) _ _ _ (by rfl) (hown.alloc _) ⟨w.heap.size, 0, none⟩ 1 1 [.int .i64 k, .int .i64 i, .int .u32 v] (by rfl) (by rfl) (World.news_of_block (heap_alloc_new w _)) (by simp [Value.oneCell']) (by decide) (by simp only [maxLen]; omega) (by omega) (by omega) (w.heap.size + 1) (by simp) ?_; intro g cap w1 hown1 hg1 hat1 hlt1; have hp1 := Lib.hid ((hp.alloc _).grown hg1 (Ne.symm hne)); have hc1 := hp1.out.cell 0; simp only [List.getElem?_toArray, List.getElem?_cons_zero] at hc1; have hf1 := hp1.out.frozen 0; have hg2 := Lib.hid hg1; have hown2 := Lib.hid hown1; have hat2 := Lib.hid hat1; clear hg1 hown1 hat1)
  go_end0
  exact ⟨rfl, note_fin hp hFp HFe.out HF.out hp1.out hown2.out hg2.out hat2.out hlt1⟩
set_option maxHeartbeats 400000 in
theorem Release_any (w : World) (F : Nat → Prop) (p : Nat) (evs : List Ev) (a : Int) (hL : Lg w F p evs) (hn : evs.length < 1099511627776) :
    Calls Try.prog 69 #[.pointer (some ⟨p, 0, none⟩), .agg #[.int .u32 a]] w fun e w' => e = .returned (.int .u32 a) ∧ ∃ F', Lg w' F' p (evs ++ [⟨3, 0, a⟩]) ∧ Step F F' w w' := by
  have hmost := hL.most
  have hold := foot_old hmost
  have HM := Lib.hid hmost
  clear hmost
  go_enter Try.func69, Try.ntmps69
  go_wp2_with (first | (go_at_call 103; refine' Calls.mono (note_any _ _ _ _ _ _ _ ?_ ?_) ?_; rotate_left; rotate_left; (next => ((repeat' (first | assumption | refine Lg.alloc ?_ _ | refine Lg.set_ ?_ (by (intro hfoot; simp [*, ↓IntWalk.iteOmega] at hfoot)) _ | refine Lg.below ?_ (by assumption) | refine Lg.drew ?_ | refine Lg.drewN ?_ _)))); (next => (first | omega | (simp; done) | (simp; omega))); rintro e w1 ⟨rfl, F1, hL1, hs1⟩; obtain ⟨hc, hf, hn⟩ := hs1.rules; have hz := hs1.size; (try simp only [World.size_alloc, World.size_setCell, World.size_drew] at hz); have hsh := Lib.hid hs1; clear hs1))
  go_ret
  refine ⟨rfl, _, by (repeat' (first | assumption | refine Lg.alloc ?_ _ | refine Lg.set_ ?_ (by (intro hfoot; simp [*, ↓IntWalk.iteOmega] at hfoot)) _ | refine Lg.below ?_ (by assumption) | refine Lg.drew ?_ | refine Lg.drewN ?_ _)), ?_⟩
  have hmost := HM.out
  (repeat' (first | exact Step.refl (by assumption) | refine Step.set_ (by (first | omega | (simp; done) | (simp; omega))) ?_ _ | refine Step.alloc ?_ _ | refine Step.drewN ?_ _ | refine Step.drew ?_ | refine Step.then_ (by assumption) ?_ | refine Step.thenB (by assumption) ?_))
set_option maxHeartbeats 400000 in
theorem Len_any (w : World) (F : Nat → Prop) (p : Nat) (evs : List Ev) (hL : Lg w F p evs) :
    Calls Try.prog 16 #[.pointer (some ⟨p, 0, none⟩)] w fun e w' => e = .returned (.int .i64 evs.length) ∧ w = w' := by
  obtain ⟨ev, hp, hown, hFp, hFe, hF⟩ := hL
  obtain ⟨A, c, rfl⟩ := own_slice hown
  have hc := hp.cell 0
  simp only [List.getElem?_toArray, List.getElem?_cons_zero] at hc
  clear hFe hF hown hp
  go_enter Try.func16, Try.ntmps16
  go_wp2
  go_ret
  exact ⟨rfl, rfl⟩
set_option maxRecDepth 10000 in
set_option maxHeartbeats 400000 in
theorem Events_any (w : World) (F : Nat → Prop) (p : Nat) (evs : List Ev) (hL : Lg w F p evs) (hn : evs.length < 1099511627776) :
    Calls Try.prog 92 #[.pointer (some ⟨p, 0, none⟩)] w fun e w' => ∃ v, e = .returned v ∧ w'.ownsRow w.heap.size 78 3 v evs.length (evCells evs) ∧ Below w.heap.size w w' := by
  obtain ⟨ev, hp, hown, hFp, hFe, hF⟩ := hL
  obtain ⟨A, c, rfl⟩ := own_slice hown
  have hc := hp.cell 0
  simp only [List.getElem?_toArray, List.getElem?_cons_zero] at hc
  obtain ⟨i0, hi, hz0, hz1, hz2⟩ := info_parts Try.infoEvent
  have HO := Lib.hid hown
  clear hFe hF hown hp
  have hone : ∀ u ∈ evCells evs, u.oneCell' = true := by
    intro u hu
    simp only [evCells, List.mem_flatMap] at hu
    obtain ⟨x, _, hx⟩ := hu
    simp at hx
    rcases hx with rfl | rfl | rfl <;> rfl
  have H1 := Lib.hid hone
  clear hone
  go_enter Try.func92, Try.ntmps92
  go_wp2_with (at_builtin; refine wpList_append_any _ (by rfl) _ _ 75 (by rfl) w.heap.size 78 i0 _ 3 24 Try.underlying75 hi hz0 hz1 hz2 (by rfl) (by decide) (.slice none 0 0) 0 [] (by rfl) (World.ownsRow_nil _ _ _ _) w.heap.size A evs.length c (evCells evs) (by rfl) (Reads.of_own HO.out) H1.out (by simp only [maxLen]; omega) (by omega) (by omega) ?_; intro v1 w1 hown1 hg1 hat1; have hown2 := Lib.hid hown1; have hg2 := Lib.hid hg1; clear hown1 hg1 hat1)
  go_ret
  refine ⟨v1, rfl, ?_, ?_⟩
  · simpa using hown2.out
  · exact (Below.refl w.heap.size w).grown hg2.out (Nat.le_refl _) (fun k hk => by simp [Value.ownBlock] at hk)

end Go.Proofs.Ytdakbejppnijdaa
