/- Two arenas side by side; events handed back, read. (For the seats without ArE, ArF, ArX.) No condition. -/
import Derived.Test.YtjoehhojhfgooaaArS
namespace Go.Proofs.Ytjoehhojhfgooaa
open Go.RowKit
theorem Ar.beside {w : World} {p g lp : Nat} {FL : Nat → Prop} {ws : List Int} {top : Nat} {evs : List Ev} (h : Ar w p g lp FL ws top evs) {w' : World} {G G' : Nat → Prop} (hs : Step G G' w w') (hd : ∀ i, AF p g FL i → ¬ G i) : Ar w' p g lp FL ws top evs where
  bp := hs.blk h.bp (hd p af_p)
  bg := hs.blk h.bg (hd g af_g)
  lg := h.lg.step hs (fun i hi => hd i (.inr (.inr hi)))
  np := h.np
  ng := h.ng
  ht := h.ht
  hz := h.hz
theorem ev_at {w : World} {base n cap : Nat} {A : Option Addr} {E : List Ev} (h : w.ownsRow base 39 3 (.slice A n cap) n (evCells E)) (hE : E.length = n) {q : Nat} (hq : q < n) : ∃ g, A = some ⟨g, 0, none⟩ ∧ g < w.heap.size ∧
    w.cell? ⟨g, q * 3, none⟩ = some (.int .i64 (E.getD q evDef).k) ∧ w.cell? ⟨g, q * 3 + 1, none⟩ = some (.int .i64 (E.getD q evDef).i) ∧ w.cell? ⟨g, q * 3 + 2, none⟩ = some (.int .u32 (E.getD q evDef).v) := by
  obtain ⟨g, cap', hv, _, hgl⟩ := h.form (by omega)
  injection hv with h1 h2 h3
  subst h1
  have hc := evCells_get E q (by omega)
  exact ⟨g, rfl, hgl, (h.cellAt (q * 3) (by omega)).trans hc.1, (h.cellAt (q * 3 + 1) (by omega)).trans hc.2.1, (h.cellAt (q * 3 + 2) (by omega)).trans hc.2.2⟩
theorem blind_of {w : World} {F : Nat → Prop} {p n : Nat} {evs E : List Ev} (hL : Lg w F p evs) (hn : evs.length = n) (hE : blind evs = E) (h : n < 1099511627776) :
    Calls Try.prog 19 #[.pointer (some ⟨p, 0, none⟩)] w fun e w' => ∃ A c, e = .returned (.slice A n c) ∧ w'.ownsRow w.heap.size 39 3 (.slice A n c) n (evCells E) ∧ Below w.heap.size w w' := by
  refine (Blind_any w F p evs hL (by omega)).mono ?_
  rintro e w' ⟨v, rfl, ho, hb⟩
  rw [hn, hE] at ho
  obtain ⟨A, c, rfl⟩ := own_slice ho
  exact ⟨A, c, rfl, ho, hb⟩
theorem own_below {w : World} {base n cap : Nat} {A : Option Addr} {E : List Ev} (h : w.ownsRow base 39 3 (.slice A n cap) n (evCells E)) {w' : World} (hb : Below w.heap.size w w') : w'.ownsRow base 39 3 (.slice A n cap) n (evCells E) := pw_own h (Lib.hid hb)
theorem blind_app (a b : List Ev) : blind (a ++ b) = blind a ++ blind b := List.map_append
end Go.Proofs.Ytjoehhojhfgooaa
