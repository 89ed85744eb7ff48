/- What Decode leaves, and notes; words loaded and stored at a lane's place. No condition. -/
import Derived.Test.YtjoehhojhfgooaaAp
import Derived.Test.YtjoehhojhfgooaaUtC
namespace Go.Proofs.Ytjoehhojhfgooaa
open Go.RowKit
namespace Ut
/-- The words and the state behind k bytes. -/
def dc (inn out keep : Nat) (len : Int) (ws : List Int) : Nat → List Int × S
  | 0 => (ws, ⟨0, 0, 0, 0, 0⟩)
  | k + 1 => (((dc inn out keep len ws k).1.set (out + k) (Ct.And (whole (dc inn out keep len ws k).2 (Ct.And ((dc inn out keep len ws k).1.getD (inn + k) 0) 255) (Ct.Lt k len)) (np (dc inn out keep len ws k).2 (Ct.And ((dc inn out keep len ws k).1.getD (inn + k) 0) 255) (Ct.Lt k len)))).set (keep + k) (whole (dc inn out keep len ws k).2 (Ct.And ((dc inn out keep len ws k).1.getD (inn + k) 0) 255) (Ct.Lt k len)),
      next (dc inn out keep len ws k).2 (Ct.And ((dc inn out keep len ws k).1.getD (inn + k) 0) 255) (Ct.Lt k len))
theorem dc_zero (inn out keep : Nat) (len : Int) (ws : List Int) : dc inn out keep len ws 0 = (ws, ⟨0, 0, 0, 0, 0⟩) := rfl
theorem dc_succ (inn out keep : Nat) (len : Int) (ws W : List Int) (s : S) (k : Nat) (h : dc inn out keep len ws k = (W, s)) : dc inn out keep len ws (k + 1) =
    ((W.set (out + k) (Ct.And (whole s (Ct.And (W.getD (inn + k) 0) 255) (Ct.Lt k len)) (np s (Ct.And (W.getD (inn + k) 0) 255) (Ct.Lt k len)))).set (keep + k) (whole s (Ct.And (W.getD (inn + k) 0) 255) (Ct.Lt k len)), next s (Ct.And (W.getD (inn + k) 0) 255) (Ct.Lt k len)) := by
  show (_, _) = _
  rw [h]
theorem dc_len (inn out keep : Nat) (len : Int) (ws : List Int) : ∀ k, (dc inn out keep len ws k).1.length = ws.length
  | 0 => rfl
  | k + 1 => by
    obtain ⟨⟨W, s⟩, h⟩ : ∃ r, dc inn out keep len ws k = r := ⟨_, rfl⟩
    have := dc_len inn out keep len ws k
    rw [h] at this
    rw [dc_succ _ _ _ _ _ _ _ _ h]
    simpa using this
def bad (s : S) : Int := Ct.Or s.b (Ct.Not (Ct.Zero s.m))
def dd (out keep : Nat) (x : Int) (ws : List Int) : Nat → List Int
  | 0 => ws
  | k + 1 => ((dd out keep x ws k).set (out + k) (Ct.And (Ct.Not x) ((dd out keep x ws k).getD (out + k) 0))).set (keep + k) (Ct.And (Ct.Not x) (((dd out keep x ws k).set (out + k) (Ct.And (Ct.Not x) ((dd out keep x ws k).getD (out + k) 0))).getD (keep + k) 0))
theorem dd_zero (out keep : Nat) (x : Int) (ws : List Int) : dd out keep x ws 0 = ws := rfl
theorem dd_succ (out keep : Nat) (x : Int) (ws W : List Int) (k : Nat) (h : dd out keep x ws k = W) : dd out keep x ws (k + 1) = (W.set (out + k) (Ct.And (Ct.Not x) (W.getD (out + k) 0))).set (keep + k) (Ct.And (Ct.Not x) ((W.set (out + k) (Ct.And (Ct.Not x) (W.getD (out + k) 0))).getD (keep + k) 0)) := by
  subst h; rfl
theorem dd_len (out keep : Nat) (x : Int) (ws : List Int) : ∀ k, (dd out keep x ws k).length = ws.length
  | 0 => rfl
  | k + 1 => by rw [dd_succ _ _ _ _ _ _ rfl, List.length_set, List.length_set, dd_len out keep x ws k]
def ev1 (inn out keep : Nat) : Nat → List Ev
  | 0 => []
  | k + 1 => ev1 inn out keep k ++ [⟨1, ((inn + k : Nat) : Int), 0⟩, ⟨2, ((out + k : Nat) : Int), 0⟩, ⟨2, ((keep + k : Nat) : Int), 0⟩]
theorem ev1_zero (inn out keep : Nat) : ev1 inn out keep 0 = [] := rfl
theorem ev1_succ (inn out keep k : Nat) : ev1 inn out keep (k + 1) = ev1 inn out keep k ++ [⟨1, ((inn + k : Nat) : Int), 0⟩, ⟨2, ((out + k : Nat) : Int), 0⟩, ⟨2, ((keep + k : Nat) : Int), 0⟩] := rfl
theorem ev1_len (inn out keep : Nat) : ∀ k, (ev1 inn out keep k).length = 3 * k
  | 0 => rfl
  | k + 1 => by rw [ev1_succ, List.length_append, ev1_len inn out keep k]; simp; omega
def ev2 (out keep : Nat) : Nat → List Ev
  | 0 => []
  | k + 1 => ev2 out keep k ++ [⟨1, ((out + k : Nat) : Int), 0⟩, ⟨2, ((out + k : Nat) : Int), 0⟩, ⟨1, ((keep + k : Nat) : Int), 0⟩, ⟨2, ((keep + k : Nat) : Int), 0⟩]
theorem ev2_zero (out keep : Nat) : ev2 out keep 0 = [] := rfl
theorem ev2_succ (out keep k : Nat) : ev2 out keep (k + 1) = ev2 out keep k ++ [⟨1, ((out + k : Nat) : Int), 0⟩, ⟨2, ((out + k : Nat) : Int), 0⟩, ⟨1, ((keep + k : Nat) : Int), 0⟩, ⟨2, ((keep + k : Nat) : Int), 0⟩] := rfl
theorem ev2_len (out keep : Nat) : ∀ k, (ev2 out keep k).length = 4 * k
  | 0 => rfl
  | k + 1 => by rw [ev2_succ, List.length_append, ev2_len out keep k]; simp; omega
end Ut
theorem Ar.farE {w : World} {p g lp : Nat} {FL : Nat → Prop} {ws : List Int} {top : Nat} {evs : List Ev} (h : Ar w p g lp FL ws top evs) {b i : Nat} (hn : AF p g FL b = False) (u : Value) : Ar (w.setCell ⟨b, i, none⟩ u) p g lp FL ws top evs := h.far (fun hf => by rw [hn] at hf; exact hf) u
theorem ALoad_s {w : World} {p g lp : Nat} {FL : Nat → Prop} {ws : List Int} {top : Nat} {evs : List Ev} (h : Ar w p g lp FL ws top evs) (hn : evs.length < 1099511627776) (a k : Nat) (hi : a + k < top) :
    Calls Try.prog 52 #[.pointer (some ⟨p, 0, none⟩), .int .i64 ((a : Int) + (k : Int))] w fun e w' => e = .returned (.agg #[.int .u32 (ws.getD (a + k) 0)]) ∧ ∃ FL', Ar w' p g lp FL' ws top (evs ++ [⟨1, ((a + k : Nat) : Int), 0⟩]) ∧ Step (AF p g FL) (AF p g FL') w w' := by
  have := ALoad_t h hn (a + k) hi
  rw [Int.natCast_add] at this ⊢
  exact this
theorem AStore_s {w : World} {p g lp : Nat} {FL : Nat → Prop} {ws : List Int} {top : Nat} {evs : List Ev} (h : Ar w p g lp FL ws top evs) (hn : evs.length < 1099511627776) (a k : Nat) (hi : a + k < top) (y : Int) :
    Calls Try.prog 49 #[.pointer (some ⟨p, 0, none⟩), .int .i64 ((a : Int) + (k : Int)), .agg #[.int .u32 y]] w fun e w' => e = .returned (.bool true) ∧ ∃ FL', Ar w' p g lp FL' (ws.set (a + k) y) top (evs ++ [⟨2, ((a + k : Nat) : Int), 0⟩]) ∧ Step (AF p g FL) (AF p g FL') w w' := by
  have := AStore_t h hn (a + k) hi y
  rw [Int.natCast_add] at this ⊢
  exact this
end Go.Proofs.Ytjoehhojhfgooaa
