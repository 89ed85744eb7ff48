/- unutf: what it does to an arena's words, and what it notes. Plain. No condition. -/
import Derived.Test.YtjoehhojhfgooaaUnB
namespace Go.Proofs.Ytjoehhojhfgooaa
open Go.RowKit
namespace Un
/-- The masks of how long a point is. -/
def sh (x : Int) (k : Nat) : Int := if k = 0 then Ct.Mask true else if k = 1 then Ct.Not (Ct.Lt x 128) else if k = 2 then Ct.Not (Ct.Lt x 2048) else Ct.Not (Ct.Lt x 65536)
/-- The bytes of a point. -/
def byt (x : Int) (k : Nat) : Int := gt (sh x) x 4 k
def in4 (b s : Nat → Int) (y : Int) (at_ st : Nat) (ws : List Int) : Nat → List Int
  | 0 => ws
  | k + 1 => ((in4 b s y at_ st ws k).set (at_ + k) (b k)).set (st + k) (Ct.And y (s k))
theorem in4_zero (b s : Nat → Int) (y : Int) (at_ st : Nat) (ws : List Int) : in4 b s y at_ st ws 0 = ws := rfl
theorem in4_succ (b s : Nat → Int) (y : Int) (at_ st : Nat) (ws W : List Int) (k : Nat) (h : in4 b s y at_ st ws k = W) : in4 b s y at_ st ws (k + 1) = (W.set (at_ + k) (b k)).set (st + k) (Ct.And y (s k)) := by subst h; rfl
theorem in4_len (b s : Nat → Int) (y : Int) (at_ st : Nat) (ws : List Int) : ∀ k, (in4 b s y at_ st ws k).length = ws.length
  | 0 => rfl
  | k + 1 => by rw [in4_succ _ _ _ _ _ _ _ _ rfl, List.length_set, List.length_set, in4_len b s y at_ st ws k]
def in4e (at_ st : Nat) : Nat → List Ev
  | 0 => []
  | k + 1 => in4e at_ st k ++ [⟨2, ((at_ + k : Nat) : Int), 0⟩, ⟨2, ((st + k : Nat) : Int), 0⟩]
theorem in4e_zero (at_ st : Nat) : in4e at_ st 0 = [] := rfl
theorem in4e_succ (at_ st k : Nat) : in4e at_ st (k + 1) = in4e at_ st k ++ [⟨2, ((at_ + k : Nat) : Int), 0⟩, ⟨2, ((st + k : Nat) : Int), 0⟩] := rfl
theorem in4e_len (at_ st : Nat) : ∀ k, (in4e at_ st k).length = 2 * k
  | 0 => rfl
  | k + 1 => by rw [in4e_succ, List.length_append, in4e_len at_ st k]; simp; omega
def sx (pt i : Nat) (W : List Int) : Int := Ct.And (W.getD (pt + i) 0) 2097151
def sy (kl i : Nat) (W : List Int) : Int := Ct.Sub 0 (Ct.And (W.getD (kl + i) 0) 1)
/-- spread: the words behind k points. -/
def sp (pt kl to st : Nat) (ws : List Int) : Nat → List Int
  | 0 => ws
  | k + 1 => in4 (byt (sx pt k (sp pt kl to st ws k))) (sh (sx pt k (sp pt kl to st ws k))) (sy kl k (sp pt kl to st ws k)) (to + 4 * k) (st + 4 * k) (sp pt kl to st ws k) 4
theorem sp_zero (pt kl to st : Nat) (ws : List Int) : sp pt kl to st ws 0 = ws := rfl
theorem sp_succ (pt kl to st : Nat) (ws W : List Int) (k : Nat) (h : sp pt kl to st ws k = W) : sp pt kl to st ws (k + 1) = in4 (byt (sx pt k W)) (sh (sx pt k W)) (sy kl k W) (to + 4 * k) (st + 4 * k) W 4 := by subst h; rfl
theorem sp_len (pt kl to st : Nat) (ws : List Int) : ∀ k, (sp pt kl to st ws k).length = ws.length
  | 0 => rfl
  | k + 1 => by rw [sp_succ _ _ _ _ _ _ _ rfl, in4_len, sp_len pt kl to st ws k]
def spe (pt kl to st : Nat) : Nat → List Ev
  | 0 => []
  | k + 1 => spe pt kl to st k ++ ([⟨1, ((pt + k : Nat) : Int), 0⟩, ⟨1, ((kl + k : Nat) : Int), 0⟩] ++ in4e (to + 4 * k) (st + 4 * k) 4)
theorem spe_zero (pt kl to st : Nat) : spe pt kl to st 0 = [] := rfl
theorem spe_succ (pt kl to st k : Nat) : spe pt kl to st (k + 1) = spe pt kl to st k ++ ([⟨1, ((pt + k : Nat) : Int), 0⟩, ⟨1, ((kl + k : Nat) : Int), 0⟩] ++ in4e (to + 4 * k) (st + 4 * k) 4) := rfl
theorem spe_len (pt kl to st : Nat) : ∀ k, (spe pt kl to st k).length = 10 * k
  | 0 => rfl
  | k + 1 => by rw [spe_succ, List.length_append, List.length_append, spe_len pt kl to st k, in4e_len]; simp; omega
end Un
theorem unShapeS_any (x : Int) (w : World) : Calls Try.prog 70 #[.agg #[.int .u32 x]] w fun e w' =>
    e = .returned (.agg #[.int .u32 (Un.sh x 0), .int .u32 (Un.sh x 1), .int .u32 (Un.sh x 2), .int .u32 (Un.sh x 3)]) ∧ Below w.heap.size w w' := unShape_any x w
theorem unBytesS_any (x : Int) (w : World) : Calls Try.prog 71 #[.agg #[.int .u32 x], .agg #[.int .u32 (Un.sh x 0), .int .u32 (Un.sh x 1), .int .u32 (Un.sh x 2), .int .u32 (Un.sh x 3)]] w fun e w' =>
    e = .returned (.agg #[.int .u32 (Un.byt x 0), .int .u32 (Un.byt x 1), .int .u32 (Un.byt x 2), .int .u32 (Un.byt x 3)]) ∧ Below w.heap.size w w' := unBytes_any x (Un.sh x) w
theorem And21_any (a : Int) (w : World) : Calls Try.prog 50 #[.agg #[.int .u32 a], .agg #[.int .u32 2097151]] w fun e w' => e = .returned (.agg #[.int .u32 (Ct.And a 2097151)]) ∧ Below w.heap.size w w' := And_any a 2097151 w
theorem Of21_any (w : World) : Calls Try.prog 28 #[.int .u32 2097151] w fun e w' => e = .returned (.agg #[.int .u32 2097151]) ∧ Below w.heap.size w w' := Of_any 2097151 w
theorem ix_four (f : Nat → Int) {k : Nat} (hk : k < 4) : ∀ w : World, (Instr.index 103 (.agg #[.int .u32 (f 0), .int .u32 (f 1), .int .u32 (f 2), .int .u32 (f 3)]) (.int .i64 (k : Int))).run Try.prog w = .ok (.agg #[.int .u32 (f k)]) w := fun _ => by
  rcases (by omega : k = 0 ∨ k = 1 ∨ k = 2 ∨ k = 3) with rfl | rfl | rfl | rfl <;> kernel_rfl
end Go.Proofs.Ytjoehhojhfgooaa
