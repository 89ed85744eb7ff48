/- The reference of layer 1 as its walks compute it. No condition. -/
import Derived.Laws.Entries
namespace Go.Proofs.Ytdakbejppnijdaa
namespace Rf
def bit (v n : Int) : Bool := decide (0 ≤ n) && (decide (n < 32) && decide (v / 2 ^ n.toNat % 2 = 1))
/-- The first k of n places hold what g says, the others false. -/
def tab (g : Nat → Bool) (n k : Nat) : List Bool := (List.range n).map fun i => if i < k then g i else false
theorem tab_length (g : Nat → Bool) (n k : Nat) : (tab g n k).length = n := by simp [tab]
theorem tab_zero (g : Nat → Bool) (n : Nat) : tab g n 0 = List.replicate n false := by
  apply List.ext_getElem <;> simp [tab]
theorem tab_succ (g : Nat → Bool) (n k : Nat) : (tab g n k).set k (g k) = tab g n (k + 1) := by
  apply List.ext_getElem
  · simp [tab]
  · intro i h1 h2
    simp only [tab, List.getElem_set, List.getElem_map, List.getElem_range]
    by_cases h : k = i
    · subst h; simp
    · rw [if_neg h]
      by_cases h3 : i < k
      · rw [if_pos h3, if_pos (by omega)]
      · rw [if_neg h3, if_neg (by omega)]
theorem tab_full (g : Nat → Bool) (n : Nat) : tab g n n = (List.range n).map g := by
  apply List.ext_getElem
  · simp [tab]
  · intro i h1 h2
    simp only [tab, List.length_map, List.length_range] at h1
    simp [tab, h1]
/-- The word of the first k bits of l. -/
def wsum (l : List Bool) : Nat → Int
  | 0 => 0
  | k + 1 => if l.getD k false then (wsum l k + 2 ^ k) % 4294967296 else wsum l k
def word (l : List Bool) : Int := wsum l 32
def of (g : Nat → Bool) : Int := word ((List.range 32).map g)
def both (a b kind : Int) : Int := of fun i => if kind = 0 then bit a i && bit b i else if kind = 1 then bit a i || bit b i else if kind = 2 then bit a i != bit b i else false
def move (a n : Int) : Int := of fun i => bit a (i + n)
def sel (m a b : Int) : Int := of fun i => if bit m i then bit a i else bit b i
def rotN (n : Int) : Int := if n.tmod 32 < 0 then n.tmod 32 + 32 else n.tmod 32
def rot (a n : Int) : Int := both (move a (rotN n)) (move a (rotN n - 32)) 1
end Rf
end Go.Proofs.Ytdakbejppnijdaa
