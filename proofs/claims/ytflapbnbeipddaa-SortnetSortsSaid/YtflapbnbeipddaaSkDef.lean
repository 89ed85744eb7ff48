/- Tables of words, as the walks spell them. No condition. -/
import Derived.Test.YtflapbnbeipddaaCtDef
import Derived.Test.YtflapbnbeipddaaKit
namespace Go.Proofs.Ytflapbnbeipddaa
open Go.RowKit
/-- A slice of rows of words that is read, nil let in: row i's word c is 'f i c'. -/
def Tab (w : World) (A : Option Addr) (n sz : Nat) (f : Nat → Nat → Int) : Prop :=
  0 < n → ∃ b off, A = some ⟨b, off, none⟩ ∧ b < w.heap.size ∧ ∀ i c, i < n → c < sz → w.cell? ⟨b, off + i * sz + c, none⟩ = some (.int .u32 (f i c))
theorem Tab.below {w w' : World} {A : Option Addr} {n sz : Nat} {f : Nat → Nat → Int} (h : Tab w A n sz f) (hb : Hid (Below w.heap.size w w')) : Tab w' A n sz f := fun hn => by
  obtain ⟨b, off, e, hlt, hc⟩ := h hn
  exact ⟨b, off, e, Nat.lt_of_lt_of_le hlt hb.size, fun i c hi hcc => (hb.cell (p := ⟨b, off + i * sz + c, none⟩) hlt).trans (hc i c hi hcc)⟩
theorem Tab.belowB {w w' : World} {A : Option Addr} {n sz : Nat} {f : Nat → Nat → Int} (h : Tab w A n sz f) (hb : Below w.heap.size w w') : Tab w' A n sz f := h.below (Lib.hid hb)
theorem Tab.at {w : World} {A : Option Addr} {n sz : Nat} {f : Nat → Nat → Int} (h : Tab w A n sz f) : ∃ B off, 0 < n → A = some ⟨B, off, none⟩ ∧ B < w.heap.size ∧ ∀ i c, i < n → c < sz → w.cell? ⟨B, off + i * sz + c, none⟩ = some (.int .u32 (f i c)) := by
  rcases Nat.eq_zero_or_pos n with h0 | h0
  · exact ⟨0, 0, fun h1 => absurd h1 (by omega)⟩
  · obtain ⟨B, off, h1⟩ := h h0
    exact ⟨B, off, fun _ => h1⟩
/-- A slice of slices of words that is read, nil let in: row i has R i words, its word c is 'f i c'. -/
structure Rowz (w : World) (A : Option Addr) (n : Nat) (R : Nat → Nat) (f : Nat → Nat → Int) (B off : Nat) (Ai : Nat → Option Addr) (ci : Nat → Nat) : Prop where
  at_ : 0 < n → A = some ⟨B, off, none⟩ ∧ B < w.heap.size
  cell : ∀ i, i < n → w.cell? ⟨B, off + i, none⟩ = some (.slice (Ai i) (R i) (ci i))
  cap : ∀ i, i < n → R i ≤ ci i
  row : ∀ i, i < n → 0 < R i → ∃ b o, Ai i = some ⟨b, o, none⟩ ∧ b < w.heap.size ∧ ∀ c, c < R i → w.cell? ⟨b, o + c, none⟩ = some (.int .u32 (f i c))
theorem Rowz.below {w w' : World} {A : Option Addr} {n : Nat} {R : Nat → Nat} {f : Nat → Nat → Int} {B off : Nat} {Ai : Nat → Option Addr} {ci : Nat → Nat} (h : Rowz w A n R f B off Ai ci) (hb : Hid (Below w.heap.size w w')) : Rowz w' A n R f B off Ai ci where
  at_ hn := ⟨(h.at_ hn).1, Nat.lt_of_lt_of_le (h.at_ hn).2 hb.size⟩
  cell i hi := (hb.cell (p := ⟨B, off + i, none⟩) (h.at_ (by omega)).2).trans (h.cell i hi)
  cap := h.cap
  row i hi hr := by
    obtain ⟨b, o, e, hlt, hc⟩ := h.row i hi hr
    exact ⟨b, o, e, Nat.lt_of_lt_of_le hlt hb.size, fun c hcc => (hb.cell (p := ⟨b, o + c, none⟩) hlt).trans (hc c hcc)⟩
namespace Sk
def wid (n : Nat) (R : Nat → Nat) : Nat := if n = 0 then 0 else R 0
def fo (key : Int) (K : Nat → Int) (n W : Nat) (R : Nat → Nat) (f : Nat → Nat → Int) : Nat → Nat → Int
  | 0, _ => 0
  | i + 1, c => if i < n ∧ c < min (R i) W then Ct.Or (fo key K n W R f i c) (Ct.And (Ct.Eq key (K i)) (f i c)) else fo key K n W R f i c
def ff (key : Int) (K : Nat → Int) : Nat → Int
  | 0 => 0
  | i + 1 => Ct.Or (ff key K i) (Ct.Eq key (K i))
theorem ff_zero (key : Int) (K : Nat → Int) : ff key K 0 = 0 := rfl
theorem ff_succ (key : Int) (K : Nat → Int) (i : Nat) : ff key K (i + 1) = Ct.Or (ff key K i) (Ct.Eq key (K i)) := rfl
theorem fo_zero (key : Int) (K : Nat → Int) (n W : Nat) (R : Nat → Nat) (f : Nat → Nat → Int) (c : Nat) : fo key K n W R f 0 c = 0 := rfl
theorem fo_succ (key : Int) (K : Nat → Int) (n W : Nat) (R : Nat → Nat) (f : Nat → Nat → Int) (i c : Nat) : fo key K n W R f (i + 1) c = if i < n ∧ c < min (R i) W then Ct.Or (fo key K n W R f i c) (Ct.And (Ct.Eq key (K i)) (f i c)) else fo key K n W R f i c := rfl
def ro (key : Int) (K : Nat → Int) (n : Nat) (R : Nat → Nat) (f : Nat → Nat → Int) : Nat → Nat → Int
  | 0, _ => 0
  | i + 1, c => if (K i == key) = true ∧ i < n ∧ c < R i then Ct.Or (ro key K n R f i c) (f i c) else ro key K n R f i c
def rf (key : Int) (K : Nat → Int) : Nat → Bool
  | 0 => false
  | i + 1 => if (K i == key) = true then true else rf key K i
theorem rf_zero (key : Int) (K : Nat → Int) : rf key K 0 = false := rfl
theorem rf_succ (key : Int) (K : Nat → Int) (i : Nat) : rf key K (i + 1) = if (K i == key) = true then true else rf key K i := rfl
theorem ro_zero (key : Int) (K : Nat → Int) (n : Nat) (R : Nat → Nat) (f : Nat → Nat → Int) (c : Nat) : ro key K n R f 0 c = 0 := rfl
theorem ro_succ (key : Int) (K : Nat → Int) (n : Nat) (R : Nat → Nat) (f : Nat → Nat → Int) (i c : Nat) : ro key K n R f (i + 1) c = if (K i == key) = true ∧ i < n ∧ c < R i then Ct.Or (ro key K n R f i c) (f i c) else ro key K n R f i c := rfl
def inn (a b x : Int) : Int := Ct.Not (Ct.Or (Ct.Lt x a) (Ct.Lt b x))
def ins (f : Nat → Nat → Int) (x : Int) : Nat → Int
  | 0 => 0
  | i + 1 => Ct.Or (ins f x i) (inn (f i 0) (f i 1) x)
theorem ins_zero (f : Nat → Nat → Int) (x : Int) : ins f x 0 = 0 := rfl
theorem ins_succ (f : Nat → Nat → Int) (x : Int) (i : Nat) : ins f x (i + 1) = Ct.Or (ins f x i) (inn (f i 0) (f i 1) x) := rfl
def mo (f : Nat → Nat → Int) (x : Int) : Nat → Int
  | 0 => x
  | i + 1 => Ct.Sel (inn (f i 0) (f i 1) x) (Ct.Add x ((f i 2 - f i 0) % 4294967296)) (mo f x i)
def kc (f : Nat → Nat → Int) (x : Int) : Nat → Int
  | 0 => 0
  | i + 1 => Ct.Or (kc f x i) (Ct.And (inn (f i 0) (f i 1) x) (f i 2))
def has (a b x : Int) : Bool := decide (a ≤ x) && decide (x ≤ b)
def rmv (f : Nat → Nat → Int) (x : Int) : Nat → Int
  | 0 => x
  | i + 1 => if has (f i 0) (f i 1) x = true then (f i 2 + (x - f i 0) % 4294967296) % 4294967296 else rmv f x i
def rin (f : Nat → Nat → Int) (x : Int) : Nat → Bool
  | 0 => false
  | i + 1 => if has (f i 0) (f i 1) x = true then true else rin f x i
def rcl (f : Nat → Nat → Int) (x : Int) : Nat → Int
  | 0 => 0
  | i + 1 => if has (f i 0) (f i 1) x = true then Ct.Or (rcl f x i) (f i 2) else rcl f x i
theorem mo_zero (f : Nat → Nat → Int) (x : Int) : mo f x 0 = x := rfl
theorem kc_zero (f : Nat → Nat → Int) (x : Int) : kc f x 0 = 0 := rfl
theorem rmv_zero (f : Nat → Nat → Int) (x : Int) : rmv f x 0 = x := rfl
theorem rin_zero (f : Nat → Nat → Int) (x : Int) : rin f x 0 = false := rfl
theorem rcl_zero (f : Nat → Nat → Int) (x : Int) : rcl f x 0 = 0 := rfl
theorem mo_succ (f : Nat → Nat → Int) (x : Int) (i : Nat) : mo f x (i + 1) = Ct.Sel (inn (f i 0) (f i 1) x) (Ct.Add x ((f i 2 - f i 0) % 4294967296)) (mo f x i) := rfl
theorem kc_succ (f : Nat → Nat → Int) (x : Int) (i : Nat) : kc f x (i + 1) = Ct.Or (kc f x i) (Ct.And (inn (f i 0) (f i 1) x) (f i 2)) := rfl
theorem rmv_succ (f : Nat → Nat → Int) (x : Int) (i : Nat) : rmv f x (i + 1) = if has (f i 0) (f i 1) x = true then (f i 2 + (x - f i 0) % 4294967296) % 4294967296 else rmv f x i := rfl
theorem rin_succ (f : Nat → Nat → Int) (x : Int) (i : Nat) : rin f x (i + 1) = if has (f i 0) (f i 1) x = true then true else rin f x i := rfl
theorem rcl_succ (f : Nat → Nat → Int) (x : Int) (i : Nat) : rcl f x (i + 1) = if has (f i 0) (f i 1) x = true then Ct.Or (rcl f x i) (f i 2) else rcl f x i := rfl
def pm (a b : Int) (f : Nat → Nat → Int) (i : Nat) : Int := Ct.And (Ct.Eq a (f i 0)) (Ct.Eq b (f i 1))
def pto (a b : Int) (f : Nat → Nat → Int) : Nat → Int
  | 0 => 0
  | i + 1 => Ct.Or (pto a b f i) (Ct.And (pm a b f i) (f i 2))
def pany (a b : Int) (f : Nat → Nat → Int) : Nat → Int
  | 0 => 0
  | i + 1 => Ct.Or (pany a b f i) (pm a b f i)
theorem pto_zero (a b : Int) (f : Nat → Nat → Int) : pto a b f 0 = 0 := rfl
theorem pany_zero (a b : Int) (f : Nat → Nat → Int) : pany a b f 0 = 0 := rfl
theorem pto_succ (a b : Int) (f : Nat → Nat → Int) (i : Nat) : pto a b f (i + 1) = Ct.Or (pto a b f i) (Ct.And (Ct.And (Ct.Eq a (f i 0)) (Ct.Eq b (f i 1))) (f i 2)) := rfl
theorem pany_succ (a b : Int) (f : Nat → Nat → Int) (i : Nat) : pany a b f (i + 1) = Ct.Or (pany a b f i) (Ct.And (Ct.Eq a (f i 0)) (Ct.Eq b (f i 1))) := rfl
def hit (a b : Int) (f : Nat → Nat → Int) (i : Nat) : Bool := f i 0 == a && f i 1 == b
def rto (a b : Int) (f : Nat → Nat → Int) : Nat → Int
  | 0 => 0
  | i + 1 => if hit a b f i = true then Ct.Or (rto a b f i) (f i 2) else rto a b f i
def rany (a b : Int) (f : Nat → Nat → Int) : Nat → Bool
  | 0 => false
  | i + 1 => if hit a b f i = true then true else rany a b f i
theorem rto_zero (a b : Int) (f : Nat → Nat → Int) : rto a b f 0 = 0 := rfl
theorem rany_zero (a b : Int) (f : Nat → Nat → Int) : rany a b f 0 = false := rfl
theorem rto_succ (a b : Int) (f : Nat → Nat → Int) (i : Nat) : rto a b f (i + 1) = if hit a b f i = true then Ct.Or (rto a b f i) (f i 2) else rto a b f i := rfl
theorem rany_succ (a b : Int) (f : Nat → Nat → Int) (i : Nat) : rany a b f (i + 1) = if hit a b f i = true then true else rany a b f i := rfl
end Sk
end Go.Proofs.Ytflapbnbeipddaa
