/- Strings as lists of bytes, in the walk. No condition. -/
import Derived.Test.YtflapbnbeipddaaScD
import Derived.Lib.AppendStr
import Derived.Lib.SlBytesRow
import Derived.Lib.BufferRead
namespace Go.Proofs.Ytflapbnbeipddaa
open Go.RowKit
set_option linter.unusedSimpArgs false
set_option linter.unusedVariables false
namespace Sc
def S (l : Bs) : ByteArray := ⟨l.toArray⟩
theorem S_size (l : Bs) : (S l).size = l.length := by simp [S, ByteArray.size]
theorem S_toList (l : Bs) : (S l).toList = l := ByteArray.toList_mk l
theorem S_data (l : Bs) : (S l).data.toList = l := rfl
theorem S_of (s : ByteArray) : S s.data.toList = s := rfl
theorem ext_data {a b : ByteArray} (h : a.data.toList = b.data.toList) : a = b := ByteArray.ext (Array.toList_inj.1 h)
theorem S_ext (l : Bs) (a b : Nat) : (S l).extract a b = S ((l.drop a).take (b - a)) := ext_data (by rw [Go.Lib.extract_data, S_data, S_data])
theorem S_inj {a b : Bs} (h : S a = S b) : a = b := by have := congrArg (fun s => s.data.toList) h; exact this
theorem S_app (a b : Bs) : S a ++ S b = S (a ++ b) := ext_data (by simp [S])
def u8c (l : Bs) : List Value := l.map fun b => .int .u8 (b.toNat : Int)
theorem u8c_len (l : Bs) : (u8c l).length = l.length := by simp [u8c]
theorem u8c_app (a b : Bs) : u8c (a ++ b) = u8c a ++ u8c b := by simp [u8c]
theorem u8c_S (l : Bs) : Lib.strCells (S l) = u8c l := rfl
theorem u8c_one (l : Bs) : ∀ u ∈ u8c l, u.oneCell' = true := by
  intro u hu
  simp only [u8c, List.mem_map] at hu
  obtain ⟨b, _, rfl⟩ := hu
  rfl
section
variable {P : Program}
theorem ix_S (t : TypeId) (l : Bs) (i : Nat) (h : P.underlying t = some .string) (hi : i < l.length) : ∀ w, (Instr.index t (.string (S l)) (.int .i64 (i : Int))).run P w = .ok (.int .u8 ((l.getD i 0).toNat : Int)) w := fun w => by
  have e : (S l)[i]? = some (l.getD i 0) := by
    rw [ByteArray.getElem?_lt' _ _ (by rw [S_size]; exact hi)]
    simp only [S, ByteArray.getElem_eq_getElem_data, List.getElem_toArray, Option.some.injEq]
    rw [List.getD_eq_getElem?_getD, List.getElem?_eq_getElem hi]
    rfl
  simp [Instr.index, asIntOf, run_underlying h, e]
theorem sl_S (t : TypeId) (l : Bs) (a b : Nat) (h : P.underlying t = some .string) (hab : a ≤ b) (hb : b ≤ l.length) : ∀ w, (Instr.slice t (.string (S l)) (some (.int .i64 (a : Int))) (some (.int .i64 (b : Int))) none).run P w = .ok (.string (S ((l.drop a).take (b - a)))) w := fun w => by
  have h1 : b ≤ l.length := hb
  have h2 : a ≤ b := hab
  simp [Instr.slice, Instr.sliceBounds, Instr.sliceBound, asIntOf, run_underlying h, h1, h2, S_ext, S_size]
theorem sl_S_lo (t : TypeId) (l : Bs) (a : Nat) (h : P.underlying t = some .string) (ha : a ≤ l.length) : ∀ w, (Instr.slice t (.string (S l)) (some (.int .i64 (a : Int))) none none).run P w = .ok (.string (S (l.drop a))) w := fun w => by
  have h1 : ¬ l.length < a := by omega
  have h2 : (l.drop a).take (l.length - a) = l.drop a := List.take_of_length_le (by simp)
  simp [Instr.slice, Instr.sliceBounds, Instr.sliceBound, asIntOf, run_underlying h, h1, S_ext, S_size, h2]
theorem sl_S_hi (t : TypeId) (l : Bs) (b : Nat) (h : P.underlying t = some .string) (hb : b ≤ l.length) : ∀ w, (Instr.slice t (.string (S l)) none (some (.int .i64 (b : Int))) none).run P w = .ok (.string (S (l.take b))) w := fun w => by
  have h1 : ¬ l.length < b := by omega
  simp [Instr.slice, Instr.sliceBounds, Instr.sliceBound, asIntOf, run_underlying h, h1, S_ext, S_size]
theorem add_S (t : TypeId) (a b : Bs) (h : a.length + b.length ≤ 9223372036854775807) : binOp .add t (.string (S a)) (.string (S b)) = pure (.string (S (a ++ b))) := by
  have e : ¬ (((S a).size + (S b).size : Nat) : Int) > IntKind.i64.max := by rw [S_size, S_size, show IntKind.i64.max = 9223372036854775807 by decide]; omega
  simp only [binOp_string_add, Op.stringOp]
  rw [if_neg e, S_app]
theorem eql_S (t : TypeId) (a b : Bs) : binOp .eql t (.string (S a)) (.string (S b)) = pure (.bool (a == b)) := by
  rw [binOp_string_eql, S_toList, S_toList]
theorem neq_S (t : TypeId) (a b : Bs) : binOp .neq t (.string (S a)) (.string (S b)) = pure (.bool !(a == b)) := by
  rw [binOp_string_neq, S_toList, S_toList]
theorem conv_own {base n : Nat} {src e dst : TypeId} {v : Value} {l : Bs} {w : World} (hs : P.underlying src = some (.slice e)) (he : P.underlying e = some (.int .u8)) (hd : P.underlying dst = some .string) (h : w.ownsRow base e 1 v n (u8c l)) : (convert src dst v).run P w = .ok (.string (S l)) w := by
  have hn : n = l.length := by have := h.1; rw [u8c_len] at this; omega
  obtain ⟨A, c, rfl⟩ := own_slice h
  have h2 := h.2
  rcases h2 with ⟨hv, hz⟩ | ⟨g, cap, cur, hv, _⟩
  · simp only [Value.slice.injEq] at hv
    obtain ⟨rfl, _, rfl⟩ := hv
    have hl : l = [] := List.eq_nil_of_length_eq_zero (by omega)
    subst hl
    subst hz
    exact Lib.run_convert_nil_bytes w src dst e 0 hs he hd
  · simp only [Value.slice.injEq] at hv
    obtain ⟨rfl, _, rfl⟩ := hv
    have hc := h.cells (g := g) rfl
    have hb : Lib.Bytes w g 0 (S l) := fun i hi => by
      rw [S_size] at hi
      have := hc i (.int .u8 (l[i].toNat : Int)) (by simp [u8c, hi])
      rw [Addr.add_lit] at this
      simpa [S, ByteArray.getElem_eq_getElem_data] using this
    have := Lib.run_convert_whole (P := P) w src e dst hs he hd g 0 (S l) hb c
    rw [S_size] at this
    rw [hn]
    exact this
end
end Sc
end Go.Proofs.Ytflapbnbeipddaa
