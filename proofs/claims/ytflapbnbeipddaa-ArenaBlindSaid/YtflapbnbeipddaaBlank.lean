/- ct.Blank: are all words of a slice 0? The slice has fewer than 2^62 words. -/
import Derived.Test.YtflapbnbeipddaaCt
import Derived.Test.YtflapbnbeipddaaWords
import Derived.Test.YtflapbnbeipddaaCtPlain
namespace Go.Proofs.Ytflapbnbeipddaa
open Go.RowKit
set_option linter.unusedSimpArgs false
set_option linter.unusedVariables false
attribute [local go_sem] IntKind.wrap_u32' signed_u32 max_u32
attribute [local go_sem ↓] Go.wp_at_zero Go.wp_at_succ
def orAll (xs : List Int) : Int := xs.foldl Ct.Or 0
theorem orAll_snoc (xs : List Int) (k : Nat) (h : k < xs.length) : orAll (xs.take (k + 1)) = Ct.Or (orAll (xs.take k)) (xs.getD k 0) := by
  unfold orAll
  rw [List.take_succ_eq_append_getElem h, List.foldl_append, List.getD_eq_getElem?_getD, List.getElem?_eq_getElem h]
  rfl
set_option maxHeartbeats 400000 in
theorem Blank_any (w : World) (A : Option Addr) (n c : Nat) (xs : List Int) (h : Ints w .u32 A n xs) (hn : n ≤ 4611686018427387904) :
    Calls Try.prog 69 #[.slice A n c] w fun e w' => e = .returned (.bool (orAll xs == 0)) ∧ Below w.heap.size w w' := by
  have hlen := h.1
  obtain ⟨b, off, hA⟩ : ∃ b off, 0 < n → A = some ⟨b, off, none⟩ ∧ b < w.heap.size ∧ ∀ j, j < n → w.cell? ⟨b, off + j, none⟩ = some (.int .u32 (xs.getD j 0)) := by
    rcases Nat.eq_zero_or_pos n with h0 | h0
    · exact ⟨0, 0, fun h1 => absurd h1 (by omega)⟩
    · obtain ⟨b, off, h1⟩ := h.2 h0
      exact ⟨b, off, fun _ => h1⟩
  have HA := Lib.hid hA
  have HL := Lib.hid hlen
  clear hA hlen h
  go_enter Try.func69, Try.ntmps69
  go_wp2_with fail
  go_loopw [3, 8] (fun s i wr => ∃ k : Nat, k ≤ n ∧ i = .int .i64 k ∧ s = .int .u32 (orAll (xs.take k)) ∧ Below w.heap.size w wr) (fun _ i _ => n - (intOf i).toNat)
  case atStart => exact ⟨0, Nat.zero_le _, rfl, rfl, Below.refl _ _⟩
  case round =>
    obtain ⟨k, hk, rfl, rfl, hW⟩ := hrel
    have hWs := hW.size
    have HW := Lib.hid hW
    by_cases hlt : k < n
    · obtain ⟨rfl, hb, hcell⟩ := HA.out (by omega)
      have hc0 : wr.cell? ⟨b, off + k, none⟩ = some (.int .u32 (xs.getD k 0)) := (hW.cell (p := ⟨b, off + k, none⟩) hb).trans (hcell k hlt)
      have hsn := Lib.hid (orAll_snoc xs k (by rw [HL.out]; exact hlt))
      clear hW hcell
      go_wp2_with fail
      go_roundw
      case rel =>
        refine ⟨k + 1, by omega, by go_num, ?_, ?_⟩
        · rw [hsn.out]; simp [Ct.Or]
        · have HW' := HW
          refine bl_alloc (by omega) HW.out _
      case measure => simp [intOf]; omega
    · have hge : n ≤ k := by omega
      have he := Lib.hid (show orAll (xs.take k) = orAll xs by rw [List.take_of_length_le (by rw [HL.out]; omega)])
      clear hW
      go_wp2_with fail
      go_ret
      exact ⟨by rw [← he.out]; rfl, HW.out⟩
end Go.Proofs.Ytflapbnbeipddaa
