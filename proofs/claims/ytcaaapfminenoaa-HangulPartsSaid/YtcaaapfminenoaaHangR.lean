/- The parts of a syllable are joined to it again: plain. No condition. -/
import Derived.Test.YtcaaapfminenoaaHangP
namespace Go.Proofs.Ytcaaapfminenoaa
set_option maxRecDepth 20000
namespace Hg
theorem back (p : Nat) (h1 : 44032 ≤ p) (h2 : p ≤ 55203) :
    J (4352 + (p - 44032) / 588) (4449 + (p - 44032) % 588 / 28) = p - (p - 44032) % 28 ∧
    J (p - (p - 44032) % 28) (if (p - 44032) % 28 ≠ 0 then 4519 + (p - 44032) % 28 else 0) = if (p - 44032) % 28 ≠ 0 then p else 0 := by
  constructor
  · unfold J
    rw [if_pos (by omega)]
    omega
  · unfold J
    by_cases h : (p - 44032) % 28 = 0
    · simp only [h, ne_eq, not_true_eq_false, if_false]
      rw [if_neg (by omega), if_neg (by omega)]
    · have hs : Syl (p - (p - 44032) % 28) := by unfold Syl; omega
      simp only [ne_eq, h, not_false_eq_true, if_true]
      rw [if_neg (by omega), if_pos ⟨hs, by omega, by omega, by omega⟩]
      omega
theorem back_int (x : Nat) (hx : x < 4294967296) (hs : Syl x) :
    ok (l x) (v x) = 4294967295 ∧ Ct.Sel (ok (join (l x) (v x)) (t x)) (join (join (l x) (v x)) (t x)) (join (l x) (v x)) = x := by
  have hs' := hs
  unfold Syl at hs'
  have F1 := (l_nat x hx).trans (if_pos hs)
  have F2 := (v_nat x hx).trans (if_pos hs)
  have F3 := t_nat x hx
  obtain ⟨B1, B2⟩ := back x (by omega) (by omega)
  have J1 := join_nat (4352 + (x - 44032) / 588) (4449 + (x - 44032) % 588 / 28) (by omega) (by omega)
  have O1 := ok_nat (4352 + (x - 44032) / 588) (4449 + (x - 44032) % 588 / 28) (by omega) (by omega)
  rw [B1] at J1 O1
  rw [F1, F2, J1, O1]
  have h0 : x - (x - 44032) % 28 ≠ 0 := by omega
  refine ⟨by rw [show (x - (x - 44032) % 28 != 0) = true from by simpa using h0]; rfl, ?_⟩
  by_cases ht : (x - 44032) % 28 = 0
  · rw [if_neg (fun h => h.2 ht)] at F3
    rw [if_neg (fun h => h ht), if_neg (fun h => h ht)] at B2
    have J2 := join_nat (x - (x - 44032) % 28) 0 (by omega) (by omega)
    have O2 := ok_nat (x - (x - 44032) % 28) 0 (by omega) (by omega)
    rw [B2] at J2 O2
    rw [F3]
    rw [show (0 : Int) = ((0 : Nat) : Int) from rfl, J2, O2, show ((0 : Nat) != 0) = false from rfl, Ct.sel_mask false 0 (x - (x - 44032) % 28) (by omega) (by omega), ht]
    simp
  · rw [if_pos ⟨hs, ht⟩] at F3
    rw [if_pos ht, if_pos ht] at B2
    have J2 := join_nat (x - (x - 44032) % 28) (4519 + (x - 44032) % 28) (by omega) (by omega)
    have O2 := ok_nat (x - (x - 44032) % 28) (4519 + (x - 44032) % 28) (by omega) (by omega)
    rw [B2] at J2 O2
    rw [F3, J2, O2, show (x != 0) = true from by simp; omega, Ct.sel_mask true x (x - (x - 44032) % 28) (by omega) (by omega)]
    simp
end Hg
end Go.Proofs.Ytcaaapfminenoaa
