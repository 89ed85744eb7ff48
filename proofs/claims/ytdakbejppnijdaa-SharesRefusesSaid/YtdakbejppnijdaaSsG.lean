/- shares.Split refuses whatever may not be; in an arena of 40 words that is what the law asks. No condition. -/
import Derived.Test.YtdakbejppnijdaaSsF
namespace Go.Proofs.Ytdakbejppnijdaa
open Go.RowKit
namespace Ss
/-- What may be split. -/
def Ok (top ml : Nat) (at_ n cnt L out : Int) : Prop :=
  (1 ≤ n ∧ n ≤ 4096 ∧ 1 ≤ L ∧ L ≤ cnt ∧ cnt ≤ 255) ∧ n * (L - 1) ≤ ml ∧ (0 ≤ at_ ∧ at_ + n ≤ top) ∧ (0 ≤ out ∧ out + cnt * n ≤ top) ∧ (at_ ≥ out + cnt * n ∨ out ≥ at_ + n)
/-- What the law asks of an arena of 40 words. -/
def OkL (ml : Nat) (a0 a1 n0 n1 n2 : Int) : Prop :=
  (1 ≤ n0 ∧ n0 ≤ 40 ∧ 1 ≤ n1 ∧ n1 ≤ 40 ∧ 1 ≤ n2 ∧ n2 ≤ n1) ∧ n0 * n1 ≤ 40 ∧ n0 * (n2 - 1) ≤ ml ∧ (0 ≤ a0 ∧ a0 ≤ 40 - n0) ∧ (0 ≤ a1 ∧ a1 ≤ 40 - n0 * n1) ∧ (a0 - a1 ≥ n0 * n1 ∨ a1 - a0 ≥ n0)
theorem ok_iff (ml : Nat) (a0 a1 n0 n1 n2 : Int) : OkL ml a0 a1 n0 n1 n2 ↔ Ok 40 ml a0 n0 n1 n2 a1 := by
  constructor
  · rintro ⟨⟨h1, h2, h3, h4, h5, h6⟩, h7, h8, ⟨h9, h10⟩, ⟨h11, h12⟩, h13⟩
    refine ⟨⟨h1, by omega, h5, h6, by omega⟩, h8, ⟨h9, by omega⟩, ⟨h11, ?_⟩, ?_⟩
    · rw [Int.mul_comm n1 n0]
      generalize n0 * n1 = S at *
      omega
    · rw [Int.mul_comm n1 n0]
      generalize n0 * n1 = S at *
      omega
  · rintro ⟨⟨h1, h2, h5, h6, h4⟩, h8, ⟨h9, h10⟩, ⟨h11, h12⟩, h13⟩
    rw [Int.mul_comm n1 n0] at h12 h13
    have h40 : (((40 : Nat) : Int)) = 40 := rfl
    rw [h40] at h10 h12
    have hS : n1 ≤ n0 * n1 := by
      have := Int.mul_le_mul_of_nonneg_right h1 (show (0 : Int) ≤ n1 by omega)
      rwa [Int.one_mul] at this
    refine ⟨⟨h1, by omega, by omega, ?_, h5, h6⟩, ?_, h8, ⟨h9, by omega⟩, ⟨h11, ?_⟩, ?_⟩
    all_goals
      generalize n0 * n1 = S at *
      omega
end Ss
theorem sSplit_no {w : World} {p g lp : Nat} {FL : Nat → Prop} {ws : List Int} {top : Nat} {evs : List Ev} (h : Ar w p g lp FL ws top evs) (A : Option Addr) (ml c : Nat) (hml : ml ≤ 9223372036854775807) (at_ n cnt L out : Int) (hno : ¬ Ss.Ok top ml at_ n cnt L out) :
    Calls Try.prog 29 #[.pointer (some ⟨p, 0, none⟩), .int .i64 at_, .int .i64 n, .int .i64 cnt, .int .i64 L, .slice A ml c, .int .i64 out] w fun e w' => e = .returned (.bool false) ∧ w' = w := by
  by_cases hn : 1 ≤ n ∧ n ≤ 4096 ∧ 1 ≤ L ∧ L ≤ cnt ∧ cnt ≤ 255
  · obtain ⟨k1, k2, k3, k4, k5⟩ := hn
    obtain ⟨n', rfl⟩ : ∃ n' : Nat, n = n' := ⟨n.toNat, by omega⟩
    obtain ⟨c', rfl⟩ : ∃ c' : Nat, cnt = c' := ⟨cnt.toNat, by omega⟩
    obtain ⟨l', rfl⟩ : ∃ l' : Nat, L = (l' : Int) + 1 := ⟨(L - 1).toNat, by omega⟩
    refine sSplit_b h A ml c hml at_ out n' c' l' (by omega) (by omega) (by omega) (by omega) (fun hy => hno ⟨⟨k1, k2, k3, k4, k5⟩, ?_, hy.2.1, ?_, ?_⟩)
    · rw [show (l' : Int) + 1 - 1 = (l' : Int) by omega]
      exact_mod_cast hy.1
    · have := hy.2.2.1
      simpa using this
    · have := hy.2.2.2
      simpa using this
  · exact sSplit_a w p A ml c hml at_ n cnt L out hn
end Go.Proofs.Ytdakbejppnijdaa
