/- The document's points: Point, Points, Bytes. No condition. -/
import Derived.Test.YtjoehhojhfgooaaUtP
import Derived.Test.YtjoehhojhfgooaaUtG
namespace Go.Proofs.Ytjoehhojhfgooaa
open Go.RowKit
set_option linter.unusedSimpArgs false
set_option linter.unusedVariables false
attribute [local go_sem] IntKind.wrap_u32' signed_u32 max_u32
attribute [local go_sem ↓] Go.wp_at_zero Go.wp_at_succ
attribute [local go_sem] Calm.C
attribute [local go_sem low] Calm.al_cell Calm.al_frozen
/-- Bytes that are read. -/
def U8s (w : World) (A : Option Addr) (n : Nat) (f : Nat → Nat) : Prop := 0 < n → ∃ b o, A = some ⟨b, o, none⟩ ∧ b < w.heap.size ∧ ∀ i, i < n → w.cell? ⟨b, o + i, none⟩ = some (.int .u8 (f i))
theorem lead_cases (c : Nat) (h : c < 256) : c ≤ 127 ∧ Ut.lead c = ⟨0, 0, 0, c, true⟩ ∨ (128 ≤ c ∧ c ≤ 193) ∧ Ut.lead c = ⟨0, 0, 0, 0, false⟩ ∨ (245 ≤ c ∧ c ≤ 255) ∧ Ut.lead c = ⟨0, 0, 0, 0, false⟩ ∨ (194 ≤ c ∧ c ≤ 223) ∧ Ut.lead c = ⟨1, 128, 191, c - 192, true⟩ ∨
    c = 224 ∧ Ut.lead c = ⟨2, 160, 191, c - 224, true⟩ ∨ (225 ≤ c ∧ c ≤ 236) ∧ Ut.lead c = ⟨2, 128, 191, c - 224, true⟩ ∨ c = 237 ∧ Ut.lead c = ⟨2, 128, 159, c - 224, true⟩ ∨ (238 ≤ c ∧ c ≤ 239) ∧ Ut.lead c = ⟨2, 128, 191, c - 224, true⟩ ∨
    c = 240 ∧ Ut.lead c = ⟨3, 144, 191, c - 240, true⟩ ∨ (241 ≤ c ∧ c ≤ 243) ∧ Ut.lead c = ⟨3, 128, 191, c - 240, true⟩ ∨ c = 244 ∧ Ut.lead c = ⟨3, 128, 143, c - 240, true⟩ := by
  rcases (by omega : c ≤ 127 ∨ (128 ≤ c ∧ c ≤ 193) ∨ (245 ≤ c ∧ c ≤ 255) ∨ (194 ≤ c ∧ c ≤ 223) ∨ c = 224 ∨ (225 ≤ c ∧ c ≤ 236) ∨ c = 237 ∨ (238 ≤ c ∧ c ≤ 239) ∨ c = 240 ∨ (241 ≤ c ∧ c ≤ 243) ∨ c = 244) with h0 | h0 | h0 | h0 | h0 | h0 | h0 | h0 | h0 | h0 | h0
  · exact .inl ⟨h0, by unfold Ut.lead; rw [if_pos h0]⟩
  · exact .inr (.inl ⟨h0, by unfold Ut.lead; rw [if_neg (by omega), if_neg (by omega), if_neg (by omega), if_neg (by omega)]⟩)
  · exact .inr (.inr (.inl ⟨h0, by unfold Ut.lead; rw [if_neg (by omega), if_neg (by omega), if_neg (by omega), if_neg (by omega)]⟩))
  · exact .inr (.inr (.inr (.inl ⟨h0, by unfold Ut.lead; rw [if_neg (by omega), if_pos h0]⟩)))
  · exact .inr (.inr (.inr (.inr (.inl ⟨h0, by subst h0; rfl⟩))))
  · exact .inr (.inr (.inr (.inr (.inr (.inl ⟨h0, by unfold Ut.lead; rw [if_neg (by omega), if_neg (by omega), if_pos (by omega), if_neg (by omega), if_neg (by omega)]⟩)))))
  · exact .inr (.inr (.inr (.inr (.inr (.inr (.inl ⟨h0, by subst h0; rfl⟩))))))
  · exact .inr (.inr (.inr (.inr (.inr (.inr (.inr (.inl ⟨h0, by unfold Ut.lead; rw [if_neg (by omega), if_neg (by omega), if_pos (by omega), if_neg (by omega), if_neg (by omega)]⟩)))))))
  · exact .inr (.inr (.inr (.inr (.inr (.inr (.inr (.inr (.inl ⟨h0, by subst h0; rfl⟩))))))))
  · exact .inr (.inr (.inr (.inr (.inr (.inr (.inr (.inr (.inr (.inl ⟨h0, by unfold Ut.lead; rw [if_neg (by omega), if_neg (by omega), if_neg (by omega), if_pos (by omega), if_neg (by omega), if_neg (by omega)]⟩)))))))))
  · exact .inr (.inr (.inr (.inr (.inr (.inr (.inr (.inr (.inr (.inr ⟨h0, by subst h0; rfl⟩)))))))))
theorem cont_short (g : Nat → Nat) (r : Nat) : ∀ (m l h p k : Nat), 0 < k → r < k + m → 0 < m → Ut.cont g r m l h p k = (0, 0)
  | 0, l, h, p, k, _, _, h0 => absurd h0 (Nat.lt_irrefl _)
  | m + 1, l, h, p, k, hk, hr, _ => by
    show (if _ then _ else _) = _
    split
    · rename_i hc
      exact cont_short g r m _ _ _ (k + 1) (by omega) (by omega) (by omega)
    · rfl
theorem cont_zero (g : Nat → Nat) (r l h p k : Nat) : Ut.cont g r 0 l h p k = (p, k) := rfl
theorem cont_in (g : Nat → Nat) (r m l h p k : Nat) (hk : k < r) (hl : l ≤ g k) (hh : g k ≤ h) : Ut.cont g r (m + 1) l h p k = Ut.cont g r m 128 191 (p * 64 + g k % 64) (k + 1) := if_pos ⟨hk, hl, hh⟩
theorem cont_out (g : Nat → Nat) (r m l h p k : Nat) (hh : ¬ (l ≤ g k ∧ g k ≤ h)) : Ut.cont g r (m + 1) l h p k = (0, 0) := if_neg (fun hc => hh hc.2)
theorem pow_step (p m x : Nat) (h : (p + 1) * 64 ^ (m + 1) ≤ 2097152) : (p + 1) * 64 ≤ 2097152 ∧ (p * 64 + x % 64 + 1) * 64 ^ m ≤ 2097152 := by
  rw [Nat.pow_succ] at h
  have h1 : 1 ≤ 64 ^ m := Nat.one_le_pow _ _ (by decide)
  have h5 : p * 64 + x % 64 + 1 ≤ (p + 1) * 64 := by omega
  have h6 : ((p + 1) * 64) * 64 ^ m = (p + 1) * (64 ^ m * 64) := by rw [Nat.mul_assoc, Nat.mul_comm 64]
  have h7 : (p * 64 + x % 64 + 1) * 64 ^ m ≤ ((p + 1) * 64) * 64 ^ m := Nat.mul_le_mul_right _ h5
  have h8 : (p + 1) * 64 ≤ ((p + 1) * 64) * 64 ^ m := Nat.le_mul_of_pos_right _ h1
  omega
attribute [local irreducible] Ut.Pt Ut.cont
set_option maxRecDepth 10000 in
set_option maxHeartbeats 3200000 in
theorem rPoint_any {w : World} {A : Option Addr} {n : Nat} {f : Nat → Nat} (hA : U8s w A n f) (hf : ∀ i, f i < 256) (hn : n ≤ 1000000) (c : Nat) :
    Calls Try.prog 57 #[.slice A n c] w fun e w' => e = .returned (.tuple #[.int .u32 (Ut.Pt f n).1, .int .i64 (Ut.Pt f n).2]) ∧ w' = w := by
  rcases Nat.eq_zero_or_pos n with rfl | hn0
  · have e0 : Ut.Pt f 0 = (0, 0) := by unfold Ut.Pt; rfl
    rw [e0]
    clear hA
    go_enter Try.func57, Try.ntmps57
    go_wp2_with fail
    exact ret_two (x := .int .u32 0) (y := .int .i64 0) rfl rfl rfl rfl ⟨rfl, rfl⟩
  obtain ⟨b, o, rfl, hb, hc⟩ := hA hn0
  have hc0 := hc 0 hn0
  have h0 := hf 0
  have hPt : Ut.Pt f n = if (Ut.lead (f 0)).y then Ut.cont f n (Ut.lead (f 0)).m (Ut.lead (f 0)).l (Ut.lead (f 0)).h (Ut.lead (f 0)).p 1 else (0, 0) := by
    unfold Ut.Pt
    rw [if_neg (by omega)]
  have hlc := lead_cases (f 0) h0
  obtain ⟨x0, hx0⟩ : ∃ x0, f 0 = x0 := ⟨_, rfl⟩
  rw [hx0, Nat.add_zero] at hc0
  rw [hx0] at h0 hPt hlc
  have HC := Lib.hid hc
  have HF := Lib.hid hf
  have d0 : ((n : Int) == 0) = false := by simp; omega
  clear hA hc hf hx0
  rcases hlc with ⟨hx, hl⟩ | ⟨hx, hl⟩ | ⟨hx, hl⟩ | ⟨hx, hl⟩ | ⟨hx, hl⟩ | ⟨hx, hl⟩ | ⟨hx, hl⟩ | ⟨hx, hl⟩ | ⟨hx, hl⟩ | ⟨hx, hl⟩ | ⟨hx, hl⟩
  · rw [hl] at hPt
    have hPt2 : Ut.Pt f n = (x0, 1) := by rw [hPt]; unfold Ut.cont; rfl
    rw [hPt2]
    clear hPt hPt2 hl
    go_enter Try.func57, Try.ntmps57
    go_wp2_with fail
    have hx4 : (x0 : Int) % 4294967296 = x0 := by omega
    exact ret_two (x := .int .u32 (x0 % 4294967296)) (y := .int .i64 1) rfl rfl rfl rfl ⟨by rw [hx4]; rfl, rfl⟩
  · rw [hl] at hPt
    have hPt2 : Ut.Pt f n = (0, 0) := by rw [hPt]; rfl
    rw [hPt2]
    clear hPt hPt2 hl
    go_enter Try.func57, Try.ntmps57
    go_wp2_with fail
    exact ret_two (x := .int .u32 0) (y := .int .i64 0) rfl rfl rfl rfl ⟨rfl, rfl⟩
  · rw [hl] at hPt
    have hPt2 : Ut.Pt f n = (0, 0) := by rw [hPt]; rfl
    rw [hPt2]
    clear hPt hPt2 hl
    go_enter Try.func57, Try.ntmps57
    go_wp2_with fail
    exact ret_two (x := .int .u32 0) (y := .int .i64 0) rfl rfl rfl rfl ⟨rfl, rfl⟩
  · have hPt2 : Ut.Pt f n = Ut.cont f n 1 128 191 (x0 - 192) 1 := by rw [hPt, hl]; rfl
    have e224 : ((x0 : Int) == 224) = false := by simp; omega
    have e237 : ((x0 : Int) == 237) = false := by simp; omega
    have e240 : ((x0 : Int) == 240) = false := by simp; omega
    have e244 : ((x0 : Int) == 244) = false := by simp; omega
    have hw : ((x0 : Int) % 4294967296 - 192) % 4294967296 = ((x0 - 192 : Nat) : Int) := by omega
    have hw' : ((x0 : Int) - 192) % 4294967296 = ((x0 - 192 : Nat) : Int) := by omega
    have hp1 : (x0 - 192 + 1) * 64 ^ 1 ≤ 2097152 := by omega
    obtain ⟨v, hv⟩ : ∃ v, x0 - 192 = v := ⟨_, rfl⟩
    rw [hv] at hPt2 hw hw' hp1
    clear hPt hl hv
    by_cases hle : n ≤ 1
    · rw [hPt2, cont_short f n _ _ _ _ 1 (by decide) (by omega) (by decide)]
      go_enter Try.func57, Try.ntmps57
      go_wp2_with fail
      exact ret_two (x := .int .u32 0) (y := .int .i64 0) rfl rfl rfl rfl ⟨rfl, rfl⟩
    · obtain ⟨R, hR⟩ : ∃ R, Ut.Pt f n = R := ⟨_, rfl⟩
      rw [hR]
      rw [hR] at hPt2
      clear hR
      go_enter Try.func57, Try.ntmps57
      go_wp2_with fail
      go_loopw [6, 7, 8, 9] (fun a6 a7 a8 a9 wr => ∃ (m l h p k : Nat), R = Ut.cont f n m l h p k ∧ k + m = 1 + 1 ∧ 1 ≤ k ∧ 128 ≤ l ∧ l ≤ 191 ∧ h ≤ 191 ∧ (p + 1) * 64 ^ m ≤ 2097152 ∧ a6 = .int .u8 l ∧ a7 = .int .u8 h ∧ a8 = .int .u32 p ∧ a9 = .int .i64 k ∧ wr = w) (fun _ _ _ a9 _ => 8 - (intOf a9).toNat)
      case atStart => exact ⟨1, 128, 191, v, 1, hPt2, rfl, by decide, by decide, by decide, by decide, hp1, rfl, rfl, by first | rfl | (simp; done) | (simp; omega), rfl, rfl⟩
      case round =>
        obtain ⟨m, l, h, p, k, hR, hkm, hk1, hl1, hl2, hh2, hp, rfl, rfl, rfl, rfl, rfl⟩ := hrel
        rcases Nat.eq_zero_or_pos m with rfl | hm
        · rw [cont_zero] at hR
          have hkM : k = 1 + 1 := by omega
          clear hp
          go_wp2_with fail
          refine ret_two (x := .int .u32 p) (y := .int .i64 (1 + 1)) rfl rfl rfl rfl ⟨?_, rfl⟩
          rw [hR, hkM]
          rfl
        · obtain ⟨m, rfl⟩ : ∃ q, m = q + 1 := ⟨m - 1, by omega⟩
          obtain ⟨hp3, hp4⟩ := pow_step p m (f k) hp
          clear hp
          have hck := HC.out k (by omega)
          have hfk := HF.out k
          by_cases hin : l ≤ f k ∧ f k ≤ h
          · rw [cont_in f n m l h p k (by omega) hin.1 hin.2] at hR
            obtain ⟨x, hx⟩ : ∃ x, f k = x := ⟨_, rfl⟩
            rw [hx] at hck hfk hin hR hp4
            go_wp2_with fail
            refine ⟨⟨m, 128, 191, _, k + 1, hR, by omega, by omega, by decide, by decide, by decide, hp4, rfl, rfl, ?_, by go_num, by first | rfl | trivial⟩, by simp [intOf]; omega⟩
            congr 1
            omega
          · rw [cont_out f n m l h p k hin] at hR
            obtain ⟨x, hx⟩ : ∃ x, f k = x := ⟨_, rfl⟩
            rw [hx] at hck hfk hin
            clear hp4
            rcases (by omega : x < l ∨ (l ≤ x ∧ h < x)) with h5 | h5
            all_goals
              go_wp2_with fail
              exact ret_two (x := .int .u32 0) (y := .int .i64 0) rfl rfl rfl rfl ⟨by rw [hR]; rfl, rfl⟩
  · have hPt2 : Ut.Pt f n = Ut.cont f n 2 160 191 (x0 - 224) 1 := by rw [hPt, hl]; rfl
    have hw : ((x0 : Int) % 4294967296 - 224) % 4294967296 = ((x0 - 224 : Nat) : Int) := by omega
    have hw' : ((x0 : Int) - 224) % 4294967296 = ((x0 - 224 : Nat) : Int) := by omega
    have hp1 : (x0 - 224 + 1) * 64 ^ 2 ≤ 2097152 := by omega
    obtain ⟨v, hv⟩ : ∃ v, x0 - 224 = v := ⟨_, rfl⟩
    rw [hv] at hPt2 hw hw' hp1
    clear hPt hl hv
    by_cases hle : n ≤ 2
    · rw [hPt2, cont_short f n _ _ _ _ 1 (by decide) (by omega) (by decide)]
      go_enter Try.func57, Try.ntmps57
      go_wp2_with fail
      exact ret_two (x := .int .u32 0) (y := .int .i64 0) rfl rfl rfl rfl ⟨rfl, rfl⟩
    · obtain ⟨R, hR⟩ : ∃ R, Ut.Pt f n = R := ⟨_, rfl⟩
      rw [hR]
      rw [hR] at hPt2
      clear hR
      go_enter Try.func57, Try.ntmps57
      go_wp2_with fail
      go_loopw [6, 7, 8, 9] (fun a6 a7 a8 a9 wr => ∃ (m l h p k : Nat), R = Ut.cont f n m l h p k ∧ k + m = 2 + 1 ∧ 1 ≤ k ∧ 128 ≤ l ∧ l ≤ 191 ∧ h ≤ 191 ∧ (p + 1) * 64 ^ m ≤ 2097152 ∧ a6 = .int .u8 l ∧ a7 = .int .u8 h ∧ a8 = .int .u32 p ∧ a9 = .int .i64 k ∧ wr = w) (fun _ _ _ a9 _ => 8 - (intOf a9).toNat)
      case atStart => exact ⟨2, 160, 191, v, 1, hPt2, rfl, by decide, by decide, by decide, by decide, hp1, rfl, rfl, by first | rfl | (simp; done) | (simp; omega), rfl, rfl⟩
      case round =>
        obtain ⟨m, l, h, p, k, hR, hkm, hk1, hl1, hl2, hh2, hp, rfl, rfl, rfl, rfl, rfl⟩ := hrel
        rcases Nat.eq_zero_or_pos m with rfl | hm
        · rw [cont_zero] at hR
          have hkM : k = 2 + 1 := by omega
          clear hp
          go_wp2_with fail
          refine ret_two (x := .int .u32 p) (y := .int .i64 (2 + 1)) rfl rfl rfl rfl ⟨?_, rfl⟩
          rw [hR, hkM]
          rfl
        · obtain ⟨m, rfl⟩ : ∃ q, m = q + 1 := ⟨m - 1, by omega⟩
          obtain ⟨hp3, hp4⟩ := pow_step p m (f k) hp
          clear hp
          have hck := HC.out k (by omega)
          have hfk := HF.out k
          by_cases hin : l ≤ f k ∧ f k ≤ h
          · rw [cont_in f n m l h p k (by omega) hin.1 hin.2] at hR
            obtain ⟨x, hx⟩ : ∃ x, f k = x := ⟨_, rfl⟩
            rw [hx] at hck hfk hin hR hp4
            go_wp2_with fail
            refine ⟨⟨m, 128, 191, _, k + 1, hR, by omega, by omega, by decide, by decide, by decide, hp4, rfl, rfl, ?_, by go_num, by first | rfl | trivial⟩, by simp [intOf]; omega⟩
            congr 1
            omega
          · rw [cont_out f n m l h p k hin] at hR
            obtain ⟨x, hx⟩ : ∃ x, f k = x := ⟨_, rfl⟩
            rw [hx] at hck hfk hin
            clear hp4
            rcases (by omega : x < l ∨ (l ≤ x ∧ h < x)) with h5 | h5
            all_goals
              go_wp2_with fail
              exact ret_two (x := .int .u32 0) (y := .int .i64 0) rfl rfl rfl rfl ⟨by rw [hR]; rfl, rfl⟩
  · have hPt2 : Ut.Pt f n = Ut.cont f n 2 128 191 (x0 - 224) 1 := by rw [hPt, hl]; rfl
    have e224 : ((x0 : Int) == 224) = false := by simp; omega
    have e237 : ((x0 : Int) == 237) = false := by simp; omega
    have e240 : ((x0 : Int) == 240) = false := by simp; omega
    have e244 : ((x0 : Int) == 244) = false := by simp; omega
    have hw : ((x0 : Int) % 4294967296 - 224) % 4294967296 = ((x0 - 224 : Nat) : Int) := by omega
    have hw' : ((x0 : Int) - 224) % 4294967296 = ((x0 - 224 : Nat) : Int) := by omega
    have hp1 : (x0 - 224 + 1) * 64 ^ 2 ≤ 2097152 := by omega
    obtain ⟨v, hv⟩ : ∃ v, x0 - 224 = v := ⟨_, rfl⟩
    rw [hv] at hPt2 hw hw' hp1
    clear hPt hl hv
    by_cases hle : n ≤ 2
    · rw [hPt2, cont_short f n _ _ _ _ 1 (by decide) (by omega) (by decide)]
      go_enter Try.func57, Try.ntmps57
      go_wp2_with fail
      exact ret_two (x := .int .u32 0) (y := .int .i64 0) rfl rfl rfl rfl ⟨rfl, rfl⟩
    · obtain ⟨R, hR⟩ : ∃ R, Ut.Pt f n = R := ⟨_, rfl⟩
      rw [hR]
      rw [hR] at hPt2
      clear hR
      go_enter Try.func57, Try.ntmps57
      go_wp2_with fail
      go_loopw [6, 7, 8, 9] (fun a6 a7 a8 a9 wr => ∃ (m l h p k : Nat), R = Ut.cont f n m l h p k ∧ k + m = 2 + 1 ∧ 1 ≤ k ∧ 128 ≤ l ∧ l ≤ 191 ∧ h ≤ 191 ∧ (p + 1) * 64 ^ m ≤ 2097152 ∧ a6 = .int .u8 l ∧ a7 = .int .u8 h ∧ a8 = .int .u32 p ∧ a9 = .int .i64 k ∧ wr = w) (fun _ _ _ a9 _ => 8 - (intOf a9).toNat)
      case atStart => exact ⟨2, 128, 191, v, 1, hPt2, rfl, by decide, by decide, by decide, by decide, hp1, rfl, rfl, by first | rfl | (simp; done) | (simp; omega), rfl, rfl⟩
      case round =>
        obtain ⟨m, l, h, p, k, hR, hkm, hk1, hl1, hl2, hh2, hp, rfl, rfl, rfl, rfl, rfl⟩ := hrel
        rcases Nat.eq_zero_or_pos m with rfl | hm
        · rw [cont_zero] at hR
          have hkM : k = 2 + 1 := by omega
          clear hp
          go_wp2_with fail
          refine ret_two (x := .int .u32 p) (y := .int .i64 (2 + 1)) rfl rfl rfl rfl ⟨?_, rfl⟩
          rw [hR, hkM]
          rfl
        · obtain ⟨m, rfl⟩ : ∃ q, m = q + 1 := ⟨m - 1, by omega⟩
          obtain ⟨hp3, hp4⟩ := pow_step p m (f k) hp
          clear hp
          have hck := HC.out k (by omega)
          have hfk := HF.out k
          by_cases hin : l ≤ f k ∧ f k ≤ h
          · rw [cont_in f n m l h p k (by omega) hin.1 hin.2] at hR
            obtain ⟨x, hx⟩ : ∃ x, f k = x := ⟨_, rfl⟩
            rw [hx] at hck hfk hin hR hp4
            go_wp2_with fail
            refine ⟨⟨m, 128, 191, _, k + 1, hR, by omega, by omega, by decide, by decide, by decide, hp4, rfl, rfl, ?_, by go_num, by first | rfl | trivial⟩, by simp [intOf]; omega⟩
            congr 1
            omega
          · rw [cont_out f n m l h p k hin] at hR
            obtain ⟨x, hx⟩ : ∃ x, f k = x := ⟨_, rfl⟩
            rw [hx] at hck hfk hin
            clear hp4
            rcases (by omega : x < l ∨ (l ≤ x ∧ h < x)) with h5 | h5
            all_goals
              go_wp2_with fail
              exact ret_two (x := .int .u32 0) (y := .int .i64 0) rfl rfl rfl rfl ⟨by rw [hR]; rfl, rfl⟩
  · have hPt2 : Ut.Pt f n = Ut.cont f n 2 128 159 (x0 - 224) 1 := by rw [hPt, hl]; rfl
    have hw : ((x0 : Int) % 4294967296 - 224) % 4294967296 = ((x0 - 224 : Nat) : Int) := by omega
    have hw' : ((x0 : Int) - 224) % 4294967296 = ((x0 - 224 : Nat) : Int) := by omega
    have hp1 : (x0 - 224 + 1) * 64 ^ 2 ≤ 2097152 := by omega
    obtain ⟨v, hv⟩ : ∃ v, x0 - 224 = v := ⟨_, rfl⟩
    rw [hv] at hPt2 hw hw' hp1
    clear hPt hl hv
    by_cases hle : n ≤ 2
    · rw [hPt2, cont_short f n _ _ _ _ 1 (by decide) (by omega) (by decide)]
      go_enter Try.func57, Try.ntmps57
      go_wp2_with fail
      exact ret_two (x := .int .u32 0) (y := .int .i64 0) rfl rfl rfl rfl ⟨rfl, rfl⟩
    · obtain ⟨R, hR⟩ : ∃ R, Ut.Pt f n = R := ⟨_, rfl⟩
      rw [hR]
      rw [hR] at hPt2
      clear hR
      go_enter Try.func57, Try.ntmps57
      go_wp2_with fail
      go_loopw [6, 7, 8, 9] (fun a6 a7 a8 a9 wr => ∃ (m l h p k : Nat), R = Ut.cont f n m l h p k ∧ k + m = 2 + 1 ∧ 1 ≤ k ∧ 128 ≤ l ∧ l ≤ 191 ∧ h ≤ 191 ∧ (p + 1) * 64 ^ m ≤ 2097152 ∧ a6 = .int .u8 l ∧ a7 = .int .u8 h ∧ a8 = .int .u32 p ∧ a9 = .int .i64 k ∧ wr = w) (fun _ _ _ a9 _ => 8 - (intOf a9).toNat)
      case atStart => exact ⟨2, 128, 159, v, 1, hPt2, rfl, by decide, by decide, by decide, by decide, hp1, rfl, rfl, by first | rfl | (simp; done) | (simp; omega), rfl, rfl⟩
      case round =>
        obtain ⟨m, l, h, p, k, hR, hkm, hk1, hl1, hl2, hh2, hp, rfl, rfl, rfl, rfl, rfl⟩ := hrel
        rcases Nat.eq_zero_or_pos m with rfl | hm
        · rw [cont_zero] at hR
          have hkM : k = 2 + 1 := by omega
          clear hp
          go_wp2_with fail
          refine ret_two (x := .int .u32 p) (y := .int .i64 (2 + 1)) rfl rfl rfl rfl ⟨?_, rfl⟩
          rw [hR, hkM]
          rfl
        · obtain ⟨m, rfl⟩ : ∃ q, m = q + 1 := ⟨m - 1, by omega⟩
          obtain ⟨hp3, hp4⟩ := pow_step p m (f k) hp
          clear hp
          have hck := HC.out k (by omega)
          have hfk := HF.out k
          by_cases hin : l ≤ f k ∧ f k ≤ h
          · rw [cont_in f n m l h p k (by omega) hin.1 hin.2] at hR
            obtain ⟨x, hx⟩ : ∃ x, f k = x := ⟨_, rfl⟩
            rw [hx] at hck hfk hin hR hp4
            go_wp2_with fail
            refine ⟨⟨m, 128, 191, _, k + 1, hR, by omega, by omega, by decide, by decide, by decide, hp4, rfl, rfl, ?_, by go_num, by first | rfl | trivial⟩, by simp [intOf]; omega⟩
            congr 1
            omega
          · rw [cont_out f n m l h p k hin] at hR
            obtain ⟨x, hx⟩ : ∃ x, f k = x := ⟨_, rfl⟩
            rw [hx] at hck hfk hin
            clear hp4
            rcases (by omega : x < l ∨ (l ≤ x ∧ h < x)) with h5 | h5
            all_goals
              go_wp2_with fail
              exact ret_two (x := .int .u32 0) (y := .int .i64 0) rfl rfl rfl rfl ⟨by rw [hR]; rfl, rfl⟩
  · have hPt2 : Ut.Pt f n = Ut.cont f n 2 128 191 (x0 - 224) 1 := by rw [hPt, hl]; rfl
    have e224 : ((x0 : Int) == 224) = false := by simp; omega
    have e237 : ((x0 : Int) == 237) = false := by simp; omega
    have e240 : ((x0 : Int) == 240) = false := by simp; omega
    have e244 : ((x0 : Int) == 244) = false := by simp; omega
    have hw : ((x0 : Int) % 4294967296 - 224) % 4294967296 = ((x0 - 224 : Nat) : Int) := by omega
    have hw' : ((x0 : Int) - 224) % 4294967296 = ((x0 - 224 : Nat) : Int) := by omega
    have hp1 : (x0 - 224 + 1) * 64 ^ 2 ≤ 2097152 := by omega
    obtain ⟨v, hv⟩ : ∃ v, x0 - 224 = v := ⟨_, rfl⟩
    rw [hv] at hPt2 hw hw' hp1
    clear hPt hl hv
    by_cases hle : n ≤ 2
    · rw [hPt2, cont_short f n _ _ _ _ 1 (by decide) (by omega) (by decide)]
      go_enter Try.func57, Try.ntmps57
      go_wp2_with fail
      exact ret_two (x := .int .u32 0) (y := .int .i64 0) rfl rfl rfl rfl ⟨rfl, rfl⟩
    · obtain ⟨R, hR⟩ : ∃ R, Ut.Pt f n = R := ⟨_, rfl⟩
      rw [hR]
      rw [hR] at hPt2
      clear hR
      go_enter Try.func57, Try.ntmps57
      go_wp2_with fail
      go_loopw [6, 7, 8, 9] (fun a6 a7 a8 a9 wr => ∃ (m l h p k : Nat), R = Ut.cont f n m l h p k ∧ k + m = 2 + 1 ∧ 1 ≤ k ∧ 128 ≤ l ∧ l ≤ 191 ∧ h ≤ 191 ∧ (p + 1) * 64 ^ m ≤ 2097152 ∧ a6 = .int .u8 l ∧ a7 = .int .u8 h ∧ a8 = .int .u32 p ∧ a9 = .int .i64 k ∧ wr = w) (fun _ _ _ a9 _ => 8 - (intOf a9).toNat)
      case atStart => exact ⟨2, 128, 191, v, 1, hPt2, rfl, by decide, by decide, by decide, by decide, hp1, rfl, rfl, by first | rfl | (simp; done) | (simp; omega), rfl, rfl⟩
      case round =>
        obtain ⟨m, l, h, p, k, hR, hkm, hk1, hl1, hl2, hh2, hp, rfl, rfl, rfl, rfl, rfl⟩ := hrel
        rcases Nat.eq_zero_or_pos m with rfl | hm
        · rw [cont_zero] at hR
          have hkM : k = 2 + 1 := by omega
          clear hp
          go_wp2_with fail
          refine ret_two (x := .int .u32 p) (y := .int .i64 (2 + 1)) rfl rfl rfl rfl ⟨?_, rfl⟩
          rw [hR, hkM]
          rfl
        · obtain ⟨m, rfl⟩ : ∃ q, m = q + 1 := ⟨m - 1, by omega⟩
          obtain ⟨hp3, hp4⟩ := pow_step p m (f k) hp
          clear hp
          have hck := HC.out k (by omega)
          have hfk := HF.out k
          by_cases hin : l ≤ f k ∧ f k ≤ h
          · rw [cont_in f n m l h p k (by omega) hin.1 hin.2] at hR
            obtain ⟨x, hx⟩ : ∃ x, f k = x := ⟨_, rfl⟩
            rw [hx] at hck hfk hin hR hp4
            go_wp2_with fail
            refine ⟨⟨m, 128, 191, _, k + 1, hR, by omega, by omega, by decide, by decide, by decide, hp4, rfl, rfl, ?_, by go_num, by first | rfl | trivial⟩, by simp [intOf]; omega⟩
            congr 1
            omega
          · rw [cont_out f n m l h p k hin] at hR
            obtain ⟨x, hx⟩ : ∃ x, f k = x := ⟨_, rfl⟩
            rw [hx] at hck hfk hin
            clear hp4
            rcases (by omega : x < l ∨ (l ≤ x ∧ h < x)) with h5 | h5
            all_goals
              go_wp2_with fail
              exact ret_two (x := .int .u32 0) (y := .int .i64 0) rfl rfl rfl rfl ⟨by rw [hR]; rfl, rfl⟩
  · have hPt2 : Ut.Pt f n = Ut.cont f n 3 144 191 (x0 - 240) 1 := by rw [hPt, hl]; rfl
    have hw : ((x0 : Int) % 4294967296 - 240) % 4294967296 = ((x0 - 240 : Nat) : Int) := by omega
    have hw' : ((x0 : Int) - 240) % 4294967296 = ((x0 - 240 : Nat) : Int) := by omega
    have hp1 : (x0 - 240 + 1) * 64 ^ 3 ≤ 2097152 := by omega
    obtain ⟨v, hv⟩ : ∃ v, x0 - 240 = v := ⟨_, rfl⟩
    rw [hv] at hPt2 hw hw' hp1
    clear hPt hl hv
    by_cases hle : n ≤ 3
    · rw [hPt2, cont_short f n _ _ _ _ 1 (by decide) (by omega) (by decide)]
      go_enter Try.func57, Try.ntmps57
      go_wp2_with fail
      exact ret_two (x := .int .u32 0) (y := .int .i64 0) rfl rfl rfl rfl ⟨rfl, rfl⟩
    · obtain ⟨R, hR⟩ : ∃ R, Ut.Pt f n = R := ⟨_, rfl⟩
      rw [hR]
      rw [hR] at hPt2
      clear hR
      go_enter Try.func57, Try.ntmps57
      go_wp2_with fail
      go_loopw [6, 7, 8, 9] (fun a6 a7 a8 a9 wr => ∃ (m l h p k : Nat), R = Ut.cont f n m l h p k ∧ k + m = 3 + 1 ∧ 1 ≤ k ∧ 128 ≤ l ∧ l ≤ 191 ∧ h ≤ 191 ∧ (p + 1) * 64 ^ m ≤ 2097152 ∧ a6 = .int .u8 l ∧ a7 = .int .u8 h ∧ a8 = .int .u32 p ∧ a9 = .int .i64 k ∧ wr = w) (fun _ _ _ a9 _ => 8 - (intOf a9).toNat)
      case atStart => exact ⟨3, 144, 191, v, 1, hPt2, rfl, by decide, by decide, by decide, by decide, hp1, rfl, rfl, by first | rfl | (simp; done) | (simp; omega), rfl, rfl⟩
      case round =>
        obtain ⟨m, l, h, p, k, hR, hkm, hk1, hl1, hl2, hh2, hp, rfl, rfl, rfl, rfl, rfl⟩ := hrel
        rcases Nat.eq_zero_or_pos m with rfl | hm
        · rw [cont_zero] at hR
          have hkM : k = 3 + 1 := by omega
          clear hp
          go_wp2_with fail
          refine ret_two (x := .int .u32 p) (y := .int .i64 (3 + 1)) rfl rfl rfl rfl ⟨?_, rfl⟩
          rw [hR, hkM]
          rfl
        · obtain ⟨m, rfl⟩ : ∃ q, m = q + 1 := ⟨m - 1, by omega⟩
          obtain ⟨hp3, hp4⟩ := pow_step p m (f k) hp
          clear hp
          have hck := HC.out k (by omega)
          have hfk := HF.out k
          by_cases hin : l ≤ f k ∧ f k ≤ h
          · rw [cont_in f n m l h p k (by omega) hin.1 hin.2] at hR
            obtain ⟨x, hx⟩ : ∃ x, f k = x := ⟨_, rfl⟩
            rw [hx] at hck hfk hin hR hp4
            go_wp2_with fail
            refine ⟨⟨m, 128, 191, _, k + 1, hR, by omega, by omega, by decide, by decide, by decide, hp4, rfl, rfl, ?_, by go_num, by first | rfl | trivial⟩, by simp [intOf]; omega⟩
            congr 1
            omega
          · rw [cont_out f n m l h p k hin] at hR
            obtain ⟨x, hx⟩ : ∃ x, f k = x := ⟨_, rfl⟩
            rw [hx] at hck hfk hin
            clear hp4
            rcases (by omega : x < l ∨ (l ≤ x ∧ h < x)) with h5 | h5
            all_goals
              go_wp2_with fail
              exact ret_two (x := .int .u32 0) (y := .int .i64 0) rfl rfl rfl rfl ⟨by rw [hR]; rfl, rfl⟩
  · have hPt2 : Ut.Pt f n = Ut.cont f n 3 128 191 (x0 - 240) 1 := by rw [hPt, hl]; rfl
    have e9 : decide ((x0 : Int) ≤ 244) = true := decide_eq_true (by omega)
    have e224 : ((x0 : Int) == 224) = false := by simp; omega
    have e237 : ((x0 : Int) == 237) = false := by simp; omega
    have e240 : ((x0 : Int) == 240) = false := by simp; omega
    have e244 : ((x0 : Int) == 244) = false := by simp; omega
    have hw : ((x0 : Int) % 4294967296 - 240) % 4294967296 = ((x0 - 240 : Nat) : Int) := by omega
    have hw' : ((x0 : Int) - 240) % 4294967296 = ((x0 - 240 : Nat) : Int) := by omega
    have hp1 : (x0 - 240 + 1) * 64 ^ 3 ≤ 2097152 := by omega
    obtain ⟨v, hv⟩ : ∃ v, x0 - 240 = v := ⟨_, rfl⟩
    rw [hv] at hPt2 hw hw' hp1
    clear hPt hl hv
    by_cases hle : n ≤ 3
    · rw [hPt2, cont_short f n _ _ _ _ 1 (by decide) (by omega) (by decide)]
      go_enter Try.func57, Try.ntmps57
      go_wp2_with fail
      exact ret_two (x := .int .u32 0) (y := .int .i64 0) rfl rfl rfl rfl ⟨rfl, rfl⟩
    · obtain ⟨R, hR⟩ : ∃ R, Ut.Pt f n = R := ⟨_, rfl⟩
      rw [hR]
      rw [hR] at hPt2
      clear hR
      go_enter Try.func57, Try.ntmps57
      go_wp2_with fail
      go_loopw [6, 7, 8, 9] (fun a6 a7 a8 a9 wr => ∃ (m l h p k : Nat), R = Ut.cont f n m l h p k ∧ k + m = 3 + 1 ∧ 1 ≤ k ∧ 128 ≤ l ∧ l ≤ 191 ∧ h ≤ 191 ∧ (p + 1) * 64 ^ m ≤ 2097152 ∧ a6 = .int .u8 l ∧ a7 = .int .u8 h ∧ a8 = .int .u32 p ∧ a9 = .int .i64 k ∧ wr = w) (fun _ _ _ a9 _ => 8 - (intOf a9).toNat)
      case atStart => exact ⟨3, 128, 191, v, 1, hPt2, rfl, by decide, by decide, by decide, by decide, hp1, rfl, rfl, by first | rfl | (simp; done) | (simp; omega), rfl, rfl⟩
      case round =>
        obtain ⟨m, l, h, p, k, hR, hkm, hk1, hl1, hl2, hh2, hp, rfl, rfl, rfl, rfl, rfl⟩ := hrel
        rcases Nat.eq_zero_or_pos m with rfl | hm
        · rw [cont_zero] at hR
          have hkM : k = 3 + 1 := by omega
          clear hp
          go_wp2_with fail
          refine ret_two (x := .int .u32 p) (y := .int .i64 (3 + 1)) rfl rfl rfl rfl ⟨?_, rfl⟩
          rw [hR, hkM]
          rfl
        · obtain ⟨m, rfl⟩ : ∃ q, m = q + 1 := ⟨m - 1, by omega⟩
          obtain ⟨hp3, hp4⟩ := pow_step p m (f k) hp
          clear hp
          have hck := HC.out k (by omega)
          have hfk := HF.out k
          by_cases hin : l ≤ f k ∧ f k ≤ h
          · rw [cont_in f n m l h p k (by omega) hin.1 hin.2] at hR
            obtain ⟨x, hx⟩ : ∃ x, f k = x := ⟨_, rfl⟩
            rw [hx] at hck hfk hin hR hp4
            go_wp2_with fail
            refine ⟨⟨m, 128, 191, _, k + 1, hR, by omega, by omega, by decide, by decide, by decide, hp4, rfl, rfl, ?_, by go_num, by first | rfl | trivial⟩, by simp [intOf]; omega⟩
            congr 1
            omega
          · rw [cont_out f n m l h p k hin] at hR
            obtain ⟨x, hx⟩ : ∃ x, f k = x := ⟨_, rfl⟩
            rw [hx] at hck hfk hin
            clear hp4
            rcases (by omega : x < l ∨ (l ≤ x ∧ h < x)) with h5 | h5
            all_goals
              go_wp2_with fail
              exact ret_two (x := .int .u32 0) (y := .int .i64 0) rfl rfl rfl rfl ⟨by rw [hR]; rfl, rfl⟩
  · have hPt2 : Ut.Pt f n = Ut.cont f n 3 128 143 (x0 - 240) 1 := by rw [hPt, hl]; rfl
    have hw : ((x0 : Int) % 4294967296 - 240) % 4294967296 = ((x0 - 240 : Nat) : Int) := by omega
    have hw' : ((x0 : Int) - 240) % 4294967296 = ((x0 - 240 : Nat) : Int) := by omega
    have hp1 : (x0 - 240 + 1) * 64 ^ 3 ≤ 2097152 := by omega
    obtain ⟨v, hv⟩ : ∃ v, x0 - 240 = v := ⟨_, rfl⟩
    rw [hv] at hPt2 hw hw' hp1
    clear hPt hl hv
    by_cases hle : n ≤ 3
    · rw [hPt2, cont_short f n _ _ _ _ 1 (by decide) (by omega) (by decide)]
      go_enter Try.func57, Try.ntmps57
      go_wp2_with fail
      exact ret_two (x := .int .u32 0) (y := .int .i64 0) rfl rfl rfl rfl ⟨rfl, rfl⟩
    · obtain ⟨R, hR⟩ : ∃ R, Ut.Pt f n = R := ⟨_, rfl⟩
      rw [hR]
      rw [hR] at hPt2
      clear hR
      go_enter Try.func57, Try.ntmps57
      go_wp2_with fail
      go_loopw [6, 7, 8, 9] (fun a6 a7 a8 a9 wr => ∃ (m l h p k : Nat), R = Ut.cont f n m l h p k ∧ k + m = 3 + 1 ∧ 1 ≤ k ∧ 128 ≤ l ∧ l ≤ 191 ∧ h ≤ 191 ∧ (p + 1) * 64 ^ m ≤ 2097152 ∧ a6 = .int .u8 l ∧ a7 = .int .u8 h ∧ a8 = .int .u32 p ∧ a9 = .int .i64 k ∧ wr = w) (fun _ _ _ a9 _ => 8 - (intOf a9).toNat)
      case atStart => exact ⟨3, 128, 143, v, 1, hPt2, rfl, by decide, by decide, by decide, by decide, hp1, rfl, rfl, by first | rfl | (simp; done) | (simp; omega), rfl, rfl⟩
      case round =>
        obtain ⟨m, l, h, p, k, hR, hkm, hk1, hl1, hl2, hh2, hp, rfl, rfl, rfl, rfl, rfl⟩ := hrel
        rcases Nat.eq_zero_or_pos m with rfl | hm
        · rw [cont_zero] at hR
          have hkM : k = 3 + 1 := by omega
          clear hp
          go_wp2_with fail
          refine ret_two (x := .int .u32 p) (y := .int .i64 (3 + 1)) rfl rfl rfl rfl ⟨?_, rfl⟩
          rw [hR, hkM]
          rfl
        · obtain ⟨m, rfl⟩ : ∃ q, m = q + 1 := ⟨m - 1, by omega⟩
          obtain ⟨hp3, hp4⟩ := pow_step p m (f k) hp
          clear hp
          have hck := HC.out k (by omega)
          have hfk := HF.out k
          by_cases hin : l ≤ f k ∧ f k ≤ h
          · rw [cont_in f n m l h p k (by omega) hin.1 hin.2] at hR
            obtain ⟨x, hx⟩ : ∃ x, f k = x := ⟨_, rfl⟩
            rw [hx] at hck hfk hin hR hp4
            go_wp2_with fail
            refine ⟨⟨m, 128, 191, _, k + 1, hR, by omega, by omega, by decide, by decide, by decide, hp4, rfl, rfl, ?_, by go_num, by first | rfl | trivial⟩, by simp [intOf]; omega⟩
            congr 1
            omega
          · rw [cont_out f n m l h p k hin] at hR
            obtain ⟨x, hx⟩ : ∃ x, f k = x := ⟨_, rfl⟩
            rw [hx] at hck hfk hin
            clear hp4
            rcases (by omega : x < l ∨ (l ≤ x ∧ h < x)) with h5 | h5
            all_goals
              go_wp2_with fail
              exact ret_two (x := .int .u32 0) (y := .int .i64 0) rfl rfl rfl rfl ⟨by rw [hR]; rfl, rfl⟩
end Go.Proofs.Ytjoehhojhfgooaa
