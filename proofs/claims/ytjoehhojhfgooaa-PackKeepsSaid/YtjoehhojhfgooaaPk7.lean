/- sabretacheref04.Pack. No condition. -/
import Derived.Test.YtjoehhojhfgooaaRws
import Derived.Test.YtjoehhojhfgooaaPkP
import Derived.Test.YtjoehhojhfgooaaUtT
namespace Go.Proofs.Ytjoehhojhfgooaa
open Go.RowKit
set_option linter.unusedSimpArgs false
set_option linter.unusedVariables false
attribute [local go_sem] IntKind.wrap_u32' signed_u32 max_u32
attribute [local go_sem ↓] Go.wp_at_zero Go.wp_at_succ
attribute [local go_sem] Calm.C
attribute [local go_sem low] Calm.al_cell Calm.al_frozen
theorem kc_le (kb : Nat → Bool) (i : Nat) : Pk.kc kb i ≤ i := by
  have := Pk.gp_kc kb i
  omega
theorem kc_zero (kb : Nat → Bool) : Pk.kc kb 0 = 0 := rfl
theorem tmod2 (k : Nat) : Int.tmod (k : Int) 2 = ((k % 2 : Nat) : Int) := by
  rw [Int.tmod_eq_emod_of_nonneg (by omega)]
  omega
attribute [local irreducible] hdrs upd Pk.kc
set_option maxRecDepth 10000 in
set_option maxHeartbeats 3200000 in
theorem ref04_any {w : World} {A : Option Addr} {n c : Nat} {K : Nat → Nat} (hK : Rd w A n (fun i => (K i : Int))) (hK32 : ∀ i, K i < 4294967296) (hn : n ≤ 1000) {LA : Option Addr} {cl W : Nat} {f : Nat → Nat → Int} {B off : Nat} {Ai : Nat → Option Addr} {ci : Nat → Nat} (hL : Rowz w LA n (fun _ => W) f B off Ai ci) (hW : W ≤ 1000) {lo : Nat} (hlo : ∀ i, i < n → 0 < W → ∀ b o, Ai i = some ⟨b, o, none⟩ → lo ≤ b) (hlw : lo ≤ w.heap.size)
    (kb : Nat → Bool) (hkb : ∀ i, kb i = (K i % 2 == 1)) :
    Calls Try.prog 42 #[.slice A n c, .slice LA n cl] w fun e w' => ∃ v g As cs, e = .returned (.tuple #[v, .int .i64 (Pk.kc kb n)]) ∧ Rws w' w.heap.size lo v n W g As cs ∧
      (∀ i, i < n → kb i = true → ∀ k, k < W → g (Pk.kc kb i) k = f i k) ∧ (∀ q, q < n → Pk.kc kb n ≤ q → ∀ k, k < W → g q k = 0) ∧ Below w.heap.size w w' := by
  have HK := Lib.hid hK
  have HLL := Lib.hid hL
  have HKB := Lib.hid hkb
  have HK32 := Lib.hid hK32
  have HLO := Lib.hid hlo
  clear hK hL hkb hK32 hlo
  obtain ⟨i0, hi, hz0, hz1, hz2⟩ := info_parts Try.infoRow
  obtain ⟨i1, hi1, hy0, hy1, hy2⟩ := info_parts Try.infoU32A
  go_enter Try.func42, Try.ntmps42
  go_wp2_with fail
  go_loopw [6, 7] (fun a6 i wr => ∃ (k : Nat) (v : Value) (g : Nat → Nat → Int) (As : Nat → Option Addr) (cs : Nat → Nat), k ≤ n ∧ i = .int .i64 k ∧ a6 = v ∧ Rws wr w.heap.size lo v (Pk.kc kb k) W g As cs ∧ (∀ i, i < k → kb i = true → ∀ q, q < W → g (Pk.kc kb i) q = f i q) ∧ Below w.heap.size w wr) (fun _ i _ => n - (intOf i).toNat)
  case atStart => exact ⟨0, _, fun _ _ => 0, fun _ => none, fun _ => 0, Nat.zero_le _, rfl, rfl, by rw [kc_zero]; exact Rws.nil _ _ _ _ _ _ _, fun i hi => absurd hi (Nat.not_lt_zero i), Below.refl _ _⟩
  case round =>
    obtain ⟨k, v, g, As, cs, hk, rfl, rfl, hR, hkept, hB⟩ := hrel
    have HR := Lib.hid hR
    have HKE := Lib.hid hkept
    have HB := Lib.hid hB
    have zr := hB.size
    clear hR hkept hB
    have hkc := kc_le kb k
    by_cases hkn : k < n
    · obtain ⟨b, o, rfl, hbl, hcs⟩ := HK.out (by omega)
      have hck := (HB.out.cell (p := ⟨b, o + k, none⟩) hbl).trans (hcs k hkn)
      have hx := HK32.out k
      have hb1 := HKB.out k
      have hcc := Pk.kc_succ kb k
      obtain ⟨x, hxx⟩ : ∃ x, K k = x := ⟨_, rfl⟩
      simp only [hxx] at hck hx hb1
      have hm := tmod2 x
      have hL2 := (HLL.out.below HB)
      obtain ⟨rfl, hBl⟩ := hL2.at_ (by omega)
      have hhd := hL2.cell k hkn
      have hcapk := hL2.cap k hkn
      have hrow := HLL.out.row k hkn
      obtain ⟨a, ha⟩ : ∃ a, Ai k = a := ⟨_, rfl⟩
      obtain ⟨q, hq⟩ : ∃ q, ci k = q := ⟨_, rfl⟩
      rw [ha, hq] at hhd
      rw [hq] at hcapk
      rw [ha] at hrow
      have HLOk := Lib.hid (show 0 < W → ∀ b o, a = some ⟨b, o, none⟩ → lo ≤ b by rw [← ha]; exact HLO.out k hkn)
      have HROW := Lib.hid hrow
      have HCC := Lib.hid hcc
      have HB1 := Lib.hid hb1
      clear hcs hL2 hrow hcc hb1 hxx ha hq
      by_cases hodd : x % 2 = 1
      · have hm1 : Int.tmod (x : Int) 2 = 1 := by rw [hm, hodd]; rfl
        have hkbt : kb k = true := by rw [HB1.out, hodd]; rfl
        clear hm
        have hsplit : True := trivial
        go_wp2_with (first
          | (at_builtin; refine wpList_append_lies _ (by rfl) _ _ 68 (by rfl) w.heap.size 22 i0 _ 1 24 Try.underlying68 hi hz0 hz1 hz2 (by rfl) (by decide) _ (Pk.kc kb k) (hdrs W As cs (Pk.kc kb k)) (by rfl) (HR.out.own.alloc _) ⟨wr.heap.size, 0, none⟩ 1 1 [.slice a W q] (by rfl) (by rfl) (World.news_of_block (heap_alloc_new _ _)) (by simp [Value.oneCell']) (by decide) (by simp only [maxLen]; omega) (by omega) (by simp; omega) (wr.heap.size + 1) (by simp) ?_; intro gg cap w4 hown1 hg1 hat1 hlt1; have HO4 := Lib.hid hown1; have G4 := Lib.hid hg1; have AT4 := Lib.hid hat1; clear hg1 hown1 hat1))
        have hsz := G4.out.size
        rw [World.size_alloc] at hsz
        have P := Lib.hid (HR.out.push (x := f k) hcapk (fun h0 => by
          obtain ⟨b', o', e, hl, hcs⟩ := HROW.out h0
          exact ⟨b', o', e, by omega, HLOk.out (by omega) b' o' e, fun g he hbg => by have := own_base HR.out.own g he; omega, fun j hj => (HB.out.cell (p := ⟨b', o' + j, none⟩) hl).trans (hcs j hj)⟩) HO4.out G4.out AT4.out)
        have BN := Lib.hid (bl_grown G4 (own_base HR.out.own) (by simp; omega) (HB.out.alloc zr _))
        have hcc2 : Pk.kc kb (k + 1) = Pk.kc kb k + 1 := by rw [HCC.out, hkbt]; rfl
        refine ⟨⟨k + 1, _, _, _, _, by omega, by go_num, rfl, by rw [hcc2]; exact P.out, fun i hi hbi j hj => ?_, BN.out⟩, by simp [intOf]; omega⟩
        by_cases hik : i = k
        · subst hik
          rw [upd_at]
        · have := Pk.kc_lt kb hbi (show i < k by omega)
          rw [upd_ne _ _ _ (by omega)]
          exact HKE.out i (by omega) hbi j hj
      · have hm1 : (x : Int).tmod 2 = 0 := by rw [hm, show x % 2 = 0 by omega]; rfl
        have hkbf : kb k = false := by rw [HB1.out, show x % 2 = 0 by omega]; rfl
        clear hm
        go_wp2_with fail
        have hcc2 : Pk.kc kb (k + 1) = Pk.kc kb k := by rw [HCC.out, hkbf]; rfl
        refine ⟨⟨k + 1, _, _, _, _, by omega, by go_num, rfl, by rw [hcc2]; exact HR.out, fun i hi hbi j hj => ?_, HB.out⟩, by simp [intOf]; omega⟩
        by_cases hik : i = k
        · subst hik
          rw [hkbf] at hbi
          cases hbi
        · exact HKE.out i (by omega) hbi j hj
    · obtain rfl : k = n := by omega
      obtain ⟨C, hC⟩ : ∃ C, Pk.kc kb k = C := ⟨_, rfl⟩
      have HC := Lib.hid hC
      rw [hC] at hkc HR
      clear hC
      obtain ⟨A6, c6, rfl⟩ := own_slice HR.out.own
      go_wp2_with fail
      go_loopw [6, 9] (fun a6 i wq => ∃ (q : Nat) (v : Value) (g : Nat → Nat → Int) (As : Nat → Option Addr) (cs : Nat → Nat), C ≤ q ∧ q ≤ k ∧ i = .int .i64 q ∧ a6 = v ∧ Rws wq w.heap.size lo v q W g As cs ∧ (∀ i, i < k → kb i = true → ∀ q, q < W → g (Pk.kc kb i) q = f i q) ∧ (∀ q', q' < q → C ≤ q' → ∀ j, j < W → g q' j = 0) ∧ Below w.heap.size w wq) (fun _ i _ => k - (intOf i).toNat)
      case atStart => exact ⟨C, _, g, As, cs, Nat.le_refl _, hkc, rfl, rfl, HR.out, HKE.out, fun q' h1 h2 => absurd h1 (by omega), HB.out⟩
      case round =>
        rename World => wq
        obtain ⟨q, v, g', As', cs', hCq, hqk, rfl, rfl, hR', hk', hz', hB'⟩ := hrel
        have HR' := Lib.hid hR'
        have HKE' := Lib.hid hk'
        have HZ' := Lib.hid hz'
        have HB' := Lib.hid hB'
        have zq := hB'.size
        clear hR' hk' hz' hB' HR HKE HB
        by_cases hqn : q < k
        · have hL2 := (HLL.out.below HB')
          obtain ⟨rfl, hBl⟩ := hL2.at_ (by omega)
          have hhd := hL2.cell q hqn
          have hcapq := hL2.cap q hqn
          obtain ⟨a, ha⟩ : ∃ a, Ai q = a := ⟨_, rfl⟩
          obtain ⟨cq, hcq⟩ : ∃ cq, ci q = cq := ⟨_, rfl⟩
          rw [ha, hcq] at hhd
          rw [hcq] at hcapq
          clear hL2 ha hcq
          go_wp2_with (first
            | (refine wpList_make_full _ (by rfl) _ _ 22 (by rfl) wq.heap.size 30 i1 _ 1 Try.underlying22 hi1 hy0 hy1 .i64 .i64 _ _ W (by rfl) (by rfl) (by rfl) (by rfl) (by rw [hy2]; omega) (by simp only [maxLen]; omega) (by simp) ?_; intro wm hown hgr; obtain ⟨hm1, hm2, hm3, hm4⟩ := made_own hown; have hbm := none_bl hgr; have hz_m := hbm.size; have hbh_m := Lib.hid hbm; have HM3 := Lib.hid hm3; have HRm := Lib.hid (HR'.out.below hbm); clear hbm hown hgr hm3 hm4)
            | (at_builtin; refine wpList_append_lies _ (by rfl) _ _ 68 (by rfl) w.heap.size 22 i0 _ 1 24 Try.underlying68 hi hz0 hz1 hz2 (by rfl) (by decide) _ q (hdrs W As' cs' q) (by rfl) (HRm.out.own.alloc _) ⟨wm.heap.size, 0, none⟩ 1 1 [.slice (some ⟨wq.heap.size, 0, none⟩) W W] (by rfl) (by rfl) (World.news_of_block (heap_alloc_new _ _)) (by simp [Value.oneCell']) (by decide) (by simp only [maxLen]; omega) (by omega) (by simp; omega) (wm.heap.size + 1) (by simp) ?_; intro gg cap w4 hown1 hg1 hat1 hlt1; have HO4 := Lib.hid hown1; have G4 := Lib.hid hg1; have AT4 := Lib.hid hat1; clear hg1 hown1 hat1))
          have hsz := G4.out.size
          rw [World.size_alloc] at hsz
          have P := Lib.hid (HRm.out.push (x := fun _ => 0) (Nat.le_refl W) (fun h0 => ⟨wq.heap.size, 0, rfl, hm2, by omega, fun g he hbg => by have := own_lt HR'.out.own g he; omega, fun j hj => by rw [Nat.zero_add]; exact HM3.out j hj⟩) HO4.out G4.out AT4.out)
          have BM := Lib.hid (bl_then hbh_m HB'.out zq)
          have zm := BM.out.size
          have BN := Lib.hid (bl_grown G4 (own_base HRm.out.own) (by simp; omega) (BM.out.alloc zm _))
          refine ⟨⟨q + 1, _, _, _, _, by omega, by omega, by go_num, rfl, P.out, fun i hi hbi j hj => ?_, fun q' h1 h2 j hj => ?_, BN.out⟩, by simp [intOf]; omega⟩
          · have := Pk.kc_lt kb hbi hi
            have := HC.out
            rw [upd_ne _ _ _ (by omega)]
            exact HKE'.out i hi hbi j hj
          · by_cases hqq : q' = q
            · subst hqq
              rw [upd_at]
            · rw [upd_ne _ _ _ hqq]
              exact HZ'.out q' (by omega) h2 j hj
        · obtain rfl : q = k := by omega
          obtain ⟨A6', c6', rfl⟩ := own_slice HR'.out.own
          go_wp2_with fail
          refine ret_two (x := .slice A6' q c6') (y := .int .i64 C) rfl rfl rfl rfl ⟨.slice A6' q c6', g', As', cs', by rw [HC.out], HR'.out, HKE'.out, ?_, HB'.out⟩
          rw [HC.out]
          exact HZ'.out
end Go.Proofs.Ytjoehhojhfgooaa
