/- SeekFinds: the law's call. No condition. -/
import Derived.Test.YtcaaapfminenoaaSkI
import Derived.Test.YtcaaapfminenoaaSkG
import Derived.Test.YtcaaapfminenoaaSkQ
import Derived.Test.YtcaaapfminenoaaRef01
namespace Go.Proofs.Ytcaaapfminenoaa
open Go.RowKit
set_option linter.unusedSimpArgs false
set_option linter.unusedVariables false
attribute [local go_sem] IntKind.wrap_u32' signed_u32 max_u32
attribute [local go_sem ↓] Go.wp_at_zero Go.wp_at_succ
attribute [local go_sem] Calm.C
attribute [local go_sem low] Calm.al_cell Calm.al_frozen
attribute [local irreducible] Sk.fo Sk.ff Sk.ro Sk.rf Sk.wid
theorem late {X : Exit → Act → World → Prop} {e : Exit} {a : Act} {W' : World} {m : Nat} (hp : a.put (some 11) (.pointer (some ⟨m, 0, none⟩)) = a) (P : Nat → World → Prop) (h : P m W') (k : ∀ m W2, P m W2 → X e (a.put (some 11) (.pointer (some ⟨m, 0, none⟩))) W2) : X e a W' := hp ▸ k m W' h
set_option maxRecDepth 20000 in
set_option maxHeartbeats 4000000 in
theorem SeekFinds_any (w : World) (KA RA : Option Addr) (nk kc n rc : Nat) (K : Nat → Nat → Int) (R : Nat → Nat) (f : Nat → Nat → Int) (hK : Tab w KA nk 1 K) (B off : Nat) (Ai : Nat → Option Addr) (ci : Nat → Nat) (h : Rowz w RA n R f B off Ai ci) (hnk : nk ≤ 9223372036854775807) (hn : n ≤ 9223372036854775807)
    (hR63 : ∀ i, i < n → R i ≤ 9223372036854775807) (hKf : Sk.Wd K) (hf : Sk.Wd f) (key : Int) (hkey : 0 ≤ key ∧ key < 4294967296) :
    Calls Try.prog 9 #[.slice KA nk kc, .slice RA n rc, .int .u32 key] w fun e w' => e = .returned (.bool true) ∧ Below w.heap.size w w' := by
  by_cases hk60 : 60 < nk
  · clear h hK
    go_enter Try.func9, Try.ntmps9
    go_wp2_with (first | (go_at_call 48; refine (awake06_any _).mono ?_; rintro e w1 ⟨rfl, hb⟩; have hcf := bcell hb; (try simp only [World.size_alloc, World.size_setCell, World.size_drew] at hcf); have hz := hb.size; (try simp only [World.size_alloc, World.size_setCell, World.size_drew] at hz); have hbh := Lib.hid hb; clear hb; obtain ⟨hc, hf⟩ := hcf))
    go_ret
    refine ⟨rfl, ?_⟩
    (repeat' (first | exact Below.refl _ _ | refine bl_set (by (first | omega | (simp; done) | (simp; omega))) ?_ _ | refine bl_alloc (by (first | omega | (simp; done) | (simp; omega))) ?_ _ | refine bl_drewN ?_ _ | refine bl_drew ?_ | refine bl_then (by assumption) ?_ (by (first | omega | (simp; done) | (simp; omega))) | refine Step.bl (by assumption) (by assumption) (by (first | omega | (simp; done) | (simp; omega))) (by (first | omega | (simp; done) | (simp; omega))) ?_))
  by_cases hn60 : 60 < n
  · clear h hK
    go_enter Try.func9, Try.ntmps9
    go_wp2_with (first | (go_at_call 48; refine (awake06_any _).mono ?_; rintro e w1 ⟨rfl, hb⟩; have hcf := bcell hb; (try simp only [World.size_alloc, World.size_setCell, World.size_drew] at hcf); have hz := hb.size; (try simp only [World.size_alloc, World.size_setCell, World.size_drew] at hz); have hbh := Lib.hid hb; clear hb; obtain ⟨hc, hf⟩ := hcf))
    go_ret
    refine ⟨rfl, ?_⟩
    (repeat' (first | exact Below.refl _ _ | refine bl_set (by (first | omega | (simp; done) | (simp; omega))) ?_ _ | refine bl_alloc (by (first | omega | (simp; done) | (simp; omega))) ?_ _ | refine bl_drewN ?_ _ | refine bl_drew ?_ | refine bl_then (by assumption) ?_ (by (first | omega | (simp; done) | (simp; omega))) | refine Step.bl (by assumption) (by assumption) (by (first | omega | (simp; done) | (simp; omega))) (by (first | omega | (simp; done) | (simp; omega))) ?_))
  have F1 := Lib.hid (fun W c hc => (Sk.rows_eq key (fun i => K i 0) n R f hkey (fun i => hKf i 0) hf W c hc nk).1)
  have F2 := Lib.hid (Sk.found_eq key (fun i => K i 0) hkey (fun i => hKf i 0) nk)
  have HK := Lib.hid hK
  have HR := Lib.hid h
  have HR63 := Lib.hid hR63
  clear hK h hKf hf hkey hR63
  go_enter Try.func9, Try.ntmps9
  go_wp2_with (first | (go_at_call 48; refine (awake06_any _).mono ?_; rintro e w1 ⟨rfl, hb⟩; have hcf := bcell hb; (try simp only [World.size_alloc, World.size_setCell, World.size_drew] at hcf); have hz := hb.size; (try simp only [World.size_alloc, World.size_setCell, World.size_drew] at hz); have hbh := Lib.hid hb; clear hb; obtain ⟨hc, hf⟩ := hcf))
  go_loopw [27] (fun i wr => ∃ k : Nat, k ≤ n ∧ i = .int .i64 k ∧ (∀ j, j < k → R j ≤ 20) ∧ wr = w1) (fun i _ => n - (intOf i).toNat)
  case atStart => exact ⟨0, by omega, rfl, fun j hj => absurd hj (Nat.not_lt_zero j), rfl⟩
  case round =>
    obtain ⟨k, hk, rfl, hRk, rfl⟩ := hrel
    have HRr := Lib.hid (HR.out.below hbh)
    clear hc hf
    by_cases hkn : k < n
    · obtain ⟨rfl, hRB⟩ := HRr.out.at_ (by omega)
      have g1 := HRr.out.cell k hkn
      have g2 := HR63.out k hkn
      obtain ⟨r, hr⟩ : ∃ r, R k = r := ⟨_, rfl⟩
      rw [hr] at g1 g2
      by_cases h20 : 20 < r
      · go_wp2_with fail
        go_ret
        exact ⟨rfl, hbh.out⟩
      · have HRk := Lib.hid hRk
        clear hRk
        go_wp2_with fail
        refine ⟨⟨k + 1, by omega, by go_num, fun j hj => ?_, trivial⟩, by simp [intOf]; omega⟩
        rcases (by omega : j < k ∨ j = k) with hj | rfl
        · exact HRk.out j hj
        · omega
    · have hge : n ≤ k := by omega
      obtain ⟨W, hWW⟩ : ∃ W, Sk.wid n R = W := ⟨_, rfl⟩
      have hW20 : W ≤ 20 := by
        rw [← hWW]
        unfold Sk.wid
        split
        · omega
        · exact hRk 0 (by omega)
      have HW := Lib.hid hWW
      clear hWW hRk
      go_wp2_with fail
      go_region_held3 (fun w' => w'.cell? ⟨wr.heap.size, 0, none⟩ = some (.slice KA nk kc) ∧ w'.cell? ⟨wr.heap.size, 1, none⟩ = some (.slice RA n rc)) ((simp [go_sem, ↓IntWalk.iteOmega, *]; done)) (first | first | (go_at_call 16; refine (Of_any _ _).mono ?_; rintro e w1 ⟨rfl, hb⟩; have hcf := bcell hb; (try simp only [World.size_alloc, World.size_setCell, World.size_drew] at hcf); have hz := hb.size; (try simp only [World.size_alloc, World.size_setCell, World.size_drew] at hz); have hbh := Lib.hid hb; clear hb; obtain ⟨hc, hf⟩ := hcf) | (go_at_call 49; refine (kFind_any _ _ _ _ _ _ _ K R f (HK.out.belowB (by (repeat' (first | exact Below.refl _ _ | refine bl_set (by (first | omega | (simp; done) | (simp; omega))) ?_ _ | refine bl_alloc (by (first | omega | (simp; done) | (simp; omega))) ?_ _ | refine bl_drewN ?_ _ | refine bl_drew ?_ | refine bl_then (by assumption) ?_ (by (first | omega | (simp; done) | (simp; omega))) | refine Step.bl (by assumption) (by assumption) (by (first | omega | (simp; done) | (simp; omega))) (by (first | omega | (simp; done) | (simp; omega))) ?_)))) B off Ai ci (HR.out.lift (by (repeat' (first | exact Below.refl _ _ | refine bl_set (by (first | omega | (simp; done) | (simp; omega))) ?_ _ | refine bl_alloc (by (first | omega | (simp; done) | (simp; omega))) ?_ _ | refine bl_drewN ?_ _ | refine bl_drew ?_ | refine bl_then (by assumption) ?_ (by (first | omega | (simp; done) | (simp; omega))) | refine Step.bl (by assumption) (by assumption) (by (first | omega | (simp; done) | (simp; omega))) (by (first | omega | (simp; done) | (simp; omega))) ?_)))) (by omega) (by omega) (by rw [HW.out]; omega) _).mono ?_; rintro e wj ⟨g, rfl, hg1, hg2, hx, hb⟩; rw [HW.out] at hx ⊢; have hcf_j := bcell hb; have hz_j := hb.size; (try simp only [World.size_alloc, World.size_setCell, World.size_drew] at hz_j hg1 hcf_j); have hbh_j := Lib.hid hb; clear hb; obtain ⟨hc_j, hf_j⟩ := hcf_j))
      all_goals
        refine late (X := Exit.then _ _) rfl (fun m W2 => W2.cell? ⟨m, 0, none⟩ = some (.int .u32 (Sk.ff key (fun i => K i 0) nk)) ∧ (∀ c, c < W → W2.cell? ⟨g, c, none⟩ = some (.int .u32 (Sk.fo key (fun i => K i 0) n W R f nk c))) ∧ W2.cell? ⟨wr.heap.size, 0, none⟩ = some (.slice KA nk kc) ∧ W2.cell? ⟨wr.heap.size, 1, none⟩ = some (.slice RA n rc) ∧ m < W2.heap.size ∧ g < W2.heap.size ∧ wr.heap.size < W2.heap.size ∧ Below w.heap.size w W2) ⟨?_, ?_, ?_, ?_, ?_, ?_, ?_, ?_⟩ ?_
        case refine_2 => intro c hc; clear hc_j; simp [go_sem, ↓IntWalk.iteOmega, *]
        case refine_8 => (repeat' (first | exact Below.refl _ _ | refine bl_set (by (first | omega | (simp; done) | (simp; omega))) ?_ _ | refine bl_alloc (by (first | omega | (simp; done) | (simp; omega))) ?_ _ | refine bl_drewN ?_ _ | refine bl_drew ?_ | refine bl_then (by assumption) ?_ (by (first | omega | (simp; done) | (simp; omega))) | refine Step.bl (by assumption) (by assumption) (by (first | omega | (simp; done) | (simp; omega))) (by (first | omega | (simp; done) | (simp; omega))) ?_))
        case refine_9 =>
          rintro m W2 ⟨a1, a2, a3, a4, a5, a6, a7, a8⟩
          clear hc_j hf_j hx
          have hz8 := a8.size
          have A8 := Lib.hid a8
          clear a8
          go_wp2_with (go_at_call 50; refine (rFind_any _ _ _ _ _ _ _ K R f (HK.out.belowB A8.out) B off Ai ci (HR.out.lift A8.out) (by omega) (by omega) (by rw [HW.out]; omega) _).mono ?_; rintro e wq ⟨S, cp, rfl, hS, hb⟩; rw [HW.out] at hS ⊢; have hz_q := hb.size; have hbh_q := Lib.hid hb; have HS := Lib.hid hS; clear hb hS)
          have b1 : wq.cell? ⟨m, 0, none⟩ = some (.int .u32 (Sk.ff key (fun i => K i 0) nk)) := (hbh_q.out.cell (p := ⟨m, 0, none⟩) a5).trans a1
          have b2 : ∀ c, c < W → wq.cell? ⟨g, c, none⟩ = some (.int .u32 (Sk.fo key (fun i => K i 0) n W R f nk c)) := fun c hc => (hbh_q.out.cell (p := ⟨g, c, none⟩) a6).trans (a2 c hc)
          have hmq : m < wq.heap.size := by omega
          have hgq : g < wq.heap.size := by omega
          clear a1 a2 a3 a4
          go_region_held3 (fun w' => w'.cell? ⟨m, 0, none⟩ = some (.int .u32 (Sk.ff key (fun i => K i 0) nk))) ((simp [go_sem, ↓IntWalk.iteOmega, *]; done)) (first | (go_at_call 51; refine' Calls.mono (is06_true _ _ _ ?_) ?_; (next => ((with_reducible exact F2.out))); rintro e w1 ⟨rfl, hb⟩; have hcf := bcell hb; (try simp only [World.size_alloc, World.size_setCell, World.size_drew] at hcf); have hz := hb.size; (try simp only [World.size_alloc, World.size_setCell, World.size_drew] at hz); have hbh := Lib.hid hb; clear hb; obtain ⟨hc, hf⟩ := hcf) | (go_at_call 25; refine (All_any _ _).mono ?_; rintro e w1 ⟨rfl, rfl⟩))
          have hWq : Hid (Below wq.heap.size wq w1 ∧ Below w.heap.size w w1) := by
            refine Lib.hid ⟨?_, ?_⟩
            · (repeat' (first | exact Below.refl _ _ | refine bl_set (by (first | omega | (simp; done) | (simp; omega))) ?_ _ | refine bl_alloc (by (first | omega | (simp; done) | (simp; omega))) ?_ _ | refine bl_drewN ?_ _ | refine bl_drew ?_ | refine bl_then (by assumption) ?_ (by (first | omega | (simp; done) | (simp; omega))) | refine Step.bl (by assumption) (by assumption) (by (first | omega | (simp; done) | (simp; omega))) (by (first | omega | (simp; done) | (simp; omega))) ?_))
            · have A8' := A8.out
              (repeat' (first | exact Below.refl _ _ | refine bl_set (by (first | omega | (simp; done) | (simp; omega))) ?_ _ | refine bl_alloc (by (first | omega | (simp; done) | (simp; omega))) ?_ _ | refine bl_drewN ?_ _ | refine bl_drew ?_ | refine bl_then (by assumption) ?_ (by (first | omega | (simp; done) | (simp; omega))) | refine Step.bl (by assumption) (by assumption) (by (first | omega | (simp; done) | (simp; omega))) (by (first | omega | (simp; done) | (simp; omega))) ?_))
          have hzq1 := hWq.out.1.size
          have HB2 := Lib.hid b2
          clear hc hf b1 b2
          go_wp2_with fail
          go_loopw [65] (fun i ws => ∃ q : Nat, q ≤ W ∧ i = .int .i64 q ∧ Below wq.heap.size wq ws ∧ Below w.heap.size w ws) (fun i _ => W - (intOf i).toNat)
          case atStart => exact ⟨0, Nat.zero_le _, rfl, hWq.out.1, hWq.out.2⟩
          case round =>
            obtain ⟨q, hq, rfl, hB1, hB2⟩ := hrel
            have hzs := hB1.size
            have hzw := hB2.size
            have HB1 := Lib.hid hB1
            have HBw := Lib.hid hB2
            clear hB1 hB2
            by_cases hqW : q < W
            · obtain ⟨g', rfl, hg', hcell⟩ := HS.out (by omega)
              have e1 : wr.cell? ⟨g, q, none⟩ = some (.int .u32 (Sk.fo key (fun i => K i 0) n W R f nk q)) := (HB1.out.cell (p := ⟨g, q, none⟩) hgq).trans (HB2.out q hqW)
              have e2 : wr.cell? ⟨g', q, none⟩ = some (.int .u32 (Sk.ro key (fun i => K i 0) n R f nk q)) := (HB1.out.cell (p := ⟨g', q, none⟩) hg').trans (hcell q hqW)
              have hgs : g < wr.heap.size := by omega
              have hgs' : g' < wr.heap.size := by omega
              clear hcell
              go_wp2_with fail
              go_region_held3 (fun w' => w'.cell? ⟨g, q, none⟩ = some (.int .u32 (Sk.fo key (fun i => K i 0) n W R f nk q)) ∧ w'.cell? ⟨g', q, none⟩ = some (.int .u32 (Sk.ro key (fun i => K i 0) n R f nk q))) ((simp [go_sem, ↓IntWalk.iteOmega, *]; done)) (first | (go_at_call 51; refine' Calls.mono (is06_true _ _ _ ?_) ?_; (next => ((exact F1.out W q hqW))); rintro e w1 ⟨rfl, hb⟩; have hcf := bcell hb; (try simp only [World.size_alloc, World.size_setCell, World.size_drew] at hcf); have hz := hb.size; (try simp only [World.size_alloc, World.size_setCell, World.size_drew] at hz); have hbh := Lib.hid hb; clear hb; obtain ⟨hc, hf⟩ := hcf))
              go_wp2_with fail
              refine ⟨⟨q + 1, by omega, by go_num, ?_, ?_⟩, by simp [intOf]; omega⟩
              · have HB1' := HB1.out
                (repeat' (first | exact Below.refl _ _ | refine bl_set (by (first | omega | (simp; done) | (simp; omega))) ?_ _ | refine bl_alloc (by (first | omega | (simp; done) | (simp; omega))) ?_ _ | refine bl_drewN ?_ _ | refine bl_drew ?_ | refine bl_then (by assumption) ?_ (by (first | omega | (simp; done) | (simp; omega))) | refine Step.bl (by assumption) (by assumption) (by (first | omega | (simp; done) | (simp; omega))) (by (first | omega | (simp; done) | (simp; omega))) ?_))
              · have HBw' := HBw.out
                (repeat' (first | exact Below.refl _ _ | refine bl_set (by (first | omega | (simp; done) | (simp; omega))) ?_ _ | refine bl_alloc (by (first | omega | (simp; done) | (simp; omega))) ?_ _ | refine bl_drewN ?_ _ | refine bl_drew ?_ | refine bl_then (by assumption) ?_ (by (first | omega | (simp; done) | (simp; omega))) | refine Step.bl (by assumption) (by assumption) (by (first | omega | (simp; done) | (simp; omega))) (by (first | omega | (simp; done) | (simp; omega))) ?_))
            · have hge : W ≤ q := by omega
              go_wp2_with fail
              go_ret
              exact ⟨rfl, HBw.out⟩
        all_goals first | (simp [go_sem, ↓IntWalk.iteOmega, *]; done) | (simp; omega)
end Go.Proofs.Ytcaaapfminenoaa
