/- The document's sums and or'ed words. No condition. -/
import Derived.Test.YtdakbejppnijdaaSaP
import Derived.Test.YtdakbejppnijdaaHeld
namespace Go.Proofs.Ytdakbejppnijdaa
open Go.RowKit
set_option linter.unusedSimpArgs false
set_option linter.unusedVariables false
attribute [local go_sem] IntKind.wrap_u32' signed_u32 max_u32
attribute [local go_sem ↓] Go.wp_at_zero Go.wp_at_succ
attribute [local go_sem] Calm.C
attribute [local go_sem low] Calm.al_cell Calm.al_frozen
theorem Try.infoU32R : (Try.prog.info? 30).map (fun i => (i.zero, i.size, i.bytes)) = some (some (.int .u32 0), 1, 4) := by kernel_rfl
namespace Sa
theorem set_same (l : List Int) (i : Nat) (v : Int) (hi : i < l.length) (h : l.getD i 0 = v) : l.set i v = l := by
  rw [List.getD_eq_getElem?_getD, List.getElem?_eq_getElem hi] at h
  simp only [Option.getD_some] at h
  rw [← h]
  exact List.set_getElem_self hi
theorem wc_rep (n : Nat) : wcells (List.replicate n 0) = (List.replicate n (Value.int .u32 0)).toArray := by
  unfold wcells
  rw [List.map_replicate]
end Sa
/-- make([]uint32, n). -/
theorem mk_words (n : Nat) (hn : n ≤ 1000) : ∃ mk : World → World, ∀ w : World, (Instr.makeSlice 22 (.int .i64 n) (.int .i64 n)).run Try.prog w = .ok (.slice (some ⟨w.heap.size, 0, none⟩) n n) (mk w) ∧
    Below w.heap.size w (mk w) ∧ Blk (mk w) w.heap.size 30 (wcells (List.replicate n 0)) := by
  obtain ⟨i0, hi, hz0, hz1, hz2⟩ := info_parts Try.infoU32R
  have h : ∀ w : World, ∃ w', (Instr.makeSlice 22 (.int .i64 n) (.int .i64 n)).run Try.prog w = .ok (.slice (some ⟨w.heap.size, 0, none⟩) n n) w' ∧ Below w.heap.size w w' ∧ Blk w' w.heap.size 30 (wcells (List.replicate n 0)) := fun w => by
    obtain ⟨w', hr, r1, r2⟩ := run_make_full (P := Try.prog) w w.heap.size 22 30 i0 _ 1 Try.underlying22 hi hz0 hz1 .i64 .i64 n (by rw [hz2]; omega) (by simp only [maxLen]; omega) (Nat.le_refl _)
    rw [Nat.mul_one, show Value.cells (.int .u32 0) = #[.int .u32 0] from rfl, toList_madeCells_one] at r1
    refine ⟨w', hr, (Below.refl w.heap.size w).grown r2 (Nat.le_refl _) (fun k hk => by cases hk), ?_⟩
    rcases r1.2 with ⟨h0, _⟩ | ⟨g, cap, cur, hv, h1, h2, h3, h4, h5, h6⟩
    · cases h0
    · simp only [Value.slice.injEq, Option.some.injEq, Addr.mk.injEq] at hv
      obtain ⟨⟨rfl, _, _⟩, _, rfl⟩ := hv
      rw [Nat.mul_one] at h5 h6
      have hc : cur.toList = List.replicate n (Value.int .u32 0) := by
        rw [← h6]
        exact (List.take_of_length_le (by rw [Array.length_toList, h5]; exact Nat.le_refl _)).symm
      rw [Sa.wc_rep, ← hc]
      exact h2
  exact ⟨fun w => (h w).choose, fun w => (h w).choose_spec⟩
attribute [local irreducible] Sa.ad Sa.oru wcells
set_option maxRecDepth 20000 in
set_option maxHeartbeats 4000000 in
theorem rSums05_any {w : World} {A : Option Addr} {n : Nat} {f : Nat → Nat} (hA : Sj.Cl .u32 w A n f) (hf : ∀ i, f i < 4294967296) (hn : n ≤ 1000) (c : Nat) (b : Bool) :
    Calls Try.prog 17 #[.slice A n c, .bool b] w fun e w' => ∃ L : List Int, e = .returned (.tuple #[.slice (some ⟨w.heap.size, 0, none⟩) n n, .int .u32 (Sa.ad f n : Nat)]) ∧ Blk w' w.heap.size 30 (wcells L) ∧ L.length = n ∧ (∀ j, j < n → L.getD j 0 = (Sa.ad f (if b then j + 1 else j) : Nat)) ∧ Below w.heap.size w w' := by
  obtain ⟨mk, HMK0⟩ := mk_words n hn
  have hmk : ∀ w, (Instr.makeSlice 22 (.int .i64 n) (.int .i64 n)).run Try.prog w = .ok (.slice (some ⟨w.heap.size, 0, none⟩) n n) (mk w) := fun w => (HMK0 w).1
  have HM1 := Lib.hid (HMK0 w).2.1
  have HM2 := Lib.hid (HMK0 w).2.2
  have HA := Lib.hid hA
  have HF := Lib.hid hf
  clear HMK0 hA hf
  go_enter Try.func17, Try.ntmps17
  go_wp2_with fail
  generalize mk w = W1 at *
  clear hmk
  obtain ⟨G, hG⟩ : ∃ G, w.heap.size = G := ⟨_, rfl⟩
  rw [hG] at HM2 ⊢
  go_loopw [7, 8, 9] (fun all ii k wr => ∃ (i : Nat) (u : Value) (L : List Int), i ≤ n ∧ all = .int .u32 (Sa.ad f i : Nat) ∧ ii = .int .i64 (i : Int) ∧ k = u ∧ Blk wr G 30 (wcells L) ∧ L.length = n ∧ (∀ j, j < n → L.getD j 0 = if j < i then ((Sa.ad f (if b then j + 1 else j) : Nat) : Int) else 0) ∧ Below w.heap.size w wr) (fun _ ii _ _ => n - (intOf ii).toNat)
  case atStart => exact ⟨0, _, _, Nat.zero_le _, by rw [Sa.ad_zero]; rfl, rfl, rfl, HM2.out, List.length_replicate, fun j hj => by rw [if_neg (Nat.not_lt_zero j), Sa.rep_get], HM1.out⟩
  case round =>
    obtain ⟨i, u, L, hi, rfl, rfl, rfl, hB, hL, hg, hb⟩ := hrel
    have HB := Lib.hid hB
    have HL := Lib.hid hL
    have HG := Lib.hid hg
    have HBE := Lib.hid hb
    have zr := hb.size
    clear hB hL hg hb HM1 HM2
    by_cases hin : i < n
    · have h0 := HG.out i hin
      rw [if_neg (Nat.lt_irrefl i)] at h0
      obtain ⟨b1, o1, rfl, hb1, hc1⟩ := HA.out (by omega)
      have HC1 := Lib.hid hc1
      clear hc1
      go_wp2_with fail
      go_loopw [9] (fun kk w3 => ∃ k : Nat, k ≤ i ∧ kk = .int .i64 (k : Int) ∧ Blk w3 G 30 (wcells (L.set i (Sa.ad f k : Nat))) ∧ Below w.heap.size w w3) (fun kk _ => i - (intOf kk).toNat)
      case atStart => exact ⟨0, Nat.zero_le _, rfl, by rw [show ((Sa.ad f 0 : Nat) : Int) = 0 from congrArg Nat.cast (Sa.ad_zero f), Sa.set_same L i 0 (by rw [HL.out]; exact hin) h0]; exact HB.out, HBE.out⟩
      case round =>
        rename World => w3
        obtain ⟨k, hk, rfl, hB3, hb3⟩ := hrel
        have HB3 := Lib.hid hB3
        have HB3E := Lib.hid hb3
        have z3 := hb3.size
        have q1 := hB3.cell i
        rw [wcells_get _ i (by rw [List.length_set, HL.out]; exact hin), Sa.getD_set _ _ _ _ (by rw [HL.out]; exact hin), if_pos rfl] at q1
        have q2 := hB3.frozen i
        have zG := hB3.lt
        clear hB3 hb3
        by_cases hki : k < i
        · have q3 := (HB3E.out.cell (p := ⟨b1, o1 + k, none⟩) hb1).trans (HC1.out k (by omega))
          have hsn : Hid (((Sa.ad f (k + 1) : Nat) : Int) = ((Sa.ad f k : Int) + (f k : Int)) % 4294967296) := Lib.hid (by rw [Sa.ad_succ]; omega)
          have hx := HF.out k
          generalize f k = x at *
          generalize Sa.ad f k = a at *
          go_wp2_with fail
          (refine Calm.go 12 (by kernel_rfl) (by kernel_rfl) (by kernel_rfl) ?_; intro w0 hw0; have hr := Calm.rule hw0; simp only [Calm.heads, Calm.isAlloc]; haveI hnon : Nonempty (Ext (Below w0.heap.size w0)) := ⟨⟨w0, Below.refl _ _⟩⟩; (repeat (go_big_quiet_step (fail))); refine wpQuiet_nil ?_; clear hnon hr hw0; clear w0; (repeat refine Calm.n_skip rfl ?_); refine Calm.n_zero ?_; intro WA hbA hsA; simp only [List.drop_succ_cons, List.drop_zero]; obtain ⟨hcA, hfA⟩ := bcell hbA; (try simp only [World.size_alloc, World.size_setCell, drew_size] at hcA hfA); have hzA := hbA.size; have hbhA := Lib.hid hbA; clear hsA hbA; (try simp only [World.size_alloc, World.size_setCell, World.size_drew] at hzA))
          go_wp2_with fail
          go_roundw
          case rel =>
            refine ⟨k + 1, by omega, by go_num, ?_, ?_⟩
            · have h2 := (HB3.out.belowH hbhA HB3.out.lt).set_ i (.int .u32 (((a : Int) + (x : Int)) % 4294967296))
              rw [wcells_set, List.set_set] at h2
              rw [hsn.out]
              exact h2
            · exact bl_set (by omega) (bl_then hbhA HB3E.out (by omega)) _
          case measure => simp [intOf]; omega
        · have e : k = i := by omega
          subst e
          have q3 := (HB3E.out.cell (p := ⟨b1, o1 + k, none⟩) hb1).trans (HC1.out k hin)
          have hsn : Hid (((Sa.ad f (k + 1) : Nat) : Int) = ((Sa.ad f k : Int) + (f k : Int)) % 4294967296) := Lib.hid (by rw [Sa.ad_succ]; omega)
          have hx := HF.out k
          have hG2 : Hid (∀ (v : Int), v = (Sa.ad f (if b then k + 1 else k) : Nat) → ∀ j, j < n → (L.set k v).getD j 0 = if j < k + 1 then ((Sa.ad f (if b then j + 1 else j) : Nat) : Int) else 0) := Lib.hid (fun v hv j hj => by
            rw [Sa.getD_set _ _ _ _ (by rw [HL.out]; exact hin)]
            by_cases hjk : j = k
            · subst hjk
              rw [if_pos rfl, if_pos (Nat.lt_succ_self j), hv]
            · rw [if_neg hjk, HG.out j hj]
              by_cases hlt : j < k
              · rw [if_pos hlt, if_pos (show j < k + 1 by omega)]
              · rw [if_neg hlt, if_neg (show ¬ j < k + 1 by omega)])
          clear HG h0
          cases b with
          | false =>
            have hG3 := Lib.hid (hG2.out (Sa.ad f k : Nat) rfl)
            clear hG2
            generalize f k = x at *
            generalize Sa.ad f k = a at *
            go_wp2_with fail
            refine ⟨⟨k + 1, _, _, by omega, by rw [hsn.out], by go_num, rfl, HB3.out, by rw [List.length_set]; exact HL.out, hG3.out, HB3E.out⟩, by simp [intOf]; omega⟩
          | true =>
            have hG3 := Lib.hid (hG2.out (Sa.ad f (k + 1) : Nat) rfl)
            clear hG2
            rw [hsn.out] at hG3
            generalize f k = x at *
            generalize Sa.ad f k = a at *
            go_wp2_with fail
            (refine Calm.go 12 (by kernel_rfl) (by kernel_rfl) (by kernel_rfl) ?_; intro w0 hw0; have hr := Calm.rule hw0; simp only [Calm.heads, Calm.isAlloc]; haveI hnon : Nonempty (Ext (Below w0.heap.size w0)) := ⟨⟨w0, Below.refl _ _⟩⟩; (repeat (go_big_quiet_step (fail))); refine wpQuiet_nil ?_; clear hnon hr hw0; clear w0; (repeat refine Calm.n_skip rfl ?_); refine Calm.n_zero ?_; intro WA hbA hsA; simp only [List.drop_succ_cons, List.drop_zero]; obtain ⟨hcA, hfA⟩ := bcell hbA; (try simp only [World.size_alloc, World.size_setCell, drew_size] at hcA hfA); have hzA := hbA.size; have hbhA := Lib.hid hbA; clear hsA hbA; (try simp only [World.size_alloc, World.size_setCell, World.size_drew] at hzA))
            go_wp2_with fail
            have h2 := (HB3.out.belowH hbhA HB3.out.lt).set_ k (.int .u32 (((a : Int) + (x : Int)) % 4294967296))
            rw [wcells_set, List.set_set] at h2
            have HB4 := Lib.hid h2
            have hb4 := Lib.hid (bl_set (b := G) (i := k) (by omega) (bl_then hbhA HB3E.out (by omega)) (.int .u32 (((a : Int) + (x : Int)) % 4294967296)))
            clear h2
            refine ⟨⟨k + 1, _, _, by omega, by rw [hsn.out], by go_num, rfl, HB4.out, by rw [List.length_set]; exact HL.out, hG3.out, hb4.out⟩, by simp [intOf]; omega⟩
    · have e : i = n := by omega
      subst e
      have hbe := HBE.out
      rw [hG] at hbe
      have hgg : Hid (∀ j, j < i → L.getD j 0 = (Sa.ad f (if b then j + 1 else j) : Nat)) := Lib.hid (fun j hj => by have := HG.out j hj; rwa [if_pos hj] at this)
      go_wp2_with fail
      all_goals
        refine ret_two (x := .slice (some ⟨G, 0, none⟩) i i) (y := .int .u32 (Sa.ad f i : Nat)) rfl rfl rfl rfl ⟨rfl, L, HB.out, HL.out, ?_, hbe⟩
        have h3 := hgg.out
        first | exact h3 | (simpa using h3) | (intro j hj; have h4 := h3 j hj; cases b <;> simp_all)
theorem Sa.or_rule (a x : Nat) (ha : a < 4294967296) (hx : x < 4294967296) : bits .or .u32 (a : Int) (x : Int) = ((a ||| x : Nat) : Int) := Ct.or_nat a x ha hx
set_option maxRecDepth 20000 in
set_option maxHeartbeats 4000000 in
theorem rOrs05_any {w : World} {A : Option Addr} {n : Nat} {f : Nat → Nat} (hA : Sj.Cl .u32 w A n f) (hf : ∀ i, f i < 4294967296) (hn : n ≤ 1000) (c : Nat) (b : Bool) :
    Calls Try.prog 21 #[.slice A n c, .bool b] w fun e w' => ∃ L : List Int, e = .returned (.tuple #[.slice (some ⟨w.heap.size, 0, none⟩) n n, .int .u32 (Sa.oru f 0 n : Nat)]) ∧ Blk w' w.heap.size 30 (wcells L) ∧ L.length = n ∧ (∀ j, j < n → L.getD j 0 = (if b then Sa.oru f j (n - j) else Sa.oru f 0 (j + 1) : Nat)) ∧ Below w.heap.size w w' := by
  obtain ⟨mk, HMK0⟩ := mk_words n hn
  have hmk : ∀ w, (Instr.makeSlice 22 (.int .i64 n) (.int .i64 n)).run Try.prog w = .ok (.slice (some ⟨w.heap.size, 0, none⟩) n n) (mk w) := fun w => (HMK0 w).1
  have HM1 := Lib.hid (HMK0 w).2.1
  have HM2 := Lib.hid (HMK0 w).2.2
  have HA := Lib.hid hA
  have HF := Lib.hid hf
  have hol := Lib.hid (Sa.oru_lt f hf)
  clear HMK0 hA hf
  go_enter Try.func21, Try.ntmps21
  go_wp2_with fail
  generalize mk w = W1 at *
  clear hmk
  obtain ⟨G, hG⟩ : ∃ G, w.heap.size = G := ⟨_, rfl⟩
  rw [hG] at HM2 ⊢
  obtain ⟨vv, hvv⟩ : ∃ vv : Nat → Nat, vv = fun j => (if b then Sa.oru f j (n - j) else Sa.oru f 0 (j + 1)) := ⟨_, rfl⟩
  have HVV := Lib.hid hvv
  have hvr : Hid (∀ j, (if b then Sa.oru f j (n - j) else Sa.oru f 0 (j + 1)) = vv j) := Lib.hid (fun j => by rw [HVV.out])
  clear hvv
  go_loopw [7, 8, 9] (fun all ii k wr => ∃ (i : Nat) (u : Value) (L : List Int), i ≤ n ∧ all = .int .u32 (Sa.oru f 0 i : Nat) ∧ ii = .int .i64 (i : Int) ∧ k = u ∧ Blk wr G 30 (wcells L) ∧ L.length = n ∧ (∀ j, j < n → L.getD j 0 = if j < i then ((vv j : Nat) : Int) else 0) ∧ Below w.heap.size w wr) (fun _ ii _ _ => n - (intOf ii).toNat)
  case atStart => exact ⟨0, _, _, Nat.zero_le _, by rw [Sa.oru_zero]; rfl, rfl, rfl, HM2.out, List.length_replicate, fun j hj => by rw [if_neg (Nat.not_lt_zero j), Sa.rep_get], HM1.out⟩
  case round =>
    obtain ⟨i, u, L, hi, rfl, rfl, rfl, hB, hL, hg, hb⟩ := hrel
    have HB := Lib.hid hB
    have HL := Lib.hid hL
    have HG := Lib.hid hg
    have HBE := Lib.hid hb
    have zr := hb.size
    clear hB hL hg hb HM1 HM2
    by_cases hin : i < n
    · have h0 := HG.out i hin
      rw [if_neg (Nat.lt_irrefl i)] at h0
      obtain ⟨b1, o1, rfl, hb1, hc1⟩ := HA.out (by omega)
      have HC1 := Lib.hid hc1
      obtain ⟨V, hV⟩ : ∃ V : Nat → Nat, V = fun k => (if b then Sa.oru f i (k - i) else Sa.oru f 0 (min k (i + 1))) := ⟨_, rfl⟩
      have hV0 : V 0 = 0 := by
        rw [hV]
        dsimp only
        cases b
        · rw [if_neg (by decide), Nat.zero_min, Sa.oru_zero]
        · rw [if_pos rfl, Nat.zero_sub, Sa.oru_zero]
      have hVn : Hid (V n = vv i) := Lib.hid (by
        rw [hV, HVV.out]
        dsimp only
        cases b
        · rw [if_neg (by decide), if_neg (by decide), show min n (i + 1) = i + 1 by omega]
        · rw [if_pos rfl, if_pos rfl])
      have hVl : Hid (∀ k, V k < 4294967296) := Lib.hid (fun k => by
        rw [hV]
        dsimp only
        split <;> exact hol.out _ _)
      have hVs : Hid (∀ k, k < n → (if b then i ≤ k else k ≤ i) → V (k + 1) = V k ||| f k) := Lib.hid (fun k hk hc => by
        rw [hV]
        dsimp only
        cases b
        · rw [if_neg (by decide)] at hc
          rw [if_neg (by decide), if_neg (by decide), show min (k + 1) (i + 1) = k + 1 by omega, show min k (i + 1) = k by omega, Sa.oru_succ, Nat.zero_add]
        · rw [if_pos rfl] at hc
          rw [if_pos rfl, if_pos rfl, show k + 1 - i = (k - i) + 1 by omega, Sa.oru_succ, show i + (k - i) = k by omega])
      have hVk : Hid (∀ k, k < n → ¬ (if b then i ≤ k else k ≤ i) → V (k + 1) = V k) := Lib.hid (fun k hk hc => by
        rw [hV]
        dsimp only
        cases b
        · rw [if_neg (by decide)] at hc
          rw [if_neg (by decide), if_neg (by decide), show min (k + 1) (i + 1) = i + 1 by omega, show min k (i + 1) = i + 1 by omega]
        · rw [if_pos rfl] at hc
          rw [if_pos rfl, if_pos rfl, show k + 1 - i = 0 by omega, show k - i = 0 by omega])
      clear hc1 hV
      go_wp2_with fail
      go_loopw [9] (fun kk w3 => ∃ k : Nat, k ≤ n ∧ kk = .int .i64 (k : Int) ∧ Blk w3 G 30 (wcells (L.set i (V k : Nat))) ∧ Below w.heap.size w w3) (fun kk _ => n - (intOf kk).toNat)
      case atStart => exact ⟨0, Nat.zero_le _, rfl, by rw [hV0, show ((0 : Nat) : Int) = 0 from rfl, Sa.set_same L i 0 (by rw [HL.out]; exact hin) h0]; exact HB.out, HBE.out⟩
      case round =>
        rename World => w3
        obtain ⟨k, hk, rfl, hB3, hb3⟩ := hrel
        have HB3 := Lib.hid hB3
        have HB3E := Lib.hid hb3
        have z3 := hb3.size
        have q1 := hB3.cell i
        rw [wcells_get _ i (by rw [List.length_set, HL.out]; exact hin), Sa.getD_set _ _ _ _ (by rw [HL.out]; exact hin), if_pos rfl] at q1
        have q2 := hB3.frozen i
        have zG := hB3.lt
        clear hB3 hb3
        by_cases hkn : k < n
        · have q3 := (HB3E.out.cell (p := ⟨b1, o1 + k, none⟩) hb1).trans (HC1.out k (by omega))
          by_cases hc : (if b then i ≤ k else k ≤ i)
          · have hsn := Lib.hid (hVs.out k hkn hc)
            have hor := Sa.or_rule (V k) (f k) (hVl.out k) (HF.out k)
            have hdd : (b = false ∧ decide (k ≤ i) = true) ∨ (b = true ∧ decide (i ≤ k) = true) := by
              cases b
              · rw [if_neg (by decide)] at hc
                exact .inl ⟨rfl, decide_eq_true (by omega)⟩
              · rw [if_pos rfl] at hc
                exact .inr ⟨rfl, decide_eq_true (by omega)⟩
            have hx := HF.out k
            clear hc
            generalize f k = x at *
            generalize V k = a at *
            rcases hdd with ⟨rfl, hdd⟩ | ⟨rfl, hdd⟩
            · go_wp2_with fail
              (refine Calm.go 12 (by kernel_rfl) (by kernel_rfl) (by kernel_rfl) ?_; intro w0 hw0; have hr := Calm.rule hw0; simp only [Calm.heads, Calm.isAlloc]; haveI hnon : Nonempty (Ext (Below w0.heap.size w0)) := ⟨⟨w0, Below.refl _ _⟩⟩; (repeat (go_big_quiet_step (fail))); refine wpQuiet_nil ?_; clear hnon hr hw0; clear w0; (repeat refine Calm.n_skip rfl ?_); refine Calm.n_zero ?_; intro WA hbA hsA; simp only [List.drop_succ_cons, List.drop_zero]; obtain ⟨hcA, hfA⟩ := bcell hbA; (try simp only [World.size_alloc, World.size_setCell, drew_size] at hcA hfA); have hzA := hbA.size; have hbhA := Lib.hid hbA; clear hsA hbA; (try simp only [World.size_alloc, World.size_setCell, World.size_drew] at hzA))
              go_wp2_with fail
              go_roundw
              case rel =>
                refine ⟨k + 1, by omega, by go_num, ?_, ?_⟩
                · have h2 := (HB3.out.belowH hbhA HB3.out.lt).set_ i (.int .u32 ((a ||| x : Nat) : Int))
                  rw [wcells_set, List.set_set] at h2
                  rw [hsn.out]
                  exact h2
                · exact bl_set (by omega) (bl_then hbhA HB3E.out (by omega)) _
              case measure => simp [intOf]; omega
            · by_cases hki : k ≤ i
              · have hd2 := decide_eq_true (show k ≤ i by omega)
                go_wp2_with fail
                (refine Calm.go 12 (by kernel_rfl) (by kernel_rfl) (by kernel_rfl) ?_; intro w0 hw0; have hr := Calm.rule hw0; simp only [Calm.heads, Calm.isAlloc]; haveI hnon : Nonempty (Ext (Below w0.heap.size w0)) := ⟨⟨w0, Below.refl _ _⟩⟩; (repeat (go_big_quiet_step (fail))); refine wpQuiet_nil ?_; clear hnon hr hw0; clear w0; (repeat refine Calm.n_skip rfl ?_); refine Calm.n_zero ?_; intro WA hbA hsA; simp only [List.drop_succ_cons, List.drop_zero]; obtain ⟨hcA, hfA⟩ := bcell hbA; (try simp only [World.size_alloc, World.size_setCell, drew_size] at hcA hfA); have hzA := hbA.size; have hbhA := Lib.hid hbA; clear hsA hbA; (try simp only [World.size_alloc, World.size_setCell, World.size_drew] at hzA))
                go_wp2_with fail
                go_roundw
                case rel =>
                  refine ⟨k + 1, by omega, by go_num, ?_, ?_⟩
                  · have h2 := (HB3.out.belowH hbhA HB3.out.lt).set_ i (.int .u32 ((a ||| x : Nat) : Int))
                    rw [wcells_set, List.set_set] at h2
                    rw [hsn.out]
                    exact h2
                  · exact bl_set (by omega) (bl_then hbhA HB3E.out (by omega)) _
                case measure => simp [intOf]; omega
              · have hd2 := decide_eq_false (show ¬ k ≤ i by omega)
                go_wp2_with fail
                (refine Calm.go 12 (by kernel_rfl) (by kernel_rfl) (by kernel_rfl) ?_; intro w0 hw0; have hr := Calm.rule hw0; simp only [Calm.heads, Calm.isAlloc]; haveI hnon : Nonempty (Ext (Below w0.heap.size w0)) := ⟨⟨w0, Below.refl _ _⟩⟩; (repeat (go_big_quiet_step (fail))); refine wpQuiet_nil ?_; clear hnon hr hw0; clear w0; (repeat refine Calm.n_skip rfl ?_); refine Calm.n_zero ?_; intro WA hbA hsA; simp only [List.drop_succ_cons, List.drop_zero]; obtain ⟨hcA, hfA⟩ := bcell hbA; (try simp only [World.size_alloc, World.size_setCell, drew_size] at hcA hfA); have hzA := hbA.size; have hbhA := Lib.hid hbA; clear hsA hbA; (try simp only [World.size_alloc, World.size_setCell, World.size_drew] at hzA))
                go_wp2_with fail
                go_roundw
                case rel =>
                  refine ⟨k + 1, by omega, by go_num, ?_, ?_⟩
                  · have h2 := (HB3.out.belowH hbhA HB3.out.lt).set_ i (.int .u32 ((a ||| x : Nat) : Int))
                    rw [wcells_set, List.set_set] at h2
                    rw [hsn.out]
                    exact h2
                  · exact bl_set (by omega) (bl_then hbhA HB3E.out (by omega)) _
                case measure => simp [intOf]; omega
          · have hsn := Lib.hid (hVk.out k hkn hc)
            have hdd : (b = false ∧ decide (k ≤ i) = false ∧ decide (i ≤ k) = true) ∨ (b = true ∧ decide (k ≤ i) = true ∧ decide (i ≤ k) = false) := by
              cases b
              · rw [if_neg (by decide)] at hc
                exact .inl ⟨rfl, decide_eq_false (by omega), decide_eq_true (by omega)⟩
              · rw [if_pos rfl] at hc
                exact .inr ⟨rfl, decide_eq_true (by omega), decide_eq_false (by omega)⟩
            clear hc
            generalize V k = a at *
            rcases hdd with ⟨rfl, hdd, hd2⟩ | ⟨rfl, hdd, hd2⟩
            all_goals
              go_wp2_with fail
              refine ⟨⟨k + 1, by omega, by go_num, by rw [hsn.out]; exact HB3.out, HB3E.out⟩, by simp [intOf]; omega⟩
        · have e : k = n := by omega
          subst e
          have q4 := (HB3E.out.cell (p := ⟨b1, o1 + i, none⟩) hb1).trans (HC1.out i hin)
          have hor := Sa.or_rule (Sa.oru f 0 i) (f i) (hol.out 0 i) (HF.out i)
          have hos : Hid (Sa.oru f 0 (i + 1) = Sa.oru f 0 i ||| f i) := Lib.hid (by rw [Sa.oru_succ, Nat.zero_add])
          have hG2 : Hid (∀ j, j < k → (L.set i (V k : Nat)).getD j 0 = if j < i + 1 then ((vv j : Nat) : Int) else 0) := Lib.hid (fun j hj => by
            rw [Sa.getD_set _ _ _ _ (by rw [HL.out]; exact hin)]
            by_cases hjk : j = i
            · subst hjk
              rw [if_pos rfl, if_pos (Nat.lt_succ_self j), hVn.out]
            · rw [if_neg hjk, HG.out j hj]
              by_cases hlt : j < i
              · rw [if_pos hlt, if_pos (show j < i + 1 by omega)]
              · rw [if_neg hlt, if_neg (show ¬ j < i + 1 by omega)])
          clear HG h0 hV0
          generalize f i = x at *
          generalize Sa.oru f 0 i = a at *
          go_wp2_with fail
          refine ⟨⟨i + 1, _, _, by omega, by rw [hos.out], by go_num, rfl, HB3.out, by rw [List.length_set]; exact HL.out, hG2.out, HB3E.out⟩, by simp [intOf]; omega⟩
    · have e : i = n := by omega
      subst e
      have hbe := HBE.out
      rw [hG] at hbe
      have hgg : Hid (∀ j, j < i → L.getD j 0 = (if b then Sa.oru f j (i - j) else Sa.oru f 0 (j + 1) : Nat)) := Lib.hid (fun j hj => by have := HG.out j hj; rw [if_pos hj] at this; rw [this, hvr.out j])
      go_wp2_with fail
      all_goals
        refine ret_two (x := .slice (some ⟨G, 0, none⟩) i i) (y := .int .u32 (Sa.oru f 0 i : Nat)) rfl rfl rfl rfl ⟨rfl, L, HB.out, HL.out, ?_, hbe⟩
        have h3 := hgg.out
        first | exact h3 | (simpa using h3) | (intro j hj; have h4 := h3 j hj; cases b <;> simp_all)
end Go.Proofs.Ytdakbejppnijdaa
