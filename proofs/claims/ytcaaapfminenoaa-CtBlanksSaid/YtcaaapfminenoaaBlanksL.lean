/- Layer 1: CtBlanks: words are blank just if each is 0: the law's call, for every slice. -/
import Derived.Test.YtcaaapfminenoaaLaw01
import Derived.Test.YtcaaapfminenoaaBlank
namespace Go.Proofs.Ytcaaapfminenoaa
open Go.RowKit
set_option linter.unusedSimpArgs false
set_option linter.unusedVariables false
attribute [local go_sem] IntKind.wrap_u32' signed_u32 max_u32
attribute [local go_sem ↓] Go.wp_at_zero Go.wp_at_succ
theorem Try.infoSec : (Try.prog.info? 26).map (fun i => (i.zero, i.size, i.bytes)) = some (some (.agg #[.int .u32 0]), 1, 8) := by kernel_rfl
def secs (xs : List Int) : List Value := xs.map fun x => .int .u32 x
def allZ (xs : List Int) : Bool := xs.all (· == 0)
theorem secs_snoc (xs : List Int) (k : Nat) (h : k < xs.length) : secs (xs.take (k + 1)) = secs (xs.take k) ++ [.int .u32 (xs.getD k 0)] := by
  unfold secs
  rw [List.take_succ_eq_append_getElem h, List.map_append, List.getD_eq_getElem?_getD, List.getElem?_eq_getElem h]
  rfl
theorem allZ_snoc (xs : List Int) (k : Nat) (h : k < xs.length) : allZ (xs.take (k + 1)) = (allZ (xs.take k) && (xs.getD k 0 == 0)) := by
  unfold allZ
  rw [List.take_succ_eq_append_getElem h, List.all_append, List.getD_eq_getElem?_getD, List.getElem?_eq_getElem h]
  simp
theorem or_zero (a b : Int) (ha : 0 ≤ a) (ha' : a < 4294967296) (hb : 0 ≤ b) (hb' : b < 4294967296) : 0 ≤ Ct.Or a b ∧ Ct.Or a b < 4294967296 ∧ (Ct.Or a b = 0 ↔ a = 0 ∧ b = 0) := by
  obtain ⟨x, rfl⟩ := Int.eq_ofNat_of_zero_le ha
  obtain ⟨y, rfl⟩ := Int.eq_ofNat_of_zero_le hb
  have hx : x < 4294967296 := by omega
  have hy : y < 4294967296 := by omega
  rw [Ct.or_nat x y hx hy]
  have := Ct.or_lt x y hx hy
  refine ⟨by omega, by omega, ?_⟩
  rw [show ((x ||| y : Nat) : Int) = 0 ↔ (x ||| y) = 0 by omega, Nat.or_eq_zero_iff]
  omega
theorem orAll_zero (xs : List Int) (h : ∀ x ∈ xs, 0 ≤ x ∧ x < 4294967296) : 0 ≤ orAll xs ∧ orAll xs < 4294967296 ∧ (orAll xs == 0) = allZ xs := by
  have key : ∀ (l : List Int) (a : Int), (∀ x ∈ l, 0 ≤ x ∧ x < 4294967296) → 0 ≤ a → a < 4294967296 → 0 ≤ l.foldl Ct.Or a ∧ l.foldl Ct.Or a < 4294967296 ∧ (l.foldl Ct.Or a = 0 ↔ a = 0 ∧ ∀ x ∈ l, x = 0) := by
    intro l
    induction l with
    | nil => intro a _ h1 h2; simp [h1, h2]
    | cons x l ih =>
      intro a hl h1 h2
      have hx := hl x (by simp)
      obtain ⟨h3, h4, h5⟩ := or_zero a x h1 h2 hx.1 hx.2
      obtain ⟨h6, h7, h8⟩ := ih (Ct.Or a x) (fun y hy => hl y (by simp [hy])) h3 h4
      refine ⟨h6, h7, ?_⟩
      rw [List.foldl_cons, h8, h5]
      simp [and_assoc]
  obtain ⟨h1, h2, h3⟩ := key xs 0 h (by decide) (by decide)
  refine ⟨h1, h2, ?_⟩
  rw [Bool.eq_iff_iff]
  unfold orAll allZ
  simp only [beq_iff_eq, h3, List.all_eq_true]
  simp
set_option maxRecDepth 10000 in
set_option maxHeartbeats 1000000 in
theorem CtBlanks_any (w : World) (A : Option Addr) (n c : Nat) (xs : List Int) (h : Ints w .u32 A n xs) (hx : ∀ x ∈ xs, 0 ≤ x ∧ x < 4294967296) (hn : n ≤ 9223372036854775807) :
    Calls Try.prog 5 #[.slice A n c] w fun e w' => e = .returned (.bool true) ∧ Below w.heap.size w w' := by
  have hlen := h.1
  obtain ⟨b, off, hA⟩ : ∃ b off, 0 < n → A = some ⟨b, off, none⟩ ∧ b < w.heap.size ∧ ∀ j, j < n → w.cell? ⟨b, off + j, none⟩ = some (.int .u32 (xs.getD j 0)) := by
    rcases Nat.eq_zero_or_pos n with h0 | h0
    · exact ⟨0, 0, fun h1 => absurd h1 (by omega)⟩
    · obtain ⟨b, off, h1⟩ := h.2 h0
      exact ⟨b, off, fun _ => h1⟩
  have HA := Lib.hid hA
  have HL := Lib.hid hlen
  have HX := Lib.hid hx
  obtain ⟨i0, hi, hz0, hz1, hz2⟩ := info_parts Try.infoSec
  clear hA hlen h hx
  by_cases h100 : 100 < n
  · go_enter Try.func5, Try.ntmps5
    go_wp2_with (first | (go_at_call 15; refine (awake01_any _).mono ?_; rintro e w1 ⟨rfl, hb⟩; have hcf := bcell hb; have hz := hb.size; (try simp only [World.size_alloc, World.size_setCell, World.size_drew] at hz); have hbh := Lib.hid hb; clear hb; obtain ⟨hc, hf⟩ := hcf))
    go_ret
    refine ⟨rfl, ?_⟩
    (repeat' (first | exact Below.refl _ _ | refine bl_set (by (first | omega | (simp; done) | (simp; omega))) ?_ _ | refine bl_alloc (by (first | omega | (simp; done) | (simp; omega))) ?_ _ | refine bl_drewN ?_ _ | refine bl_drew ?_ | refine bl_then (by assumption) ?_ (by (first | omega | (simp; done) | (simp; omega))) | refine Step.bl (by assumption) (by assumption) (by (first | omega | (simp; done) | (simp; omega))) (by (first | omega | (simp; done) | (simp; omega))) ?_))
  go_enter Try.func5, Try.ntmps5
  go_wp2_with (first | (go_at_call 15; refine (awake01_any _).mono ?_; rintro e w1 ⟨rfl, hb⟩; have hcf := bcell hb; have hz := hb.size; (try simp only [World.size_alloc, World.size_setCell, World.size_drew] at hz); have hbh := Lib.hid hb; clear hb; obtain ⟨hc, hf⟩ := hcf))
  obtain ⟨w0, hw0⟩ : ∃ w0, w1 = w0 := ⟨_, rfl⟩
  have hbw : Hid (Below w.heap.size w w1) := by
    refine Lib.hid ?_
    (repeat' (first | exact Below.refl _ _ | refine bl_set (by (first | omega | (simp; done) | (simp; omega))) ?_ _ | refine bl_alloc (by (first | omega | (simp; done) | (simp; omega))) ?_ _ | refine bl_drewN ?_ _ | refine bl_drew ?_ | refine bl_then (by assumption) ?_ (by (first | omega | (simp; done) | (simp; omega))) | refine Step.bl (by assumption) (by assumption) (by (first | omega | (simp; done) | (simp; omega))) (by (first | omega | (simp; done) | (simp; omega))) ?_))
  clear hc hf hbh
  go_loopw [3, 4, 14] (fun s z i wr => ∃ (k : Nat) (v : Value), k ≤ n ∧ i = .int .i64 k ∧ z = .bool (allZ (xs.take k)) ∧ s = v ∧ wr.ownsRow w.heap.size 26 1 v k (secs (xs.take k)) ∧ Below w.heap.size w wr) (fun _ _ i _ => n - (intOf i).toNat)
  case atStart => exact ⟨0, _, Nat.zero_le _, rfl, rfl, rfl, World.ownsRow_nil _ _ _ _, hbw.out⟩
  case round =>
    obtain ⟨k, v, hk, rfl, rfl, rfl, hO, hW⟩ := hrel
    have hWs := hW.size
    have HW := Lib.hid hW
    have HO := Lib.hid hO
    clear hO hbw
    by_cases hlt : k < n
    · obtain ⟨rfl, hb, hcell⟩ := HA.out (by omega)
      have hc0 : wr.cell? ⟨b, off + k, none⟩ = some (.int .u32 (xs.getD k 0)) := (hW.cell (p := ⟨b, off + k, none⟩) hb).trans (hcell k hlt)
      have hsn := Lib.hid (secs_snoc xs k (by rw [HL.out]; exact hlt))
      have han := allZ_snoc xs k (by rw [HL.out]; exact hlt)
      obtain ⟨x, hx⟩ : ∃ x, xs.getD k 0 = x := ⟨_, rfl⟩
      rw [hx] at hc0 hsn han
      clear hW hcell hx
      cases hz : allZ (xs.take k)
      all_goals
        rw [hz] at han
        have Han := Lib.hid han
        clear han hz
        go_wp2_with (first | (go_at_call 16; refine (Of_any _ _).mono ?_; rintro e w1 ⟨rfl, hb⟩; have hcf := bcell hb; have hz := hb.size; (try simp only [World.size_alloc, World.size_setCell, World.size_drew] at hz); have hbh := Lib.hid hb; clear hb; obtain ⟨hc, hf⟩ := hcf) | (at_builtin; refine wpList_append_lies _ (by rfl) _ _ 37 (by rfl) w.heap.size 26 i0 _ 1 8 Try.underlying37 hi hz0 hz1 hz2 (by rfl) (by decide) _ k (secs (xs.take k)) (by rfl) ((pw_own HO.out hbh).alloc _) ⟨w1.heap.size, 0, none⟩ 1 1 [.int .u32 x] (by rfl) (by rfl) (World.news_of_block (heap_alloc_new _ _)) (by simp [Value.oneCell']) (by decide) (by simp only [maxLen]; omega) (by omega) (by simp; omega) (w1.heap.size + 1) (by simp) ?_; intro g cap w2 hown1 hg1 hat1 hlt1; have hO2 := Lib.hid hown1; have hG2 := Lib.hid hg1; clear hown1 hg1 hat1))
        go_roundw
        case rel =>
          refine ⟨k + 1, _, by omega, by go_num, by rw [Han.out]; simp, rfl, by rw [hsn.out]; exact hO2.out, ?_⟩
          refine bl_grown hG2 (own_base HO.out) (by simp; omega) ?_
          have HW' := HW
          (repeat' (first | exact Below.refl _ _ | refine bl_set (by (first | omega | (simp; done) | (simp; omega))) ?_ _ | refine bl_alloc (by (first | omega | (simp; done) | (simp; omega))) ?_ _ | refine bl_drewN ?_ _ | refine bl_drew ?_ | refine bl_then (by assumption) ?_ (by (first | omega | (simp; done) | (simp; omega))) | refine Step.bl (by assumption) (by assumption) (by (first | omega | (simp; done) | (simp; omega))) (by (first | omega | (simp; done) | (simp; omega))) ?_))
        case measure => simp [intOf]; omega
    · have hge : n ≤ k := by omega
      have hkn : k = n := by omega
      have hq : (orAll xs == 0) = allZ (xs.take k) := by
        rw [(orAll_zero xs HX.out).2.2, List.take_of_length_le (by rw [HL.out]; omega)]
      obtain ⟨A', c', rfl⟩ := own_slice HO.out
      have hI : Ints wr .u32 A' k xs := by
        refine Ints.of_own (c := c') (base := w.heap.size) (e := 26) ?_
        have := HO.out
        unfold secs at this
        rwa [List.take_of_length_le (by rw [HL.out]; omega)] at this
      have HI := Lib.hid hI
      have HKN := Lib.hid hkn
      clear hkn hI hW
      go_wp2_with (go_at_call 27; refine (Blank_any _ _ _ _ _ HI.out (by omega)).mono ?_; rintro e w2 ⟨rfl, hb2⟩; have hbh2 := Lib.hid hb2; clear hb2)
      go_ret
      refine ⟨rfl, ?_⟩
      (repeat' (first | exact Below.refl _ _ | refine bl_set (by (first | omega | (simp; done) | (simp; omega))) ?_ _ | refine bl_alloc (by (first | omega | (simp; done) | (simp; omega))) ?_ _ | refine bl_drewN ?_ _ | refine bl_drew ?_ | refine bl_then (by assumption) ?_ (by (first | omega | (simp; done) | (simp; omega))) | refine Step.bl (by assumption) (by assumption) (by (first | omega | (simp; done) | (simp; omega))) (by (first | omega | (simp; done) | (simp; omega))) ?_))
end Go.Proofs.Ytcaaapfminenoaa
