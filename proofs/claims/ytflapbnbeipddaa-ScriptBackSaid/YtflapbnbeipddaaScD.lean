/- Ops as bytes, in plain Lean: what is decoded from what was encoded, and the other way round. No condition. -/
import Derived.Test.YtflapbnbeipddaaKit
namespace Go.Proofs.Ytflapbnbeipddaa
set_option linter.unusedSimpArgs false
set_option linter.unusedVariables false
namespace Sc
abbrev Bs := List UInt8
structure Op where
  k : Int
  p : Int
  c : Int
  l : Int
  s : Bs
  o : Int
  sa : Bs
  it : Int
  r : Bs
  ot : Bs
  on : Int
def num (o : Op) : Nat → Int
  | 0 => o.k
  | 1 => o.p
  | 2 => o.c
  | 3 => o.o
  | 4 => o.l
  | 5 => o.it
  | 6 => o.on
  | _ => 0
def siz : Nat → Nat
  | 0 => 1
  | 1 => 1
  | 2 => 2
  | 3 => 2
  | 4 => 4
  | 5 => 4
  | 6 => 4
  | _ => 0
def txt (o : Op) : Nat → Bs
  | 0 => o.s
  | 1 => o.sa
  | 2 => o.r
  | 3 => o.ot
  | _ => []
/-- The c lowest bytes of a number, the highest one first. -/
def be : Nat → Nat → Bs
  | 0, _ => []
  | c + 1, n => be c (n / 256) ++ [UInt8.ofNat (n % 256)]
def val (l : Bs) : Nat := l.foldl (fun a b => a * 256 + b.toNat) 0
theorem be_len : ∀ c n, (be c n).length = c
  | 0, _ => rfl
  | c + 1, n => by simp [be, be_len c]
theorem val_snoc (l : Bs) (b : UInt8) : val (l ++ [b]) = val l * 256 + b.toNat := by simp [val]
theorem val_be : ∀ c n, n < 256 ^ c → val (be c n) = n
  | 0, n, h => by simp at h; subst h; rfl
  | c + 1, n, h => by
    have h1 : n / 256 < 256 ^ c := by rw [Nat.div_lt_iff_lt_mul (by decide)]; rw [Nat.pow_succ] at h; omega
    rw [be, val_snoc, val_be c _ h1]
    have : (UInt8.ofNat (n % 256)).toNat = n % 256 := by simp [UInt8.toNat_ofNat']
    rw [this]
    omega
theorem val_lt : ∀ (n : Nat) (l : Bs), l.length = n → val l < 256 ^ n := by
  intro n
  induction n with
  | zero => intro l h; have : l = [] := by simpa using h
            subst this; simp [val]
  | succ n ih =>
    intro l h
    obtain ⟨m, b, rfl⟩ : ∃ m b, l = m ++ [b] := ⟨l.dropLast, l.getLast (by intro e; simp [e] at h), (List.dropLast_concat_getLast _).symm⟩
    have := ih m (by simpa using h)
    rw [val_snoc, Nat.pow_succ]
    have hb := b.toNat_lt
    omega
theorem be_val : ∀ (n : Nat) (l : Bs), l.length = n → be n (val l) = l := by
  intro n
  induction n with
  | zero => intro l h; have : l = [] := by simpa using h
            subst this; rfl
  | succ n ih =>
    intro l h
    obtain ⟨m, b, rfl⟩ : ∃ m b, l = m ++ [b] := ⟨l.dropLast, l.getLast (by intro e; simp [e] at h), (List.dropLast_concat_getLast _).symm⟩
    have hb := b.toNat_lt
    rw [val_snoc, be, show (val m * 256 + b.toNat) / 256 = val m by omega, ih m (by simpa using h), show (val m * 256 + b.toNat) % 256 = b.toNat by omega]
    simp
/-- An op's bytes up to its j-th number; up to its j-th text. -/
def nums (o : Op) : Nat → Bs
  | 0 => []
  | j + 1 => nums o j ++ be (siz j) (num o j).toNat
def txts (o : Op) : Nat → Bs
  | 0 => nums o 7
  | j + 1 => txts o j ++ (be 2 (txt o j).length ++ txt o j)
def enc1 (o : Op) : Bs := txts o 4
def fit (o : Op) : Prop := (∀ j, j < 7 → 0 ≤ num o j ∧ num o j < ((256 ^ siz j : Nat) : Int)) ∧ ∀ j, j < 4 → (txt o j).length < 65536
/-- Read: the value of bytes at a place. -/
def v (l : Bs) (a c : Nat) : Nat := val ((l.drop a).take c)
def off : Nat → Nat
  | 0 => 0
  | j + 1 => off j + siz j
def at_ (l : Bs) : Nat → Nat
  | 0 => 18
  | j + 1 => at_ l j + 2 + v l (at_ l j) 2
def good (l : Bs) : Prop := at_ l 4 ≤ l.length
def tx (l : Bs) (j : Nat) : Bs := (l.drop (at_ l j + 2)).take (v l (at_ l j) 2)
def opOf (l : Bs) : Op where
  k := v l 0 1
  p := v l 1 1
  c := v l 2 2
  l := v l 6 4
  s := tx l 0
  o := v l 4 2
  sa := tx l 1
  it := v l 10 4
  r := tx l 2
  ot := tx l 3
  on := v l 14 4
theorem at_mono (l : Bs) (i j : Nat) (h : i ≤ j) : at_ l i ≤ at_ l j := by
  induction h with
  | refl => exact Nat.le_refl _
  | step _ ih => exact Nat.le_trans ih (by rw [at_]; omega)
theorem at_ge (l : Bs) : 26 ≤ at_ l 4 := by simp only [at_]; omega
theorem num_of (l : Bs) : ∀ j, j < 7 → num (opOf l) j = v l (off j) (siz j) := fun j h => by
  match j with
  | 0 => rfl
  | 1 => rfl
  | 2 => rfl
  | 3 => rfl
  | 4 => rfl
  | 5 => rfl
  | 6 => rfl
  | j + 7 => omega
theorem txt_of (l : Bs) : ∀ j, j < 4 → txt (opOf l) j = tx l j := fun j h => by
  match j with
  | 0 => rfl
  | 1 => rfl
  | 2 => rfl
  | 3 => rfl
  | j + 4 => omega
theorem v_lt (l : Bs) (a c : Nat) : v l a c < 256 ^ c := by
  have h1 := val_lt _ ((l.drop a).take c) rfl
  have h2 : ((l.drop a).take c).length ≤ c := by simp; omega
  exact Nat.lt_of_lt_of_le h1 (Nat.pow_le_pow_right (by decide) h2)
theorem be_v (l : Bs) (a c : Nat) (h : a + c ≤ l.length) : be c (v l a c) = (l.drop a).take c := be_val _ _ (by simp; omega)
theorem take_add_ (l : Bs) (a c : Nat) : l.take a ++ (l.drop a).take c = l.take (a + c) := by rw [List.take_add]
theorem off_le : ∀ j, j < 7 → off j + siz j ≤ 18 := fun j h => by
  match j with
  | 0 => decide
  | 1 => decide
  | 2 => decide
  | 3 => decide
  | 4 => decide
  | 5 => decide
  | 6 => decide
  | j + 7 => omega
theorem nums_of (l : Bs) (h : 18 ≤ l.length) : ∀ j, j ≤ 7 → nums (opOf l) j = l.take (off j)
  | 0, _ => by simp [nums, off]
  | j + 1, hj => by
    have h1 := off_le j (by omega)
    rw [nums, nums_of l h j (by omega), num_of l j (by omega), Int.toNat_natCast, be_v _ _ _ (by omega), take_add_]
    rfl
theorem txts_of (l : Bs) (h : good l) : ∀ j, j ≤ 4 → txts (opOf l) j = l.take (at_ l j)
  | 0, _ => by
    have := at_ge l
    have h' : at_ l 4 ≤ l.length := h
    rw [txts, nums_of l (by omega) 7 (by omega)]
    rfl
  | j + 1, hj => by
    have h1 := at_mono l (j + 1) 4 (by omega)
    have h' : at_ l 4 ≤ l.length := h
    have h2 : at_ l (j + 1) = at_ l j + 2 + v l (at_ l j) 2 := rfl
    have h3 : (tx l j).length = v l (at_ l j) 2 := by rw [tx, List.length_take, List.length_drop]; omega
    rw [txts, txts_of l h j (by omega), txt_of l j (by omega), h3, be_v _ _ _ (by omega), h2, tx, ← List.append_assoc, take_add_, take_add_]
/-- What was decoded is encoded to the same bytes. -/
theorem enc_of (l : Bs) (h : good l) : enc1 (opOf l) = l.take (at_ l 4) := txts_of l h 4 (by omega)
theorem fit_of (l : Bs) : fit (opOf l) := by
  refine ⟨fun j hj => ?_, fun j hj => ?_⟩
  · rw [num_of l j hj]
    have := v_lt l (off j) (siz j)
    exact ⟨Int.natCast_nonneg _, Int.ofNat_lt.2 this⟩
  · rw [txt_of l j hj]
    have := v_lt l (at_ l j) 2
    simp only [tx, List.length_take]
    omega
/-- The other way round. -/
theorem nums_len (o : Op) : ∀ j, (nums o j).length = off j
  | 0 => rfl
  | j + 1 => by simp [nums, nums_len o j, be_len, off]
theorem v_app (a b : Bs) (c : Nat) (t : Bs) (hb : b.length = c) : v (a ++ b ++ t) a.length c = val b := by
  unfold v
  rw [List.append_assoc, List.drop_left]
  subst hb
  rw [List.take_left]
theorem nums_split (o : Op) : ∀ j, j ≤ 7 → ∃ t, nums o 7 = nums o j ++ t := fun j hj => by
  have : ∀ d j, j + d = 7 → ∃ t, nums o 7 = nums o j ++ t := by
    intro d
    induction d with
    | zero => intro j h; have : j = 7 := by omega
              subst this; exact ⟨[], by simp⟩
    | succ d ih =>
      intro j h
      obtain ⟨t, ht⟩ := ih (j + 1) (by omega)
      exact ⟨be (siz j) (num o j).toNat ++ t, by rw [ht, nums, List.append_assoc]⟩
  exact this (7 - j) j (by omega)
theorem txts_split (o : Op) : ∀ j, j ≤ 4 → ∃ t, enc1 o = txts o j ++ t := fun j hj => by
  have : ∀ d j, j + d = 4 → ∃ t, txts o 4 = txts o j ++ t := by
    intro d
    induction d with
    | zero => intro j h; have : j = 4 := by omega
              subst this; exact ⟨[], by simp⟩
    | succ d ih =>
      intro j h
      obtain ⟨t, ht⟩ := ih (j + 1) (by omega)
      exact ⟨(be 2 (txt o j).length ++ txt o j) ++ t, by rw [ht, txts, List.append_assoc]⟩
  exact this (4 - j) j (by omega)
theorem v_num (o : Op) (h : fit o) (t : Bs) (j : Nat) (hj : j < 7) : (v (enc1 o ++ t) (off j) (siz j) : Int) = num o j := by
  obtain ⟨t1, h1⟩ := nums_split o (j + 1) (by omega)
  obtain ⟨t2, h2⟩ := txts_split o 0 (by omega)
  have h3 : enc1 o ++ t = nums o j ++ be (siz j) (num o j).toNat ++ (t1 ++ (t2 ++ t)) := by
    rw [h2, show txts o 0 = nums o 7 from rfl, h1, nums]
    simp only [List.append_assoc]
  have h4 := h.1 j hj
  have h5 := v_app (nums o j) (be (siz j) (num o j).toNat) (siz j) (t1 ++ (t2 ++ t)) (be_len _ _)
  rw [nums_len] at h5
  have h6 : (num o j).toNat < 256 ^ siz j := by
    have : ((num o j).toNat : Int) < ((256 ^ siz j : Nat) : Int) := by rw [Int.toNat_of_nonneg h4.1]; exact h4.2
    exact Int.ofNat_lt.1 this
  rw [h3, h5, val_be _ _ h6, Int.toNat_of_nonneg h4.1]
theorem at_enc (o : Op) (h : fit o) (t : Bs) : ∀ j, j ≤ 4 → at_ (enc1 o ++ t) j = (txts o j).length
  | 0, _ => by show 18 = (nums o 7).length; rw [nums_len]; rfl
  | j + 1, hj => by
    obtain ⟨t1, h1⟩ := txts_split o (j + 1) (by omega)
    have h3 : enc1 o ++ t = txts o j ++ be 2 (txt o j).length ++ (txt o j ++ (t1 ++ t)) := by
      rw [h1, txts]
      simp only [List.append_assoc]
    have h4 := v_app (txts o j) (be 2 (txt o j).length) 2 (txt o j ++ (t1 ++ t)) (be_len _ _)
    rw [← h3, ← at_enc o h t j (by omega), val_be _ _ (h.2 j (by omega))] at h4
    rw [at_, h4, at_enc o h t j (by omega), txts, List.length_append, List.length_append, be_len]
    omega
theorem tx_enc (o : Op) (h : fit o) (t : Bs) (j : Nat) (hj : j < 4) : tx (enc1 o ++ t) j = txt o j := by
  obtain ⟨t1, h1⟩ := txts_split o (j + 1) (by omega)
  have h3 : enc1 o ++ t = (txts o j ++ be 2 (txt o j).length) ++ (txt o j ++ (t1 ++ t)) := by
    rw [h1, txts]
    simp only [List.append_assoc]
  have h2 := at_enc o h t (j + 1) (by omega)
  have h2' := at_enc o h t j (by omega)
  have h4 : at_ (enc1 o ++ t) (j + 1) = at_ (enc1 o ++ t) j + 2 + v (enc1 o ++ t) (at_ (enc1 o ++ t) j) 2 := rfl
  have h5 : v (enc1 o ++ t) (at_ (enc1 o ++ t) j) 2 = (txt o j).length := by
    have : (txts o (j + 1)).length = (txts o j).length + (2 + (txt o j).length) := by rw [txts, List.length_append, List.length_append, be_len]
    omega
  rw [tx, h5, h2', h3, show (txts o j).length + 2 = (txts o j ++ be 2 (txt o j).length).length by rw [List.length_append, be_len], List.drop_left, List.take_left]
theorem op_ext {a b : Op} (h1 : ∀ j, j < 7 → num a j = num b j) (h2 : ∀ j, j < 4 → txt a j = txt b j) : a = b := by
  obtain ⟨k, p, c, l, s, o, sa, it, r, ot, on⟩ := a
  obtain ⟨k', p', c', l', s', o', sa', it', r', ot', on'⟩ := b
  have e0 := h1 0 (by omega)
  have e1 := h1 1 (by omega)
  have e2 := h1 2 (by omega)
  have e3 := h1 3 (by omega)
  have e4 := h1 4 (by omega)
  have e5 := h1 5 (by omega)
  have e6 := h1 6 (by omega)
  have f0 := h2 0 (by omega)
  have f1 := h2 1 (by omega)
  have f2 := h2 2 (by omega)
  have f3 := h2 3 (by omega)
  simp only [num, txt] at e0 e1 e2 e3 e4 e5 e6 f0 f1 f2 f3
  subst e0 e1 e2 e3 e4 e5 e6 f0 f1 f2 f3
  rfl
theorem enc_good (o : Op) (h : fit o) (t : Bs) : good (enc1 o ++ t) ∧ at_ (enc1 o ++ t) 4 = (enc1 o).length ∧ opOf (enc1 o ++ t) = o := by
  have h4 := at_enc o h t 4 (by omega)
  refine ⟨by show _ ≤ _; rw [h4]; simp [enc1], h4, op_ext (fun j hj => ?_) (fun j hj => ?_)⟩
  · rw [num_of _ j hj, v_num o h t j hj]
  · rw [txt_of _ j hj, tx_enc o h t j hj]
/-- Where the k-th op begins. -/
def P (l : Bs) : Nat → Nat
  | 0 => 0
  | k + 1 => P l k + at_ (l.drop (P l k)) 4
def Goods (l : Bs) (k : Nat) : Prop := (∀ i, i < k → good (l.drop (P l i))) ∧ P l k ≤ l.length
def op (l : Bs) (k : Nat) : Op := opOf (l.drop (P l k))
theorem Goods.zero (l : Bs) : Goods l 0 := ⟨fun i h => absurd h (Nat.not_lt_zero i), Nat.zero_le _⟩
theorem Goods.succ {l : Bs} {k : Nat} (h : Goods l k) (hg : good (l.drop (P l k))) : Goods l (k + 1) := by
  refine ⟨fun i hi => ?_, ?_⟩
  · by_cases e : i = k
    · subst e; exact hg
    · exact h.1 i (by omega)
  · have h1 : at_ (l.drop (P l k)) 4 ≤ (l.drop (P l k)).length := hg
    have h2 := h.2
    rw [List.length_drop] at h1
    show P l k + at_ (l.drop (P l k)) 4 ≤ l.length
    omega
theorem P_grow (l : Bs) (k : Nat) : P l k + 26 ≤ P l (k + 1) := by
  have := at_ge (l.drop (P l k))
  show P l k + 26 ≤ P l k + at_ (l.drop (P l k)) 4
  omega
theorem P_ge (l : Bs) : ∀ k, 26 * k ≤ P l k
  | 0 => Nat.zero_le _
  | k + 1 => by have := P_ge l k; have := P_grow l k; omega
theorem ends_one {l : Bs} {k m : Nat} (h : Goods l k) (hk : ¬ good (l.drop (P l k))) (h' : Goods l m) (hm : ¬ good (l.drop (P l m))) : k = m := by
  rcases Nat.lt_trichotomy k m with h1 | h1 | h1
  · exact absurd (h'.1 k h1) hk
  · exact h1
  · exact absurd (h.1 m h1) hm
/-- The bytes of ops. -/
def enc (f : Nat → Op) : Nat → Bs
  | 0 => []
  | k + 1 => enc f k ++ enc1 (f k)
theorem enc_take {l : Bs} : ∀ {k : Nat}, Goods l k → enc (op l) k = l.take (P l k)
  | 0, _ => by simp [enc, P]
  | k + 1, h => by
    have h1 : Goods l k := ⟨fun i hi => h.1 i (by omega), by have := h.2; have := P_grow l k; omega⟩
    rw [enc, enc_take h1, op, enc_of _ (h.1 k (by omega)), take_add_]
    rfl
theorem enc_split (f : Nat → Op) : ∀ (d k : Nat), ∃ t, enc f (k + d) = enc f k ++ t
  | 0, k => ⟨[], by simp⟩
  | d + 1, k => by
    obtain ⟨t, ht⟩ := enc_split f d k
    exact ⟨t ++ enc1 (f (k + d)), by rw [← Nat.add_assoc, enc, ht, List.append_assoc]⟩
theorem back (f : Nat → Op) (n : Nat) (hf : ∀ i, i < n → fit (f i)) : ∀ k, k ≤ n → Goods (enc f n) k ∧ P (enc f n) k = (enc f k).length ∧ ∀ i, i < k → op (enc f n) i = f i
  | 0, _ => ⟨Goods.zero _, rfl, fun i h => absurd h (Nat.not_lt_zero i)⟩
  | k + 1, hk => by
    obtain ⟨h1, h2, h3⟩ := back f n hf k (by omega)
    obtain ⟨t, ht⟩ := enc_split f (n - (k + 1)) (k + 1)
    rw [show k + 1 + (n - (k + 1)) = n by omega] at ht
    have hd : (enc f n).drop (P (enc f n) k) = enc1 (f k) ++ t := by
      rw [h2, ht, enc, List.append_assoc, List.drop_left]
    obtain ⟨g1, g2, g3⟩ := enc_good (f k) (hf k (by omega)) t
    refine ⟨h1.succ (by rw [hd]; exact g1), ?_, fun i hi => ?_⟩
    · show P (enc f n) k + at_ ((enc f n).drop (P (enc f n) k)) 4 = _
      rw [hd, g2, h2, enc, List.length_append]
    · by_cases e : i = k
      · subst e; rw [op, hd, g3]
      · exact h3 i (by omega)
theorem back_end (f : Nat → Op) (n : Nat) (hf : ∀ i, i < n → fit (f i)) : ¬ good ((enc f n).drop (P (enc f n) n)) := by
  obtain ⟨_, h2, _⟩ := back f n hf n (Nat.le_refl n)
  rw [h2, List.drop_length]
  intro h
  have := at_ge ([] : Bs)
  have h' : at_ ([] : Bs) 4 ≤ ([] : Bs).length := h
  simp at h'
  omega
end Sc
end Go.Proofs.Ytflapbnbeipddaa
