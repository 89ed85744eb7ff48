/- Package pack: what it does to an arena's words, and what it notes. Plain. No condition. -/
import Derived.Test.YtjoehhojhfgooaaArS
namespace Go.Proofs.Ytjoehhojhfgooaa
namespace Pk
/-- One kept word, lane by lane. -/
def bL (L : Nat → Nat) (i : Nat) (x : Int) (ws : List Int) : Nat → List Int
  | 0 => ws
  | j + 1 => (bL L i x ws j).set (L j + i) (Ct.And x ((bL L i x ws j).getD (L j + i) 0))
theorem bL_zero (L : Nat → Nat) (i : Nat) (x : Int) (ws : List Int) : bL L i x ws 0 = ws := rfl
theorem bL_succ (L : Nat → Nat) (i : Nat) (x : Int) (ws W : List Int) (j : Nat) (h : bL L i x ws j = W) : bL L i x ws (j + 1) = W.set (L j + i) (Ct.And x (W.getD (L j + i) 0)) := by subst h; rfl
theorem bL_len (L : Nat → Nat) (i : Nat) (x : Int) (ws : List Int) : ∀ j, (bL L i x ws j).length = ws.length
  | 0 => rfl
  | j + 1 => by rw [bL_succ _ _ _ _ _ _ rfl, List.length_set, bL_len L i x ws j]
def bLe (L : Nat → Nat) (i : Nat) : Nat → List Ev
  | 0 => []
  | j + 1 => bLe L i j ++ [⟨1, ((L j + i : Nat) : Int), 0⟩, ⟨2, ((L j + i : Nat) : Int), 0⟩]
theorem bLe_zero (L : Nat → Nat) (i : Nat) : bLe L i 0 = [] := rfl
theorem bLe_succ (L : Nat → Nat) (i j : Nat) : bLe L i (j + 1) = bLe L i j ++ [⟨1, ((L j + i : Nat) : Int), 0⟩, ⟨2, ((L j + i : Nat) : Int), 0⟩] := rfl
theorem bLe_len (L : Nat → Nat) (i : Nat) : ∀ j, (bLe L i j).length = 2 * j
  | 0 => rfl
  | j + 1 => by rw [bLe_succ, List.length_append, bLe_len L i j]; simp; omega
structure B where
  ws : List Int
  gaps : Int
  kept : Int
def bx (keep i : Nat) (W : List Int) : Int := Ct.Sub 0 (Ct.And (W.getD (keep + i) 0) 1)
/-- Begin: the words, the gaps and how many are kept behind k words. -/
def bg (keep far : Nat) (L : Nat → Nat) (m : Nat) (ws : List Int) : Nat → B
  | 0 => ⟨ws, 0, 0⟩
  | k + 1 => ⟨bL L k (bx keep k (bg keep far L m ws k).ws) (((bg keep far L m ws k).ws.set (keep + k) (bx keep k (bg keep far L m ws k).ws)).set (far + k) (Ct.And (bx keep k (bg keep far L m ws k).ws) (bg keep far L m ws k).gaps)) m,
      Ct.Add (bg keep far L m ws k).gaps (Ct.And (Ct.Not (bx keep k (bg keep far L m ws k).ws)) 1), Ct.Sub (bg keep far L m ws k).kept (bx keep k (bg keep far L m ws k).ws)⟩
theorem bg_zero (keep far : Nat) (L : Nat → Nat) (m : Nat) (ws : List Int) : bg keep far L m ws 0 = ⟨ws, 0, 0⟩ := rfl
theorem bg_succ (keep far : Nat) (L : Nat → Nat) (m : Nat) (ws : List Int) (k : Nat) (V : List Int) (gp kp : Int) (h : bg keep far L m ws k = ⟨V, gp, kp⟩) :
    bg keep far L m ws (k + 1) = ⟨bL L k (bx keep k V) ((V.set (keep + k) (bx keep k V)).set (far + k) (Ct.And (bx keep k V) gp)) m, Ct.Add gp (Ct.And (Ct.Not (bx keep k V)) 1), Ct.Sub kp (bx keep k V)⟩ := by
  show B.mk _ _ _ = _
  rw [h]
theorem bg_len (keep far : Nat) (L : Nat → Nat) (m : Nat) (ws : List Int) : ∀ k, (bg keep far L m ws k).ws.length = ws.length
  | 0 => rfl
  | k + 1 => by
    obtain ⟨⟨V, gp, kp⟩, h⟩ : ∃ r, bg keep far L m ws k = r := ⟨_, rfl⟩
    have := bg_len keep far L m ws k
    rw [h] at this
    rw [bg_succ _ _ _ _ _ _ _ _ _ h, bL_len, List.length_set, List.length_set]
    exact this
def bge (keep far : Nat) (L : Nat → Nat) (m : Nat) : Nat → List Ev
  | 0 => []
  | k + 1 => bge keep far L m k ++ ([⟨1, ((keep + k : Nat) : Int), 0⟩, ⟨2, ((keep + k : Nat) : Int), 0⟩, ⟨2, ((far + k : Nat) : Int), 0⟩] ++ bLe L k m)
theorem bge_zero (keep far : Nat) (L : Nat → Nat) (m : Nat) : bge keep far L m 0 = [] := rfl
theorem bge_succ (keep far : Nat) (L : Nat → Nat) (m k : Nat) : bge keep far L m (k + 1) = bge keep far L m k ++ ([⟨1, ((keep + k : Nat) : Int), 0⟩, ⟨2, ((keep + k : Nat) : Int), 0⟩, ⟨2, ((far + k : Nat) : Int), 0⟩] ++ bLe L k m) := rfl
theorem bge_len (keep far : Nat) (L : Nat → Nat) (m : Nat) : ∀ k, (bge keep far L m k).length = k * (3 + 2 * m)
  | 0 => by rw [bge_zero]; simp
  | k + 1 => by rw [bge_succ, List.length_append, List.length_append, bge_len keep far L m k, bLe_len, Nat.add_mul, Nat.one_mul]; simp
/-- One step of move, lane by lane. -/
def mL (L : Nat → Nat) (i to : Nat) (x : Int) (ws : List Int) : Nat → List Int
  | 0 => ws
  | j + 1 => ((mL L i to x ws j).set (L j + to) (Ct.Sel x ((mL L i to x ws j).getD (L j + i) 0) ((mL L i to x ws j).getD (L j + to) 0))).set (L j + i) (Ct.And (Ct.Not x) ((mL L i to x ws j).getD (L j + i) 0))
theorem mL_zero (L : Nat → Nat) (i to : Nat) (x : Int) (ws : List Int) : mL L i to x ws 0 = ws := rfl
theorem mL_succ (L : Nat → Nat) (i to : Nat) (x : Int) (ws W : List Int) (j : Nat) (h : mL L i to x ws j = W) :
    mL L i to x ws (j + 1) = (W.set (L j + to) (Ct.Sel x (W.getD (L j + i) 0) (W.getD (L j + to) 0))).set (L j + i) (Ct.And (Ct.Not x) (W.getD (L j + i) 0)) := by subst h; rfl
theorem mL_len (L : Nat → Nat) (i to : Nat) (x : Int) (ws : List Int) : ∀ j, (mL L i to x ws j).length = ws.length
  | 0 => rfl
  | j + 1 => by rw [mL_succ _ _ _ _ _ _ _ rfl, List.length_set, List.length_set, mL_len L i to x ws j]
def mLe (L : Nat → Nat) (i to : Nat) : Nat → List Ev
  | 0 => []
  | j + 1 => mLe L i to j ++ [⟨1, ((L j + i : Nat) : Int), 0⟩, ⟨1, ((L j + to : Nat) : Int), 0⟩, ⟨2, ((L j + to : Nat) : Int), 0⟩, ⟨2, ((L j + i : Nat) : Int), 0⟩]
theorem mLe_zero (L : Nat → Nat) (i to : Nat) : mLe L i to 0 = [] := rfl
theorem mLe_succ (L : Nat → Nat) (i to j : Nat) : mLe L i to (j + 1) = mLe L i to j ++ [⟨1, ((L j + i : Nat) : Int), 0⟩, ⟨1, ((L j + to : Nat) : Int), 0⟩, ⟨2, ((L j + to : Nat) : Int), 0⟩, ⟨2, ((L j + i : Nat) : Int), 0⟩] := rfl
theorem mLe_len (L : Nat → Nat) (i to : Nat) : ∀ j, (mLe L i to j).length = 4 * j
  | 0 => rfl
  | j + 1 => by rw [mLe_succ, List.length_append, mLe_len L i to j]; simp; omega
def mx (far bit i : Nat) (W : List Int) : Int := Ct.Sub 0 (Ct.And (Ct.Shr (W.getD (far + i) 0) bit) 1)
/-- Move: the words behind k steps; the first one is at 2^bit. -/
def mv (far bit : Nat) (L : Nat → Nat) (m : Nat) (ws : List Int) : Nat → List Int
  | 0 => ws
  | k + 1 => mL L (2 ^ bit + k) k (mx far bit (2 ^ bit + k) (mv far bit L m ws k)) (mv far bit L m ws k) m
theorem mv_zero (far bit : Nat) (L : Nat → Nat) (m : Nat) (ws : List Int) : mv far bit L m ws 0 = ws := rfl
theorem mv_succ (far bit : Nat) (L : Nat → Nat) (m : Nat) (ws W : List Int) (k : Nat) (h : mv far bit L m ws k = W) : mv far bit L m ws (k + 1) = mL L (2 ^ bit + k) k (mx far bit (2 ^ bit + k) W) W m := by subst h; rfl
theorem mv_len (far bit : Nat) (L : Nat → Nat) (m : Nat) (ws : List Int) : ∀ k, (mv far bit L m ws k).length = ws.length
  | 0 => rfl
  | k + 1 => by rw [mv_succ _ _ _ _ _ _ _ rfl, mL_len, mv_len far bit L m ws k]
def mve (far bit : Nat) (L : Nat → Nat) (m : Nat) : Nat → List Ev
  | 0 => []
  | k + 1 => mve far bit L m k ++ ([⟨1, ((far + (2 ^ bit + k) : Nat) : Int), 0⟩] ++ mLe L (2 ^ bit + k) k m)
theorem mve_zero (far bit : Nat) (L : Nat → Nat) (m : Nat) : mve far bit L m 0 = [] := rfl
theorem mve_succ (far bit : Nat) (L : Nat → Nat) (m k : Nat) : mve far bit L m (k + 1) = mve far bit L m k ++ ([⟨1, ((far + (2 ^ bit + k) : Nat) : Int), 0⟩] ++ mLe L (2 ^ bit + k) k m) := rfl
theorem mve_len (far bit : Nat) (L : Nat → Nat) (m : Nat) : ∀ k, (mve far bit L m k).length = k * (1 + 4 * m)
  | 0 => by rw [mve_zero]; simp
  | k + 1 => by rw [mve_succ, List.length_append, List.length_append, mve_len far bit L m k, mLe_len, Nat.add_mul, Nat.one_mul]; simp
/-- All bits. -/
def mvs (far n : Nat) (L : Nat → Nat) (m : Nat) (ws : List Int) : Nat → List Int
  | 0 => ws
  | b + 1 => mv far b L m (mvs far n L m ws b) (n - 2 ^ b)
theorem mvs_zero (far n : Nat) (L : Nat → Nat) (m : Nat) (ws : List Int) : mvs far n L m ws 0 = ws := rfl
theorem mvs_succ (far n : Nat) (L : Nat → Nat) (m : Nat) (ws W : List Int) (b : Nat) (h : mvs far n L m ws b = W) : mvs far n L m ws (b + 1) = mv far b L m W (n - 2 ^ b) := by subst h; rfl
theorem mvs_len (far n : Nat) (L : Nat → Nat) (m : Nat) (ws : List Int) : ∀ b, (mvs far n L m ws b).length = ws.length
  | 0 => rfl
  | b + 1 => by rw [mvs_succ _ _ _ _ _ _ _ rfl, mv_len, mvs_len far n L m ws b]
def mvse (far n : Nat) (L : Nat → Nat) (m : Nat) : Nat → List Ev
  | 0 => []
  | b + 1 => mvse far n L m b ++ mve far b L m (n - 2 ^ b)
theorem mvse_zero (far n : Nat) (L : Nat → Nat) (m : Nat) : mvse far n L m 0 = [] := rfl
theorem mvse_succ (far n : Nat) (L : Nat → Nat) (m b : Nat) : mvse far n L m (b + 1) = mvse far n L m b ++ mve far b L m (n - 2 ^ b) := rfl
end Pk
end Go.Proofs.Ytjoehhojhfgooaa
