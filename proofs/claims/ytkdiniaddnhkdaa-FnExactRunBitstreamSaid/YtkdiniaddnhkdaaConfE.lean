/- Rows of tiles that a call owns: their cells, and the slices that these hold, all apart. -/
import Derived.Test.YtkdiniaddnhkdaaConf
namespace Go.Proofs.Ytkdiniaddnhkdaa
open Go.RowKit
set_option maxRecDepth 100000
set_option linter.unusedVariables false
set_option linter.unusedSimpArgs false
def vnil : Value := .slice none 0 0
/-- The cells of a row of tiles, whose slices are us. -/
def cellsT : List Tile → List Value → List Value
  | x :: xs, a :: b :: us => .int .i64 x.tb :: a :: .bool x.rg :: b :: cellsT xs us
  | _, _ => []
/-- The slices of a row of tiles. -/
def flT : List Tile → List (List Int)
  | [] => []
  | x :: xs => x.sl :: x.dr :: flT xs
theorem flT_length : ∀ ts : List Tile, (flT ts).length = 2 * ts.length
  | [] => rfl
  | x :: xs => by simp only [flT, List.length_cons, flT_length xs]; omega
theorem flT_get : ∀ (ts : List Tile) (j : Nat), j < ts.length → (flT ts).getD (2 * j) [] = (ts.getD j tile0).sl ∧ (flT ts).getD (2 * j + 1) [] = (ts.getD j tile0).dr
  | [], j, h => by simp at h
  | x :: xs, 0, _ => ⟨rfl, rfl⟩
  | x :: xs, j + 1, h => by
    have := flT_get xs j (by simpa using h)
    have e : 2 * (j + 1) = 2 * j + 1 + 1 := by omega
    rw [e]
    exact this
theorem flT_set : ∀ (ts : List Tile) (j : Nat) (x : Tile), flT (ts.set j x) = ((flT ts).set (2 * j) x.sl).set (2 * j + 1) x.dr
  | [], j, x => by simp [flT]
  | y :: ys, 0, x => by simp [flT]
  | y :: ys, j + 1, x => by
    have e : 2 * (j + 1) = 2 * j + 1 + 1 := by omega
    rw [e, List.set_cons_succ]
    show _ :: _ :: flT (ys.set j x) = _
    rw [flT_set ys j x]; rfl
theorem cellsT_length : ∀ (ts : List Tile) (us : List Value), us.length = 2 * ts.length → (cellsT ts us).length = ts.length * 4
  | [], [], _ => rfl
  | [], _ :: _, h => by simp at h
  | x :: xs, [], h => by simp at h
  | x :: xs, [_], h => by simp at h; omega
  | x :: xs, a :: b :: us, h => by
    have := cellsT_length xs us (by simp at h; omega)
    simp only [cellsT, List.length_cons, this]; omega
theorem cellsT_get : ∀ (ts : List Tile) (us : List Value), us.length = 2 * ts.length → ∀ j, j < ts.length → (cellsT ts us)[j * 4]? = some (.int .i64 (ts.getD j tile0).tb) ∧ (cellsT ts us)[j * 4 + 1]? = some (us.getD (2 * j) vnil) ∧ (cellsT ts us)[j * 4 + 2]? = some (.bool (ts.getD j tile0).rg) ∧ (cellsT ts us)[j * 4 + 3]? = some (us.getD (2 * j + 1) vnil)
  | [], _, _, j, h => by simp at h
  | x :: xs, [], h, _, _ => by simp at h
  | x :: xs, [_], h, _, _ => by simp at h; omega
  | x :: xs, a :: b :: us, h, 0, _ => ⟨rfl, rfl, rfl, rfl⟩
  | x :: xs, a :: b :: us, h, j + 1, hj => by
    have := cellsT_get xs us (by simp at h; omega) j (by simpa using hj)
    have e1 : (j + 1) * 4 = j * 4 + 1 + 1 + 1 + 1 := by omega
    have e2 : 2 * (j + 1) = 2 * j + 1 + 1 := by omega
    rw [e1, e2]
    simpa [cellsT] using this
theorem cellsT_set : ∀ (ts : List Tile) (us : List Value), us.length = 2 * ts.length → ∀ (j : Nat), j < ts.length → ∀ (x : Tile) (a b : Value), ((((cellsT ts us).set (j * 4) (.int .i64 x.tb)).set (j * 4 + 1) a).set (j * 4 + 2) (.bool x.rg)).set (j * 4 + 3) b = cellsT (ts.set j x) ((us.set (2 * j) a).set (2 * j + 1) b)
  | [], _, _, j, h, _, _, _ => by simp at h
  | y :: ys, [], h, _, _, _, _, _ => by simp at h
  | y :: ys, [_], h, _, _, _, _, _ => by simp at h; omega
  | y :: ys, c :: d :: us, h, 0, _, x, a, b => by simp [cellsT]
  | y :: ys, c :: d :: us, h, j + 1, hj, x, a, b => by
    have := cellsT_set ys us (by simp at h; omega) j (by simpa using hj) x a b
    have e1 : (j + 1) * 4 = j * 4 + 1 + 1 + 1 + 1 := by omega
    have e2 : 2 * (j + 1) = 2 * j + 1 + 1 := by omega
    rw [e1, e2]
    simp only [cellsT, List.set_cons_succ]
    rw [this]
/-- Slices of integers that the call owns, all apart. -/
structure Elts (w : World) (base : Nat) (us : List Value) (xss : List (List Int)) : Prop where
  len : us.length = xss.length
  el : ∀ j, j < xss.length → OwnInts w base 3 (us.getD j vnil) (xss.getD j [])
  dis : ∀ i j k, i < j → j < xss.length → (us.getD i vnil).ownBlock = some k → (us.getD j vnil).ownBlock ≠ some k
theorem ownI_lt {w : World} {b : Nat} {v : Value} {xs : List Int} (h : OwnInts w b 3 v xs) : ∀ k, v.ownBlock = some k → b ≤ k ∧ k < w.heap.size := fun k hk => World.ownsRow.lt h k hk
theorem ownI_le {w : World} {b b2 : Nat} {v : Value} {xs : List Int} (h : OwnInts w b 3 v xs) (hb : b2 ≤ b) : OwnInts w b2 3 v xs := by
  refine ⟨h.1, ?_⟩
  rcases h.2 with h | ⟨g, cap, cur, h1, h2, h3⟩
  · exact .inl h
  · exact .inr ⟨g, cap, cur, h1, Nat.le_trans hb h2, h3⟩
section
variable {w w' : World} {base : Nat} {us : List Value} {xss : List (List Int)}
theorem Elts.ext (h : Elts w base us xss) (e : Ext w w') : Elts w' base us xss := { h with el := fun j hj => (h.el j hj).ext e }
theorem Elts.le {b : Nat} (h : Elts w base us xss) (hb : b ≤ base) : Elts w b us xss := { h with el := fun j hj => ownI_le (h.el j hj) hb }
theorem Elts.lt (h : Elts w base us xss) {j k : Nat} (hj : j < xss.length) (hk : (us.getD j vnil).ownBlock = some k) : base ≤ k ∧ k < w.heap.size := ownI_lt (h.el j hj) k hk
theorem Elts.setCell (h : Elts w base us xss) {p : Addr} (hp : ∀ j, j < xss.length → (us.getD j vnil).ownBlock ≠ some p.block) (v : Value) : Elts (w.setCell p v) base us xss :=
  { h with el := fun j hj => ownsRow_set (h.el j hj) (hp j hj) v }
theorem getD_set {α : Type} (xs : List α) (i j : Nat) (x d : α) (hi : i < xs.length) : (xs.set i x).getD j d = if i = j then x else xs.getD j d := by
  rw [List.getD_eq_getElem?_getD, List.getD_eq_getElem?_getD, List.getElem?_set]
  by_cases e : i = j
  · subst e; simp [hi]
  · simp [e]
/-- Another slice in the place of one: it lies apart from all the others. -/
theorem Elts.put (h : Elts w base us xss) {i : Nat} (hi : i < xss.length) {u : Value} {x : List Int} (hu : OwnInts w base 3 u x) (ha : ∀ j k, j < xss.length → j ≠ i → (us.getD j vnil).ownBlock = some k → u.ownBlock ≠ some k) : Elts w base (us.set i u) (xss.set i x) := by
  have hl := h.len
  refine ⟨by simp [hl], fun j hj => ?_, fun a b k hab hb hk => ?_⟩
  · rw [List.length_set] at hj
    rw [getD_set _ _ _ _ _ (by omega), getD_set _ _ _ _ _ hi]
    by_cases e : i = j
    · rw [if_pos e, if_pos e]; exact hu
    · rw [if_neg e, if_neg e]; exact h.el j hj
  · rw [List.length_set] at hb
    rw [getD_set _ _ _ _ _ (by omega)] at hk ⊢
    by_cases e1 : i = a
    · rw [if_pos e1] at hk
      have e2 : ¬ i = b := by omega
      rw [if_neg e2]
      exact fun e3 => ha b k hb (by omega) e3 hk
    · rw [if_neg e1] at hk
      by_cases e2 : i = b
      · rw [if_pos e2]; exact ha a k (by omega) (by omega) hk
      · rw [if_neg e2]; exact h.dis a b k hab hb hk
end
/-- A row of tiles that the call owns. -/
structure OwnT (w : World) (base : Nat) (v : Value) (us : List Value) (ts : List Tile) : Prop where
  row : w.ownsRow base 85 4 v ts.length (cellsT ts us)
  els : Elts w base us (flT ts)
  off : ∀ j k, j < 2 * ts.length → (us.getD j vnil).ownBlock = some k → v.ownBlock ≠ some k
section
variable {w w' : World} {base : Nat} {v : Value} {us : List Value} {ts : List Tile}
theorem OwnT.ext (h : OwnT w base v us ts) (e : Ext w w') : OwnT w' base v us ts := { h with row := ownsRow_ext h.row e, els := h.els.ext e }
theorem OwnT.ul (h : OwnT w base v us ts) : us.length = 2 * ts.length := by rw [h.els.len, flT_length]
theorem OwnT.le {b : Nat} (h : OwnT w base v us ts) (hb : b ≤ base) : OwnT w b v us ts := by
  refine { h with row := ⟨h.row.1, ?_⟩, els := h.els.le hb }
  rcases h.row.2 with h | ⟨g, cap, cur, h1, h2, h3⟩
  · exact .inl h
  · exact .inr ⟨g, cap, cur, h1, Nat.le_trans hb h2, h3⟩
theorem OwnT.tiles {a : Option Addr} {n c : Nat} (h : OwnT w base (.slice a n c) us ts) : TilesAt w a ts := by
  obtain ⟨a', c', e, hr, _⟩ := ownsRow_row h.row
  cases e
  have hl := h.ul
  rcases hr with hr | ⟨b, o, ha, hb, hc⟩
  · left
    have := cellsT_length ts us hl
    rw [hr] at this
    exact List.eq_nil_of_length_eq_zero (by simp at this; omega)
  · refine .inr ⟨b, o, ha, hb, fun j hj => ?_⟩
    obtain ⟨c0, c1, c2, c3⟩ := cellsT_get ts us hl j hj
    obtain ⟨g0, g1⟩ := flT_get ts j hj
    have hf := flT_length ts
    have e0 := h.els.el (2 * j) (by omega)
    have e1 := h.els.el (2 * j + 1) (by omega)
    rw [g0] at e0
    rw [g1] at e1
    obtain ⟨sa, sc, s1, s2, _⟩ := e0.opened
    obtain ⟨da, dc, d1, d2, _⟩ := e1.opened
    rw [s1] at c1
    rw [d1] at c3
    exact ⟨sa, sc, da, dc, by have := hc _ _ c0; simpa using this, by have := hc _ _ c1; simpa [Nat.add_assoc] using this, by have := hc _ _ c2; simpa [Nat.add_assoc] using this, by have := hc _ _ c3; simpa [Nat.add_assoc] using this, s2, d2⟩
theorem OwnT.nil : OwnT w base vnil [] [] := ⟨ownsRow_nil, ⟨rfl, fun j hj => absurd hj (Nat.not_lt_zero j), fun i j k _ hj => absurd hj (Nat.not_lt_zero j)⟩, fun j k hj => absurd hj (Nat.not_lt_zero j)⟩
end
end Go.Proofs.Ytkdiniaddnhkdaa
