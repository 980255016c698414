/- Bundle: configurations: how they read, how a call owns and changes them, when they are valid. -/
import Derived.Test.YtgialedmbmfejaaRd
import Derived.Test.YtgialedmbmfejaaRegion
import Derived.Test.YtgialedmbmfejaaExInt
import Derived.Test.YtgialedmbmfejaaMidB
import Derived.Test.YtgialedmbmfejaaApp2
import Derived.Test.YtgialedmbmfejaaSpec1
import Derived.Test.YtgialedmbmfejaaRegion2
namespace Go.Proofs.Ytgialedmbmfejaa
open Go.ChangeShapes Go.WideShapes Go.ChangeAt Go.RowKit Go.Joins
set_option maxRecDepth 100000
set_option linter.unusedVariables false
set_option linter.unusedSimpArgs false
/-- A tile: table, selectors, register flag, sources. -/
structure Tile where
 tb : Int
 sl : List Int
 rg : Bool
 dr : List Int
/-- A configuration: tiles and pads. -/
structure Conf where
 ts : List Tile
 ps : List (Int × Bool)
def tile0 : Tile := ⟨0, [], false, []⟩
/-- What four cells of a row of tiles say. -/
structure TileAt (w : World) (b o : Nat) (x : Tile) : Prop where
 ex : ∃ sa sc da dc, w.cell? ⟨b, o, none⟩ = some (.int .i64 x.tb) ∧ w.cell? ⟨b, o + 1, none⟩ = some (.slice sa x.sl.length sc) ∧ w.cell? ⟨b, o + 2, none⟩ = some (.bool x.rg) ∧ w.cell? ⟨b, o + 3, none⟩ = some (.slice da x.dr.length dc) ∧ IntsAt w sa x.sl ∧ IntsAt w da x.dr
def TilesAt (w : World) (a : Option Addr) (ts : List Tile) : Prop := ts = [] ∨ ∃ b o, a = some ⟨b, o, none⟩ ∧ b < w.heap.size ∧ ∀ j, j < ts.length → TileAt w b (o + j * 4) (ts.getD j tile0)
def PadsAt (w : World) (a : Option Addr) (ps : List (Int × Bool)) : Prop := ps = [] ∨ ∃ b o, a = some ⟨b, o, none⟩ ∧ b < w.heap.size ∧ ∀ j, j < ps.length → w.cell? ⟨b, o + j * 2, none⟩ = some (.int .i64 (ps.getD j (0, false)).1) ∧ w.cell? ⟨b, o + j * 2 + 1, none⟩ = some (.bool (ps.getD j (0, false)).2)
section
variable {w w' : World} {a : Option Addr} {ts : List Tile} {ps : List (Int × Bool)}
theorem TileAt.ext {b o : Nat} {x : Tile} (h : TileAt w b o x) (hb : b < w.heap.size) (e : Ext w w') : TileAt w' b o x := by
 obtain ⟨sa, sc, da, dc, h0, h1, h2, h3, h4, h5⟩ := h
 exact ⟨sa, sc, da, dc, ((ecell e).1 b _ hb).trans h0, ((ecell e).1 b _ hb).trans h1, ((ecell e).1 b _ hb).trans h2, ((ecell e).1 b _ hb).trans h3, h4.ext e, h5.ext e⟩
theorem TilesAt.get (h : TilesAt w a ts) (hn : 0 < ts.length) : ∃ b o, a = some ⟨b, o, none⟩ ∧ b < w.heap.size ∧ ∀ j, j < ts.length → TileAt w b (o + j * 4) (ts.getD j tile0) := by
 rcases h with rfl | h
 ·simp at hn
 ·exact h
theorem TilesAt.ext (h : TilesAt w a ts) (e : Ext w w') : TilesAt w' a ts := by
 rcases h with rfl | ⟨b, o, ha, hb, hc⟩
 ·exact .inl rfl
 ·exact .inr ⟨b, o, ha, Nat.lt_of_lt_of_le hb e.size, fun j hj => (hc j hj).ext hb e⟩
theorem PadsAt.get (h : PadsAt w a ps) (hn : 0 < ps.length) : ∃ b o, a = some ⟨b, o, none⟩ ∧ b < w.heap.size ∧ ∀ j, j < ps.length → w.cell? ⟨b, o + j * 2, none⟩ = some (.int .i64 (ps.getD j (0, false)).1) ∧ w.cell? ⟨b, o + j * 2 + 1, none⟩ = some (.bool (ps.getD j (0, false)).2) := by
 rcases h with rfl | h
 ·simp at hn
 ·exact h
theorem PadsAt.ext (h : PadsAt w a ps) (e : Ext w w') : PadsAt w' a ps := by
 rcases h with rfl | ⟨b, o, ha, hb, hc⟩
 ·exact .inl rfl
 ·exact .inr ⟨b, o, ha, Nat.lt_of_lt_of_le hb e.size, fun j hj => ⟨((ecell e).1 b _ hb).trans (hc j hj).1, ((ecell e).1 b _ hb).trans (hc j hj).2⟩⟩
end
/-- A configuration as it comes in. -/
structure ConfIn (w : World) (k : Conf) (ta : Option Addr) (tc : Nat) (pa : Option Addr) (pc : Nat) : Prop where
 ts : TilesAt w ta k.ts
 ps : PadsAt w pa k.ps
 lt : k.ts.length ≤ tc ∧ tc ≤ maxLen
 lp : k.ps.length ≤ pc ∧ pc ≤ maxLen
 ls : ∀ j, j < k.ts.length → (k.ts.getD j tile0).sl.length ≤ maxLen ∧ (k.ts.getD j tile0).dr.length ≤ maxLen
def ETile (w : World) (cs : List Value) (x : Tile) : Prop := ∃ sa sc da dc, cs = [.int .i64 x.tb, .slice sa x.sl.length sc, .bool x.rg, .slice da x.dr.length dc] ∧ IntsAt w sa x.sl ∧ IntsAt w da x.dr ∧ x.sl.length ≤ maxLen ∧ x.dr.length ≤ maxLen
def EPad (w : World) (cs : List Value) (x : Int × Bool) : Prop := cs = [.int .i64 x.1, .bool x.2]
end Go.Proofs.Ytgialedmbmfejaa

namespace Go.Proofs.Ytgialedmbmfejaa
open Go.RowKit
set_option maxRecDepth 100000
set_option linter.unusedVariables false
set_option linter.unusedSimpArgs false
def vnil : Value := .slice none 0 0
/-- The cells of a row of tiles, whose slices are us. -/
def cellsT : List Tile → List Value → List Value
 | x :: xs, a :: b :: us => .int .i64 x.tb :: a :: .bool x.rg :: b :: cellsT xs us
 | _, _ => []
/-- The slices of a row of tiles. -/
def flT : List Tile → List (List Int)
 | [] => []
 | x :: xs => x.sl :: x.dr :: flT xs
theorem flT_length : ∀ ts : List Tile, (flT ts).length = 2 * ts.length
 | [] => rfl
 | x :: xs => by simp only [flT, List.length_cons, flT_length xs]; omega
theorem flT_get : ∀ (ts : List Tile) (j : Nat), j < ts.length → (flT ts).getD (2 * j) [] = (ts.getD j tile0).sl ∧ (flT ts).getD (2 * j + 1) [] = (ts.getD j tile0).dr
 | [], j, h => by simp at h
 | x :: xs, 0, _ => ⟨rfl, rfl⟩
 | x :: xs, j + 1, h => by
  have := flT_get xs j (by simpa using h)
  have e : 2 * (j + 1) = 2 * j + 1 + 1 := by omega
  rw [e]
  exact this
theorem flT_set : ∀ (ts : List Tile) (j : Nat) (x : Tile), flT (ts.set j x) = ((flT ts).set (2 * j) x.sl).set (2 * j + 1) x.dr
 | [], j, x => by simp [flT]
 | y :: ys, 0, x => by simp [flT]
 | y :: ys, j + 1, x => by
  have e : 2 * (j + 1) = 2 * j + 1 + 1 := by omega
  rw [e, List.set_cons_succ]
  show _ :: _ :: flT (ys.set j x) = _
  rw [flT_set ys j x]; rfl
theorem cellsT_length : ∀ (ts : List Tile) (us : List Value), us.length = 2 * ts.length → (cellsT ts us).length = ts.length * 4
 | [], [], _ => rfl
 | [], _ :: _, h => by simp at h
 | x :: xs, [], h => by simp at h
 | x :: xs, [_], h => by simp at h; omega
 | x :: xs, a :: b :: us, h => by
  have := cellsT_length xs us (by simp at h; omega)
  simp only [cellsT, List.length_cons, this]; omega
theorem cellsT_get : ∀ (ts : List Tile) (us : List Value), us.length = 2 * ts.length → ∀ j, j < ts.length → (cellsT ts us)[j * 4]? = some (.int .i64 (ts.getD j tile0).tb) ∧ (cellsT ts us)[j * 4 + 1]? = some (us.getD (2 * j) vnil) ∧ (cellsT ts us)[j * 4 + 2]? = some (.bool (ts.getD j tile0).rg) ∧ (cellsT ts us)[j * 4 + 3]? = some (us.getD (2 * j + 1) vnil)
 | [], _, _, j, h => by simp at h
 | x :: xs, [], h, _, _ => by simp at h
 | x :: xs, [_], h, _, _ => by simp at h; omega
 | x :: xs, a :: b :: us, h, 0, _ => ⟨rfl, rfl, rfl, rfl⟩
 | x :: xs, a :: b :: us, h, j + 1, hj => by
  have := cellsT_get xs us (by simp at h; omega) j (by simpa using hj)
  have e1 : (j + 1) * 4 = j * 4 + 1 + 1 + 1 + 1 := by omega
  have e2 : 2 * (j + 1) = 2 * j + 1 + 1 := by omega
  rw [e1, e2]
  simpa [cellsT] using this
theorem cellsT_set : ∀ (ts : List Tile) (us : List Value), us.length = 2 * ts.length → ∀ (j : Nat), j < ts.length → ∀ (x : Tile) (a b : Value), ((((cellsT ts us).set (j * 4) (.int .i64 x.tb)).set (j * 4 + 1) a).set (j * 4 + 2) (.bool x.rg)).set (j * 4 + 3) b = cellsT (ts.set j x) ((us.set (2 * j) a).set (2 * j + 1) b)
 | [], _, _, j, h, _, _, _ => by simp at h
 | y :: ys, [], h, _, _, _, _, _ => by simp at h
 | y :: ys, [_], h, _, _, _, _, _ => by simp at h; omega
 | y :: ys, c :: d :: us, h, 0, _, x, a, b => by simp [cellsT]
 | y :: ys, c :: d :: us, h, j + 1, hj, x, a, b => by
  have := cellsT_set ys us (by simp at h; omega) j (by simpa using hj) x a b
  have e1 : (j + 1) * 4 = j * 4 + 1 + 1 + 1 + 1 := by omega
  have e2 : 2 * (j + 1) = 2 * j + 1 + 1 := by omega
  rw [e1, e2]
  simp only [cellsT, List.set_cons_succ]
  rw [this]
/-- Slices of integers that the call owns, all apart. -/
structure Elts (w : World) (base : Nat) (us : List Value) (xss : List (List Int)) : Prop where
 len : us.length = xss.length
 el : ∀ j, j < xss.length → OwnInts w base 3 (us.getD j vnil) (xss.getD j [])
 dis : ∀ i j k, i < j → j < xss.length → (us.getD i vnil).ownBlock = some k → (us.getD j vnil).ownBlock ≠ some k
theorem ownI_lt {w : World} {b : Nat} {v : Value} {xs : List Int} (h : OwnInts w b 3 v xs) : ∀ k, v.ownBlock = some k → b ≤ k ∧ k < w.heap.size := fun k hk => World.ownsRow.lt h k hk
theorem ownI_le {w : World} {b b2 : Nat} {v : Value} {xs : List Int} (h : OwnInts w b 3 v xs) (hb : b2 ≤ b) : OwnInts w b2 3 v xs := by
 refine ⟨h.1, ?_⟩
 rcases h.2 with h | ⟨g, cap, cur, h1, h2, h3⟩
 ·exact .inl h
 ·exact .inr ⟨g, cap, cur, h1, Nat.le_trans hb h2, h3⟩
section
variable {w w' : World} {base : Nat} {us : List Value} {xss : List (List Int)}
theorem Elts.ext (h : Elts w base us xss) (e : Ext w w') : Elts w' base us xss := { h with el := fun j hj => (h.el j hj).ext e }
theorem Elts.le {b : Nat} (h : Elts w base us xss) (hb : b ≤ base) : Elts w b us xss := { h with el := fun j hj => ownI_le (h.el j hj) hb }
theorem Elts.lt (h : Elts w base us xss) {j k : Nat} (hj : j < xss.length) (hk : (us.getD j vnil).ownBlock = some k) : base ≤ k ∧ k < w.heap.size := ownI_lt (h.el j hj) k hk
theorem Elts.setCell (h : Elts w base us xss) {p : Addr} (hp : ∀ j, j < xss.length → (us.getD j vnil).ownBlock ≠ some p.block) (v : Value) : Elts (w.setCell p v) base us xss :=
 { h with el := fun j hj => ownsRow_set (h.el j hj) (hp j hj) v }
theorem getD_set {α : Type} (xs : List α) (i j : Nat) (x d : α) (hi : i < xs.length) : (xs.set i x).getD j d = if i = j then x else xs.getD j d := by
 rw [List.getD_eq_getElem?_getD, List.getD_eq_getElem?_getD, List.getElem?_set]
 by_cases e : i = j
 ·subst e; simp [hi]
 ·simp [e]
/-- Another slice in the place of one: it lies apart from all the others. -/
theorem Elts.put (h : Elts w base us xss) {i : Nat} (hi : i < xss.length) {u : Value} {x : List Int} (hu : OwnInts w base 3 u x) (ha : ∀ j k, j < xss.length → j ≠ i → (us.getD j vnil).ownBlock = some k → u.ownBlock ≠ some k) : Elts w base (us.set i u) (xss.set i x) := by
 have hl := h.len
 refine ⟨by simp [hl], fun j hj => ?_, fun a b k hab hb hk => ?_⟩
 ·rw [List.length_set] at hj
  rw [getD_set _ _ _ _ _ (by omega), getD_set _ _ _ _ _ hi]
  by_cases e : i = j
  ·rw [if_pos e, if_pos e]; exact hu
  ·rw [if_neg e, if_neg e]; exact h.el j hj
 ·rw [List.length_set] at hb
  rw [getD_set _ _ _ _ _ (by omega)] at hk ⊢
  by_cases e1 : i = a
  ·rw [if_pos e1] at hk
   have e2 : ¬ i = b := by omega
   rw [if_neg e2]
   exact fun e3 => ha b k hb (by omega) e3 hk
  ·rw [if_neg e1] at hk
   by_cases e2 : i = b
   ·rw [if_pos e2]; exact ha a k (by omega) (by omega) hk
   ·rw [if_neg e2]; exact h.dis a b k hab hb hk
end
/-- A row of tiles that the call owns. -/
structure OwnT (w : World) (base : Nat) (v : Value) (us : List Value) (ts : List Tile) : Prop where
 row : w.ownsRow base 61 4 v ts.length (cellsT ts us)
 els : Elts w base us (flT ts)
 off : ∀ j k, j < 2 * ts.length → (us.getD j vnil).ownBlock = some k → v.ownBlock ≠ some k
section
variable {w w' : World} {base : Nat} {v : Value} {us : List Value} {ts : List Tile}
theorem OwnT.ext (h : OwnT w base v us ts) (e : Ext w w') : OwnT w' base v us ts := { h with row := ownsRow_ext h.row e, els := h.els.ext e }
theorem OwnT.ul (h : OwnT w base v us ts) : us.length = 2 * ts.length := by rw [h.els.len, flT_length]
theorem OwnT.le {b : Nat} (h : OwnT w base v us ts) (hb : b ≤ base) : OwnT w b v us ts := by
 refine { h with row := ⟨h.row.1, ?_⟩, els := h.els.le hb }
 rcases h.row.2 with h | ⟨g, cap, cur, h1, h2, h3⟩
 ·exact .inl h
 ·exact .inr ⟨g, cap, cur, h1, Nat.le_trans hb h2, h3⟩
theorem OwnT.tiles {a : Option Addr} {n c : Nat} (h : OwnT w base (.slice a n c) us ts) : TilesAt w a ts := by
 obtain ⟨a', c', e, hr, _⟩ := ownsRow_row h.row
 cases e
 have hl := h.ul
 rcases hr with hr | ⟨b, o, ha, hb, hc⟩
 ·left
  have := cellsT_length ts us hl
  rw [hr] at this
  exact List.eq_nil_of_length_eq_zero (by simp at this; omega)
 ·refine .inr ⟨b, o, ha, hb, fun j hj => ?_⟩
  obtain ⟨c0, c1, c2, c3⟩ := cellsT_get ts us hl j hj
  obtain ⟨g0, g1⟩ := flT_get ts j hj
  have hf := flT_length ts
  have e0 := h.els.el (2 * j) (by omega)
  have e1 := h.els.el (2 * j + 1) (by omega)
  rw [g0] at e0
  rw [g1] at e1
  obtain ⟨sa, sc, s1, s2, _⟩ := e0.opened
  obtain ⟨da, dc, d1, d2, _⟩ := e1.opened
  rw [s1] at c1
  rw [d1] at c3
  exact ⟨sa, sc, da, dc, by have := hc _ _ c0; simpa using this, by have := hc _ _ c1; simpa [Nat.add_assoc] using this, by have := hc _ _ c2; simpa [Nat.add_assoc] using this, by have := hc _ _ c3; simpa [Nat.add_assoc] using this, s2, d2⟩
theorem OwnT.nil : OwnT w base vnil [] [] := ⟨ownsRow_nil, ⟨rfl, fun j hj => absurd hj (Nat.not_lt_zero j), fun i j k _ hj => absurd hj (Nat.not_lt_zero j)⟩, fun j k hj => absurd hj (Nat.not_lt_zero j)⟩
end
end Go.Proofs.Ytgialedmbmfejaa

namespace Go.Proofs.Ytgialedmbmfejaa
open Go.RowKit
set_option maxRecDepth 100000
set_option linter.unusedVariables false
set_option linter.unusedSimpArgs false
/-! ### copies -/
def MadeTile (w : World) (x : Tile) (e : Ending) (w' : World) : Prop :=
 ∃ B1 B2, e = .returned (.agg #[.int .i64 x.tb, .slice (some ⟨B1, 0, none⟩) x.sl.length x.sl.length, .bool x.rg, .slice (some ⟨B2, 0, none⟩) x.dr.length x.dr.length]) ∧ w.heap.size ≤ B1 ∧ B1 < B2 ∧ Blk w' B1 3 (x.sl.map (Value.int .i64)) ∧ Blk w' B2 3 (x.dr.map (Value.int .i64)) ∧ Ext w w'
theorem Elts.put2 {w : World} {base : Nat} {us : List Value} {xss : List (List Int)} (h : Elts w base us xss) {k : Nat} (hk : 2 * k + 1 < xss.length) {B1 B2 n1 c1 n2 c2 : Nat} {x1 x2 : List Int} (h1 : OwnInts w base 3 (.slice (some ⟨B1, 0, none⟩) n1 c1) x1) (h2 : OwnInts w base 3 (.slice (some ⟨B2, 0, none⟩) n2 c2) x2) (hlt : B1 < B2)
  (hold : ∀ j q, j < xss.length → (us.getD j vnil).ownBlock = some q → q < B1) : Elts w base ((us.set (2 * k) (.slice (some ⟨B1, 0, none⟩) n1 c1)).set (2 * k + 1) (.slice (some ⟨B2, 0, none⟩) n2 c2)) ((xss.set (2 * k) x1).set (2 * k + 1) x2) := by
 have hl := h.len
 refine (h.put (by omega) h1 (fun j q hj hne hq e => ?_)).put (by rw [List.length_set]; omega) h2 (fun j q hj hne hq e => ?_)
 ·have := hold j q hj hq
  have : B1 = q := Option.some.inj e
  omega
 ·rw [List.length_set] at hj
  have eB : B2 = q := Option.some.inj e
  rw [getD_set _ _ _ _ _ (by omega)] at hq
  by_cases e1 : 2 * k = j
  ·rw [if_pos e1] at hq
   have : B1 = q := Option.some.inj hq
   omega
  ·rw [if_neg e1] at hq
   have := hold j q hj hq
   omega
theorem I1ne {w : World} {B1 b : Nat} (h : w.heap.size ≤ B1) (hb : b < w.heap.size) : b < B1 := by omega
theorem tileInfo : (Try.prog.info? 61).map (fun i => (i.zero, i.size, i.bytes)) = some (some (.agg #[.int .i64 0, .slice none 0 0, .bool false, .slice none 0 0]), 4, 64) := by kernel_rfl
theorem padInfo : (Try.prog.info? 75).map (fun i => (i.zero, i.size, i.bytes)) = some (some (.agg #[.int .i64 0, .bool false]), 2, 16) := by kernel_rfl
theorem cellsT_zero : ∀ n : Nat, cellsT (List.replicate n tile0) (List.replicate (2 * n) vnil) = (List.replicate n [.int .i64 0, .slice none 0 0, .bool false, .slice none 0 0]).flatten
 | 0 => rfl
 | n + 1 => by
  have e : 2 * (n + 1) = 2 * n + 1 + 1 := by omega
  rw [e, List.replicate_succ, List.replicate_succ, List.replicate_succ, List.replicate_succ, List.flatten_cons, ← cellsT_zero n]; rfl
theorem flT_zero (n j : Nat) : (flT (List.replicate n tile0)).getD j [] = [] := by
 induction n generalizing j with
 | zero => simp [flT]
 | succ n ih =>
  rw [List.replicate_succ]
  show (tile0.sl :: tile0.dr :: flT (List.replicate n tile0)).getD j [] = []
  match j with
  | 0 => rfl
  | 1 => rfl
  | j + 2 => exact ih j
theorem Elts.zero (w : World) (base n : Nat) : Elts w base (List.replicate (2 * n) vnil) (flT (List.replicate n tile0)) := by
 have hv : ∀ j, (List.replicate (2 * n) vnil).getD j vnil = vnil := fun j => by
  rw [List.getD_eq_getElem?_getD, List.getElem?_replicate]; split <;> rfl
 refine ⟨by rw [flT_length]; simp, fun j hj => ?_, fun i j k _ _ hk => ?_⟩
 ·rw [hv, flT_zero]; exact ownsRow_nil
 ·rw [hv] at hk; cases hk
def MadeTiles (w : World) (ts : List Tile) (e : Ending) (w' : World) : Prop := ∃ B us, e = .returned (.slice (some ⟨B, 0, none⟩) ts.length ts.length) ∧ OwnT w' w.heap.size (.slice (some ⟨B, 0, none⟩) ts.length ts.length) us ts ∧ Ext w w'
def flatP (gs : List (Int × Bool)) : List Value := gs.flatMap fun g => [.int .i64 g.1, .bool g.2]
theorem flatP_cons (g : Int × Bool) (gs : List (Int × Bool)) : flatP (g :: gs) = .int .i64 g.1 :: .bool g.2 :: flatP gs := rfl
theorem flatP_append (a b : List (Int × Bool)) : flatP (a ++ b) = flatP a ++ flatP b := by simp [flatP]
theorem flatP_length : ∀ gs : List (Int × Bool), (flatP gs).length = gs.length * 2
 | [] => rfl
 | g :: gs => by rw [flatP_cons]; simp only [List.length_cons, flatP_length gs]; omega
theorem flatP_get : ∀ (gs : List (Int × Bool)) (j : Nat), j < gs.length → (flatP gs)[j * 2]? = some (.int .i64 (gs.getD j (0, false)).1) ∧ (flatP gs)[j * 2 + 1]? = some (.bool (gs.getD j (0, false)).2)
 | [], j, h => by simp at h
 | g :: gs, 0, _ => ⟨rfl, rfl⟩
 | g :: gs, j + 1, h => by
  have := flatP_get gs j (by simpa using h)
  have e : (j + 1) * 2 = j * 2 + 1 + 1 := by omega
  rw [flatP_cons, e]
  simpa using this
theorem flatP_set : ∀ (gs : List (Int × Bool)) (k : Nat) (g : Int × Bool), ((flatP gs).set (k * 2) (.int .i64 g.1)).set (k * 2 + 1) (.bool g.2) = flatP (gs.set k g)
 | [], k, g => by simp [flatP]
 | x :: xs, 0, g => rfl
 | x :: xs, k + 1, g => by
  have e : (k + 1) * 2 = k * 2 + 1 + 1 := by omega
  rw [flatP_cons, e]
  simp only [List.set_cons_succ]
  rw [flatP_set xs k g]; rfl
theorem oneCell_flatP (gs : List (Int × Bool)) : ∀ u ∈ flatP gs, u.oneCell' = true := by
 intro u hu
 simp only [flatP, List.mem_flatMap, List.mem_cons, List.not_mem_nil, or_false] at hu
 obtain ⟨g, _, rfl | rfl⟩ := hu <;> rfl
theorem padsAt_of_row {w : World} {a : Option Addr} {ps : List (Int × Bool)} (h : RowAt w a (flatP ps)) : PadsAt w a ps := by
 rcases h with h | ⟨b, o, ha, hb, hc⟩
 ·left
  cases ps with
  | nil => rfl
  | cons g gs => rw [flatP_cons] at h; cases h
 ·exact .inr ⟨b, o, ha, hb, fun j hj => ⟨hc _ _ (flatP_get ps j hj).1, by rw [Nat.add_assoc]; exact hc _ _ (flatP_get ps j hj).2⟩⟩
def MadePads (w : World) (ps : List (Int × Bool)) (e : Ending) (w' : World) : Prop :=
 ∃ B, e = .returned (.slice (some ⟨B, 0, none⟩) ps.length ps.length) ∧ w.heap.size ≤ B ∧ Blk w' B 75 (flatP ps) ∧ Ext w w'
structure ConfAt (w : World) (k : Conf) (ta pa : Option Addr) : Prop where
 ts : TilesAt w ta k.ts
 ps : PadsAt w pa k.ps
 lt : k.ts.length ≤ 1048576
 lp : k.ps.length ≤ 1048576
 ls : ∀ j, j < k.ts.length → (k.ts.getD j tile0).sl.length ≤ 1048576 ∧ (k.ts.getD j tile0).dr.length ≤ 1048576
theorem ConfAt.ext {w w' : World} {k : Conf} {ta pa : Option Addr} (h : ConfAt w k ta pa) (e : Ext w w') : ConfAt w' k ta pa := { h with ts := h.ts.ext e, ps := h.ps.ext e }
/-- A configuration that the call owns. -/
structure OwnK (w : World) (base : Nat) (tv pv : Value) (us : List Value) (k : Conf) : Prop where
 ts : OwnT w base tv us k.ts
 ps : w.ownsRow base 75 2 pv k.ps.length (flatP k.ps)
 op : ∀ q, pv.ownBlock = some q → tv.ownBlock ≠ some q ∧ ∀ j, j < 2 * k.ts.length → (us.getD j vnil).ownBlock ≠ some q
def GiveK (w : World) (k : Conf) (e : Ending) (w' : World) : Prop := ∃ tv pv us, e = .returned (.agg #[tv, pv]) ∧ OwnK w' w.heap.size tv pv us k ∧ Ext w w'
section
variable {w w' : World} {base : Nat} {tv pv : Value} {us : List Value} {k : Conf}
theorem OwnK.ext (h : OwnK w base tv pv us k) (e : Ext w w') : OwnK w' base tv pv us k := { h with ts := h.ts.ext e, ps := ownsRow_ext h.ps e }
theorem OwnK.sl (h : OwnK w base tv pv us k) : ∃ ta tc pa pc, tv = .slice ta k.ts.length tc ∧ pv = .slice pa k.ps.length pc := by
 obtain ⟨ta, tc, e1, _⟩ := ownsRow_row h.ts.row
 obtain ⟨pa, pc, e2, _⟩ := ownsRow_row h.ps
 exact ⟨ta, tc, pa, pc, e1, e2⟩
theorem OwnK.at_ {ta pa : Option Addr} {n m tc pc : Nat} (h : OwnK w base (.slice ta n tc) (.slice pa m pc) us k) (l1 : k.ts.length ≤ 1048576) (l2 : k.ps.length ≤ 1048576) (l3 : ∀ j, j < k.ts.length → (k.ts.getD j tile0).sl.length ≤ 1048576 ∧ (k.ts.getD j tile0).dr.length ≤ 1048576) : ConfAt w k ta pa := by
 obtain ⟨pa', pc', e2, hp, _⟩ := ownsRow_row h.ps
 cases e2
 exact ⟨h.ts.tiles, padsAt_of_row hp, l1, l2, l3⟩
end
end Go.Proofs.Ytgialedmbmfejaa

namespace Go.Proofs.Ytgialedmbmfejaa
open Go.RowKit
set_option maxRecDepth 100000
set_option linter.unusedVariables false
set_option linter.unusedSimpArgs false
/-- Of the old blocks, only those of S may have changed. -/
structure OnlyIn (S : Nat → Prop) (w w' : World) : Prop where
 os : w'.os = w.os
 tape : w'.tape = w.tape
 output : w'.output = w.output
 size : w.heap.size ≤ w'.heap.size
 block : ∀ k, k < w.heap.size → ¬ S k → w'.heap[k]? = w.heap[k]?
section
variable {S : Nat → Prop} {w w' w'' : World}
theorem OnlyIn.refl (w : World) : OnlyIn S w w := ⟨rfl, rfl, rfl, Nat.le_refl _, fun _ _ _ => rfl⟩
theorem OnlyIn.trans (h : OnlyIn S w w') (k : OnlyIn S w' w'') : OnlyIn S w w'' :=
 ⟨k.os.trans h.os, k.tape.trans h.tape, k.output.trans h.output, Nat.le_trans h.size k.size, fun i hi hr => (k.block i (Nat.lt_of_lt_of_le hi h.size) hr).trans (h.block i hi hr)⟩
theorem OnlyIn.ofExt (h : Ext w w') : OnlyIn S w w' := ⟨Below.os h, Below.tape h, Below.output h, Below.size h, fun i hi _ => Below.block h i hi⟩
theorem OnlyIn.ofGr {ob : Option Nat} (h : w.grownBy w' ob) (hb : ∀ k, ob = some k → S k) : OnlyIn S w w' :=
 ⟨h.os, h.tape, h.output, h.size, fun i hi hr => h.block i hi (fun e => hr (hb i e.symm))⟩
theorem OnlyIn.setCell (h : OnlyIn S w w') {p : Addr} (hp : S p.block) (v : Value) : OnlyIn S w (w'.setCell p v) :=
 ⟨h.os, h.tape, h.output, by simpa using h.size, fun k hk hn => (heap_setCell_other w' p k v (fun e => hn (by rw [e]; exact hp))).trans (h.block k hk hn)⟩
theorem OnlyIn.wider {S2 : Nat → Prop} (h : OnlyIn S w w') (hs : ∀ k, S k → S2 k) : OnlyIn S2 w w' :=
 ⟨h.os, h.tape, h.output, h.size, fun k hk hn => h.block k hk (fun e => hn (hs k e))⟩
theorem OnlyIn.mid {b N : Nat} (h : OnlyIn S w w') (hs : ∀ k, S k → b ≤ k ∧ k < N) : Mid b N w w' :=
 ⟨h.os, h.tape, h.output, h.size, fun k hk hr => h.block k hk (fun e => by have := hs k e; omega)⟩
theorem ownsRow_only {base : Nat} {e : TypeId} {size : Nat} {v : Value} {n : Nat} {xs : List Value} (h : w.ownsRow base e size v n xs) (m : OnlyIn S w w') (hr : ∀ k, v.ownBlock = some k → ¬ S k) : w'.ownsRow base e size v n xs := by
 refine ⟨h.1, ?_⟩
 rcases h.2 with hn | ⟨g, cap, cur, rfl, hb, hgg, rest⟩
 ·exact .inl hn
 ·exact .inr ⟨g, cap, cur, rfl, hb, (m.block g (Array.getElem?_eq_some_iff.1 hgg).1 (hr g rfl)).trans hgg, rest⟩
end
theorem cellsT_mark : ∀ (ts : List Tile) (us : List Value), us.length = 2 * ts.length → ∀ (j : Nat), j < ts.length → ∀ (x : Tile), ((cellsT ts us).set (j * 4) (.int .i64 x.tb)).set (j * 4 + 2) (.bool x.rg) = cellsT (ts.set j x) us
 | [], _, _, j, h, _ => by simp at h
 | y :: ys, [], h, _, _, _ => by simp at h
 | y :: ys, [_], h, _, _, _ => by simp at h; omega
 | y :: ys, c :: d :: us, h, 0, _, x => by simp [cellsT]
 | y :: ys, c :: d :: us, h, j + 1, hj, x => by
  have := cellsT_mark ys us (by simp at h; omega) j (by simpa using hj) x
  have e1 : (j + 1) * 4 = j * 4 + 1 + 1 + 1 + 1 := by omega
  rw [e1]
  simp only [cellsT, List.set_cons_succ]
  rw [this]
theorem off_rowI {v u : Value} (hd : ∀ k, u.ownBlock = some k → v.ownBlock ≠ some k) : u.ownBlock = none ∨ u.ownBlock ≠ v.ownBlock := by
 cases e : u.ownBlock with
 | none => exact .inl rfl
 | some k => right; exact (hd k e).symm
theorem Elts.mark {w w' : World} {base : Nat} {us : List Value} {xss : List (List Int)} (h : Elts w base us xss) {i : Nat} (hi : i < xss.length) {x : List Int} (hg : w.grownBy w' (us.getD i vnil).ownBlock) (hu : OwnInts w' base 3 (us.getD i vnil) x) : Elts w' base us (xss.set i x) := by
 refine ⟨by simp [h.len], fun j hj => ?_, fun a b k hab hb hk => h.dis a b k hab (by simpa using hb) hk⟩
 rw [List.length_set] at hj
 rw [getD_set _ _ _ _ _ hi]
 by_cases e : i = j
 ·subst e; rw [if_pos rfl]; exact hu
 ·rw [if_neg e]
  refine ownsRow_gr (h.el j hj) hg (off_rowI (fun k hk => ?_))
  rcases Nat.lt_or_ge j i with h1 | h1
  ·exact h.dis j i k h1 hi hk
  ·intro e2; exact h.dis i j k (by omega) hj e2 hk
/-- The blocks of a row of tiles. -/
def BlkT (v : Value) (us : List Value) (n : Nat) (q : Nat) : Prop := v.ownBlock = some q ∨ ∃ j, j < 2 * n ∧ (us.getD j vnil).ownBlock = some q
end Go.Proofs.Ytgialedmbmfejaa

namespace Go.Proofs.Ytgialedmbmfejaa
open Go.RowKit
set_option maxRecDepth 100000
set_option linter.unusedVariables false
set_option linter.unusedSimpArgs false
def etile : Tile := ⟨0, List.replicate 3 15, false, List.replicate 8 0⟩
def econf : Conf := { ts := List.replicate 25 etile, ps := List.replicate 3 (15, false) }
theorem intInfo8 : (Try.prog.info? 3).map (fun i => (i.zero, i.size, i.bytes)) = some (some (.int .i64 0), 1, 8) := by kernel_rfl
theorem make8 (w : World) : (Instr.makeSlice 23 (.int .i64 8) (.int .i64 8)).run Try.prog w = .ok (.slice (some ⟨w.heap.size, 0, none⟩) 8 8) (w.alloc (.cells ((List.replicate 8 (0 : Int)).map (Value.int .i64)).toArray 3)) :=
 run_zeros (P := Try.prog) 23 3 (.int .i64 0) [.int .i64 0] 8 Try.underlying23 intInfo8 rfl (by decide) (by decide) 8 (by decide) w
theorem emptyTile_c (w : World) : Calls Try.prog 86 #[] w (MadeTile w etile) := by
 have hm := make8
 go_enter Try.func86, Try.ntmps86
 go_wp2
 refine bodyPost_ret (v := .agg #[.int .i64 etile.tb, .slice (some ⟨w.heap.size + 1, 0, none⟩) etile.sl.length 3, .bool etile.rg, .slice (some ⟨w.heap.size + 2, 0, none⟩) etile.dr.length 8]) (by simp [results, Try.results86, go_sem, etile]) rfl ?_
 refine ⟨w.heap.size + 1, w.heap.size + 2, rfl, by omega, by omega, ?_, ?_, by (repeat (first | with_reducible assumption | with_reducible exact Ext.refl _ | with_reducible refine Ext.drew' ?_ | with_reducible refine Ext.drewN' ?_ _ | with_reducible refine Ext.alloc ?_ _ | (with_reducible refine Ext.setNew ?_ (by first | exact Nat.le_refl _ | (simp; done) | (simp; omega) | omega) _)))⟩
 ·show Blk _ (w.heap.size + 1) 3 [.int .i64 15, .int .i64 15, .int .i64 15]
  repeat (first | with_reducible exact (Blk.at (w.alloc _) [.int .i64 15, .int .i64 15, .int .i64 15] 3 (by simp)).alloc _ | with_reducible refine Blk.setOther ?_ (by simp) _)
 ·show Blk _ (w.heap.size + 2) 3 [.int .i64 0, .int .i64 0, .int .i64 0, .int .i64 0, .int .i64 0, .int .i64 0, .int .i64 0, .int .i64 0]
  exact Blk.at _ [.int .i64 0, .int .i64 0, .int .i64 0, .int .i64 0, .int .i64 0, .int .i64 0, .int .i64 0, .int .i64 0] _ (by simp)
theorem cellsT_append : ∀ (ts : List Tile) (us : List Value), us.length = 2 * ts.length → ∀ (x : Tile) (a b : Value), cellsT (ts ++ [x]) (us ++ [a, b]) = cellsT ts us ++ [.int .i64 x.tb, a, .bool x.rg, b]
 | [], [], _, _, _, _ => rfl
 | [], _ :: _, h, _, _, _ => by simp at h
 | y :: ys, [], h, _, _, _ => by simp at h
 | y :: ys, [_], h, _, _, _ => by simp at h; omega
 | y :: ys, c :: d :: us, h, x, a, b => by
  have := cellsT_append ys us (by simp at h; omega) x a b
  simp only [List.cons_append, cellsT, this]
theorem flT_append : ∀ (ts : List Tile) (x : Tile), flT (ts ++ [x]) = flT ts ++ [x.sl, x.dr]
 | [], _ => rfl
 | y :: ys, x => by
  have := flT_append ys x
  simp only [List.cons_append, flT, this]
theorem getD_app {α : Type} (xs : List α) (x d : α) (j : Nat) (hj : j ≤ xs.length) : (xs ++ [x]).getD j d = if j = xs.length then x else xs.getD j d := by
 rw [List.getD_eq_getElem?_getD, List.getD_eq_getElem?_getD]
 by_cases e : j = xs.length
 ·subst e; simp
 ·rw [if_neg e, List.getElem?_append_left (by omega)]
theorem Elts.snoc {w : World} {base : Nat} {us : List Value} {xss : List (List Int)} (h : Elts w base us xss) {u : Value} {x : List Int} (hu : OwnInts w base 3 u x) (ha : ∀ j k, j < xss.length → (us.getD j vnil).ownBlock = some k → u.ownBlock ≠ some k) : Elts w base (us ++ [u]) (xss ++ [x]) := by
 have hl := h.len
 refine ⟨by simp [hl], fun j hj => ?_, fun a b k hab hb hk => ?_⟩
 ·rw [List.length_append] at hj
  simp only [List.length_cons, List.length_nil] at hj
  rw [getD_app _ _ _ _ (by omega), getD_app _ _ _ _ (by omega), hl]
  by_cases e : j = xss.length
  ·rw [if_pos e, if_pos e]; exact hu
  ·rw [if_neg e, if_neg e]; exact h.el j (by omega)
 ·rw [List.length_append] at hb
  simp only [List.length_cons, List.length_nil] at hb
  rw [getD_app _ _ _ _ (by omega), if_neg (by omega)] at hk
  rw [getD_app _ _ _ _ (by omega)]
  by_cases e : b = us.length
  ·rw [if_pos e]; exact ha a k (by omega) hk
  ·rw [if_neg e]; exact h.dis a b k hab (by omega) hk
theorem Elts.gr {w w' : World} {base : Nat} {us : List Value} {xss : List (List Int)} {v : Value} (h : Elts w base us xss) (hg : w.grownBy w' v.ownBlock) (ho : ∀ j k, j < xss.length → (us.getD j vnil).ownBlock = some k → v.ownBlock ≠ some k) : Elts w' base us xss :=
 { h with el := fun j hj => ownsRow_gr (h.el j hj) hg (off_rowI (fun k hk => ho j k hj hk)) }
/-- A tile behind a row of tiles: its slices are the newest blocks. -/
theorem OwnT.app {w w' : World} {base : Nat} {v v' : Value} {us : List Value} {ts : List Tile} {x : Tile} {B1 B2 : Nat} (h : OwnT w base v us ts) (hrow : w'.ownsRow base 61 4 v' (ts.length + 1) (cellsT ts us ++ [.int .i64 x.tb, .slice (some ⟨B1, 0, none⟩) x.sl.length x.sl.length, .bool x.rg, .slice (some ⟨B2, 0, none⟩) x.dr.length x.dr.length])) (hg : w.grownBy w' v.ownBlock) (hm : RowMoved w v v')
  (b1 : Blk w B1 3 (x.sl.map (Value.int .i64))) (b2 : Blk w B2 3 (x.dr.map (Value.int .i64))) (h1 : base ≤ B1) (h12 : B1 < B2) (hv : ∀ q, v.ownBlock = some q → q < B1) (hu : ∀ j q, j < 2 * ts.length → (us.getD j vnil).ownBlock = some q → q < B1) (l1 : x.sl.length ≤ 1048576) (l2 : x.dr.length ≤ 1048576) :
  OwnT w' base v' (us ++ [.slice (some ⟨B1, 0, none⟩) x.sl.length x.sl.length, .slice (some ⟨B2, 0, none⟩) x.dr.length x.dr.length]) (ts ++ [x]) := by
 have hul := h.ul
 have hfl := flT_length ts
 have k1 := b1.lt
 have k2 := b2.lt
 have o1 : OwnInts w base 3 (.slice (some ⟨B1, 0, none⟩) x.sl.length x.sl.length) x.sl := b1.owns (n := x.sl.length) (size := 1) (by simp) h1 (by unfold maxLen; omega)
 have o2 : OwnInts w base 3 (.slice (some ⟨B2, 0, none⟩) x.dr.length x.dr.length) x.dr := b2.owns (n := x.dr.length) (size := 1) (by simp) (by omega) (by unfold maxLen; omega)
 have g1 : w'.ownsRow base 3 1 (.slice (some ⟨B1, 0, none⟩) x.sl.length x.sl.length) x.sl.length (x.sl.map (Value.int .i64)) := ownsRow_gr o1 hg (off_rowI (fun k hk e => by have := hv k e; have e2 : B1 = k := Option.some.inj hk; omega))
 have g2 : w'.ownsRow base 3 1 (.slice (some ⟨B2, 0, none⟩) x.dr.length x.dr.length) x.dr.length (x.dr.map (Value.int .i64)) := ownsRow_gr o2 hg (off_rowI (fun k hk e => by have := hv k e; have e2 : B2 = k := Option.some.inj hk; omega))
 have hE := (h.els.gr hg (fun j k hj hk => h.off j k (by omega) hk)).snoc g1 (fun j k hj hk e => by have := hu j k (by omega) hk; have e2 : B1 = k := Option.some.inj e; omega)
 have hE2 := hE.snoc g2 (fun j k hj hk e => by
  have e2 : B2 = k := Option.some.inj e
  rw [List.length_append] at hj
  simp only [List.length_cons, List.length_nil] at hj
  rw [getD_app _ _ _ _ (by omega)] at hk
  split at hk
  ·have e3 : B1 = k := Option.some.inj hk
   omega
  ·have := hu j k (by omega) hk; omega)
 rw [List.append_assoc, List.append_assoc] at hE2
 refine ⟨by rw [cellsT_append ts us hul, List.length_append]; exact hrow, by rw [flT_append]; exact hE2, fun j k hj hk e => ?_⟩
 rw [List.length_append] at hj
 simp only [List.length_cons, List.length_nil] at hj
 have hkk : k < w.heap.size ∧ v.ownBlock ≠ some k := by
  have e4 : us ++ [Value.slice (some ⟨B1, 0, none⟩) x.sl.length x.sl.length, .slice (some ⟨B2, 0, none⟩) x.dr.length x.dr.length] = (us ++ [Value.slice (some ⟨B1, 0, none⟩) x.sl.length x.sl.length]) ++ [.slice (some ⟨B2, 0, none⟩) x.dr.length x.dr.length] := by simp
  rw [e4, getD_app _ _ _ _ (by rw [List.length_append]; simp; omega)] at hk
  split at hk
  ·have e3 : B2 = k := Option.some.inj hk
   exact ⟨by omega, fun e => by have := hv k e; omega⟩
  ·rename_i hne
   rw [List.length_append] at hne
   simp only [List.length_cons, List.length_nil] at hne
   rw [getD_app _ _ _ _ (by omega)] at hk
   split at hk
   ·have e3 : B1 = k := Option.some.inj hk
    exact ⟨by omega, fun e => by have := hv k e; omega⟩
   ·exact ⟨(h.els.lt (by omega) hk).2, h.off j k (by omega) hk⟩
 rcases hm with e5 | ⟨q, e5, hq⟩
 ·rw [e5] at e; exact hkk.2 e
 ·rw [e5] at e
  have : q = k := Option.some.inj e
  omega
end Go.Proofs.Ytgialedmbmfejaa

namespace Go.Proofs.Ytgialedmbmfejaa
open Go.RowKit
set_option maxRecDepth 100000
set_option linter.unusedVariables false
set_option linter.unusedSimpArgs false
theorem row_le {w : World} {b b2 : Nat} {e : TypeId} {size : Nat} {v : Value} {n : Nat} {xs : List Value} (h : w.ownsRow b e size v n xs) (hb : b2 ≤ b) : w.ownsRow b2 e size v n xs := by
 refine ⟨h.1, ?_⟩
 rcases h.2 with h | ⟨g, cap, cur, h1, h2, h3⟩
 ·exact .inl h
 ·exact .inr ⟨g, cap, cur, h1, Nat.le_trans hb h2, h3⟩
section
variable {w0 w w' : World} {base : Nat} {tv pv v' : Value} {us : List Value} {K : Conf}
theorem OwnK.le {b : Nat} (h : OwnK w base tv pv us K) (hb : b ≤ base) : OwnK w b tv pv us K := { h with ts := h.ts.le hb, ps := row_le h.ps hb }
theorem OwnK.none_ : OwnK w base vnil vnil [] { ts := [], ps := [] } := ⟨OwnT.nil, ownsRow_nil, fun q hq => by cases hq⟩
theorem OwnK.setCell (h : OwnK w base tv pv us K) {p : Addr} (hp : p.block < base) (v : Value) : OwnK (w.setCell p v) base tv pv us K :=
 { h with
  ts := { h.ts with row := ownsRow_set h.ts.row (fun e => by have := (World.ownsRow.lt h.ts.row _ e).1; omega) v, els := h.ts.els.setCell (fun j hj e => by have := (h.ts.els.lt hj e).1; omega) v }
  ps := ownsRow_set h.ps (fun e => by have := (World.ownsRow.lt h.ps _ e).1; omega) v }
theorem OwnK.appTile {x : Tile} {B1 B2 : Nat} (h : OwnK w0 base tv pv us K) (e : Ext w0 w) (hrow : w'.ownsRow base 61 4 v' (K.ts.length + 1) (cellsT K.ts us ++ [.int .i64 x.tb, .slice (some ⟨B1, 0, none⟩) x.sl.length x.sl.length, .bool x.rg, .slice (some ⟨B2, 0, none⟩) x.dr.length x.dr.length])) (hg : w.grownBy w' tv.ownBlock) (hm : RowMoved w tv v')
  (b1 : Blk w B1 3 (x.sl.map (Value.int .i64))) (b2 : Blk w B2 3 (x.dr.map (Value.int .i64))) (hB : w0.heap.size ≤ B1) (hbase : base ≤ B1) (h12 : B1 < B2) (l1 : x.sl.length ≤ 1048576) (l2 : x.dr.length ≤ 1048576) :
  OwnK w' base v' pv (us ++ [.slice (some ⟨B1, 0, none⟩) x.sl.length x.sl.length, .slice (some ⟨B2, 0, none⟩) x.dr.length x.dr.length]) { K with ts := K.ts ++ [x] } := by
 have hv : ∀ q, tv.ownBlock = some q → q < w0.heap.size := fun q hq => (World.ownsRow.lt h.ts.row q hq).2
 have hu : ∀ j q, j < 2 * K.ts.length → (us.getD j vnil).ownBlock = some q → q < w0.heap.size := fun j q hj hq => (h.ts.els.lt (by rw [flT_length]; exact hj) hq).2
 have hp : ∀ q, pv.ownBlock = some q → q < w0.heap.size := fun q hq => (World.ownsRow.lt h.ps q hq).2
 have hul := h.ts.ul
 have hsz := e.size
 refine ⟨(h.ts.ext e).app hrow hg hm b1 b2 hbase h12 (fun q hq => by have := hv q hq; omega) (fun j q hj hq => by have := hu j q hj hq; omega) l1 l2, ownsRow_gr (ownsRow_ext h.ps e) hg (off_rowI (fun q hq e => (h.op q hq).1 e)), fun q hq => ⟨fun e5 => ?_, fun j hj hk => ?_⟩⟩
 ·rcases hm with e6 | ⟨r, e6, hr⟩
  ·rw [e6] at e5; exact (h.op q hq).1 e5
  ·rw [e6] at e5
   have := hp q hq
   have : r = q := Option.some.inj e5
   omega
 ·have hq2 := hp q hq
  have hj2 : j < 2 * (K.ts ++ [x]).length := hj
  rw [List.length_append] at hj2
  simp only [List.length_cons, List.length_nil] at hj2
  have e4 : us ++ [Value.slice (some ⟨B1, 0, none⟩) x.sl.length x.sl.length, .slice (some ⟨B2, 0, none⟩) x.dr.length x.dr.length] = (us ++ [Value.slice (some ⟨B1, 0, none⟩) x.sl.length x.sl.length]) ++ [.slice (some ⟨B2, 0, none⟩) x.dr.length x.dr.length] := by simp
  rw [e4, getD_app _ _ _ _ (by rw [List.length_append]; simp; omega)] at hk
  split at hk
  ·have e3 : B2 = q := Option.some.inj hk
   omega
  ·rename_i hne
   rw [List.length_append] at hne
   simp only [List.length_cons, List.length_nil] at hne
   rw [getD_app _ _ _ _ (by omega)] at hk
   split at hk
   ·have e3 : B1 = q := Option.some.inj hk
    omega
   ·exact (h.op q hq).2 j (by omega) hk
theorem OwnK.appPad {y : Int × Bool} (h : OwnK w base tv pv us K) (hrow : w'.ownsRow base 75 2 v' (K.ps.length + 1) (flatP K.ps ++ [.int .i64 y.1, .bool y.2])) (hg : w.grownBy w' pv.ownBlock) (hm : RowMoved w pv v') :
  OwnK w' base tv v' us { K with ps := K.ps ++ [y] } := by
 have hv : ∀ q, tv.ownBlock = some q → q < w.heap.size := fun q hq => (World.ownsRow.lt h.ts.row q hq).2
 have hu : ∀ j q, j < 2 * K.ts.length → (us.getD j vnil).ownBlock = some q → q < w.heap.size := fun j q hj hq => (h.ts.els.lt (by rw [flT_length]; exact hj) hq).2
 refine ⟨{ h.ts with row := ownsRow_gr h.ts.row hg (off_rowI (v := pv) (fun q hq e => (h.op q e).1 hq)), els := h.ts.els.gr hg (fun j k hj hk e => (h.op k e).2 j (by rw [flT_length] at hj; exact hj) hk) }, ?_, fun q hq => ?_⟩
 ·show w'.ownsRow base 75 2 v' (K.ps ++ [y]).length (flatP (K.ps ++ [y]))
  rw [List.length_append, flatP_append]; exact hrow
 ·rcases hm with e6 | ⟨r, e6, hr⟩
  ·rw [e6] at hq; exact h.op q hq
  ·rw [e6] at hq
   have e7 : r = q := Option.some.inj hq
   exact ⟨fun e => by have := hv q e; omega, fun j hj e => by have := hu j q hj e; omega⟩
end
end Go.Proofs.Ytgialedmbmfejaa

namespace Go.Proofs.Ytgialedmbmfejaa
open Go.RowKit
set_option maxRecDepth 100000
set_option linter.unusedVariables false
set_option linter.unusedSimpArgs false
theorem OwnT.app2 {w w' : World} {base N : Nat} {v v' u1 u2 : Value} {us : List Value} {ts : List Tile} {x : Tile} (h : OwnT w base v us ts) (hrow : w'.ownsRow base 61 4 v' (ts.length + 1) (cellsT ts us ++ [.int .i64 x.tb, u1, .bool x.rg, u2])) (hg : w.grownBy w' v.ownBlock) (hm : RowMoved w v v')
  (o1 : OwnInts w base 3 u1 x.sl) (o2 : OwnInts w base 3 u2 x.dr) (hv : ∀ q, v.ownBlock = some q → q < N) (hu : ∀ j q, j < 2 * ts.length → (us.getD j vnil).ownBlock = some q → q < N) (n1 : ∀ q, u1.ownBlock = some q → N ≤ q) (n2 : ∀ q, u2.ownBlock = some q → N ≤ q) (n12 : ∀ q, u1.ownBlock = some q → u2.ownBlock ≠ some q) :
  OwnT w' base v' (us ++ [u1, u2]) (ts ++ [x]) := by
 have hul := h.ul
 have hfl := flT_length ts
 have g1 : OwnInts w' base 3 u1 x.sl := ownsRow_gr o1 hg (off_rowI (fun k hk e => by have := hv k e; have := n1 k hk; omega))
 have g2 : OwnInts w' base 3 u2 x.dr := ownsRow_gr o2 hg (off_rowI (fun k hk e => by have := hv k e; have := n2 k hk; omega))
 have hE := (h.els.gr hg (fun j k hj hk => h.off j k (by omega) hk)).snoc g1 (fun j k hj hk e => by have := hu j k (by omega) hk; have := n1 k e; omega)
 have hE2 := hE.snoc g2 (fun j k hj hk e => by
  rw [List.length_append] at hj
  simp only [List.length_cons, List.length_nil] at hj
  rw [getD_app _ _ _ _ (by omega)] at hk
  split at hk
  ·exact n12 k hk e
  ·have := hu j k (by omega) hk; have := n2 k e; omega)
 rw [List.append_assoc, List.append_assoc] at hE2
 refine ⟨by rw [cellsT_append ts us hul, List.length_append]; exact hrow, by rw [flT_append]; exact hE2, fun j k hj hk e => ?_⟩
 rw [List.length_append] at hj
 simp only [List.length_cons, List.length_nil] at hj
 have hkk : k < w.heap.size ∧ v.ownBlock ≠ some k := by
  have e4 : us ++ [u1, u2] = (us ++ [u1]) ++ [u2] := by simp
  rw [e4, getD_app _ _ _ _ (by rw [List.length_append]; simp; omega)] at hk
  split at hk
  ·exact ⟨(ownI_lt o2 k hk).2, fun e => by have := hv k e; have := n2 k hk; omega⟩
  ·rename_i hne
   rw [List.length_append] at hne
   simp only [List.length_cons, List.length_nil] at hne
   rw [getD_app _ _ _ _ (by omega)] at hk
   split at hk
   ·exact ⟨(ownI_lt o1 k hk).2, fun e => by have := hv k e; have := n1 k hk; omega⟩
   ·exact ⟨(h.els.lt (by omega) hk).2, h.off j k (by omega) hk⟩
 rcases hm with e5 | ⟨q, e5, hq⟩
 ·rw [e5] at e; exact hkk.2 e
 ·rw [e5] at e
  have : q = k := Option.some.inj e
  omega
theorem OwnK.appTile2 {w0 w w' : World} {base : Nat} {tv pv v' u1 u2 : Value} {us : List Value} {K : Conf} {x : Tile} (h : OwnK w0 base tv pv us K) (e : Ext w0 w) (hrow : w'.ownsRow base 61 4 v' (K.ts.length + 1) (cellsT K.ts us ++ [.int .i64 x.tb, u1, .bool x.rg, u2])) (hg : w.grownBy w' tv.ownBlock) (hm : RowMoved w tv v')
  (o1 : OwnInts w base 3 u1 x.sl) (o2 : OwnInts w base 3 u2 x.dr) (n1 : ∀ q, u1.ownBlock = some q → w0.heap.size ≤ q) (n2 : ∀ q, u2.ownBlock = some q → w0.heap.size ≤ q) (n12 : ∀ q, u1.ownBlock = some q → u2.ownBlock ≠ some q) :
  OwnK w' base v' pv (us ++ [u1, u2]) { K with ts := K.ts ++ [x] } := by
 have hv : ∀ q, tv.ownBlock = some q → q < w0.heap.size := fun q hq => (World.ownsRow.lt h.ts.row q hq).2
 have hu : ∀ j q, j < 2 * K.ts.length → (us.getD j vnil).ownBlock = some q → q < w0.heap.size := fun j q hj hq => (h.ts.els.lt (by rw [flT_length]; exact hj) hq).2
 have hp : ∀ q, pv.ownBlock = some q → q < w0.heap.size := fun q hq => (World.ownsRow.lt h.ps q hq).2
 have hul := h.ts.ul
 have hsz := e.size
 refine ⟨(h.ts.ext e).app2 hrow hg hm o1 o2 hv hu n1 n2 n12, ownsRow_gr (ownsRow_ext h.ps e) hg (off_rowI (fun q hq e => (h.op q hq).1 e)), fun q hq => ⟨fun e5 => ?_, fun j hj hk => ?_⟩⟩
 ·rcases hm with e6 | ⟨r, e6, hr⟩
  ·rw [e6] at e5; exact (h.op q hq).1 e5
  ·rw [e6] at e5
   have := hp q hq
   have : r = q := Option.some.inj e5
   omega
 ·have hq2 := hp q hq
  have hj2 : j < 2 * (K.ts ++ [x]).length := hj
  rw [List.length_append] at hj2
  simp only [List.length_cons, List.length_nil] at hj2
  have e4 : us ++ [u1, u2] = (us ++ [u1]) ++ [u2] := by simp
  rw [e4, getD_app _ _ _ _ (by rw [List.length_append]; simp; omega)] at hk
  split at hk
  ·have := n2 q hk; omega
  ·rename_i hne
   rw [List.length_append] at hne
   simp only [List.length_cons, List.length_nil] at hne
   rw [getD_app _ _ _ _ (by omega)] at hk
   split at hk
   ·have := n1 q hk; omega
   ·exact (h.op q hq).2 j (by omega) hk
end Go.Proofs.Ytgialedmbmfejaa

namespace Go.Proofs.Ytgialedmbmfejaa
open Go.RowKit
set_option maxRecDepth 100000
set_option linter.unusedVariables false
set_option linter.unusedSimpArgs false
def trackB (n : Int) : Bool := (decide (0 ≤ n) && decide (n ≤ 7)) || n == 15
/-- The neighbour of a tile in a direction. -/
def nbV (t d : Int) : Int :=
 if d = 2 then (if 5 ≤ t then t - 5 else -1) else if d = 3 then (if 0 < t % 5 then t - 1 else -1) else if d = 4 then (if t % 5 < 4 then t + 1 else -1) else if d = 5 then (if t < 20 then t + 5 else -1) else -1
theorem isTrack_c (n : Int) (w : World) : Calls Try.prog 117 #[.int .i64 n] w fun e w' => e = .returned (.bool (trackB n)) ∧ w = w' := by
 have hcase : n < 0 ∨ (0 ≤ n ∧ n < 8) ∨ (8 ≤ n) := by omega
 have HT : Hid (trackB n = ((decide (0 ≤ n) && decide (n ≤ 7)) || n == 15)) := Lib.hid rfl
 rcases hcase with h | ⟨h, h2⟩ | h
 ·have h3 : (n == 15) = false := by simp; omega
  go_enter Try.func117, Try.ntmps117
  go_wp2
  go_ret
  exact ⟨by rw [HT.out, h3, decide_eq_false (by omega)]; rfl, rfl⟩
 ·go_enter Try.func117, Try.ntmps117
  go_wp2
  go_ret
  exact ⟨by rw [HT.out, decide_eq_true (by omega), decide_eq_true (by omega)]; rfl, rfl⟩
 ·have h0 : 0 ≤ n := by omega
  have h3 : ¬ n < 8 := by omega
  go_enter Try.func117, Try.ntmps117
  go_wp2
  go_ret
  exact ⟨by rw [HT.out, decide_eq_true (by omega), decide_eq_false (by omega)]; rfl, rfl⟩
theorem l9Track_c (n : Int) (w : World) : Calls Try.prog 88 #[.int .i64 n] w fun e w' => e = .returned (.bool (trackB n)) ∧ w = w' := by
 have HT : Hid (trackB n = ((decide (0 ≤ n) && decide (n ≤ 7)) || n == 15)) := Lib.hid rfl
 cases hd : (decide ((0 : Int) ≤ n) && decide (n ≤ 7))
 ·have HD := Lib.hid hd
  clear hd
  go_enter Try.func88, Try.ntmps88
  go_wp2_with fail
  refine (l1In_c n 0 7 _).mono ?_
  rw [HD.out]
  rintro e w' ⟨rfl, rfl⟩
  go_wp2
  go_ret
  exact ⟨by rw [HT.out, HD.out]; rfl, rfl⟩
 ·have HD := Lib.hid hd
  clear hd
  go_enter Try.func88, Try.ntmps88
  go_wp2_with fail
  refine (l1In_c n 0 7 _).mono ?_
  rw [HD.out]
  rintro e w' ⟨rfl, rfl⟩
  go_wp2
  go_ret
  exact ⟨by rw [HT.out, HD.out]; rfl, rfl⟩
theorem nb_cases (t : Nat) (ht : t < 25) : (5 ≤ (t : Int) ∨ (t : Int) < 5) ∧ (0 < (t : Int) % 5 ∨ (t : Int) % 5 = 0) ∧ ((t : Int) % 5 < 4 ∨ (t : Int) % 5 = 4) ∧ ((t : Int) < 20 ∨ 20 ≤ (t : Int)) := by omega
set_option maxHeartbeats 2000000 in
theorem neighbours_c (t : Nat) (ht : t < 25) (w : World) : Calls Try.prog 118 #[.int .i64 t] w fun e w' => e = .returned (.agg #[.int .i64 (nbV t 2), .int .i64 (nbV t 3), .int .i64 (nbV t 4), .int .i64 (nbV t 5)]) ∧ Ext w w' := by
  obtain ⟨h1, h2, h3, h4⟩ := nb_cases t ht
  have e2 : Hid (nbV t 2 = if 5 ≤ (t : Int) then (t : Int) - 5 else -1) := Lib.hid (by simp [nbV])
  have e3 : Hid (nbV t 3 = if 0 < (t : Int) % 5 then (t : Int) - 1 else -1) := Lib.hid (by simp [nbV])
  have e4 : Hid (nbV t 4 = if (t : Int) % 5 < 4 then (t : Int) + 1 else -1) := Lib.hid (by simp [nbV])
  have e5 : Hid (nbV t 5 = if (t : Int) < 20 then (t : Int) + 5 else -1) := Lib.hid (by simp [nbV])
  obtain ⟨n2, hn2⟩ : ∃ n, n = nbV t 2 := ⟨_, rfl⟩
  obtain ⟨n3, hn3⟩ : ∃ n, n = nbV t 3 := ⟨_, rfl⟩
  obtain ⟨n4, hn4⟩ : ∃ n, n = nbV t 4 := ⟨_, rfl⟩
  obtain ⟨n5, hn5⟩ : ∃ n, n = nbV t 5 := ⟨_, rfl⟩
  rw [← hn2] at e2
  rw [← hn3] at e3
  rw [← hn4] at e4
  rw [← hn5] at e5
  rw [← hn2, ← hn3, ← hn4, ← hn5]
  clear hn2 hn3 hn4 hn5
  rcases h1 with h1 | h1 <;> rcases h2 with h2 | h2 <;> rcases h3 with h3 | h3 <;> rcases h4 with h4 | h4
  all_goals
    first
    | (exfalso; omega)
    | (go_enter Try.func118, Try.ntmps118
       go_wp2
       refine bodyPost_ret (v := .agg #[.int .i64 n2, .int .i64 n3, .int .i64 n4, .int .i64 n5]) (by rw [e2.out, e3.out, e4.out, e5.out]; simp [results, Try.results118, go_sem, *] <;> omega) rfl ?_
       exact ⟨rfl, by (repeat (first | with_reducible assumption | with_reducible exact Ext.refl _ | with_reducible refine Ext.drew' ?_ | with_reducible refine Ext.drewN' ?_ _ | with_reducible refine Ext.alloc ?_ _ | (with_reducible refine Ext.setNew ?_ (by first | exact Nat.le_refl _ | (simp; done) | (simp; omega) | omega) _)))⟩)
theorem l9Neighbour_c (t : Nat) (ht : t < 25) (d : Int) (h2 : 2 ≤ d) (h5 : d ≤ 5) (w : World) : Calls Try.prog 119 #[.int .i64 t, .int .i64 d] w fun e w' => e = .returned (.int .i64 (nbV t d)) ∧ w = w' := by
 obtain ⟨g1, g2, g3, g4⟩ := nb_cases t ht
 have hd : d = 2 ∨ d = 3 ∨ d = 4 ∨ d = 5 := by omega
 rcases hd with rfl | rfl | rfl | rfl
 ·have e : Hid (nbV t 2 = if 5 ≤ (t : Int) then (t : Int) - 5 else -1) := Lib.hid (by simp [nbV])
  clear g2 g3 g4
  rcases g1 with g | g
  all_goals
   go_enter Try.func119, Try.ntmps119
   go_wp2
   go_ret
   refine ⟨?_, rfl⟩
   rw [e.out]
   first | (rw [if_pos (by omega)]; rfl) | (rw [if_neg (by omega)]; rfl)
 ·have e : Hid (nbV t 3 = if 0 < (t : Int) % 5 then (t : Int) - 1 else -1) := Lib.hid (by simp [nbV])
  clear g1 g3 g4
  rcases g2 with g | g
  all_goals
   go_enter Try.func119, Try.ntmps119
   go_wp2
   go_ret
   refine ⟨?_, rfl⟩
   rw [e.out]
   first | (rw [if_pos (by omega)]; rfl) | (rw [if_neg (by omega)]; rfl)
 ·have e : Hid (nbV t 4 = if (t : Int) % 5 < 4 then (t : Int) + 1 else -1) := Lib.hid (by simp [nbV])
  clear g1 g2 g4
  rcases g3 with g | g
  all_goals
   go_enter Try.func119, Try.ntmps119
   go_wp2
   go_ret
   refine ⟨?_, rfl⟩
   rw [e.out]
   first | (rw [if_pos (by omega)]; rfl) | (rw [if_neg (by omega)]; rfl)
 ·have e : Hid (nbV t 5 = if (t : Int) < 20 then (t : Int) + 5 else -1) := Lib.hid (by simp [nbV])
  clear g1 g2 g3
  rcases g4 with g | g
  all_goals
   go_enter Try.func119, Try.ntmps119
   go_wp2
   go_ret
   refine ⟨?_, rfl⟩
   rw [e.out]
   first | (rw [if_pos (by omega)]; rfl) | (rw [if_neg (by omega)]; rfl)
end Go.Proofs.Ytgialedmbmfejaa

namespace Go.Proofs.Ytgialedmbmfejaa
open Go.RowKit
set_option maxRecDepth 100000
set_option linter.unusedVariables false
set_option linter.unusedSimpArgs false
/-- May source d drive a wire of tile t? -/
def drvB (t : Nat) (d : Int) : Bool := decide (0 ≤ d) && decide (d ≤ 6) && !(decide (2 ≤ d) && decide (d ≤ 5) && decide (nbV t d < 0)) && !(decide (d = 6) && (decide (0 < t % 5) || decide (4 ≤ t / 5)))
structure Tile.Ok (x : Tile) (t : Nat) : Prop where
 t0 : 0 ≤ x.tb
 t1 : x.tb < 256
 ls : x.sl.length = 3
 ld : x.dr.length = 8
 ss : ∀ j, j < 3 → trackB (x.sl.getD j 0) = true
 ds : ∀ j, j < 8 → drvB t (x.dr.getD j 0) = true
open Classical in
noncomputable def tileB (x : Tile) (t : Nat) : Bool := decide (x.Ok t)
theorem tileB_true {x : Tile} {t : Nat} (h : x.Ok t) : tileB x t = true := by unfold tileB; exact @decide_eq_true _ (_) h
theorem tileB_false {x : Tile} {t : Nat} (h : ¬ x.Ok t) : tileB x t = false := by unfold tileB; exact @decide_eq_false _ (_) h
theorem tileB_iff {x : Tile} {t : Nat} : tileB x t = true ↔ x.Ok t := by unfold tileB; exact @decide_eq_true_iff _ (_)
theorem drvB_low {t : Nat} {d : Int} (h : d < 0 ∨ 6 < d) : drvB t d = false := by
 unfold drvB
 rcases h with h | h
 ·rw [decide_eq_false (by omega)]; rfl
 ·rw [decide_eq_true (p := 0 ≤ d) (by omega), decide_eq_false (p := d ≤ 6) (by omega)]; rfl
theorem drvB_near {t : Nat} {d : Int} (h2 : 2 ≤ d) (h5 : d ≤ 5) : drvB t d = decide (0 ≤ nbV t d) := by
 unfold drvB
 rw [decide_eq_true (p := 0 ≤ d) (by omega), decide_eq_true (p := d ≤ 6) (by omega), decide_eq_true (p := 2 ≤ d) h2, decide_eq_true (p := d ≤ 5) h5, decide_eq_false (p := d = 6) (by omega)]
 by_cases h : nbV t d < 0
 ·rw [decide_eq_true h, decide_eq_false (p := 0 ≤ nbV t d) (by omega)]; rfl
 ·rw [decide_eq_false h, decide_eq_true (p := 0 ≤ nbV t d) (by omega)]; rfl
theorem drvB_one {t : Nat} {d : Int} (h : d = 0 ∨ d = 1) : drvB t d = true := by
 rcases h with rfl | rfl <;> simp [drvB]
theorem drvB_in (t : Nat) : drvB t 6 = (decide (t % 5 = 0) && decide (t / 5 < 4)) := by
 unfold drvB
 by_cases h1 : t % 5 = 0
 ·by_cases h2 : t / 5 < 4
  ·simp [h1, h2]
  ·simp [h1, h2] <;> omega
 ·simp [h1] <;> omega
set_option maxHeartbeats 4000000 in
theorem tileValid_c (x : Tile) (t : Nat) (ht : t < 25) (sa da : Option Addr) (sc dc : Nat) (w : World) (hs : IntsAt w sa x.sl) (hd : IntsAt w da x.dr) (ll : x.sl.length ≤ 1048576) (ld : x.dr.length ≤ 1048576) :
  Calls Try.prog 85 #[.agg #[.int .i64 x.tb, .slice sa x.sl.length sc, .bool x.rg, .slice da x.dr.length dc], .int .i64 t] w fun e w' => e = .returned (.bool (tileB x t)) ∧ Ext w w' := by
 have y := Blk.at w [.int .i64 x.tb, .slice sa x.sl.length sc, .bool x.rg, .slice da x.dr.length dc] 61 rfl
 have hcase : (x.tb < 0) ∨ (0 ≤ x.tb ∧ 256 ≤ x.tb) ∨ (0 ≤ x.tb ∧ x.tb < 256 ∧ ((x.sl.length : Int) != 3) = true) ∨ (0 ≤ x.tb ∧ x.tb < 256 ∧ ((x.sl.length : Int) != 3) = false ∧ ((x.dr.length : Int) != 8) = true) ∨ (0 ≤ x.tb ∧ x.tb < 256 ∧ ((x.sl.length : Int) != 3) = false ∧ ((x.dr.length : Int) != 8) = false) := by
  by_cases h1 : x.tb < 0
  ·exact .inl h1
  by_cases h2 : 256 ≤ x.tb
  ·exact .inr (.inl ⟨by omega, h2⟩)
  by_cases h3 : x.sl.length = 3
  ·by_cases h4 : x.dr.length = 8
   ·exact .inr (.inr (.inr (.inr ⟨by omega, by omega, by simp; omega, by simp; omega⟩)))
   ·exact .inr (.inr (.inr (.inl ⟨by omega, by omega, by simp; omega, by simp; omega⟩)))
  ·exact .inr (.inr (.inl ⟨by omega, by omega, by simp; omega⟩))
 obtain ⟨R, hR⟩ : ∃ R, R = tileB x t := ⟨_, rfl⟩
 rw [← hR]
 have HR := Lib.hid hR
 clear hR
 rcases hcase with h1 | ⟨h1, h2⟩ | ⟨h1, h2, h3⟩ | ⟨h1, h2, h3, h4⟩ | ⟨h1, h2, h3, h4⟩
 ·have hf : R = false := by
   rw [HR.out]
   refine tileB_false (fun h => ?_)
   have q1 := h.t0; have q2 := h.t1; have q3 := h.ls; have q4 := h.ld
   first | omega | (simp at h3; omega) | (simp at h4; omega)
  subst hf
  go_enter Try.func85, Try.ntmps85
  go_wp2
  go_ret
  exact ⟨rfl, by (repeat (first | with_reducible assumption | with_reducible exact Ext.refl _ | with_reducible refine Ext.drew' ?_ | with_reducible refine Ext.drewN' ?_ _ | with_reducible refine Ext.alloc ?_ _ | (with_reducible refine Ext.setNew ?_ (by first | exact Nat.le_refl _ | (simp; done) | (simp; omega) | omega) _)))⟩
 ·have hf : R = false := by
   rw [HR.out]
   refine tileB_false (fun h => ?_)
   have q1 := h.t0; have q2 := h.t1; have q3 := h.ls; have q4 := h.ld
   first | omega | (simp at h3; omega) | (simp at h4; omega)
  subst hf
  go_enter Try.func85, Try.ntmps85
  go_wp2
  go_ret
  exact ⟨rfl, by (repeat (first | with_reducible assumption | with_reducible exact Ext.refl _ | with_reducible refine Ext.drew' ?_ | with_reducible refine Ext.drewN' ?_ _ | with_reducible refine Ext.alloc ?_ _ | (with_reducible refine Ext.setNew ?_ (by first | exact Nat.le_refl _ | (simp; done) | (simp; omega) | omega) _)))⟩
 ·have hf : R = false := by
   rw [HR.out]
   refine tileB_false (fun h => ?_)
   have q1 := h.t0; have q2 := h.t1; have q3 := h.ls; have q4 := h.ld
   first | omega | (simp at h3; omega) | (simp at h4; omega)
  subst hf
  go_enter Try.func85, Try.ntmps85
  go_wp2
  go_ret
  exact ⟨rfl, by (repeat (first | with_reducible assumption | with_reducible exact Ext.refl _ | with_reducible refine Ext.drew' ?_ | with_reducible refine Ext.drewN' ?_ _ | with_reducible refine Ext.alloc ?_ _ | (with_reducible refine Ext.setNew ?_ (by first | exact Nat.le_refl _ | (simp; done) | (simp; omega) | omega) _)))⟩
 ·have hf : R = false := by
   rw [HR.out]
   refine tileB_false (fun h => ?_)
   have q1 := h.t0; have q2 := h.t1; have q3 := h.ls; have q4 := h.ld
   first | omega | (simp at h3; omega) | (simp at h4; omega)
  subst hf
  go_enter Try.func85, Try.ntmps85
  go_wp2
  go_ret
  exact ⟨rfl, by (repeat (first | with_reducible assumption | with_reducible exact Ext.refl _ | with_reducible refine Ext.drew' ?_ | with_reducible refine Ext.drewN' ?_ _ | with_reducible refine Ext.alloc ?_ _ | (with_reducible refine Ext.setNew ?_ (by first | exact Nat.le_refl _ | (simp; done) | (simp; omega) | omega) _)))⟩
 ·have l3 : x.sl.length ≤ 3 ∧ 3 ≤ x.sl.length := by simp at h3; omega
  have l8 : x.dr.length ≤ 8 ∧ 8 ≤ x.dr.length := by simp at h4; omega
  obtain ⟨l31, l32⟩ := l3
  obtain ⟨l81, l82⟩ := l8
  have Ey : Ext w (w.alloc (.cells #[.int .i64 x.tb, .slice sa x.sl.length sc, .bool x.rg, .slice da x.dr.length dc] 61)) := (Ext.refl w).alloc _
  go_enter Try.func85, Try.ntmps85
  go_wp2_with fail
  go_loopw [33] (fun u wr => ∃ k : Nat, k ≤ x.sl.length ∧ u = .int .i64 k ∧ Hid (∀ j, j < k → trackB (x.sl.getD j 0) = true) ∧ Ext w wr ∧ Blk wr w.heap.size 61 [.int .i64 x.tb, .slice sa x.sl.length sc, .bool x.rg, .slice da x.dr.length dc]) (fun i _ => x.sl.length - (intOf i).toNat)
  case atStart => exact ⟨0, Nat.zero_le _, rfl, Lib.hid (fun j hj => absurd hj (Nat.not_lt_zero j)), Ey, y⟩
  case round =>
   obtain ⟨k, hk, rfl, hP, hE, hy⟩ := hrel
   by_cases hlt : k < x.sl.length
   ·obtain ⟨b1, o1, rfl, hb1, hcc⟩ := (hs.ext hE).get (by omega)
    have q1 := hcc k hlt
    obtain ⟨n, hn⟩ : ∃ n, n = x.sl.getD k 0 := ⟨_, rfl⟩
    rw [← hn] at q1
    have HN := Lib.hid hn
    obtain ⟨w2, rfl⟩ : ∃ x : World, x = wr := ⟨_, rfl⟩
    clear hcc hn
    go_wp2_with fail
    refine (isTrack_c n w2).mono ?_
    rintro e w3 ⟨rfl, rfl⟩
    cases hb : trackB n
    ·have hf : R = false := by
      rw [HR.out]
      refine tileB_false (fun h => ?_)
      have := h.ss k (by omega)
      rw [← HN.out, hb] at this; cases this
     subst hf
     go_wp2
     go_ret
     exact ⟨rfl, hE⟩
    ·go_wp2_with fail
     go_roundw
     case rel =>
      refine ⟨k + 1, by omega, by go_num, Lib.hid (fun j hj => ?_), hE, hy⟩
      rcases Nat.lt_or_ge j k with h | h
      ·exact hP.out j h
      ·have : j = k := by omega
       subst this; rw [← HN.out]; exact hb
     case measure => simp [intOf]; omega
   ·have hPall : Hid (∀ j, j < 3 → trackB (x.sl.getD j 0) = true) := Lib.hid (fun j hj => hP.out j (by omega))
    have y0 := hy.cell (i := 0) rfl
    have y1 := hy.cell (i := 1) rfl
    have y3 := hy.cell (i := 3) rfl
    have yl := hy.lt
    obtain ⟨w2, rfl⟩ : ∃ x : World, x = wr := ⟨_, rfl⟩
    clear hP
    go_wp2_with fail
    refine (neighbours_c t ht _).mono ?_
    rintro e w3 ⟨rfl, hE3⟩
    have hy3 := hy.ext hE3
    clear y0 y1 y3 yl
    have y3 := hy3.cell (i := 3) rfl
    have yl := hy3.lt
    obtain ⟨n2, hn2⟩ : ∃ n, n = nbV t 2 := ⟨_, rfl⟩
    obtain ⟨n3, hn3⟩ : ∃ n, n = nbV t 3 := ⟨_, rfl⟩
    obtain ⟨n4, hn4⟩ : ∃ n, n = nbV t 4 := ⟨_, rfl⟩
    obtain ⟨n5, hn5⟩ : ∃ n, n = nbV t 5 := ⟨_, rfl⟩
    rw [← hn2, ← hn3, ← hn4, ← hn5]
    have H2 := Lib.hid hn2
    have H3 := Lib.hid hn3
    have H4 := Lib.hid hn4
    have H5 := Lib.hid hn5
    have z := Blk.at w3 [.int .i64 n2, .int .i64 n3, .int .i64 n4, .int .i64 n5] 152 rfl
    have Ez : Ext w3 (w3.alloc (.cells #[.int .i64 n2, .int .i64 n3, .int .i64 n4, .int .i64 n5] 152)) := (Ext.refl w3).alloc _
    have hE4 := (hE.trans hE3).trans Ez
    clear hn2 hn3 hn4 hn5
    go_wp2_with fail
    go_loopw [46] (fun u wr => ∃ k : Nat, k ≤ x.dr.length ∧ u = .int .i64 k ∧ Hid (∀ j, j < k → drvB t (x.dr.getD j 0) = true) ∧ Ext w wr ∧ Blk wr w3.heap.size 152 [.int .i64 n2, .int .i64 n3, .int .i64 n4, .int .i64 n5]) (fun i _ => x.dr.length - (intOf i).toNat)
    case atStart => exact ⟨0, Nat.zero_le _, rfl, Lib.hid (fun j hj => absurd hj (Nat.not_lt_zero j)), hE4, z⟩
    case round =>
     obtain ⟨k, hk, rfl, hP, hEk, hz⟩ := hrel
     have z0 := hz.cell (i := 0) rfl
     have z1 := hz.cell (i := 1) rfl
     have z2 := hz.cell (i := 2) rfl
     have z3 := hz.cell (i := 3) rfl
     have zl := hz.lt
     by_cases hlt2 : k < x.dr.length
     ·obtain ⟨b1, o1, rfl, hb1, hcc⟩ := (hd.ext hEk).get (by omega)
      have q1 := hcc k hlt2
      obtain ⟨d, hdd⟩ : ∃ n, n = x.dr.getD k 0 := ⟨_, rfl⟩
      rw [← hdd] at q1
      have HD := Lib.hid hdd
      have stop_ : Hid (drvB t d = false → R = false) := Lib.hid (fun hb => by
       rw [HR.out]
       refine tileB_false (fun h => ?_)
       have := h.ds k (by omega)
       rw [← HD.out, hb] at this; cases this)
      have go_ : Hid (drvB t d = true → ∀ j, j < k + 1 → drvB t (x.dr.getD j 0) = true) := Lib.hid (fun hb j hj => by
       rcases Nat.lt_or_ge j k with h | h
       ·exact hP.out j h
       ·have : j = k := by omega
        subst this; rw [← HD.out]; exact hb)
      obtain ⟨w4, rfl⟩ : ∃ x : World, x = wr := ⟨_, rfl⟩
      have hcd : (d < 0 ∨ 6 < d) ∨ (d = 0 ∨ d = 1) ∨ d = 2 ∨ d = 3 ∨ d = 4 ∨ d = 5 ∨ d = 6 := by omega
      clear hcc hdd hP
      rcases hcd with h | h | h | h | h | h | h
      ·have hf := stop_.out (drvB_low h)
       subst hf
       have f0 : (d == 0) = false := by simp; omega
       have f1 : (d == 1) = false := by simp; omega
       have f2 : (d == 2) = false := by simp; omega
       have f3 : (d == 3) = false := by simp; omega
       have f4 : (d == 4) = false := by simp; omega
       have f5 : (d == 5) = false := by simp; omega
       have f6 : (d == 6) = false := by simp; omega
       clear h
       go_wp2
       go_ret
       exact ⟨rfl, hEk⟩
      ·have hg := Lib.hid (go_.out (drvB_one h))
       rcases h with h | h
       all_goals
        subst h
        go_wp2_with fail
        go_roundw
        case rel => exact ⟨k + 1, by omega, by go_num, hg, hEk, hz⟩
        case measure => simp [intOf]; omega
      ·subst h
       have hb := drvB_near (t := t) (d := 2) (by omega) (by omega)
       rw [← H2.out] at hb
       by_cases hneg : n2 < 0
       ·have hf := stop_.out (by rw [hb, decide_eq_false (by omega)])
        subst hf
        clear hb
        go_wp2
        go_ret
        exact ⟨rfl, hEk⟩
       ·have hg := Lib.hid (go_.out (by rw [hb, decide_eq_true (by omega)]))
        clear hb
        go_wp2_with fail
        go_roundw
        case rel => exact ⟨k + 1, by omega, by go_num, hg, hEk, hz⟩
        case measure => simp [intOf]; omega
      ·subst h
       have hb := drvB_near (t := t) (d := 3) (by omega) (by omega)
       rw [← H3.out] at hb
       by_cases hneg : n3 < 0
       ·have hf := stop_.out (by rw [hb, decide_eq_false (by omega)])
        subst hf
        clear hb
        go_wp2
        go_ret
        exact ⟨rfl, hEk⟩
       ·have hg := Lib.hid (go_.out (by rw [hb, decide_eq_true (by omega)]))
        clear hb
        go_wp2_with fail
        go_roundw
        case rel => exact ⟨k + 1, by omega, by go_num, hg, hEk, hz⟩
        case measure => simp [intOf]; omega
      ·subst h
       have hb := drvB_near (t := t) (d := 4) (by omega) (by omega)
       rw [← H4.out] at hb
       by_cases hneg : n4 < 0
       ·have hf := stop_.out (by rw [hb, decide_eq_false (by omega)])
        subst hf
        clear hb
        go_wp2
        go_ret
        exact ⟨rfl, hEk⟩
       ·have hg := Lib.hid (go_.out (by rw [hb, decide_eq_true (by omega)]))
        clear hb
        go_wp2_with fail
        go_roundw
        case rel => exact ⟨k + 1, by omega, by go_num, hg, hEk, hz⟩
        case measure => simp [intOf]; omega
      ·subst h
       have hb := drvB_near (t := t) (d := 5) (by omega) (by omega)
       rw [← H5.out] at hb
       by_cases hneg : n5 < 0
       ·have hf := stop_.out (by rw [hb, decide_eq_false (by omega)])
        subst hf
        clear hb
        go_wp2
        go_ret
        exact ⟨rfl, hEk⟩
       ·have hg := Lib.hid (go_.out (by rw [hb, decide_eq_true (by omega)]))
        clear hb
        go_wp2_with fail
        go_roundw
        case rel => exact ⟨k + 1, by omega, by go_num, hg, hEk, hz⟩
        case measure => simp [intOf]; omega
      ·subst h
       have hb := drvB_in t
       by_cases ha : t % 5 = 0
       ·by_cases hc4 : t / 5 < 4
        ·have hg := Lib.hid (go_.out (by rw [hb, decide_eq_true ha, decide_eq_true hc4]; rfl))
         have e1 : ((t : Int) % 5 != 0) = false := by simp; omega
         have e2 : (t : Int) / 5 < 4 := by omega
         have e3 : ¬ (4 : Int) ≤ (t : Int) / 5 := by omega
         clear hb ha hc4
         go_wp2_with fail
         go_roundw
         case rel => exact ⟨k + 1, by omega, by go_num, hg, hEk, hz⟩
         case measure => simp [intOf]; omega
        ·have hf := stop_.out (by rw [hb, decide_eq_false hc4, Bool.and_false])
         subst hf
         have e1 : ((t : Int) % 5 != 0) = false := by simp; omega
         have e2 : (4 : Int) ≤ (t : Int) / 5 := by omega
         clear hb ha hc4
         go_wp2
         go_ret
         exact ⟨rfl, hEk⟩
       ·have hf := stop_.out (by rw [hb, decide_eq_false ha, Bool.false_and])
        subst hf
        have e1 : ((t : Int) % 5 != 0) = true := by simp; omega
        clear hb ha
        go_wp2
        go_ret
        exact ⟨rfl, hEk⟩
     ·have hT : R = true := by
       rw [HR.out]
       exact tileB_true ⟨h1, h2, by omega, by omega, hPall.out, fun j hj => hP.out j (by omega)⟩
      subst hT
      go_wp2
      go_ret
      exact ⟨rfl, hEk⟩
end Go.Proofs.Ytgialedmbmfejaa

namespace Go.Proofs.Ytgialedmbmfejaa
open Go.RowKit
set_option maxRecDepth 100000
set_option linter.unusedVariables false
set_option linter.unusedSimpArgs false
theorem l1In_v (n lo hi : Int) (b : Bool) (hb : (decide (lo ≤ n) && decide (n ≤ hi)) = b) (w : World) :
  Calls Try.prog 68 #[.int .i64 n, .int .i64 lo, .int .i64 hi] w fun e w' => e = .returned (.bool b) ∧ w = w' := by
 subst hb; exact l1In_c n lo hi w
set_option maxHeartbeats 4000000 in
theorem l9Tile_c (x : Tile) (t : Nat) (ht : t < 25) (sa da : Option Addr) (sc dc : Nat) (w : World) (hs : IntsAt w sa x.sl) (hd : IntsAt w da x.dr) (ll : x.sl.length ≤ 1048576) (ld : x.dr.length ≤ 1048576) :
  Calls Try.prog 87 #[.agg #[.int .i64 x.tb, .slice sa x.sl.length sc, .bool x.rg, .slice da x.dr.length dc], .int .i64 t] w fun e w' => e = .returned (.bool (tileB x t)) ∧ Ext w w' := by
 have y := Blk.at w [.int .i64 x.tb, .slice sa x.sl.length sc, .bool x.rg, .slice da x.dr.length dc] 61 rfl
 have hcase : (x.tb < 0) ∨ (0 ≤ x.tb ∧ 256 ≤ x.tb) ∨ (0 ≤ x.tb ∧ x.tb < 256 ∧ ((x.sl.length : Int) != 3) = true) ∨ (0 ≤ x.tb ∧ x.tb < 256 ∧ ((x.sl.length : Int) != 3) = false ∧ ((x.dr.length : Int) != 8) = true) ∨ (0 ≤ x.tb ∧ x.tb < 256 ∧ ((x.sl.length : Int) != 3) = false ∧ ((x.dr.length : Int) != 8) = false) := by
  by_cases h1 : x.tb < 0
  ·exact .inl h1
  by_cases h2 : 256 ≤ x.tb
  ·exact .inr (.inl ⟨by omega, h2⟩)
  by_cases h3 : x.sl.length = 3
  ·by_cases h4 : x.dr.length = 8
   ·exact .inr (.inr (.inr (.inr ⟨by omega, by omega, by simp; omega, by simp; omega⟩)))
   ·exact .inr (.inr (.inr (.inl ⟨by omega, by omega, by simp; omega, by simp; omega⟩)))
  ·exact .inr (.inr (.inl ⟨by omega, by omega, by simp; omega⟩))
 have Ey : Ext w (w.alloc (.cells #[.int .i64 x.tb, .slice sa x.sl.length sc, .bool x.rg, .slice da x.dr.length dc] 61)) := (Ext.refl w).alloc _
 obtain ⟨R, hR⟩ : ∃ R, R = tileB x t := ⟨_, rfl⟩
 rw [← hR]
 have HR := Lib.hid hR
 clear hR
 rcases hcase with h1 | ⟨h1, h2⟩ | ⟨h1, h2, h3⟩ | ⟨h1, h2, h3, h4⟩ | ⟨h1, h2, h3, h4⟩
 ·have hf : R = false := by
   rw [HR.out]
   refine tileB_false (fun h => ?_)
   have q1 := h.t0; have q2 := h.t1; have q3 := h.ls; have q4 := h.ld
   first | omega | (simp at h3; omega) | (simp at h4; omega)
  subst hf
  go_enter Try.func87, Try.ntmps87
  go_wp2_with fail
  refine (l1In_v x.tb 0 255 false (by simp; omega) _).mono ?_
  rintro e w' ⟨rfl, rfl⟩
  go_wp2
  go_ret
  exact ⟨rfl, by (repeat (first | with_reducible assumption | with_reducible exact Ext.refl _ | with_reducible refine Ext.drew' ?_ | with_reducible refine Ext.drewN' ?_ _ | with_reducible refine Ext.alloc ?_ _ | (with_reducible refine Ext.setNew ?_ (by first | exact Nat.le_refl _ | (simp; done) | (simp; omega) | omega) _)))⟩
 ·have hf : R = false := by
   rw [HR.out]
   refine tileB_false (fun h => ?_)
   have q1 := h.t0; have q2 := h.t1; have q3 := h.ls; have q4 := h.ld
   first | omega | (simp at h3; omega) | (simp at h4; omega)
  subst hf
  go_enter Try.func87, Try.ntmps87
  go_wp2_with fail
  refine (l1In_v x.tb 0 255 false (by simp; omega) _).mono ?_
  rintro e w' ⟨rfl, rfl⟩
  go_wp2
  go_ret
  exact ⟨rfl, by (repeat (first | with_reducible assumption | with_reducible exact Ext.refl _ | with_reducible refine Ext.drew' ?_ | with_reducible refine Ext.drewN' ?_ _ | with_reducible refine Ext.alloc ?_ _ | (with_reducible refine Ext.setNew ?_ (by first | exact Nat.le_refl _ | (simp; done) | (simp; omega) | omega) _)))⟩
 ·have hf : R = false := by
   rw [HR.out]
   refine tileB_false (fun h => ?_)
   have q1 := h.t0; have q2 := h.t1; have q3 := h.ls; have q4 := h.ld
   first | omega | (simp at h3; omega) | (simp at h4; omega)
  subst hf
  go_enter Try.func87, Try.ntmps87
  go_wp2_with fail
  refine (l1In_v x.tb 0 255 true (by simp; omega) _).mono ?_
  rintro e w' ⟨rfl, rfl⟩
  go_wp2
  go_ret
  exact ⟨rfl, by (repeat (first | with_reducible assumption | with_reducible exact Ext.refl _ | with_reducible refine Ext.drew' ?_ | with_reducible refine Ext.drewN' ?_ _ | with_reducible refine Ext.alloc ?_ _ | (with_reducible refine Ext.setNew ?_ (by first | exact Nat.le_refl _ | (simp; done) | (simp; omega) | omega) _)))⟩
 ·have hf : R = false := by
   rw [HR.out]
   refine tileB_false (fun h => ?_)
   have q1 := h.t0; have q2 := h.t1; have q3 := h.ls; have q4 := h.ld
   first | omega | (simp at h3; omega) | (simp at h4; omega)
  subst hf
  go_enter Try.func87, Try.ntmps87
  go_wp2_with fail
  refine (l1In_v x.tb 0 255 true (by simp; omega) _).mono ?_
  rintro e w' ⟨rfl, rfl⟩
  go_wp2
  go_ret
  exact ⟨rfl, by (repeat (first | with_reducible assumption | with_reducible exact Ext.refl _ | with_reducible refine Ext.drew' ?_ | with_reducible refine Ext.drewN' ?_ _ | with_reducible refine Ext.alloc ?_ _ | (with_reducible refine Ext.setNew ?_ (by first | exact Nat.le_refl _ | (simp; done) | (simp; omega) | omega) _)))⟩
 ·have l3 : x.sl.length ≤ 3 ∧ 3 ≤ x.sl.length := by simp at h3; omega
  have l8 : x.dr.length ≤ 8 ∧ 8 ≤ x.dr.length := by simp at h4; omega
  obtain ⟨l31, l32⟩ := l3
  obtain ⟨l81, l82⟩ := l8
  go_enter Try.func87, Try.ntmps87
  go_wp2_with fail
  refine (l1In_v x.tb 0 255 true (by simp; omega) _).mono ?_
  rintro e w1 ⟨rfl, rfl⟩
  go_wp2_with fail
  go_loopw [5] (fun u wr => ∃ k : Nat, k ≤ 3 ∧ u = .int .i64 k ∧ Hid (∀ j, j < k → trackB (x.sl.getD j 0) = true) ∧ Ext w wr ∧ Blk wr w.heap.size 61 [.int .i64 x.tb, .slice sa x.sl.length sc, .bool x.rg, .slice da x.dr.length dc]) (fun i _ => 3 - (intOf i).toNat)
  case atStart => exact ⟨0, Nat.zero_le _, rfl, Lib.hid (fun j hj => absurd hj (Nat.not_lt_zero j)), Ey, y⟩
  case round =>
   obtain ⟨k, hk, rfl, hP, hE, hy⟩ := hrel
   have y1 := hy.cell (i := 1) rfl
   have yl := hy.lt
   by_cases hlt : k < 3
   ·obtain ⟨b1, o1, rfl, hb1, hcc⟩ := (hs.ext hE).get (by omega)
    have q1 := hcc k (by omega)
    have hkl : (k : Int) < (x.sl.length : Int) := by omega
    obtain ⟨n, hn⟩ : ∃ n, n = x.sl.getD k 0 := ⟨_, rfl⟩
    rw [← hn] at q1
    have HN := Lib.hid hn
    obtain ⟨w2, rfl⟩ : ∃ x : World, x = wr := ⟨_, rfl⟩
    clear hcc hn
    go_wp2_with fail
    refine (l9Track_c n w2).mono ?_
    rintro e w3 ⟨rfl, rfl⟩
    cases hb : trackB n
    ·have hf : R = false := by
      rw [HR.out]
      refine tileB_false (fun h => ?_)
      have := h.ss k (by omega)
      rw [← HN.out, hb] at this; cases this
     subst hf
     go_wp2
     go_ret
     exact ⟨rfl, hE⟩
    ·go_wp2_with fail
     go_roundw
     case rel =>
      refine ⟨k + 1, by omega, by go_num, Lib.hid (fun j hj => ?_), hE, hy⟩
      rcases Nat.lt_or_ge j k with h | h
      ·exact hP.out j h
      ·have : j = k := by omega
       subst this; rw [← HN.out]; exact hb
     case measure => simp [intOf]; omega
   ·have hPall : Hid (∀ j, j < 3 → trackB (x.sl.getD j 0) = true) := Lib.hid (fun j hj => hP.out j (by omega))
    obtain ⟨w2, rfl⟩ : ∃ x : World, x = wr := ⟨_, rfl⟩
    clear hP
    go_wp2_with fail
    go_loopw [6] (fun u wr => ∃ k : Nat, k ≤ 8 ∧ u = .int .i64 k ∧ Hid (∀ j, j < k → drvB t (x.dr.getD j 0) = true) ∧ Ext w wr ∧ Blk wr w.heap.size 61 [.int .i64 x.tb, .slice sa x.sl.length sc, .bool x.rg, .slice da x.dr.length dc]) (fun i _ => 8 - (intOf i).toNat)
    case atStart => exact ⟨0, Nat.zero_le _, rfl, Lib.hid (fun j hj => absurd hj (Nat.not_lt_zero j)), hE, hy⟩
    case round =>
     clear y1 yl
     obtain ⟨k, hk, rfl, hP, hEk, hz⟩ := hrel
     have z3 := hz.cell (i := 3) rfl
     have zl := hz.lt
     by_cases hlt2 : k < 8
     ·obtain ⟨b1, o1, rfl, hb1, hcc⟩ := (hd.ext hEk).get (by omega)
      have q1 := hcc k (by omega)
      have hkl : (k : Int) < (x.dr.length : Int) := by omega
      obtain ⟨d, hdd⟩ : ∃ n, n = x.dr.getD k 0 := ⟨_, rfl⟩
      rw [← hdd] at q1
      have HD := Lib.hid hdd
      have stop_ : Hid (drvB t d = false → R = false) := Lib.hid (fun hb => by
       rw [HR.out]
       refine tileB_false (fun h => ?_)
       have := h.ds k (by omega)
       rw [← HD.out, hb] at this; cases this)
      have go_ : Hid (drvB t d = true → ∀ j, j < k + 1 → drvB t (x.dr.getD j 0) = true) := Lib.hid (fun hb j hj => by
       rcases Nat.lt_or_ge j k with h | h
       ·exact hP.out j h
       ·have : j = k := by omega
        subst this; rw [← HD.out]; exact hb)
      obtain ⟨w4, rfl⟩ : ∃ x : World, x = wr := ⟨_, rfl⟩
      have hcd : (d < 0 ∨ 6 < d) ∨ (d = 0 ∨ d = 1) ∨ d = 2 ∨ d = 3 ∨ d = 4 ∨ d = 5 ∨ d = 6 := by omega
      clear hcc hdd hP
      rcases hcd with h | h | h | h | h | h | h
      ·have hf := stop_.out (drvB_low h)
       subst hf
       go_wp2_with fail
       refine (l1In_v d 0 6 false (by simp; omega) _).mono ?_
       rintro e w5 ⟨rfl, rfl⟩
       go_wp2
       go_ret
       exact ⟨rfl, hEk⟩
      ·have hg := Lib.hid (go_.out (drvB_one h))
       rcases h with h | h
       all_goals
        subst h
        go_wp2_with fail
        refine (l1In_v _ 0 6 true (by decide) _).mono ?_
        rintro e w5 ⟨rfl, rfl⟩
        go_wp2_with fail
        refine (l1In_v _ 2 5 false (by decide) _).mono ?_
        rintro e w6 ⟨rfl, rfl⟩
        go_wp2_with fail
        go_roundw
        case rel => exact ⟨k + 1, by omega, by go_num, hg, hEk, hz⟩
        case measure => simp [intOf]; omega
      ·subst h
       have hb := drvB_near (t := t) (d := 2) (by omega) (by omega)
       have hn := l9Neighbour_c t ht 2 (by omega) (by omega)
       obtain ⟨n, hnn⟩ : ∃ n, n = nbV t 2 := ⟨_, rfl⟩
       rw [← hnn] at hb hn
       have HN := Lib.hid hn
       clear hn hnn
       go_wp2_with fail
       refine (l1In_v _ 0 6 true (by decide) _).mono ?_
       rintro e w5 ⟨rfl, rfl⟩
       go_wp2_with fail
       refine (l1In_v _ 2 5 true (by decide) _).mono ?_
       rintro e w6 ⟨rfl, rfl⟩
       go_wp2_with fail
       refine (HN.out _).mono ?_
       rintro e w7 ⟨rfl, rfl⟩
       by_cases hneg : n < 0
       ·have hf := stop_.out (by rw [hb, decide_eq_false (by omega)])
        subst hf
        clear hb
        go_wp2
        go_ret
        exact ⟨rfl, hEk⟩
       ·have hg := Lib.hid (go_.out (by rw [hb, decide_eq_true (by omega)]))
        clear hb
        go_wp2_with fail
        go_roundw
        case rel => exact ⟨k + 1, by omega, by go_num, hg, hEk, hz⟩
        case measure => simp [intOf]; omega
      ·subst h
       have hb := drvB_near (t := t) (d := 3) (by omega) (by omega)
       have hn := l9Neighbour_c t ht 3 (by omega) (by omega)
       obtain ⟨n, hnn⟩ : ∃ n, n = nbV t 3 := ⟨_, rfl⟩
       rw [← hnn] at hb hn
       have HN := Lib.hid hn
       clear hn hnn
       go_wp2_with fail
       refine (l1In_v _ 0 6 true (by decide) _).mono ?_
       rintro e w5 ⟨rfl, rfl⟩
       go_wp2_with fail
       refine (l1In_v _ 2 5 true (by decide) _).mono ?_
       rintro e w6 ⟨rfl, rfl⟩
       go_wp2_with fail
       refine (HN.out _).mono ?_
       rintro e w7 ⟨rfl, rfl⟩
       by_cases hneg : n < 0
       ·have hf := stop_.out (by rw [hb, decide_eq_false (by omega)])
        subst hf
        clear hb
        go_wp2
        go_ret
        exact ⟨rfl, hEk⟩
       ·have hg := Lib.hid (go_.out (by rw [hb, decide_eq_true (by omega)]))
        clear hb
        go_wp2_with fail
        go_roundw
        case rel => exact ⟨k + 1, by omega, by go_num, hg, hEk, hz⟩
        case measure => simp [intOf]; omega
      ·subst h
       have hb := drvB_near (t := t) (d := 4) (by omega) (by omega)
       have hn := l9Neighbour_c t ht 4 (by omega) (by omega)
       obtain ⟨n, hnn⟩ : ∃ n, n = nbV t 4 := ⟨_, rfl⟩
       rw [← hnn] at hb hn
       have HN := Lib.hid hn
       clear hn hnn
       go_wp2_with fail
       refine (l1In_v _ 0 6 true (by decide) _).mono ?_
       rintro e w5 ⟨rfl, rfl⟩
       go_wp2_with fail
       refine (l1In_v _ 2 5 true (by decide) _).mono ?_
       rintro e w6 ⟨rfl, rfl⟩
       go_wp2_with fail
       refine (HN.out _).mono ?_
       rintro e w7 ⟨rfl, rfl⟩
       by_cases hneg : n < 0
       ·have hf := stop_.out (by rw [hb, decide_eq_false (by omega)])
        subst hf
        clear hb
        go_wp2
        go_ret
        exact ⟨rfl, hEk⟩
       ·have hg := Lib.hid (go_.out (by rw [hb, decide_eq_true (by omega)]))
        clear hb
        go_wp2_with fail
        go_roundw
        case rel => exact ⟨k + 1, by omega, by go_num, hg, hEk, hz⟩
        case measure => simp [intOf]; omega
      ·subst h
       have hb := drvB_near (t := t) (d := 5) (by omega) (by omega)
       have hn := l9Neighbour_c t ht 5 (by omega) (by omega)
       obtain ⟨n, hnn⟩ : ∃ n, n = nbV t 5 := ⟨_, rfl⟩
       rw [← hnn] at hb hn
       have HN := Lib.hid hn
       clear hn hnn
       go_wp2_with fail
       refine (l1In_v _ 0 6 true (by decide) _).mono ?_
       rintro e w5 ⟨rfl, rfl⟩
       go_wp2_with fail
       refine (l1In_v _ 2 5 true (by decide) _).mono ?_
       rintro e w6 ⟨rfl, rfl⟩
       go_wp2_with fail
       refine (HN.out _).mono ?_
       rintro e w7 ⟨rfl, rfl⟩
       by_cases hneg : n < 0
       ·have hf := stop_.out (by rw [hb, decide_eq_false (by omega)])
        subst hf
        clear hb
        go_wp2
        go_ret
        exact ⟨rfl, hEk⟩
       ·have hg := Lib.hid (go_.out (by rw [hb, decide_eq_true (by omega)]))
        clear hb
        go_wp2_with fail
        go_roundw
        case rel => exact ⟨k + 1, by omega, by go_num, hg, hEk, hz⟩
        case measure => simp [intOf]; omega
      ·subst h
       have hb := drvB_in t
       by_cases ha : t % 5 = 0
       ·by_cases hc4 : t / 5 < 4
        ·have hg := Lib.hid (go_.out (by rw [hb, decide_eq_true ha, decide_eq_true hc4]; rfl))
         have e1 : ¬ (0 : Int) < (t : Int) % 5 := by omega
         have e2 : (t : Int) / 5 < 4 := by omega
         have e3 : ¬ (4 : Int) ≤ (t : Int) / 5 := by omega
         clear hb ha hc4
         go_wp2_with fail
         refine (l1In_v _ 0 6 true (by decide) _).mono ?_
         rintro e w5 ⟨rfl, rfl⟩
         go_wp2_with fail
         refine (l1In_v _ 2 5 false (by decide) _).mono ?_
         rintro e w6 ⟨rfl, rfl⟩
         go_wp2_with fail
         go_roundw
         case rel => exact ⟨k + 1, by omega, by go_num, hg, hEk, hz⟩
         case measure => simp [intOf]; omega
        ·have hf := stop_.out (by rw [hb, decide_eq_false hc4, Bool.and_false])
         subst hf
         have e1 : ¬ (0 : Int) < (t : Int) % 5 := by omega
         have e2 : (4 : Int) ≤ (t : Int) / 5 := by omega
         clear hb ha hc4
         go_wp2_with fail
         refine (l1In_v _ 0 6 true (by decide) _).mono ?_
         rintro e w5 ⟨rfl, rfl⟩
         go_wp2
         go_ret
         exact ⟨rfl, hEk⟩
       ·have hf := stop_.out (by rw [hb, decide_eq_false ha, Bool.false_and])
        subst hf
        have e1 : (0 : Int) < (t : Int) % 5 := by omega
        clear hb ha
        go_wp2_with fail
        refine (l1In_v _ 0 6 true (by decide) _).mono ?_
        rintro e w5 ⟨rfl, rfl⟩
        go_wp2
        go_ret
        exact ⟨rfl, hEk⟩
     ·have hT : R = true := by
       rw [HR.out]
       exact tileB_true ⟨h1, h2, by omega, by omega, hPall.out, fun j hj => hP.out j (by omega)⟩
      subst hT
      go_wp2
      go_ret
      exact ⟨rfl, hEk⟩
end Go.Proofs.Ytgialedmbmfejaa

namespace Go.Proofs.Ytgialedmbmfejaa
open Go.RowKit
set_option maxRecDepth 100000
set_option linter.unusedVariables false
set_option linter.unusedSimpArgs false
structure Conf.Ok (k : Conf) : Prop where
 lt : k.ts.length = 25
 lp : k.ps.length = 3
 ts : ∀ j, j < 25 → tileB (k.ts.getD j tile0) j = true
 ps : ∀ j, j < 3 → trackB (k.ps.getD j (0, false)).1 = true
open Classical in
noncomputable def confB (k : Conf) : Bool := decide k.Ok
theorem confB_true {k : Conf} (h : k.Ok) : confB k = true := by unfold confB; exact @decide_eq_true _ (_) h
theorem confB_false {k : Conf} (h : ¬ k.Ok) : confB k = false := by unfold confB; exact @decide_eq_false _ (_) h
theorem confB_iff {k : Conf} : confB k = true ↔ k.Ok := by unfold confB; exact @decide_eq_true_iff _ (_)
def padsB (ps : List (Int × Bool)) : Bool := ps.all (fun p => trackB p.1) && ps.length == 3
set_option maxHeartbeats 1000000 in
theorem padsValid_c (a : Option Addr) (c : Nat) (ps : List (Int × Bool)) (w : World) (hp : PadsAt w a ps) (hl : ps.length ≤ 1048576) :
  Calls Try.prog 84 #[.slice a ps.length c] w fun e w' => e = .returned (.bool (padsB ps)) ∧ Ext w w' := by
 obtain ⟨R, hR⟩ : ∃ R, R = padsB ps := ⟨_, rfl⟩
 rw [← hR]
 have HR := Lib.hid hR
 clear hR
 go_enter Try.func84, Try.ntmps84
 go_wp2_with fail
 go_loopw [7] (fun u wr => ∃ k : Nat, k ≤ ps.length ∧ u = .int .i64 k ∧ Hid (∀ j, j < k → trackB (ps.getD j (0, false)).1 = true) ∧ Ext w wr) (fun i _ => ps.length - (intOf i).toNat)
 case atStart => exact ⟨0, Nat.zero_le _, rfl, Lib.hid (fun j hj => absurd hj (Nat.not_lt_zero j)), Ext.refl _⟩
 case round =>
  obtain ⟨k, hk, rfl, hP, hE⟩ := hrel
  by_cases hlt : k < ps.length
  ·obtain ⟨b, o, rfl, hb, hcc⟩ := (hp.ext hE).get (by omega)
   obtain ⟨q0, q1⟩ := hcc k hlt
   have hm : ps.getD k (0, false) ∈ ps := by rw [List.getD_eq_getElem?_getD, List.getElem?_eq_getElem hlt]; exact List.getElem_mem hlt
   obtain ⟨x, hx⟩ : ∃ x, x = ps.getD k (0, false) := ⟨_, rfl⟩
   rw [← hx] at q0 q1 hm
   obtain ⟨n, v⟩ := x
   dsimp only at q0 q1
   have HX := Lib.hid hx
   have HM := Lib.hid hm
   obtain ⟨w2, rfl⟩ : ∃ x : World, x = wr := ⟨_, rfl⟩
   clear hcc hx hm
   go_wp2_with fail
   refine (isTrack_c n _).mono ?_
   rintro e w3 ⟨rfl, rfl⟩
   cases hb : trackB n
   ·have hf : R = false := by
     rw [HR.out]
     unfold padsB
     have : ps.all (fun p => trackB p.1) = false := by
      rw [List.all_eq_false]
      exact ⟨_, HM.out, by simp [hb]⟩
     rw [this]; rfl
    subst hf
    go_wp2
    go_ret
    exact ⟨rfl, hE.trans (by (repeat (first | with_reducible assumption | with_reducible exact Ext.refl _ | with_reducible refine Ext.drew' ?_ | with_reducible refine Ext.drewN' ?_ _ | with_reducible refine Ext.alloc ?_ _ | (with_reducible refine Ext.setNew ?_ (by first | exact Nat.le_refl _ | (simp; done) | (simp; omega) | omega) _))))⟩
   ·go_wp2_with fail
    go_roundw
    case rel =>
     refine ⟨k + 1, by omega, by go_num, Lib.hid (fun j hj => ?_), hE.trans (by (repeat (first | with_reducible assumption | with_reducible exact Ext.refl _ | with_reducible refine Ext.drew' ?_ | with_reducible refine Ext.drewN' ?_ _ | with_reducible refine Ext.alloc ?_ _ | (with_reducible refine Ext.setNew ?_ (by first | exact Nat.le_refl _ | (simp; done) | (simp; omega) | omega) _))))⟩
     rcases Nat.lt_or_ge j k with h | h
     ·exact hP.out j h
     ·have : j = k := by omega
      subst this; rw [← HX.out]; exact hb
    case measure => simp [intOf]; omega
  ·have hall : ps.all (fun p => trackB p.1) = true := by
    rw [List.all_eq_true]
    intro x hx
    obtain ⟨j, hj, rfl⟩ := List.mem_iff_getElem.1 hx
    have := hP.out j (by omega)
    rwa [List.getD_eq_getElem?_getD, List.getElem?_eq_getElem hj] at this
   have hf : R = (ps.length == 3) := by rw [HR.out]; unfold padsB; rw [hall]; rfl
   have HF := Lib.hid hf
   have e3 : ((ps.length : Int) == 3) = (ps.length == 3) := by
    rw [Bool.eq_iff_iff]; simp only [beq_iff_eq]; omega
   have HE3 := Lib.hid e3
   clear hf hall e3
   go_wp2
   go_ret
   exact ⟨by rw [HF.out, ← HE3.out]; rfl, hE⟩
theorem padsB_iff {ps : List (Int × Bool)} : padsB ps = true ↔ ps.length = 3 ∧ ∀ j, j < 3 → trackB (ps.getD j (0, false)).1 = true := by
 unfold padsB
 rw [Bool.and_eq_true, List.all_eq_true, beq_iff_eq]
 constructor
 ·rintro ⟨h1, h2⟩
  refine ⟨h2, fun j hj => ?_⟩
  have hj2 : j < ps.length := by omega
  rw [List.getD_eq_getElem?_getD, List.getElem?_eq_getElem hj2]
  exact h1 _ (List.getElem_mem hj2)
 ·rintro ⟨h1, h2⟩
  refine ⟨fun x hx => ?_, h1⟩
  obtain ⟨j, hj, rfl⟩ := List.mem_iff_getElem.1 hx
  have := h2 j (by omega)
  rwa [List.getD_eq_getElem?_getD, List.getElem?_eq_getElem hj] at this
set_option maxHeartbeats 2000000 in
theorem implConfigValid_c (k : Conf) (ta pa : Option Addr) (tc pc : Nat) (w : World) (hk : ConfAt w k ta pa) :
  Calls Try.prog 35 #[.agg #[.slice ta k.ts.length tc, .slice pa k.ps.length pc]] w fun e w' => e = .returned (.bool (confB k)) ∧ Ext w w' := by
 have y := Blk.at w [.slice ta k.ts.length tc, .slice pa k.ps.length pc] 52 rfl
 have Ey : Ext w (w.alloc (.cells #[.slice ta k.ts.length tc, .slice pa k.ps.length pc] 52)) := (Ext.refl w).alloc _
 have lt := hk.lt
 have lp := hk.lp
 have HLS := Lib.hid hk.ls
 have hts := hk.ts
 have hps := hk.ps
 obtain ⟨R, hR⟩ : ∃ R, R = confB k := ⟨_, rfl⟩
 rw [← hR]
 have HR := Lib.hid hR
 clear hR hk
 cases h25 : ((k.ts.length : Int) != 25)
 ·have l25 : k.ts.length ≤ 25 ∧ 25 ≤ k.ts.length := by simp at h25; omega
  obtain ⟨l251, l252⟩ := l25
  have HPI := Lib.hid (padsB_iff (ps := k.ps))
  go_enter Try.func35, Try.ntmps35
  go_wp2_with fail
  refine (padsValid_c pa pc k.ps _ (hps.ext Ey) lp).mono ?_
  obtain ⟨pb, hpb⟩ : ∃ b, b = padsB k.ps := ⟨_, rfl⟩
  rw [← hpb] at HPI ⊢
  clear hpb
  rintro e w1 ⟨rfl, hE1⟩
  have y1 := y.ext hE1
  have E1 := Ey.trans hE1
  cases pb
  ·have hf : R = false := by
    rw [HR.out]
    refine confB_false (fun h => ?_)
    have := HPI.out.2 ⟨h.lp, h.ps⟩
    simp at this
   subst hf
   go_wp2
   go_ret
   exact ⟨rfl, E1⟩
  ·have HP := Lib.hid (HPI.out.1 (by first | rfl | trivial))
   have c0 := y1.cell (i := 0) rfl
   have cl := y1.lt
   clear HPI
   go_wp2_with fail
   go_loopw [18] (fun u wr => ∃ j : Nat, j ≤ k.ts.length ∧ u = .int .i64 j ∧ Hid (∀ i, i < j → tileB (k.ts.getD i tile0) i = true) ∧ Ext w wr) (fun i _ => k.ts.length - (intOf i).toNat)
   case atStart => exact ⟨0, Nat.zero_le _, rfl, Lib.hid (fun j hj => absurd hj (Nat.not_lt_zero j)), E1⟩
   case round =>
    obtain ⟨j, hj, rfl, hP, hE⟩ := hrel
    by_cases hlt : j < k.ts.length
    ·obtain ⟨b, o, rfl, hb, hcc⟩ := (hts.ext hE).get (by omega)
     obtain ⟨s1, s2⟩ := HLS.out j hlt
     obtain ⟨sa, sc, da, dc, q0, q1, q2, q3, hsl, hdr⟩ := hcc j hlt
     obtain ⟨x, hx⟩ : ∃ x, x = k.ts.getD j tile0 := ⟨_, rfl⟩
     rw [← hx] at q0 q1 q2 q3 hsl hdr s1 s2
     have HX := Lib.hid hx
     obtain ⟨w2, rfl⟩ : ∃ x : World, x = wr := ⟨_, rfl⟩
     clear hcc hx
     go_wp2_with fail
     refine (tileValid_c x j (by omega) sa da sc dc _ (hsl.ext (by (repeat (first | with_reducible assumption | with_reducible exact Ext.refl _ | with_reducible refine Ext.drew' ?_ | with_reducible refine Ext.drewN' ?_ _ | with_reducible refine Ext.alloc ?_ _ | (with_reducible refine Ext.setNew ?_ (by first | exact Nat.le_refl _ | (simp; done) | (simp; omega) | omega) _))))) (hdr.ext (by (repeat (first | with_reducible assumption | with_reducible exact Ext.refl _ | with_reducible refine Ext.drew' ?_ | with_reducible refine Ext.drewN' ?_ _ | with_reducible refine Ext.alloc ?_ _ | (with_reducible refine Ext.setNew ?_ (by first | exact Nat.le_refl _ | (simp; done) | (simp; omega) | omega) _))))) s1 s2).mono ?_
     rintro e w3 ⟨rfl, hE3⟩
     have F3 := Ext.trans (a := w2) (by (repeat (first | with_reducible assumption | with_reducible exact Ext.refl _ | with_reducible refine Ext.drew' ?_ | with_reducible refine Ext.drewN' ?_ _ | with_reducible refine Ext.alloc ?_ _ | (with_reducible refine Ext.setNew ?_ (by first | exact Nat.le_refl _ | (simp; done) | (simp; omega) | omega) _)))) hE3
     cases hb : tileB x j
     ·have hf : R = false := by
       rw [HR.out]
       refine confB_false (fun h => ?_)
       have := h.ts j (by omega)
       rw [← HX.out, hb] at this; cases this
      subst hf
      go_wp2
      go_ret
      exact ⟨rfl, hE.trans F3⟩
     ·go_wp2_with fail
      go_roundw
      case rel =>
       refine ⟨j + 1, by omega, by go_num, Lib.hid (fun i hi => ?_), hE.trans F3⟩
       rcases Nat.lt_or_ge i j with h | h
       ·exact hP.out i h
       ·have : i = j := by omega
        subst this; rw [← HX.out]; exact hb
      case measure => simp [intOf]; omega
    ·have hT : R = true := by
      rw [HR.out]
      exact confB_true ⟨by omega, HP.out.1, fun i hi => hP.out i (by omega), HP.out.2⟩
     subst hT
     go_wp2
     go_ret
     exact ⟨rfl, hE⟩
 ·have hf : R = false := by
   rw [HR.out]
   refine confB_false (fun h => ?_)
   have := h.lt
   simp at h25; omega
  subst hf
  go_enter Try.func35, Try.ntmps35
  go_wp2
  go_ret
  exact ⟨rfl, by (repeat (first | with_reducible assumption | with_reducible exact Ext.refl _ | with_reducible refine Ext.drew' ?_ | with_reducible refine Ext.drewN' ?_ _ | with_reducible refine Ext.alloc ?_ _ | (with_reducible refine Ext.setNew ?_ (by first | exact Nat.le_refl _ | (simp; done) | (simp; omega) | omega) _)))⟩
set_option maxHeartbeats 2000000 in
theorem specConfigValid_c (k : Conf) (ta pa : Option Addr) (tc pc : Nat) (w : World) (hk : ConfAt w k ta pa) :
  Calls Try.prog 37 #[.agg #[.slice ta k.ts.length tc, .slice pa k.ps.length pc]] w fun e w' => e = .returned (.bool (confB k)) ∧ Ext w w' := by
 have y := Blk.at w [.slice ta k.ts.length tc, .slice pa k.ps.length pc] 52 rfl
 have Ey : Ext w (w.alloc (.cells #[.slice ta k.ts.length tc, .slice pa k.ps.length pc] 52)) := (Ext.refl w).alloc _
 have lt := hk.lt
 have lp := hk.lp
 have HLS := Lib.hid hk.ls
 have hts := hk.ts
 have hps := hk.ps
 obtain ⟨R, hR⟩ : ∃ R, R = confB k := ⟨_, rfl⟩
 rw [← hR]
 have HR := Lib.hid hR
 clear hR hk
 cases h25 : ((k.ts.length : Int) != 25)
 ·have l25 : k.ts.length ≤ 25 ∧ 25 ≤ k.ts.length := by simp at h25; omega
  obtain ⟨l251, l252⟩ := l25
  cases h3 : ((k.ps.length : Int) != 3)
  ·have l3 : k.ps.length ≤ 3 ∧ 3 ≤ k.ps.length := by simp at h3; omega
   obtain ⟨l31, l32⟩ := l3
   go_enter Try.func37, Try.ntmps37
   go_wp2_with fail
   go_loopw [3] (fun u wr => ∃ j : Nat, j ≤ k.ts.length ∧ u = .int .i64 j ∧ Hid (∀ i, i < j → tileB (k.ts.getD i tile0) i = true) ∧ Ext w wr ∧ Blk wr w.heap.size 52 [.slice ta k.ts.length tc, .slice pa k.ps.length pc]) (fun i _ => k.ts.length - (intOf i).toNat)
   case atStart => exact ⟨0, Nat.zero_le _, rfl, Lib.hid (fun j hj => absurd hj (Nat.not_lt_zero j)), Ey, y⟩
   case round =>
    obtain ⟨j, hj, rfl, hP, hE, hy⟩ := hrel
    have c0 := hy.cell (i := 0) rfl
    have c1 := hy.cell (i := 1) rfl
    have cl := hy.lt
    by_cases hlt : j < k.ts.length
    ·obtain ⟨b, o, rfl, hb, hcc⟩ := (hts.ext hE).get (by omega)
     obtain ⟨s1, s2⟩ := HLS.out j hlt
     obtain ⟨sa, sc, da, dc, q0, q1, q2, q3, hsl, hdr⟩ := hcc j hlt
     obtain ⟨x, hx⟩ : ∃ x, x = k.ts.getD j tile0 := ⟨_, rfl⟩
     rw [← hx] at q0 q1 q2 q3 hsl hdr s1 s2
     have HX := Lib.hid hx
     obtain ⟨w2, rfl⟩ : ∃ x : World, x = wr := ⟨_, rfl⟩
     clear hcc hx
     go_wp2_with fail
     refine (l9Tile_c x j (by omega) sa da sc dc _ (hsl.ext (by (repeat (first | with_reducible assumption | with_reducible exact Ext.refl _ | with_reducible refine Ext.drew' ?_ | with_reducible refine Ext.drewN' ?_ _ | with_reducible refine Ext.alloc ?_ _ | (with_reducible refine Ext.setNew ?_ (by first | exact Nat.le_refl _ | (simp; done) | (simp; omega) | omega) _))))) (hdr.ext (by (repeat (first | with_reducible assumption | with_reducible exact Ext.refl _ | with_reducible refine Ext.drew' ?_ | with_reducible refine Ext.drewN' ?_ _ | with_reducible refine Ext.alloc ?_ _ | (with_reducible refine Ext.setNew ?_ (by first | exact Nat.le_refl _ | (simp; done) | (simp; omega) | omega) _))))) s1 s2).mono ?_
     rintro e w3 ⟨rfl, hE3⟩
     have F3 := Ext.trans (a := w2) (by (repeat (first | with_reducible assumption | with_reducible exact Ext.refl _ | with_reducible refine Ext.drew' ?_ | with_reducible refine Ext.drewN' ?_ _ | with_reducible refine Ext.alloc ?_ _ | (with_reducible refine Ext.setNew ?_ (by first | exact Nat.le_refl _ | (simp; done) | (simp; omega) | omega) _)))) hE3
     cases hb : tileB x j
     ·have hf : R = false := by
       rw [HR.out]
       refine confB_false (fun h => ?_)
       have := h.ts j (by omega)
       rw [← HX.out, hb] at this; cases this
      subst hf
      go_wp2
      go_ret
      exact ⟨rfl, hE.trans F3⟩
     ·go_wp2_with fail
      go_roundw
      case rel =>
       refine ⟨j + 1, by omega, by go_num, Lib.hid (fun i hi => ?_), hE.trans F3, hy.ext F3⟩
       rcases Nat.lt_or_ge i j with h | h
       ·exact hP.out i h
       ·have : i = j := by omega
        subst this; rw [← HX.out]; exact hb
      case measure => simp [intOf]; omega
    ·have HTS : Hid (∀ i, i < 25 → tileB (k.ts.getD i tile0) i = true) := Lib.hid (fun i hi => hP.out i (by omega))
     obtain ⟨w2, rfl⟩ : ∃ x : World, x = wr := ⟨_, rfl⟩
     clear hP
     go_wp2_with fail
     go_loopw [4] (fun u wr => ∃ j : Nat, j ≤ k.ps.length ∧ u = .int .i64 j ∧ Hid (∀ i, i < j → trackB (k.ps.getD i (0, false)).1 = true) ∧ Ext w wr ∧ Blk wr w.heap.size 52 [.slice ta k.ts.length tc, .slice pa k.ps.length pc]) (fun i _ => k.ps.length - (intOf i).toNat)
     case atStart => exact ⟨0, Nat.zero_le _, rfl, Lib.hid (fun j hj => absurd hj (Nat.not_lt_zero j)), hE, hy⟩
     case round =>
      clear c0 c1 cl
      obtain ⟨j2, hj2, rfl, hP, hE2, hy2⟩ := hrel
      have c1 := hy2.cell (i := 1) rfl
      have cl := hy2.lt
      by_cases hlt2 : j2 < k.ps.length
      ·obtain ⟨b, o, rfl, hb, hcc⟩ := (hps.ext hE2).get (by omega)
       obtain ⟨q0, q1⟩ := hcc j2 hlt2
       obtain ⟨n, hn⟩ : ∃ x, x = (k.ps.getD j2 (0, false)).1 := ⟨_, rfl⟩
       rw [← hn] at q0
       have HN := Lib.hid hn
       obtain ⟨w3, rfl⟩ : ∃ x : World, x = wr := ⟨_, rfl⟩
       clear hcc hn q1
       go_wp2_with fail
       refine (l9Track_c n _).mono ?_
       rintro e w4 ⟨rfl, rfl⟩
       cases hb : trackB n
       ·have hf : R = false := by
         rw [HR.out]
         refine confB_false (fun h => ?_)
         have := h.ps j2 (by omega)
         rw [← HN.out, hb] at this; cases this
        subst hf
        go_wp2
        go_ret
        exact ⟨rfl, hE2⟩
       ·go_wp2_with fail
        go_roundw
        case rel =>
         refine ⟨j2 + 1, by omega, by go_num, Lib.hid (fun i hi => ?_), hE2, hy2⟩
         rcases Nat.lt_or_ge i j2 with h | h
         ·exact hP.out i h
         ·have : i = j2 := by omega
          subst this; rw [← HN.out]; exact hb
        case measure => simp [intOf]; omega
      ·have hT : R = true := by
        rw [HR.out]
        exact confB_true ⟨by omega, by omega, HTS.out, fun i hi => hP.out i (by omega)⟩
       subst hT
       go_wp2
       go_ret
       exact ⟨rfl, hE2⟩
  ·have hf : R = false := by
    rw [HR.out]
    refine confB_false (fun h => ?_)
    have := h.lp
    simp at h3; omega
   subst hf
   go_enter Try.func37, Try.ntmps37
   go_wp2
   go_ret
   exact ⟨rfl, by (repeat (first | with_reducible assumption | with_reducible exact Ext.refl _ | with_reducible refine Ext.drew' ?_ | with_reducible refine Ext.drewN' ?_ _ | with_reducible refine Ext.alloc ?_ _ | (with_reducible refine Ext.setNew ?_ (by first | exact Nat.le_refl _ | (simp; done) | (simp; omega) | omega) _)))⟩
 ·have hf : R = false := by
   rw [HR.out]
   refine confB_false (fun h => ?_)
   have := h.lt
   simp at h25; omega
  subst hf
  go_enter Try.func37, Try.ntmps37
  go_wp2
  go_ret
  exact ⟨rfl, by (repeat (first | with_reducible assumption | with_reducible exact Ext.refl _ | with_reducible refine Ext.drew' ?_ | with_reducible refine Ext.drewN' ?_ _ | with_reducible refine Ext.alloc ?_ _ | (with_reducible refine Ext.setNew ?_ (by first | exact Nat.le_refl _ | (simp; done) | (simp; omega) | omega) _)))⟩
end Go.Proofs.Ytgialedmbmfejaa

namespace Go.Proofs.Ytgialedmbmfejaa
open Go.RowKit
set_option maxRecDepth 100000
set_option linter.unusedVariables false
set_option linter.unusedSimpArgs false
theorem tyTiles : RowTy Try.prog 49 61 4 64 := RowTy.mk' (z := .agg #[.int .i64 0, .slice none 0 0, .bool false, .slice none 0 0]) Try.underlying49 (by kernel_rfl) rfl (by decide) (by decide)
theorem tyPads : RowTy Try.prog 50 75 2 16 := RowTy.mk' (z := .agg #[.int .i64 0, .bool false]) Try.underlying50 (by kernel_rfl) rfl (by decide) (by decide)
def ERel (w : World) (j m : Nat) (wr : World) : Prop := ∃ tv pv us, Blk wr (w.heap.size + 1) 52 [tv, pv] ∧ OwnK wr (w.heap.size + 2) tv pv us { ts := List.replicate j etile, ps := List.replicate m (15, false) } ∧ Ext w wr ∧ Blk wr w.heap.size 52 [vnil, vnil]
set_option maxHeartbeats 1000000 in
theorem implEmptyConfig_c (w : World) : Calls Try.prog 36 #[] w (GiveK w econf) := by
 go_enter Try.func36, Try.ntmps36
 go_wp2_with fail
 go_loopw [3] (fun u wr => ∃ j : Nat, j ≤ 25 ∧ u = .int .i64 j ∧ ERel w j 0 wr) (fun i _ => 25 - (intOf i).toNat)
 case atStart => exact ⟨0, Nat.zero_le _, rfl, vnil, vnil, [], Blk.at _ _ _ (by simp), OwnK.none_, by (repeat (first | with_reducible assumption | with_reducible exact Ext.refl _ | with_reducible refine Ext.drew' ?_ | with_reducible refine Ext.drewN' ?_ _ | with_reducible refine Ext.alloc ?_ _ | (with_reducible refine Ext.setNew ?_ (by first | exact Nat.le_refl _ | (simp; done) | (simp; omega) | omega) _))), (Blk.at _ [vnil, vnil] _ rfl).alloc _⟩
 case round =>
  obtain ⟨j, hj, rfl, tv, pv, us, hB, hO, hE, hR⟩ := hrel
  by_cases hlt : j < 25
  ·have x0 := hB.cell (i := 0) rfl
   have fz := fun i => hB.frozen i
   have bl := hB.lt
   obtain ⟨ta, tc, pa, pc, rfl, rfl⟩ := hO.sl
   simp only [List.length_replicate] at x0 hO hB
   have hrow := hO.ts.row
   simp only [List.length_replicate] at hrow
   have hnb : (Value.slice ta j tc).ownBlock ≠ some (w.heap.size + 1) := fun e => by have := (World.ownsRow.lt hrow _ e).1; omega
   have hnr : (Value.slice ta j tc).ownBlock ≠ some w.heap.size := fun e => by have := (World.ownsRow.lt hrow _ e).1; omega
   have hz := hE.size
   go_wp2_with fail
   refine wp_regionT (fun w' => ((fun w' => (∀ b o, b < w.heap.size → w'.cell? ⟨b, o, none⟩ = w.cell? ⟨b, o, none⟩) ∧ Ext w w')) w' ∧ w'.cell? ⟨w.heap.size + 1, 0, none⟩ = some (.slice ta j tc)) 4 (by kernel_rfl) ?_
   have hS0 : ((fun w' => (∀ b o, b < w.heap.size → w'.cell? ⟨b, o, none⟩ = w.cell? ⟨b, o, none⟩) ∧ Ext w w')) wr.drew ∧ wr.drew.cell? ⟨w.heap.size + 1, 0, none⟩ = some (.slice ta j tc) := ⟨held_mk (hE.drew'), x0⟩
   dsimp only at hS0
   ((refine tkT 0 (v := ?_) rfl (by kernel_rfl) (by kernel_rfl) ?_ (by assumption) ?_; rotate_left; (intro wS hSw; (try dsimp only at hSw); go_simp; (try with_reducible rfl)); (try simp only [Act.put, lA, lB, lC])); (refine tkT 1 (v := ?_) rfl (by kernel_rfl) (by kernel_rfl) ?_ (by assumption) ?_; rotate_left; (intro wS hSw; (try dsimp only at hSw); go_simp; (try with_reducible rfl)); (try simp only [Act.put, lA, lB, lC])))
   (refine wpAnyT_do 2 (by kernel_rfl) rfl (fun K hK => ?_))
   go_simp
   refine (emptyTile_c _).mono ?_
   rintro e w2 ⟨B1, B2, rfl, hB1, h12, hI1, hI2, hE2⟩
   have E2 : Ext wr w2 := (Ext.drew wr).trans hE2
   have hz2 := E2.size
   have hB1' : wr.heap.size ≤ B1 := by simpa using hB1
   have hS1 := And.intro (held_mk (hE.trans E2)) ((hB.ext E2).cell (i := 0) rfl)
   (refine hK _ _ hS1 ?_; clear hK K; (try simp only [Act.put, lA, lB, lC]))
   (refine wpAnyT_do 3 (by kernel_rfl) rfl (fun K hK => ?_))
   go_simp
   have A3 : Ext w2 (w2.alloc (.cells #[.int .i64 0, .slice (some ⟨B1, 0, none⟩) 3 3, .bool false, .slice (some ⟨B2, 0, none⟩) 8 8] 61)) := (Ext.refl w2).alloc _
   have hS2 := And.intro (held_mk (hE.trans (E2.trans A3))) ((hB.ext (E2.trans A3)).cell (i := 0) rfl)
   (refine hK _ _ hS2 ?_; clear hK K; (try simp only [Act.put, lA, lB, lC]))
   (refine wpAnyT_do 4 (by kernel_rfl) rfl (fun K hK => ?_))
   refine step_app tyTiles (ownsRow_ext hrow (E2.trans A3)) (RowAt.new w2 #[.int .i64 0, .slice (some ⟨B1, 0, none⟩) 3 3, .bool false, .slice (some ⟨B2, 0, none⟩) 8 8] _) rfl (by simp [Value.oneCell']) (by omega) (by simp; omega) rfl rfl rfl rfl ?_
   intro v9 w9 p9 g9 m9
   obtain ⟨va, vc, rfl, _⟩ := ownsRow_row p9
   have b9 := (hB.ext (E2.trans A3)).gr g9 hnb
   have f9 := fun i => b9.frozen i
   have E9 : Ext w w9 := ext_grown (hE.trans (E2.trans A3)) g9 (fun k hk => by have := (World.ownsRow.lt hrow k hk).1; omega)
   have hS4 := And.intro (held_mk E9) (b9.cell (i := 0) rfl)
   (refine hK _ _ hS4 ?_; clear hK K; (try simp only [Act.put, lA, lB, lC]))
   (refine wpAnyT_do 5 (by kernel_rfl) rfl (fun K hK => ?_))
   go_simp
   (refine hK _ _ hS4 ?_; clear hK K; (try simp only [Act.put, lA, lB, lC]))
   (refine wpAnyT_last 6 (by kernel_rfl) rfl (by decide) (by kernel_rfl) (fun K hK => ?_))
   go_simp
   (refine hK _ _ ?_; clear hK K; (try simp only [Act.put, lA, lB, lC]))
   have HO8 : Hid (OwnK (w9.setCell ⟨w.heap.size + 1, 0, none⟩ (.slice va (j + 1) vc)) (w.heap.size + 2) (.slice va (j + 1) vc) (.slice pa 0 pc) (us ++ [.slice (some ⟨B1, 0, none⟩) 3 3, .slice (some ⟨B2, 0, none⟩) 8 8]) { ts := List.replicate j etile ++ [etile], ps := [] }) := Lib.hid ((hO.appTile (x := etile) (v' := .slice va (j + 1) vc) (w' := w9) (E2.trans A3) (by simpa [etile] using p9) g9 m9 (hI1.ext A3) (hI2.ext A3) hB1' (by omega) h12 (by simp [etile]) (by simp [etile])).setCell (p := ⟨w.heap.size + 1, 0, none⟩) (by simp) (.slice va (j + 1) vc))
   have HB8 := Lib.hid (b9.set 0 (.slice va (j + 1) vc))
   have HR8 := Lib.hid (((hR.ext (E2.trans A3)).gr g9 hnr).setOther (p := ⟨w.heap.size + 1, 0, none⟩) (by simp) (.slice va (j + 1) vc))
   have HE8 : Hid (Ext w (w9.setCell ⟨w.heap.size + 1, 0, none⟩ (.slice va (j + 1) vc))) := Lib.hid (Ext.setNew E9 (by simp) _)
   clear hS0 hS1 hS2 hS4 p9 g9 m9 b9 f9 E9 hB hO hR hrow hI1 hI2 hE2 E2 A3
   go_wp2
   go_roundw
   case rel =>
    refine ⟨j + 1, by omega, by go_num, _, _, us ++ [.slice (some ⟨B1, 0, none⟩) 3 3, .slice (some ⟨B2, 0, none⟩) 8 8], HB8.out, ?_, HE8.out, HR8.out⟩
    rw [show List.replicate (j + 1) etile = List.replicate j etile ++ [etile] from List.replicate_succ']
    exact HO8.out
   case measure => simp [intOf]; omega
  ·have hk2 : j = 25 := by omega
   subst hk2
   go_wp2_with fail
   go_loopw [12] (fun u wr => ∃ j : Nat, j ≤ 3 ∧ u = .int .i64 j ∧ ERel w 25 j wr) (fun i _ => 3 - (intOf i).toNat)
   case atStart => exact ⟨0, Nat.zero_le _, rfl, tv, pv, us, hB, hO, hE, hR⟩
   case round =>
    clear hB hO hE hR
    obtain ⟨j, hj, rfl, tv, pv, us, hB, hO, hE, hR⟩ := hrel
    by_cases hlt : j < 3
    ·have x0 := hB.cell (i := 1) rfl
     have fz := fun i => hB.frozen i
     have bl := hB.lt
     obtain ⟨ta, tc, pa, pc, rfl, rfl⟩ := hO.sl
     have hps := hO.ps
     simp only [List.length_replicate] at x0 hps hO hB
     have hnb : (Value.slice pa j pc).ownBlock ≠ some (w.heap.size + 1) := fun e => by have := (World.ownsRow.lt hps _ e).1; omega
     have hnr : (Value.slice pa j pc).ownBlock ≠ some w.heap.size := fun e => by have := (World.ownsRow.lt hps _ e).1; omega
     have hB2 := hB.alloc (.cells #[.int .i64 15, .bool false] 75)
     have hR2 := hR.alloc (.cells #[.int .i64 15, .bool false] 75)
     have hO2 := hO.ext ((Ext.refl wr).alloc (.cells #[.int .i64 15, .bool false] 75))
     have hE2 := hE.alloc (.cells #[.int .i64 15, .bool false] 75)
     have hps2 := ownsRow_ext hps ((Ext.refl wr).alloc (.cells #[.int .i64 15, .bool false] 75))
     have hz := hE.size
     go_wp2_with (at_builtin; go_loud (refine wpList_app tyPads hps2 (RowAt.new wr #[.int .i64 15, .bool false] _) rfl (oneCell_flatP [(15, false)]) (by omega) (by simp; omega) rfl rfl rfl rfl ?_); intro v' w8 o8 g8 m8; obtain ⟨va, vc, rfl, _⟩ := ownsRow_row o8; have b8 := hB2.gr g8 hnb; have x8 := b8.cell (i := 1) rfl; have f8 := (fun i => b8.frozen i); have l8 := b8.lt)
     go_roundw
     case rel =>
      have hL := World.ownsRow.lt hps
      have hO8 := (hO2.appPad (y := (15, false)) (v' := .slice va (j + 1) vc) (w' := w8) (by simpa using o8) g8 m8).setCell (p := ⟨w.heap.size + 1, 1, none⟩) (by simp) (.slice va (j + 1) vc)
      refine ⟨j + 1, by omega, by go_num, _, _, us, b8.set 1 _, ?_, Ext.setNew (ext_grown hE2 g8 (fun k hk => by have := (hL k hk).1; omega)) (by simp) _, (hR2.gr g8 hnr).setOther (by simp) _⟩
      rw [show List.replicate (j + 1) ((15 : Int), false) = List.replicate j (15, false) ++ [(15, false)] from List.replicate_succ']
      exact hO8
     case measure => simp [intOf]; omega
    ·have hk2 : j = 3 := by omega
     subst hk2
     have x0 := hB.cell (i := 0) rfl
     have x1 := hB.cell (i := 1) rfl
     have y0 := hR.cell (i := 0) rfl
     have y1 := hR.cell (i := 1) rfl
     have fz := fun i => hR.frozen i
     have bl := hR.lt
     obtain ⟨ta, tc, pa, pc, rfl, rfl⟩ := hO.sl
     simp only [List.length_replicate] at x0 x1 hO hB
     have HO := Lib.hid hO
     have HE := Lib.hid hE
     clear hO hB hE
     go_wp2
     refine bodyPost_ret (v := .agg #[.slice ta 25 tc, .slice pa 3 pc]) (by simp [results, Try.results36, go_sem, y0, y1]) rfl ?_
     refine ⟨_, _, us, rfl, ?_, ?_⟩
     ·exact (OwnK.setCell (p := ⟨w.heap.size, 1, none⟩) (OwnK.setCell (p := ⟨w.heap.size, 0, none⟩) HO.out (by simp) _) (by simp) _).le (by omega)
     ·exact Ext.setNew (Ext.setNew HE.out (Nat.le_refl _) _) (Nat.le_refl _) _
end Go.Proofs.Ytgialedmbmfejaa

namespace Go.Proofs.Ytgialedmbmfejaa
open Go.RowKit
set_option maxRecDepth 100000
set_option linter.unusedVariables false
set_option linter.unusedSimpArgs false
/-- The tile's box while its selectors are put in. -/
def TRel (w0 : World) (n : Nat) (wr : World) : Prop := ∃ sa sc, Blk wr (w0.heap.size + 1) 61 [.int .i64 0, .slice sa n sc, .bool false, .slice (some ⟨w0.heap.size, 0, none⟩) 8 8] ∧ OwnInts wr (w0.heap.size + 2) 3 (.slice sa n sc) (List.replicate n 15) ∧ Blk wr w0.heap.size 3 ((List.replicate 8 (0 : Int)).map (Value.int .i64)) ∧ Ext w0 wr
set_option maxHeartbeats 1000000 in
theorem specEmptyConfig_c (w : World) : Calls Try.prog 39 #[] w (GiveK w econf) := by
 have hm := make8
 go_enter Try.func39, Try.ntmps39
 go_wp2_with fail
 go_loopw [2] (fun u wr => ∃ j : Nat, j ≤ 25 ∧ u = .int .i64 j ∧ ERel w j 0 wr) (fun i _ => 25 - (intOf i).toNat)
 case atStart => exact ⟨0, Nat.zero_le _, rfl, vnil, vnil, [], Blk.at _ _ _ (by simp), OwnK.none_, by (repeat (first | with_reducible assumption | with_reducible exact Ext.refl _ | with_reducible refine Ext.drew' ?_ | with_reducible refine Ext.drewN' ?_ _ | with_reducible refine Ext.alloc ?_ _ | (with_reducible refine Ext.setNew ?_ (by first | exact Nat.le_refl _ | (simp; done) | (simp; omega) | omega) _))), (Blk.at _ [vnil, vnil] _ rfl).alloc _⟩
 case round =>
  obtain ⟨j, hj, rfl, tv, pv, us, hB, hO, hE, hR⟩ := hrel
  by_cases hlt : j < 25
  ·obtain ⟨w1, rfl⟩ : ∃ x : World, x = wr := ⟨_, rfl⟩
   go_wp2_with fail
   go_loopw [4] (fun u wr => ∃ n : Nat, n ≤ 3 ∧ u = .int .i64 n ∧ TRel w1 n wr) (fun i _ => 3 - (intOf i).toNat)
   case atStart => exact ⟨0, Nat.zero_le _, rfl, none, 0, Blk.at _ _ _ (by simp), ownsRow_nil, (Blk.at _ _ _ rfl).alloc _, by (repeat (first | with_reducible assumption | with_reducible exact Ext.refl _ | with_reducible refine Ext.drew' ?_ | with_reducible refine Ext.drewN' ?_ _ | with_reducible refine Ext.alloc ?_ _ | (with_reducible refine Ext.setNew ?_ (by first | exact Nat.le_refl _ | (simp; done) | (simp; omega) | omega) _)))⟩
   case round =>
    obtain ⟨n, hn, rfl, sa, sc, tB, tO, tD, tE⟩ := hrel
    by_cases hn3 : n < 3
    ·have x0 := tB.cell (i := 1) rfl
     have fz := fun i => tB.frozen i
     have bl := tB.lt
     have tO2 : wr.ownsRow (w1.heap.size + 2) 3 1 (.slice sa n sc) n ((List.replicate n (15 : Int)).map (Value.int .i64)) := by have := tO; unfold OwnInts at this; simpa using this
     have nb : (Value.slice sa n sc).ownBlock ≠ some (w1.heap.size + 1) := fun e => by have := (World.ownsRow.lt tO2 _ e).1; omega
     have nd : (Value.slice sa n sc).ownBlock ≠ some w1.heap.size := fun e => by have := (World.ownsRow.lt tO2 _ e).1; omega
     have A := (Ext.refl wr).alloc (.cells #[.int .i64 15] 3)
     have tB2 := tB.ext A
     have tD2 := tD.ext A
     have hz := tE.size
     have tO3 := ownsRow_ext tO2 A
     go_wp2_with (at_builtin; go_loud (refine wpList_app tyInts tO3 (RowAt.new wr #[.int .i64 15] _) rfl (oneCell_int1 _) (by omega) (by simp; omega) rfl rfl rfl rfl ?_); intro v' w8 o8 g8 m8; obtain ⟨va, vc, rfl, _⟩ := ownsRow_row o8; have b8 := tB2.gr g8 nb; have x8 := b8.cell (i := 1) rfl; have f8 := (fun i => b8.frozen i); have l8 := b8.lt)
     go_roundw
     case rel =>
      refine ⟨n + 1, by omega, by go_num, va, vc, b8.set 1 _, ?_, (tD2.gr g8 nd).setOther (by simp) _, Ext.setNew (ext_grown (tE.trans A) g8 (fun k hk => by have := (World.ownsRow.lt tO2 k hk).1; omega)) (by simp) _⟩
      have := ownsRow_set o8 (p := ⟨w1.heap.size + 1, 1, none⟩) (by intro h; have := (o8.lt _ h).1; dsimp only at this; omega) (.slice va (n + 1) vc)
      unfold OwnInts
      rw [show List.replicate (n + 1) (15 : Int) = List.replicate n 15 ++ [15] from List.replicate_succ']
      simpa using this
     case measure => simp [intOf]; omega
    ·have hn4 : n = 3 := by omega
     subst hn4
     obtain ⟨ta, tc, pa, pc, rfl, rfl⟩ := hO.sl
     simp only [List.length_replicate] at hO hB
     have hrow := hO.ts.row
     simp only [List.length_replicate] at hrow
     have hnb : (Value.slice ta j tc).ownBlock ≠ some (w.heap.size + 1) := fun e => by have := (World.ownsRow.lt hrow _ e).1; omega
     have hnr : (Value.slice ta j tc).ownBlock ≠ some w.heap.size := fun e => by have := (World.ownsRow.lt hrow _ e).1; omega
     have hz := hB.lt
     have hz2 := tE.size
     have tO1 := ownI_lt tO
     have y0 := tB.cell (i := 0) rfl
     have y1 := tB.cell (i := 1) rfl
     have y2 := tB.cell (i := 2) rfl
     have y3 := tB.cell (i := 3) rfl
     have x0 := (hB.ext tE).cell (i := 0) rfl
     have fz := fun i => (hB.ext tE).frozen i
     have bl := (hB.ext tE).lt
     have tl := tB.lt
     have A := (Ext.refl wr).alloc (.cells #[.int .i64 0, .slice sa 3 sc, .bool false, .slice (some ⟨w1.heap.size, 0, none⟩) 8 8] 61)
     have hrow3 := ownsRow_ext hrow (tE.trans A)
     have b3 := hB.ext (tE.trans A)
     have HR := Lib.hid hR
     have HO := Lib.hid hO
     have HT := Lib.hid tO
     have HD := Lib.hid tD
     clear hR hO tO tD hB
     go_wp2_with (at_builtin; go_loud (refine wpList_app tyTiles hrow3 (RowAt.new wr #[.int .i64 0, .slice sa 3 sc, .bool false, .slice (some ⟨w1.heap.size, 0, none⟩) 8 8] _) rfl (by simp [Value.oneCell']) (by omega) (by simp; omega) rfl rfl rfl rfl ?_); intro v' w8 o8 g8 m8; obtain ⟨va, vc, rfl, _⟩ := ownsRow_row o8; have b8 := b3.gr g8 hnb; have x8 := b8.cell (i := 0) rfl; have f8 := (fun i => b8.frozen i); have l8 := b8.lt)
     go_roundw
     case rel =>
      have o2 : OwnInts (wr.alloc (.cells #[.int .i64 0, .slice sa 3 sc, .bool false, .slice (some ⟨w1.heap.size, 0, none⟩) 8 8] 61)) (w.heap.size + 2) 3 (.slice (some ⟨w1.heap.size, 0, none⟩) 8 8) (List.replicate 8 0) := (HD.out.ext A).owns (n := 8) (size := 1) (by simp) (by omega) (by decide)
      have hO8 := (HO.out.appTile2 (x := etile) (v' := .slice va (j + 1) vc) (w' := w8) (u1 := .slice sa 3 sc) (u2 := .slice (some ⟨w1.heap.size, 0, none⟩) 8 8) (tE.trans A) (by simpa [etile] using o8) g8 m8 (ownI_le (HT.out.ext A) (by omega)) o2 (fun q hq => by have := (tO1 q hq).1; omega) (fun q hq => by have e2 : w1.heap.size = q := Option.some.inj hq; omega) (fun q hq e => by have := (tO1 q hq).1; have e2 : w1.heap.size = q := Option.some.inj e; omega)).setCell (p := ⟨w.heap.size + 1, 0, none⟩) (by simp) (.slice va (j + 1) vc)
      refine ⟨j + 1, by omega, by go_num, _, _, us ++ [.slice sa 3 sc, .slice (some ⟨w1.heap.size, 0, none⟩) 8 8], b8.set 0 _, ?_, Ext.setNew (ext_grown (hE.trans (tE.trans A)) g8 (fun k hk => by have := (World.ownsRow.lt hrow k hk).1; omega)) (by simp) _, ((HR.out.ext (tE.trans A)).gr g8 hnr).setOther (by simp) _⟩
      rw [show List.replicate (j + 1) etile = List.replicate j etile ++ [etile] from List.replicate_succ']
      exact hO8
     case measure => simp [intOf]; omega
  ·have hk2 : j = 25 := by omega
   subst hk2
   go_wp2_with fail
   go_loopw [5] (fun u wr => ∃ j : Nat, j ≤ 3 ∧ u = .int .i64 j ∧ ERel w 25 j wr) (fun i _ => 3 - (intOf i).toNat)
   case atStart => exact ⟨0, Nat.zero_le _, rfl, tv, pv, us, hB, hO, hE, hR⟩
   case round =>
    clear hB hO hE hR
    obtain ⟨j, hj, rfl, tv, pv, us, hB, hO, hE, hR⟩ := hrel
    by_cases hlt : j < 3
    ·have x0 := hB.cell (i := 1) rfl
     have fz := fun i => hB.frozen i
     have bl := hB.lt
     obtain ⟨ta, tc, pa, pc, rfl, rfl⟩ := hO.sl
     have hps := hO.ps
     simp only [List.length_replicate] at x0 hps hO hB
     have hnb : (Value.slice pa j pc).ownBlock ≠ some (w.heap.size + 1) := fun e => by have := (World.ownsRow.lt hps _ e).1; omega
     have hnr : (Value.slice pa j pc).ownBlock ≠ some w.heap.size := fun e => by have := (World.ownsRow.lt hps _ e).1; omega
     have hB2 := hB.alloc (.cells #[.int .i64 15, .bool false] 75)
     have hR2 := hR.alloc (.cells #[.int .i64 15, .bool false] 75)
     have hO2 := hO.ext ((Ext.refl wr).alloc (.cells #[.int .i64 15, .bool false] 75))
     have hE2 := hE.alloc (.cells #[.int .i64 15, .bool false] 75)
     have hps2 := ownsRow_ext hps ((Ext.refl wr).alloc (.cells #[.int .i64 15, .bool false] 75))
     have hz := hE.size
     go_wp2_with (at_builtin; go_loud (refine wpList_app tyPads hps2 (RowAt.new wr #[.int .i64 15, .bool false] _) rfl (oneCell_flatP [(15, false)]) (by omega) (by simp; omega) rfl rfl rfl rfl ?_); intro v' w8 o8 g8 m8; obtain ⟨va, vc, rfl, _⟩ := ownsRow_row o8; have b8 := hB2.gr g8 hnb; have x8 := b8.cell (i := 1) rfl; have f8 := (fun i => b8.frozen i); have l8 := b8.lt)
     go_roundw
     case rel =>
      have hL := World.ownsRow.lt hps
      have hO8 := (hO2.appPad (y := (15, false)) (v' := .slice va (j + 1) vc) (w' := w8) (by simpa using o8) g8 m8).setCell (p := ⟨w.heap.size + 1, 1, none⟩) (by simp) (.slice va (j + 1) vc)
      refine ⟨j + 1, by omega, by go_num, _, _, us, b8.set 1 _, ?_, Ext.setNew (ext_grown hE2 g8 (fun k hk => by have := (hL k hk).1; omega)) (by simp) _, (hR2.gr g8 hnr).setOther (by simp) _⟩
      rw [show List.replicate (j + 1) ((15 : Int), false) = List.replicate j (15, false) ++ [(15, false)] from List.replicate_succ']
      exact hO8
     case measure => simp [intOf]; omega
    ·have hk2 : j = 3 := by omega
     subst hk2
     have x0 := hB.cell (i := 0) rfl
     have x1 := hB.cell (i := 1) rfl
     have y0 := hR.cell (i := 0) rfl
     have y1 := hR.cell (i := 1) rfl
     have fz := fun i => hR.frozen i
     have bl := hR.lt
     obtain ⟨ta, tc, pa, pc, rfl, rfl⟩ := hO.sl
     simp only [List.length_replicate] at x0 x1 hO hB
     have HO := Lib.hid hO
     have HE := Lib.hid hE
     clear hO hB hE
     go_wp2
     refine bodyPost_ret (v := .agg #[.slice ta 25 tc, .slice pa 3 pc]) (by simp [results, Try.results39, go_sem, y0, y1]) rfl ?_
     refine ⟨_, _, us, rfl, ?_, ?_⟩
     ·exact (OwnK.setCell (p := ⟨w.heap.size, 1, none⟩) (OwnK.setCell (p := ⟨w.heap.size, 0, none⟩) HO.out (by simp) _) (by simp) _).le (by omega)
     ·exact Ext.setNew (Ext.setNew HE.out (Nat.le_refl _) _) (Nat.le_refl _) _
end Go.Proofs.Ytgialedmbmfejaa

namespace Go.Proofs.Ytgialedmbmfejaa
open Go.RowKit
set_option maxRecDepth 100000
set_option linter.unusedVariables false
set_option linter.unusedSimpArgs false
theorem cellsT_tb : ∀ (ts : List Tile) (us : List Value), us.length = 2 * ts.length → ∀ (j : Nat), j < ts.length → ∀ (x : Int), (cellsT ts us).set (j * 4) (.int .i64 x) = cellsT (ts.set j { ts.getD j tile0 with tb := x }) us
 | [], _, _, _, hj, _ => by simp at hj
 | y :: ys, [], h, _, _, _ => by simp at h
 | y :: ys, [c], h, _, _, _ => by simp at h; omega
 | y :: ys, c :: d :: us, h, 0, _, x => by simp [cellsT]
 | y :: ys, c :: d :: us, h, j + 1, hj, x => by
  have := cellsT_tb ys us (by simp at h; omega) j (by simpa using hj) x
  have e1 : (j + 1) * 4 = j * 4 + 1 + 1 + 1 + 1 := by omega
  rw [e1]
  simp only [cellsT, List.set_cons_succ, List.getD_cons_succ]
  rw [this]
theorem cellsT_rg : ∀ (ts : List Tile) (us : List Value), us.length = 2 * ts.length → ∀ (j : Nat), j < ts.length → ∀ (x : Bool), (cellsT ts us).set (j * 4 + 2) (.bool x) = cellsT (ts.set j { ts.getD j tile0 with rg := x }) us
 | [], _, _, _, hj, _ => by simp at hj
 | y :: ys, [], h, _, _, _ => by simp at h
 | y :: ys, [c], h, _, _, _ => by simp at h; omega
 | y :: ys, c :: d :: us, h, 0, _, x => by simp [cellsT]
 | y :: ys, c :: d :: us, h, j + 1, hj, x => by
  have := cellsT_rg ys us (by simp at h; omega) j (by simpa using hj) x
  have e1 : (j + 1) * 4 + 2 = j * 4 + 2 + 1 + 1 + 1 + 1 := by omega
  rw [e1]
  simp only [cellsT, List.set_cons_succ, List.getD_cons_succ]
  rw [this]
/-- The cells do not tell what the slices hold. -/
theorem cellsT_inner : ∀ (ts : List Tile) (us : List Value) (j : Nat) (x : Tile), x.tb = (ts.getD j tile0).tb → x.rg = (ts.getD j tile0).rg → cellsT (ts.set j x) us = cellsT ts us
 | [], _, _, _, _, _ => by simp
 | y :: ys, [], _, _, _, _ => by rename_i j x _ _; cases j <;> simp [cellsT]
 | y :: ys, [c], _, _, _, _ => by rename_i j x _ _; cases j <;> simp [cellsT]
 | y :: ys, c :: d :: us, 0, x, h1, h2 => by
  simp at h1 h2
  simp [cellsT, h1, h2]
 | y :: ys, c :: d :: us, j + 1, x, h1, h2 => by
  have := cellsT_inner ys us j x (by simpa using h1) (by simpa using h2)
  simp [cellsT, this]
theorem flT_same : ∀ (ts : List Tile) (j : Nat) (x : Tile), x.sl = (ts.getD j tile0).sl → x.dr = (ts.getD j tile0).dr → flT (ts.set j x) = flT ts
 | [], _, _, _, _ => by simp
 | y :: ys, 0, x, h1, h2 => by simp at h1 h2; simp [flT, h1, h2]
 | y :: ys, j + 1, x, h1, h2 => by
  have := flT_same ys j x (by simpa using h1) (by simpa using h2)
  simp [flT, this]
theorem flT_sl : ∀ (ts : List Tile) (j : Nat) (x : Tile), j < ts.length → x.dr = (ts.getD j tile0).dr → flT (ts.set j x) = (flT ts).set (2 * j) x.sl
 | [], _, _, h, _ => by simp at h
 | y :: ys, 0, x, _, h => by simp at h; simp [flT, h]
 | y :: ys, j + 1, x, hj, h => by
  have := flT_sl ys j x (by simpa using hj) (by simpa using h)
  have e : 2 * (j + 1) = 2 * j + 1 + 1 := by omega
  rw [e]
  simp [flT, this]
theorem flT_dr : ∀ (ts : List Tile) (j : Nat) (x : Tile), j < ts.length → x.sl = (ts.getD j tile0).sl → flT (ts.set j x) = (flT ts).set (2 * j + 1) x.dr
 | [], _, _, h, _ => by simp at h
 | y :: ys, 0, x, _, h => by simp at h; simp [flT, h]
 | y :: ys, j + 1, x, hj, h => by
  have := flT_dr ys j x (by simpa using hj) (by simpa using h)
  have e : 2 * (j + 1) + 1 = 2 * j + 1 + 1 + 1 := by omega
  rw [e]
  simp [flT, this]
theorem ownI_set {w : World} {b g n c : Nat} {xs : List Int} (h : OwnInts w b 3 (.slice (some ⟨g, 0, none⟩) n c) xs) {i : Nat} (hi : i < xs.length) (x : Int) : OwnInts (w.setCell ⟨g, i, none⟩ (.int .i64 x)) b 3 (.slice (some ⟨g, 0, none⟩) n c) (xs.set i x) := by
 have hl : n = xs.length := by
  obtain ⟨a, c2, e, _⟩ := h.opened
  cases e; rfl
 subst hl
 have h2 := ownsRow_setAt h i (by rw [List.length_map]; exact hi) (.int .i64 x)
 unfold OwnInts
 rw [List.length_set, List.map_set]; exact h2
theorem ownI_cell {w : World} {b g n c : Nat} {xs : List Int} (h : OwnInts w b 3 (.slice (some ⟨g, 0, none⟩) n c) xs) {i : Nat} (hi : i < xs.length) : w.cell? ⟨g, i, none⟩ = some (.int .i64 (xs.getD i 0)) := by
 have hl : n = xs.length := by
  obtain ⟨a, c2, e, _⟩ := h.opened
  cases e; rfl
 subst hl
 exact ownsRow_cell h (j := i) (by rw [List.getElem?_map, List.getD_eq_getElem?_getD, List.getElem?_eq_getElem hi]; rfl)
/-- What may be read of a tile. -/
structure TileV (w : World) (g j gs cs gd cd : Nat) (x : Tile) : Prop where
 c0 : w.cell? ⟨g, j * 4, none⟩ = some (.int .i64 x.tb)
 c1 : w.cell? ⟨g, j * 4 + 1, none⟩ = some (.slice (some ⟨gs, 0, none⟩) x.sl.length cs)
 c2 : w.cell? ⟨g, j * 4 + 2, none⟩ = some (.bool x.rg)
 c3 : w.cell? ⟨g, j * 4 + 3, none⟩ = some (.slice (some ⟨gd, 0, none⟩) x.dr.length cd)
 lg : g < w.heap.size
 ls : gs < w.heap.size
 ld : gd < w.heap.size
 s : ∀ i, i < x.sl.length → w.cell? ⟨gs, i, none⟩ = some (.int .i64 (x.sl.getD i 0))
 d : ∀ i, i < x.dr.length → w.cell? ⟨gd, i, none⟩ = some (.int .i64 (x.dr.getD i 0))
 fg : ∀ i, w.frozen? ⟨g, i, none⟩ = false
 fs : ∀ i, w.frozen? ⟨gs, i, none⟩ = false
 fd : ∀ i, w.frozen? ⟨gd, i, none⟩ = false
section
variable {w w' : World} {base : Nat} {tv pv : Value} {us : List Value} {K : Conf}
theorem OwnK.tile (h : OwnK w base tv pv us K) {j : Nat} (hj : j < K.ts.length) (h1 : 0 < (K.ts.getD j tile0).sl.length) (h2 : 0 < (K.ts.getD j tile0).dr.length) : ∃ g c gs cs gd cd, tv = .slice (some ⟨g, 0, none⟩) K.ts.length c ∧ base ≤ g ∧ base ≤ gs ∧ base ≤ gd ∧ us.getD (2 * j) vnil = .slice (some ⟨gs, 0, none⟩) (K.ts.getD j tile0).sl.length cs ∧ us.getD (2 * j + 1) vnil = .slice (some ⟨gd, 0, none⟩) (K.ts.getD j tile0).dr.length cd ∧ TileV w g j gs cs gd cd (K.ts.getD j tile0) := by
 have hl := h.ts.ul
 obtain ⟨c0, c1, c2, c3⟩ := cellsT_get K.ts us hl j hj
 obtain ⟨g0, g1⟩ := flT_get K.ts j hj
 have hf := flT_length K.ts
 have e0 := h.ts.els.el (2 * j) (by omega)
 have e1 := h.ts.els.el (2 * j + 1) (by omega)
 rw [g0] at e0
 rw [g1] at e1
 obtain ⟨a, c, rfl, _⟩ := ownsRow_row h.ts.row
 obtain ⟨g, rfl, hb, hg⟩ := ownsRow_block h.ts.row (by omega)
 obtain ⟨sa, sc, es, _⟩ := e0.opened
 obtain ⟨da, dc, ed, _⟩ := e1.opened
 rw [es] at e0 c1
 rw [ed] at e1 c3
 obtain ⟨gs, rfl, hbs, hgs⟩ := ownsRow_block e0 h1
 obtain ⟨gd, rfl, hbd, hgd⟩ := ownsRow_block e1 h2
 refine ⟨g, c, gs, sc, gd, dc, rfl, hb, hbs, hbd, es, ed, ⟨ownsRow_cell h.ts.row c0, ownsRow_cell h.ts.row c1, ownsRow_cell h.ts.row c2, ownsRow_cell h.ts.row c3, hg, hgs, hgd, fun i hi => ?_, fun i hi => ?_, fun i => ownsRow_frozen h.ts.row i, fun i => ownsRow_frozen e0 i, fun i => ownsRow_frozen e1 i⟩⟩
 ·exact ownI_cell e0 hi
 ·exact ownI_cell e1 hi
theorem OwnK.offT (h : OwnK w base tv pv us K) {g : Nat} (hg : tv.ownBlock = some g) : (∀ i, i < 2 * K.ts.length → (us.getD i vnil).ownBlock ≠ some g) ∧ pv.ownBlock ≠ some g :=
 ⟨fun i hi e => h.ts.off i g hi e hg, fun e => (h.op g e).1 hg⟩
theorem OwnK.setTb (h : OwnK w base tv pv us K) {j g c n : Nat} (hj : j < K.ts.length) (hv : tv = .slice (some ⟨g, 0, none⟩) n c) (x : Int) : OwnK (w.setCell ⟨g, j * 4, none⟩ (.int .i64 x)) base tv pv us { K with ts := K.ts.set j { K.ts.getD j tile0 with tb := x } } := by
 have hl := h.ts.ul
 obtain ⟨o1, o2⟩ := h.offT (g := g) (by rw [hv]; rfl)
 have hn : n = K.ts.length := by
  obtain ⟨a, c2, e, _⟩ := ownsRow_row h.ts.row
  rw [hv] at e; cases e; rfl
 subst hn hv
 have hr := ownsRow_setAt h.ts.row (j * 4) (by rw [cellsT_length _ _ hl]; omega) (.int .i64 x)
 rw [cellsT_tb _ _ hl _ hj] at hr
 refine ⟨⟨by rw [List.length_set]; exact hr, ?_, fun i k hi hk => h.ts.off i k (by simpa using hi) hk⟩, ownsRow_set h.ps o2 _, fun q hq => ⟨(h.op q hq).1, fun i hi => (h.op q hq).2 i (by simpa using hi)⟩⟩
 have ef := flT_same K.ts j { K.ts.getD j tile0 with tb := x } rfl rfl
 show Elts _ base us (flT (K.ts.set j { K.ts.getD j tile0 with tb := x }))
 rw [ef]
 exact h.ts.els.setCell (fun i hi e => o1 i (by rw [flT_length] at hi; exact hi) e) _
theorem OwnK.setRg (h : OwnK w base tv pv us K) {j g c n : Nat} (hj : j < K.ts.length) (hv : tv = .slice (some ⟨g, 0, none⟩) n c) (x : Bool) : OwnK (w.setCell ⟨g, j * 4 + 2, none⟩ (.bool x)) base tv pv us { K with ts := K.ts.set j { K.ts.getD j tile0 with rg := x } } := by
 have hl := h.ts.ul
 obtain ⟨o1, o2⟩ := h.offT (g := g) (by rw [hv]; rfl)
 have hn : n = K.ts.length := by
  obtain ⟨a, c2, e, _⟩ := ownsRow_row h.ts.row
  rw [hv] at e; cases e; rfl
 subst hn hv
 have hr := ownsRow_setAt h.ts.row (j * 4 + 2) (by rw [cellsT_length _ _ hl]; omega) (.bool x)
 rw [cellsT_rg _ _ hl _ hj] at hr
 refine ⟨⟨by rw [List.length_set]; exact hr, ?_, fun i k hi hk => h.ts.off i k (by simpa using hi) hk⟩, ownsRow_set h.ps o2 _, fun q hq => ⟨(h.op q hq).1, fun i hi => (h.op q hq).2 i (by simpa using hi)⟩⟩
 have ef := flT_same K.ts j { K.ts.getD j tile0 with rg := x } rfl rfl
 show Elts _ base us (flT (K.ts.set j { K.ts.getD j tile0 with rg := x }))
 rw [ef]
 exact h.ts.els.setCell (fun i hi e => o1 i (by rw [flT_length] at hi; exact hi) e) _
/-- A cell of one of the slices. -/
theorem OwnK.setIn (h : OwnK w base tv pv us K) {i gs n cs k : Nat} (hi : i < (flT K.ts).length) (hu : us.getD i vnil = .slice (some ⟨gs, 0, none⟩) n cs) (hk : k < ((flT K.ts).getD i []).length) (x : Int) :
  (w.setCell ⟨gs, k, none⟩ (.int .i64 x)).ownsRow base 61 4 tv K.ts.length (cellsT K.ts us) ∧ Elts (w.setCell ⟨gs, k, none⟩ (.int .i64 x)) base us ((flT K.ts).set i (((flT K.ts).getD i []).set k x)) ∧ (w.setCell ⟨gs, k, none⟩ (.int .i64 x)).ownsRow base 75 2 pv K.ps.length (flatP K.ps) := by
 have hi2 : i < 2 * K.ts.length := by rw [flT_length] at hi; exact hi
 have ho : (us.getD i vnil).ownBlock = some gs := by rw [hu]; rfl
 have hel := h.ts.els.el i hi
 rw [hu] at hel
 refine ⟨ownsRow_set h.ts.row (h.ts.off i gs hi2 ho) _, h.ts.els.mark hi (by rw [ho]; exact gr_setOwn (Gr.refl w _) k _) (by rw [hu]; exact ownI_set hel hk x), ownsRow_set h.ps (fun e => (h.op gs e).2 i hi2 ho) _⟩
theorem OwnK.setSl (h : OwnK w base tv pv us K) {j gs n cs k : Nat} (hj : j < K.ts.length) (hu : us.getD (2 * j) vnil = .slice (some ⟨gs, 0, none⟩) n cs) (hk : k < (K.ts.getD j tile0).sl.length) (x : Int) :
  OwnK (w.setCell ⟨gs, k, none⟩ (.int .i64 x)) base tv pv us { K with ts := K.ts.set j { K.ts.getD j tile0 with sl := (K.ts.getD j tile0).sl.set k x } } := by
 obtain ⟨g0, g1⟩ := flT_get K.ts j hj
 obtain ⟨a1, a2, a3⟩ := h.setIn (i := 2 * j) (by rw [flT_length]; omega) hu (by rw [g0]; exact hk) x
 rw [g0] at a2
 refine ⟨⟨?_, ?_, fun i k hi hk => h.ts.off i k (by simpa using hi) hk⟩, a3, fun q hq => ⟨(h.op q hq).1, fun i hi => (h.op q hq).2 i (by simpa using hi)⟩⟩
 ·have ec := cellsT_inner K.ts us j { K.ts.getD j tile0 with sl := (K.ts.getD j tile0).sl.set k x } rfl rfl
  show World.ownsRow _ base _ 4 tv (K.ts.set j { K.ts.getD j tile0 with sl := (K.ts.getD j tile0).sl.set k x }).length (cellsT (K.ts.set j { K.ts.getD j tile0 with sl := (K.ts.getD j tile0).sl.set k x }) us)
  rw [List.length_set, ec]; exact a1
 ·have ef := flT_sl K.ts j { K.ts.getD j tile0 with sl := (K.ts.getD j tile0).sl.set k x } hj rfl
  show Elts _ base us (flT (K.ts.set j { K.ts.getD j tile0 with sl := (K.ts.getD j tile0).sl.set k x }))
  rw [ef]; exact a2
theorem OwnK.setDr (h : OwnK w base tv pv us K) {j gs n cs k : Nat} (hj : j < K.ts.length) (hu : us.getD (2 * j + 1) vnil = .slice (some ⟨gs, 0, none⟩) n cs) (hk : k < (K.ts.getD j tile0).dr.length) (x : Int) :
  OwnK (w.setCell ⟨gs, k, none⟩ (.int .i64 x)) base tv pv us { K with ts := K.ts.set j { K.ts.getD j tile0 with dr := (K.ts.getD j tile0).dr.set k x } } := by
 obtain ⟨g0, g1⟩ := flT_get K.ts j hj
 obtain ⟨a1, a2, a3⟩ := h.setIn (i := 2 * j + 1) (by rw [flT_length]; omega) hu (by rw [g1]; exact hk) x
 rw [g1] at a2
 refine ⟨⟨?_, ?_, fun i k hi hk => h.ts.off i k (by simpa using hi) hk⟩, a3, fun q hq => ⟨(h.op q hq).1, fun i hi => (h.op q hq).2 i (by simpa using hi)⟩⟩
 ·have ec := cellsT_inner K.ts us j { K.ts.getD j tile0 with dr := (K.ts.getD j tile0).dr.set k x } rfl rfl
  show World.ownsRow _ base _ 4 tv (K.ts.set j { K.ts.getD j tile0 with dr := (K.ts.getD j tile0).dr.set k x }).length (cellsT (K.ts.set j { K.ts.getD j tile0 with dr := (K.ts.getD j tile0).dr.set k x }) us)
  rw [List.length_set, ec]; exact a1
 ·have ef := flT_dr K.ts j { K.ts.getD j tile0 with dr := (K.ts.getD j tile0).dr.set k x } hj rfl
  show Elts _ base us (flT (K.ts.set j { K.ts.getD j tile0 with dr := (K.ts.getD j tile0).dr.set k x }))
  rw [ef]; exact a2
theorem OwnK.pad (h : OwnK w base tv pv us K) {o : Nat} (ho : o < K.ps.length) : ∃ g c, pv = .slice (some ⟨g, 0, none⟩) K.ps.length c ∧ base ≤ g ∧ g < w.heap.size ∧ w.cell? ⟨g, o * 2, none⟩ = some (.int .i64 (K.ps.getD o (0, false)).1) ∧ w.cell? ⟨g, o * 2 + 1, none⟩ = some (.bool (K.ps.getD o (0, false)).2) ∧ ∀ i, w.frozen? ⟨g, i, none⟩ = false := by
 obtain ⟨a, c, rfl, _⟩ := ownsRow_row h.ps
 obtain ⟨g, rfl, hb, hg⟩ := ownsRow_block h.ps (by omega)
 obtain ⟨c0, c1⟩ := flatP_get K.ps o ho
 exact ⟨g, c, rfl, hb, hg, ownsRow_cell h.ps c0, ownsRow_cell h.ps c1, fun i => ownsRow_frozen h.ps i⟩
theorem OwnK.setPad (h : OwnK w base tv pv us K) {o g c n : Nat} (ho : o < K.ps.length) (hv : pv = .slice (some ⟨g, 0, none⟩) n c) (x : Int) (b : Bool) : OwnK ((w.setCell ⟨g, o * 2, none⟩ (.int .i64 x)).setCell ⟨g, o * 2 + 1, none⟩ (.bool b)) base tv pv us { K with ps := K.ps.set o (x, b) } := by
 have hn : n = K.ps.length := by
  obtain ⟨a, c2, e, _⟩ := ownsRow_row h.ps
  rw [hv] at e; cases e; rfl
 subst hn hv
 obtain ⟨p1, p2⟩ := h.op g rfl
 have hfl := flatP_length K.ps
 have h1 := ownsRow_setAt h.ps (o * 2) (by omega) (.int .i64 x)
 have h2 := ownsRow_setAt h1 (o * 2 + 1) (by rw [List.length_set]; omega) (.bool b)
 have e := flatP_set K.ps o (x, b)
 dsimp only at e
 rw [e] at h2
 refine ⟨⟨ownsRow_set (ownsRow_set h.ts.row p1 _) p1 _, (h.ts.els.setCell (fun i hi => p2 i (by rw [flT_length] at hi; exact hi)) _).setCell (fun i hi => p2 i (by rw [flT_length] at hi; exact hi)) _, h.ts.off⟩, by rw [List.length_set]; exact h2, fun q hq => h.op q hq⟩
end
end Go.Proofs.Ytgialedmbmfejaa

