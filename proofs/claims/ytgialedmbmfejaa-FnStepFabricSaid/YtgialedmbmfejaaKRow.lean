/- Rows of tiles as they come in, as rows of cells; slices of slices that begin anywhere. -/
import Derived.Test.YtgialedmbmfejaaBKf
import Derived.Test.YtgialedmbmfejaaFrame
namespace Go.Proofs.Ytgialedmbmfejaa
open Go.RowKit
set_option maxRecDepth 100000
set_option linter.unusedVariables false
set_option linter.unusedSimpArgs false
theorem run_fromO {P : Program} {t e : TypeId} {sz : Nat} (ht : P.underlying t = some (.slice e)) (hsz : (P.info? e).map (·.size) = some sz) (B o0 n cap : Nat) (l : Int) (h0 : 0 ≤ l) (h1 : l ≤ n) :
  ∃ o, (l < cap → o = o0 + l.toNat * sz) ∧ ∀ w, (Instr.sliceAt t (.slice (some ⟨B, o0, none⟩) n cap) (some (.int .i64 l)) none none).run P w = .ok (.slice (some ⟨B, o, none⟩) (n - l.toNat) (cap - l.toNat)) w := by
 have he := elem_of ht
 have ht' : P.underlying t = some (.slice (P.elem t)) := by rw [he]; exact ht
 have hadd : (⟨B, o0, none⟩ : Addr).add (l.toNat * sz) = ⟨B, o0 + l.toNat * sz, none⟩ := add_plain _ _ _
 refine ⟨if cap = l.toNat then o0 else o0 + l.toNat * sz, fun h => by rw [if_neg (by omega)], fun w => ?_⟩
 rw [run_sliceAt_slice w t _ _ _ _ ht', run_slice_l w t _ n cap ht' .i64 l h0 h1, he, run_size hsz]
 simp only [Result.andThen_ok, sliced, Option.map_some, hadd]
 split <;> rfl
/-- What the slices of a tile say. -/
def TileS (w : World) (x : Tile) (u1 u2 : Value) : Prop := ∃ sa sc da dc, u1 = .slice sa x.sl.length sc ∧ u2 = .slice da x.dr.length dc ∧ IntsAt w sa x.sl ∧ IntsAt w da x.dr
theorem TileS.ext {w w' : World} {x : Tile} {u1 u2 : Value} (h : TileS w x u1 u2) (e : Ext w w') : TileS w' x u1 u2 := by
 obtain ⟨sa, sc, da, dc, h1, h2, h3, h4⟩ := h
 exact ⟨sa, sc, da, dc, h1, h2, h3.ext e, h4.ext e⟩
theorem take_snocT (ts : List Tile) (k : Nat) (h : k < ts.length) : ts.take (k + 1) = ts.take k ++ [ts.getD k tile0] := by
 rw [List.take_add_one, List.getElem?_eq_getElem h, List.getD_eq_getElem?_getD, List.getElem?_eq_getElem h]; rfl
theorem tiles_us {w : World} {b o : Nat} {ts : List Tile} (hc : ∀ j, j < ts.length → TileAt w b (o + j * 4) (ts.getD j tile0)) : ∀ k, k ≤ ts.length → ∃ us : List Value, us.length = 2 * k ∧ (∀ i u, (cellsT (ts.take k) us)[i]? = some u → w.cell? ⟨b, o + i, none⟩ = some u) ∧ ∀ j, j < k → TileS w (ts.getD j tile0) (us.getD (2 * j) vnil) (us.getD (2 * j + 1) vnil) := by
 intro k
 induction k with
 | zero => intro _; exact ⟨[], rfl, fun i u h => by simp [cellsT] at h, fun j hj => absurd hj (Nat.not_lt_zero j)⟩
 | succ k ih =>
  intro hk
  obtain ⟨us, h1, h2, h3⟩ := ih (by omega)
  obtain ⟨sa, sc, da, dc, q0, q1, q2, q3, q4, q5⟩ := (hc k (by omega)).ex
  have htl : (ts.take k).length = k := by rw [List.length_take]; omega
  have e1 := cellsT_append (ts.take k) us (by rw [htl, h1]) (ts.getD k tile0) (.slice sa (ts.getD k tile0).sl.length sc) (.slice da (ts.getD k tile0).dr.length dc)
  rw [← take_snocT ts k (by omega)] at e1
  have hcl := cellsT_length (ts.take k) us (by rw [htl, h1])
  rw [htl] at hcl
  refine ⟨us ++ [.slice sa (ts.getD k tile0).sl.length sc, .slice da (ts.getD k tile0).dr.length dc], by simp [h1]; omega, fun i u hu => ?_, fun j hj => ?_⟩
  ·rw [e1] at hu
   by_cases hi : i < k * 4
   ·rw [List.getElem?_append_left (by omega)] at hu
    exact h2 i u hu
   ·rw [List.getElem?_append_right (by omega), hcl] at hu
    have hi4 : i - k * 4 < 4 := by
     rcases Nat.lt_or_ge (i - k * 4) 4 with h | h
     ·exact h
     ·rw [List.getElem?_eq_none (by simpa using h)] at hu; cases hu
    have hcase : i = k * 4 ∨ i = k * 4 + 1 ∨ i = k * 4 + 2 ∨ i = k * 4 + 3 := by omega
    rcases hcase with rfl | rfl | rfl | rfl
    ·simp at hu; rw [← hu]; exact q0
    ·rw [show k * 4 + 1 - k * 4 = 1 from by omega] at hu; simp at hu; rw [← hu]; exact q1
    ·rw [show k * 4 + 2 - k * 4 = 2 from by omega] at hu; simp at hu; rw [← hu]; exact q2
    ·rw [show k * 4 + 3 - k * 4 = 3 from by omega] at hu; simp at hu; rw [← hu]; exact q3
  ·by_cases e : j = k
   ·subst e
    have g1 : (us ++ [Value.slice sa (ts.getD j tile0).sl.length sc, .slice da (ts.getD j tile0).dr.length dc]).getD (2 * j) vnil = .slice sa (ts.getD j tile0).sl.length sc := by
     rw [List.getD_eq_getElem?_getD, List.getElem?_append_right (by omega), h1, Nat.sub_self]; rfl
    have g2 : (us ++ [Value.slice sa (ts.getD j tile0).sl.length sc, .slice da (ts.getD j tile0).dr.length dc]).getD (2 * j + 1) vnil = .slice da (ts.getD j tile0).dr.length dc := by
     rw [List.getD_eq_getElem?_getD, List.getElem?_append_right (by omega), h1, show 2 * j + 1 - 2 * j = 1 from by omega]; rfl
    exact ⟨sa, sc, da, dc, g1, g2, q4, q5⟩
   ·have hj2 : j < k := by omega
    have g1 : (us ++ [Value.slice sa (ts.getD k tile0).sl.length sc, .slice da (ts.getD k tile0).dr.length dc]).getD (2 * j) vnil = us.getD (2 * j) vnil := by
     rw [List.getD_eq_getElem?_getD, List.getElem?_append_left (by omega), List.getD_eq_getElem?_getD]
    have g2 : (us ++ [Value.slice sa (ts.getD k tile0).sl.length sc, .slice da (ts.getD k tile0).dr.length dc]).getD (2 * j + 1) vnil = us.getD (2 * j + 1) vnil := by
     rw [List.getD_eq_getElem?_getD, List.getElem?_append_left (by omega), List.getD_eq_getElem?_getD]
    rw [g1, g2]; exact h3 j hj2
/-- A row of tiles that comes in, as a row of cells. -/
theorem TilesAt.rowUs {w : World} {a : Option Addr} {ts : List Tile} (h : TilesAt w a ts) (hn : 0 < ts.length) : ∃ us : List Value, us.length = 2 * ts.length ∧ RowAt w a (cellsT ts us) ∧ ∀ j, j < ts.length → TileS w (ts.getD j tile0) (us.getD (2 * j) vnil) (us.getD (2 * j + 1) vnil) := by
 obtain ⟨b, o, ha, hb, hc⟩ := h.get hn
 obtain ⟨us, h1, h2, h3⟩ := tiles_us hc ts.length (Nat.le_refl _)
 rw [List.take_length] at h2
 exact ⟨us, h1, .inr ⟨b, o, ha, hb, h2⟩, h3⟩
/-- A row of cells reads as tiles. -/
theorem tiles_of_row {w : World} {g : Nat} {base n c : Nat} {ts : List Tile} {us : List Value} (h : w.ownsRow base 61 4 (.slice (some ⟨g, 0, none⟩) n c) n (cellsT ts us)) (hl : us.length = 2 * ts.length) (hs : ∀ j, j < ts.length → TileS w (ts.getD j tile0) (us.getD (2 * j) vnil) (us.getD (2 * j + 1) vnil)) : TilesAt w (some ⟨g, 0, none⟩) ts := by
 refine .inr ⟨g, 0, rfl, (World.ownsRow.lt h g rfl).2, fun j hj => ?_⟩
 obtain ⟨c0, c1, c2, c3⟩ := cellsT_get ts us hl j hj
 obtain ⟨sa, sc, da, dc, e1, e2, i1, i2⟩ := hs j hj
 rw [e1] at c1
 rw [e2] at c3
 rw [Nat.zero_add]
 exact ⟨sa, sc, da, dc, ownsRow_cell h c0, ownsRow_cell h c1, ownsRow_cell h c2, ownsRow_cell h c3, i1, i2⟩
theorem oneCell_tiles {w : World} : ∀ (ts : List Tile) (us : List Value), us.length = 2 * ts.length → (∀ j, j < ts.length → TileS w (ts.getD j tile0) (us.getD (2 * j) vnil) (us.getD (2 * j + 1) vnil)) → ∀ u ∈ cellsT ts us, u.oneCell' = true
 | [], us, _, _ => by intro u hu; simp [cellsT] at hu
 | y :: ys, [], h, _ => by simp at h
 | y :: ys, [c], h, _ => by simp at h; omega
 | y :: ys, c :: d :: us, h, hs => by
  intro u hu
  have h0 := hs 0 (by simp)
  obtain ⟨sa, sc, da, dc, e1, e2, _⟩ := h0
  simp at e1 e2
  subst e1 e2
  simp only [cellsT, List.mem_cons] at hu
  rcases hu with rfl | rfl | rfl | rfl | hu
  ·rfl
  ·rfl
  ·rfl
  ·rfl
  ·refine oneCell_tiles (w := w) ys us (by simp at h; omega) (fun j hj => ?_) u hu
   have := hs (j + 1) (by simpa using hj)
   have e1 : 2 * (j + 1) = 2 * j + 1 + 1 := by omega
   rw [e1] at this
   simpa using this
end Go.Proofs.Ytgialedmbmfejaa
