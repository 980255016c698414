/- Configurations of the fabric: how their tiles and pads read, and how one that comes in is opened. -/
import Derived.Test.YtkdiniaddnhkdaaRd
import Derived.Test.YtkdiniaddnhkdaaRegion
import Derived.Test.YtkdiniaddnhkdaaExInt
namespace Go.Proofs.Ytkdiniaddnhkdaa
open Go.ChangeShapes Go.WideShapes Go.ChangeAt Go.RowKit Go.Joins
set_option maxRecDepth 100000
set_option linter.unusedVariables false
set_option linter.unusedSimpArgs false
/-- A tile: table, selectors, register flag, sources. -/
structure Tile where
  tb : Int
  sl : List Int
  rg : Bool
  dr : List Int
/-- A configuration: tiles and pads. -/
structure Conf where
  ts : List Tile
  ps : List (Int × Bool)
def tile0 : Tile := ⟨0, [], false, []⟩
/-- What four cells of a row of tiles say. -/
structure TileAt (w : World) (b o : Nat) (x : Tile) : Prop where
  ex : ∃ sa sc da dc, w.cell? ⟨b, o, none⟩ = some (.int .i64 x.tb) ∧ w.cell? ⟨b, o + 1, none⟩ = some (.slice sa x.sl.length sc) ∧ w.cell? ⟨b, o + 2, none⟩ = some (.bool x.rg) ∧ w.cell? ⟨b, o + 3, none⟩ = some (.slice da x.dr.length dc) ∧ IntsAt w sa x.sl ∧ IntsAt w da x.dr
def TilesAt (w : World) (a : Option Addr) (ts : List Tile) : Prop := ts = [] ∨ ∃ b o, a = some ⟨b, o, none⟩ ∧ b < w.heap.size ∧ ∀ j, j < ts.length → TileAt w b (o + j * 4) (ts.getD j tile0)
def PadsAt (w : World) (a : Option Addr) (ps : List (Int × Bool)) : Prop := ps = [] ∨ ∃ b o, a = some ⟨b, o, none⟩ ∧ b < w.heap.size ∧ ∀ j, j < ps.length → w.cell? ⟨b, o + j * 2, none⟩ = some (.int .i64 (ps.getD j (0, false)).1) ∧ w.cell? ⟨b, o + j * 2 + 1, none⟩ = some (.bool (ps.getD j (0, false)).2)
section
variable {w w' : World} {a : Option Addr} {ts : List Tile} {ps : List (Int × Bool)}
theorem TileAt.ext {b o : Nat} {x : Tile} (h : TileAt w b o x) (hb : b < w.heap.size) (e : Ext w w') : TileAt w' b o x := by
  obtain ⟨sa, sc, da, dc, h0, h1, h2, h3, h4, h5⟩ := h
  exact ⟨sa, sc, da, dc, ((ecell e).1 b _ hb).trans h0, ((ecell e).1 b _ hb).trans h1, ((ecell e).1 b _ hb).trans h2, ((ecell e).1 b _ hb).trans h3, h4.ext e, h5.ext e⟩
theorem TilesAt.get (h : TilesAt w a ts) (hn : 0 < ts.length) : ∃ b o, a = some ⟨b, o, none⟩ ∧ b < w.heap.size ∧ ∀ j, j < ts.length → TileAt w b (o + j * 4) (ts.getD j tile0) := by
  rcases h with rfl | h
  · simp at hn
  · exact h
theorem TilesAt.ext (h : TilesAt w a ts) (e : Ext w w') : TilesAt w' a ts := by
  rcases h with rfl | ⟨b, o, ha, hb, hc⟩
  · exact .inl rfl
  · exact .inr ⟨b, o, ha, Nat.lt_of_lt_of_le hb e.size, fun j hj => (hc j hj).ext hb e⟩
theorem PadsAt.get (h : PadsAt w a ps) (hn : 0 < ps.length) : ∃ b o, a = some ⟨b, o, none⟩ ∧ b < w.heap.size ∧ ∀ j, j < ps.length → w.cell? ⟨b, o + j * 2, none⟩ = some (.int .i64 (ps.getD j (0, false)).1) ∧ w.cell? ⟨b, o + j * 2 + 1, none⟩ = some (.bool (ps.getD j (0, false)).2) := by
  rcases h with rfl | h
  · simp at hn
  · exact h
theorem PadsAt.ext (h : PadsAt w a ps) (e : Ext w w') : PadsAt w' a ps := by
  rcases h with rfl | ⟨b, o, ha, hb, hc⟩
  · exact .inl rfl
  · exact .inr ⟨b, o, ha, Nat.lt_of_lt_of_le hb e.size, fun j hj => ⟨((ecell e).1 b _ hb).trans (hc j hj).1, ((ecell e).1 b _ hb).trans (hc j hj).2⟩⟩
end
/-- A configuration as it comes in. -/
structure ConfIn (w : World) (k : Conf) (ta : Option Addr) (tc : Nat) (pa : Option Addr) (pc : Nat) : Prop where
  ts : TilesAt w ta k.ts
  ps : PadsAt w pa k.ps
  lt : k.ts.length ≤ tc ∧ tc ≤ maxLen
  lp : k.ps.length ≤ pc ∧ pc ≤ maxLen
  ls : ∀ j, j < k.ts.length → (k.ts.getD j tile0).sl.length ≤ maxLen ∧ (k.ts.getD j tile0).dr.length ≤ maxLen
def ETile (w : World) (cs : List Value) (x : Tile) : Prop := ∃ sa sc da dc, cs = [.int .i64 x.tb, .slice sa x.sl.length sc, .bool x.rg, .slice da x.dr.length dc] ∧ IntsAt w sa x.sl ∧ IntsAt w da x.dr ∧ x.sl.length ≤ maxLen ∧ x.dr.length ≤ maxLen
def EPad (w : World) (cs : List Value) (x : Int × Bool) : Prop := cs = [.int .i64 x.1, .bool x.2]
section
variable {H : Type} {enc : TypeId × Value → H} {w : World} {base : Nat} {spare : Nat → Bool} {held : Bool}
theorem slice_one {t e : TypeId} {n : Nat} {cs : List Value} {y : DataW H × List MemPlace} (ht : Try.prog.underlying t = some (.slice e)) (h : DataW.trod enc Try.prog w base spare held n t cs = some y) : ∃ v, cs = [v] := by
  rcases DataW.trod_slice ht h with ⟨h1, _⟩ | ⟨a, len, cap, elems, rest, n, _, h1, _⟩
  · exact ⟨_, h1⟩
  · exact ⟨_, h1⟩
theorem dec_tile : ∀ n cs y, DataW.trod enc Try.prog w base spare held n 129 cs = some y → ∃ x, ETile w cs x := by
  intro n cs y h
  obtain ⟨y0, y1, y2, y3, m, _, hl, h0, h1, h2, h3⟩ := trod_struct4 Try.underlying129 h
  have hl2 : cs.length = 4 := hl.trans (by kernel_rfl)
  match cs, hl2 with
  | [u0, u1, u2, u3], _ =>
    have k0 : Try.prog.cellsOf 3 = 1 := by kernel_rfl
    have k1 : Try.prog.cellsOf 39 = 1 := by kernel_rfl
    have k2 : Try.prog.cellsOf 4 = 1 := by kernel_rfl
    simp [k0, k1, k2] at h0 h1 h2 h3
    obtain ⟨x0, e0, _⟩ := DataW.trod_int Try.underlying3 h0
    obtain ⟨x2, e2, _⟩ := DataW.trod_bool Try.underlying4 h2
    obtain ⟨a1, c1, xs1, e1, s1, l1, m1⟩ := open_slice (E := EInt .i64) (sz := 1) Try.underlying39 (by kernel_rfl) (by decide) (dec_int Try.underlying3) h1
    obtain ⟨a3, c3, xs3, e3, s3, l3, m3⟩ := open_slice (E := EInt .i64) (sz := 1) Try.underlying39 (by kernel_rfl) (by decide) (dec_int Try.underlying3) h3
    simp at e0 e2
    subst e0 e1 e2 e3
    exact ⟨⟨x0, xs1, x2, xs3⟩, a1, c1, a3, c3, rfl, s1.ints, s3.ints, by dsimp only; omega, by dsimp only; omega⟩
theorem dec_pad : ∀ n cs y, DataW.trod enc Try.prog w base spare held n 134 cs = some y → ∃ x, EPad w cs x := by
  intro n cs y h
  obtain ⟨y0, y1, m, _, hl, h0, h1⟩ := trod_struct2 Try.underlying134 h
  have hl2 : cs.length = 2 := hl.trans (by kernel_rfl)
  match cs, hl2 with
  | [u0, u1], _ =>
    obtain ⟨x0, e0, _⟩ := DataW.trod_int Try.underlying3 h0
    obtain ⟨x1, e1, _⟩ := DataW.trod_bool Try.underlying4 h1
    have k0 : Try.prog.cellsOf 3 = 1 := by kernel_rfl
    have k1 : Try.prog.cellsOf 4 = 1 := by kernel_rfl
    simp [k0, k1] at e0 e1
    exact ⟨(x0, x1), by rw [e0, e1]; rfl⟩
theorem SlAt.tiles {w : World} {a : Option Addr} {ts : List Tile} (h : SlAt 4 ETile w a ts) : TilesAt w a ts ∧ ∀ j, j < ts.length → (ts.getD j tile0).sl.length ≤ maxLen ∧ (ts.getD j tile0).dr.length ≤ maxLen := by
  rcases h with rfl | ⟨b, o, ha, hb, hc⟩
  · exact ⟨.inl rfl, fun j hj => by simp at hj⟩
  · have hx : ∀ j (hj : j < ts.length), ts.getD j tile0 = ts[j] := fun j hj => by rw [List.getD_eq_getElem?_getD, List.getElem?_eq_getElem hj]; rfl
    refine ⟨.inr ⟨b, o, ha, hb, fun j hj => ?_⟩, fun j hj => ?_⟩
    · obtain ⟨cs, _, ⟨sa, sc, da, dc, rfl, q1, q2, _, _⟩, h3⟩ := hc j _ (List.getElem?_eq_getElem hj)
      rw [hx j hj]
      have c0 := h3 0 (by omega)
      have c1 := h3 1 (by omega)
      have c2 := h3 2 (by omega)
      have c3 := h3 3 (by omega)
      exact ⟨sa, sc, da, dc, by simpa using c0, by simpa using c1, by simpa using c2, by simpa using c3, q1, q2⟩
    · obtain ⟨cs, _, ⟨sa, sc, da, dc, _, _, _, q3, q4⟩, _⟩ := hc j _ (List.getElem?_eq_getElem hj)
      rw [hx j hj]; exact ⟨q3, q4⟩
theorem SlAt.pads {w : World} {a : Option Addr} {ps : List (Int × Bool)} (h : SlAt 2 EPad w a ps) : PadsAt w a ps := by
  rcases h with rfl | ⟨b, o, ha, hb, hc⟩
  · exact .inl rfl
  · refine .inr ⟨b, o, ha, hb, fun j hj => ?_⟩
    have hx : ps.getD j (0, false) = ps[j] := by rw [List.getD_eq_getElem?_getD, List.getElem?_eq_getElem hj]; rfl
    obtain ⟨cs, _, h2, h3⟩ := hc j _ (List.getElem?_eq_getElem hj)
    have h2' : cs = _ := h2
    subst h2'
    have c0 := h3 0 (by omega)
    have c1 := h3 1 (by omega)
    rw [hx]
    exact ⟨by simpa using c0, by simpa using c1⟩
theorem open_conf {r : Reach} {b0 : Nat} {v : Value} {d : DataW H} {p : List MemPlace} (hv : Value.okWide Try.prog w r b0 33 v) (h : DataW.Trod enc Try.prog w base spare held 33 v d p) :
    ∃ k ta tc pa pc, v = .agg #[.slice ta k.ts.length tc, .slice pa k.ps.length pc] ∧ ConfIn w k ta tc pa pc := by
  obtain ⟨v0, v1, y0, y1, n, rfl, _, _, h0, h1⟩ := open_agg2 Try.underlying33 (by kernel_rfl) (by kernel_rfl) hv h
  obtain ⟨a1, c1, ts, rfl, s1, l1, m1⟩ := open_slice (E := ETile) (sz := 4) Try.underlying30 (by kernel_rfl) (by decide) dec_tile h0
  obtain ⟨a2, c2, ps, rfl, s2, l2, m2⟩ := open_slice (E := EPad) (sz := 2) Try.underlying31 (by kernel_rfl) (by decide) dec_pad h1
  exact ⟨⟨ts, ps⟩, a1, c1, a2, c2, rfl, ⟨s1.tiles.1, s2.pads, ⟨l1, m1⟩, ⟨l2, m2⟩, s1.tiles.2⟩⟩
end
end Go.Proofs.Ytkdiniaddnhkdaa
