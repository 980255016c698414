/- Bundle: the logic cells of both libraries. -/
import Derived.Test.YtgialedmbmfejaaBCut
import Derived.Test.YtgialedmbmfejaaMarkI
import Derived.Test.YtgialedmbmfejaaRegion
import Derived.Test.YtgialedmbmfejaaBLut
namespace Go.Proofs.Ytgialedmbmfejaa
open Go.RowKit
set_option maxRecDepth 100000
set_option linter.unusedVariables false
set_option linter.unusedSimpArgs false
/-! ### Sizes and marks, of no program -/
def SmI (x : List Int) : Prop := x.length ≤ 1000
def SmL {α : Type} (S : α → Prop) (xs : List α) : Prop := xs.length ≤ 1000 ∧ ∀ x ∈ xs, S x
def szI (x : List Int) : Nat := x.length
def mkII (k : Int) (x : List Int) : List Int := mksI k x.length
def szF {α : Type} (sz : α → Nat) : List α → Nat
 | [] => 0
 | x :: xs => sz x + szF sz xs
def mkFN {α : Type} (mk : Int → α → α) (sz : α → Nat) : Int → List α → List α
 | _, [] => []
 | k, x :: xs => mk k x :: mkFN mk sz (k + sz x) xs
section
variable {α : Type} {mk : Int → α → α} {sz : α → Nat}
theorem szF_append (xs ys : List α) : szF sz (xs ++ ys) = szF sz xs + szF sz ys := by
 induction xs with
 | nil => simp [szF]
 | cons x xs ih => rw [List.cons_append, szF, szF, ih]; omega
theorem take_snocN (xs : List α) (k : Nat) (d : α) (h : k < xs.length) : xs.take (k + 1) = xs.take k ++ [xs.getD k d] := by
 rw [List.take_add_one, List.getD_eq_getElem?_getD, List.getElem?_eq_getElem h]; rfl
theorem szF_take (xs : List α) (k : Nat) (d : α) (h : k < xs.length) : szF sz (xs.take (k + 1)) = szF sz (xs.take k) + sz (xs.getD k d) := by
 rw [take_snocN xs k d h, szF_append]; simp [szF]
theorem szF_take_le (xs : List α) (k : Nat) : szF sz (xs.take k) ≤ szF sz xs := by
 have := szF_append (sz := sz) (xs.take k) (xs.drop k)
 rw [List.take_append_drop] at this; omega
theorem mkFN_length : ∀ (xs : List α) (k : Int), (mkFN mk sz k xs).length = xs.length
 | [], _ => rfl
 | x :: xs, k => by simp [mkFN, mkFN_length xs]
theorem mkFN_append : ∀ (xs ys : List α) (k : Int), mkFN mk sz k (xs ++ ys) = mkFN mk sz k xs ++ mkFN mk sz (k + szF sz xs) ys
 | [], ys, k => by simp [mkFN, szF]
 | x :: xs, ys, k => by
  rw [List.cons_append, mkFN, mkFN_append xs, mkFN, szF, List.cons_append]
  have : k + (sz x : Int) + (szF sz xs : Int) = k + ((sz x + szF sz xs : Nat) : Int) := by omega
  rw [this]
theorem mkFN_get (xs : List α) (k : Int) (j : Nat) (d : α) (h : j < xs.length) : (mkFN mk sz k xs).getD j d = mk (k + szF sz (xs.take j)) (xs.getD j d) := by
 have e : xs = xs.take j ++ (xs.getD j d :: xs.drop (j + 1)) := by
  rw [List.getD_eq_getElem?_getD, List.getElem?_eq_getElem h]
  simp
 have hl : (mkFN mk sz k (xs.take j)).length = j := by rw [mkFN_length, List.length_take]; omega
 have e2 : mkFN mk sz k xs = mkFN mk sz k (xs.take j) ++ mkFN mk sz (k + szF sz (xs.take j)) (xs.getD j d :: xs.drop (j + 1)) := by rw [← mkFN_append, ← e]
 rw [e2, List.getD_eq_getElem?_getD, List.getElem?_append_right (by omega), hl, Nat.sub_self]
 rfl
/-- What the row holds when k elements are marked. -/
def midF (mk : Int → α → α) (sz : α → Nat) (k0 : Int) (xs : List α) (j : Nat) : List α := mkFN mk sz k0 (xs.take j) ++ xs.drop j
theorem midF_length (k0 : Int) (xs : List α) (j : Nat) (hj : j ≤ xs.length) : (midF mk sz k0 xs j).length = xs.length := by
 unfold midF; rw [List.length_append, mkFN_length, List.length_take, List.length_drop]; omega
theorem drop_getN (xs : List α) (k : Nat) (d : α) (h : k < xs.length) : xs.drop k = xs.getD k d :: xs.drop (k + 1) := by
 rw [List.drop_eq_getElem_cons h, List.getD_eq_getElem?_getD, List.getElem?_eq_getElem h]; rfl
theorem midF_at (k0 : Int) (xs : List α) (j : Nat) (d : α) (hj : j < xs.length) : (midF mk sz k0 xs j).getD j d = xs.getD j d := by
 unfold midF
 have hl : (mkFN mk sz k0 (xs.take j)).length = j := by rw [mkFN_length, List.length_take]; omega
 rw [List.getD_eq_getElem?_getD, List.getElem?_append_right (by omega), hl, Nat.sub_self, List.getElem?_drop, Nat.add_zero, ← List.getD_eq_getElem?_getD]
theorem midF_set (k0 : Int) (xs : List α) (j : Nat) (d : α) (hj : j < xs.length) : (midF mk sz k0 xs j).set j (mk (k0 + szF sz (xs.take j)) (xs.getD j d)) = midF mk sz k0 xs (j + 1) := by
 unfold midF
 have hl : (mkFN mk sz k0 (xs.take j)).length = j := by rw [mkFN_length, List.length_take]; omega
 rw [List.set_append_right _ _ (by omega), hl, Nat.sub_self, drop_getN xs j d hj, List.set_cons_zero, take_snocN xs j d hj, mkFN_append]
 simp [mkFN]
theorem midF_zero (k0 : Int) (xs : List α) : midF mk sz k0 xs 0 = xs := by simp [midF, mkFN]
theorem midF_all (k0 : Int) (xs : List α) : midF mk sz k0 xs xs.length = mkFN mk sz k0 xs := by simp [midF]
end
section
variable {α : Type} {P : OwnP α} {T : TypeId} {w w' : World} {v : Value} {xs : List α} {F : List Nat}
/-- An element of one cell: its cell, and what another in its place makes of the row. -/
theorem Nst.upd1 (hP : GoodP P 1) (h : Nst P T 1 w v xs F) (j : Nat) (d : α) (hj : j < xs.length) : ∃ g c u Fj, v = .slice (some ⟨g, 0, none⟩) xs.length c ∧ g < w.heap.size ∧ w.cell? ⟨g, j, none⟩ = some u ∧ P w [u] (xs.getD j d) Fj ∧ (∀ q ∈ Fj, q ∈ F) ∧ g ∉ Fj ∧
  ∀ w' x', P w' [u] x' Fj → ChgN Fj w w' → Nst P T 1 w' v (xs.set j x') F := by
 obtain ⟨cells, G, h1, h2, rfl, h4⟩ := h
 obtain ⟨a', c', rfl, hr, _⟩ := ownsRow_row h1
 obtain ⟨g, rfl, hb, hg⟩ := ownsRow_block h1 (by omega)
 obtain ⟨cs, Fj, q1, q2, q3, q4⟩ := h2.upd hP j d hj
 obtain ⟨u, rfl⟩ : ∃ u, cs = [u] := by
  have := hP.len q1
  match cs, this with
  | [u], _ => exact ⟨u, rfl⟩
 have hcu : cells[j]? = some u := by have := q2 0 (by omega); simpa using this
 have hgf : g ∈ fp (Value.slice (some ⟨g, 0, none⟩) xs.length c') := mem_fp.2 rfl
 refine ⟨g, c', u, Fj, rfl, hg, ownsRow_cell h1 hcu, q1, fun q hq => List.mem_append_right _ (q3 q hq), fun e => h4 g hgf (q3 g e), fun w' x' hx hc => ?_⟩
 have := q4 w' [u] x' hx (fun g2 hg2 hn => hc.block g2 (h2.lt hP g2 hg2) hn)
 have e : cells.take (j * 1) ++ ([u] ++ cells.drop (j * 1 + 1)) = cells := by
  rw [Nat.mul_one]
  have hjl : j < cells.length := by
   rcases Nat.lt_or_ge j cells.length with h | h
   ·exact h
   ·rw [List.getElem?_eq_none h] at hcu; cases hcu
  have : cells[j] = u := by rw [List.getElem?_eq_getElem hjl] at hcu; exact Option.some.inj hcu
  rw [← this]
  simp
 rw [e] at this
 refine ⟨cells, G, ?_, this, rfl, h4⟩
 rw [List.length_set]
 refine ownsRow_keep h1 (fun x hx => ?_)
 cases hx
 exact hc.block g hg (fun e => h4 g hgf (q3 g e))
theorem Nst.get1 (hP : GoodP P 1) {a : Option Addr} {n c : Nat} (h : Nst P T 1 w (.slice a n c) xs F) (hn : 0 < xs.length) : ∃ g, a = some ⟨g, 0, none⟩ ∧ g < w.heap.size ∧ ∀ j d, j < xs.length → ∃ u Fj, w.cell? ⟨g, j, none⟩ = some u ∧ P w [u] (xs.getD j d) Fj ∧ ∀ q ∈ Fj, q ∈ F := by
 obtain ⟨cells, G, h1, h2, rfl, h4⟩ := h
 obtain ⟨a', c', e, hr, _⟩ := ownsRow_row h1
 cases e
 obtain ⟨g, rfl, hb, hg⟩ := ownsRow_block h1 hn
 refine ⟨g, rfl, hg, fun j d hj => ?_⟩
 obtain ⟨cs, Fj, q1, q2, q3⟩ := h2.get hP j d hj
 obtain ⟨u, rfl⟩ : ∃ u, cs = [u] := by
  have := hP.len q1
  match cs, this with
  | [u], _ => exact ⟨u, rfl⟩
 have hcu : cells[j]? = some u := by have := q2 0 (by omega); simpa using this
 exact ⟨u, Fj, ownsRow_cell h1 hcu, q1, fun q hq => List.mem_append_right _ (q3 q hq)⟩
end
/-! ### Slices of numbers -/
theorem eqIntS_P (u u' : Value) (x : List Int) (F F' : List Nat) (w : World) (h : PInts w [u] x F) (h' : PInts w [u'] x F') (hs : SmI x) : Calls Try.prog 23 #[u, u'] w fun e w' => e = .returned (.bool true) ∧ Ext w w' := by
 obtain ⟨v, e, o, rfl⟩ := h
 obtain ⟨v', e', o', rfl⟩ := h'
 cases e; cases e'
 obtain ⟨a, c, rfl, h1, _⟩ := o.opened
 obtain ⟨a', c', rfl, h1', _⟩ := o'.opened
 exact eqIntS_c a a' c c' x w h1 h1' (by unfold SmI at hs; omega)
theorem markIntS_P (u : Value) (x : List Int) (F : List Nat) (k : Int) (w : World) (h : PInts w [u] x F) (hs : SmI x) (h0 : 0 ≤ k) (h1 : k ≤ 100000000) : Calls Try.prog 26 #[u, .int .i64 k] w fun e w' => e = .returned (.int .i64 (k + szI x)) ∧ PInts w' [u] (mkII k x) F ∧ ChgN F w w' := by
 obtain ⟨v, e, o, rfl⟩ := h
 cases e
 obtain ⟨a, c, rfl, _⟩ := o.opened
 refine (markIntS_o 0 a c x k w o h0 (by omega) (by unfold SmI at hs; omega)).mono ?_
 rintro e w' ⟨rfl, o2, g2⟩
 refine ⟨rfl, ⟨_, rfl, ?_, rfl⟩, ChgN.ofGr g2⟩
 unfold OwnInts mkII
 rw [mksI_length]; exact o2
theorem heldIntS_P (u : Value) (x : List Int) (F : List Nat) (k : Int) (w : World) (h : PInts w [u] (mkII k x) F) (hs : SmI x) (h0 : 0 ≤ k) (h1 : k ≤ 100000000) : Calls Try.prog 27 #[u, .int .i64 k] w fun e w' => e = .returned (.int .i64 (k + szI x)) ∧ Ext w w' := by
 obtain ⟨v, e, o, rfl⟩ := h
 cases e
 obtain ⟨a, c, rfl, h2, _⟩ := o.opened
 unfold mkII at h2 ⊢
 rw [mksI_length]
 refine (heldIntS_c a c x.length k w h2 h0 (by omega) (by unfold SmI at hs; omega)).mono ?_
 rintro e w' ⟨rfl, rfl⟩
 exact ⟨rfl, Ext.refl _⟩
end Go.Proofs.Ytgialedmbmfejaa

namespace Go.Proofs.Ytgialedmbmfejaa
open Go.RowKit
set_option linter.unusedVariables false
set_option linter.unusedSimpArgs false
/-- A row that holds A, cs, B, the cells cs being open. -/
def RowHole (T : TypeId) (size n c g : Nat) (A B : List Value) (w : World) (cs : List Value) : Prop := w.ownsRow 0 T size (.slice (some ⟨g, 0, none⟩) n c) n (A ++ (cs ++ B))
section
variable {T : TypeId} {size n c g : Nat} {A B : List Value} {w w' : World} {cs : List Value}
theorem RowHole.set (h : RowHole T size n c g A B w cs) (i : Nat) (hi : i < cs.length) (u : Value) {p : Nat} (hp : p = A.length + i) : RowHole T size n c g A B (w.setCell ⟨g, p, none⟩ u) (cs.set i u) := by
 subst hp
 have := ownsRow_setAt h (A.length + i) (by simp; omega) u
 rw [List.set_append_right _ _ (by omega), Nat.add_sub_cancel_left, List.set_append_left _ _ hi] at this
 exact this
theorem RowHole.keep (h : RowHole T size n c g A B w cs) (hk : w'.heap[g]? = w.heap[g]?) : RowHole T size n c g A B w' cs := ownsRow_keep h (fun q hq => by cases hq; exact hk)
theorem RowHole.cell (h : RowHole T size n c g A B w cs) {i : Nat} {u : Value} (hu : cs[i]? = some u) : w.cell? ⟨g, A.length + i, none⟩ = some u := by
 refine ownsRow_cell h ?_
 have hi : i < cs.length := by
  rcases Nat.lt_or_ge i cs.length with h | h
  ·exact h
  ·rw [List.getElem?_eq_none h] at hu; cases hu
 rw [List.getElem?_append_right (by omega), Nat.add_sub_cancel_left, List.getElem?_append_left hi]
 exact hu
theorem RowHole.frozen (h : RowHole T size n c g A B w cs) (i : Nat) : w.frozen? ⟨g, i, none⟩ = false := ownsRow_frozen h i
theorem RowHole.lt (h : RowHole T size n c g A B w cs) : g < w.heap.size := (World.ownsRow.lt h g rfl).2
end
theorem splitN {cells cs : List Value} {p n : Nat} (hl : cs.length = n) (hle : p + n ≤ cells.length) (h : ∀ i, i < n → cells[p + i]? = cs[i]?) : cells = cells.take p ++ (cs ++ cells.drop (p + n)) := by
 refine List.ext_getElem? (fun i => ?_)
 by_cases h1 : i < p
 ·rw [List.getElem?_append_left (by rw [List.length_take]; omega), List.getElem?_take_of_lt h1]
 ·rw [List.getElem?_append_right (by rw [List.length_take]; omega), List.length_take, Nat.min_eq_left (by omega)]
  by_cases h2 : i < p + n
  ·rw [List.getElem?_append_left (by omega), ← h (i - p) (by omega), show p + (i - p) = i by omega]
  ·rw [List.getElem?_append_right (by omega), List.getElem?_drop, hl, show p + n + (i - p - n) = i by omega]
section
variable {α : Type} {P : OwnP α} {T : TypeId} {size : Nat} {w w' : World} {v : Value} {xs : List α} {F : List Nat}
theorem Nst.open (hP : GoodP P size) (h : Nst P T size w v xs F) (j : Nat) (d : α) (hj : j < xs.length) : ∃ g c cs Fj A B, v = .slice (some ⟨g, 0, none⟩) xs.length c ∧ A.length = j * size ∧ P w cs (xs.getD j d) Fj ∧ (∀ q ∈ Fj, q ∈ F) ∧ g ∈ F ∧ g ∉ Fj ∧ RowHole T size xs.length c g A B w cs ∧
  ∀ w' cs' x', RowHole T size xs.length c g A B w' cs' → P w' cs' x' Fj → (∀ q ∈ F, q ∉ Fj → q ≠ g → w'.heap[q]? = w.heap[q]?) → Nst P T size w' v (xs.set j x') F := by
 obtain ⟨cells, G, h1, h2, rfl, h4⟩ := h
 by_cases hz : size = 0
 ·subst hz
  obtain ⟨a', c', rfl, hr, _⟩ := ownsRow_row h1
  obtain ⟨g, rfl, hb, hg⟩ := ownsRow_block h1 (by omega)
  obtain ⟨cs, Fj, q1, q2, q3, q4⟩ := h2.upd hP j d hj
  have hgf : g ∈ fp (Value.slice (some ⟨g, 0, none⟩) xs.length c') := mem_fp.2 rfl
  have hc0 : cells = [] := List.eq_nil_of_length_eq_zero (by rw [h2.len hP]; omega)
  have hcs : cs = [] := List.eq_nil_of_length_eq_zero (hP.len q1)
  subst hc0 hcs
  refine ⟨g, c', [], Fj, [], [], rfl, by simp, q1, fun q hq => List.mem_append_right _ (q3 q hq), List.mem_append_left _ hgf, fun e => h4 g hgf (q3 g e), h1, fun w' cs' x' hh hx hk => ?_⟩
  have := q4 w' cs' x' hx (fun q hq hn => hk q (List.mem_append_right _ hq) hn (fun e => h4 g hgf (by rw [← e]; exact hq)))
  have hcs' : cs' = [] := List.eq_nil_of_length_eq_zero (hP.len hx)
  subst hcs'
  exact ⟨[], G, by rw [List.length_set]; exact hh, by simpa using this, rfl, h4⟩
 ·obtain ⟨a', c', rfl, hr, _⟩ := ownsRow_row h1
  obtain ⟨g, rfl, hb, hg⟩ := ownsRow_block h1 (by omega)
  obtain ⟨cs, Fj, q1, q2, q3, q4⟩ := h2.upd hP j d hj
  have hgf : g ∈ fp (Value.slice (some ⟨g, 0, none⟩) xs.length c') := mem_fp.2 rfl
  have hcl := h2.len hP
  have hle : j * size + size ≤ cells.length := by
   rw [hcl]
   have := Nat.mul_le_mul_right size (show j + 1 ≤ xs.length by omega)
   rw [Nat.add_mul, Nat.one_mul] at this
   exact this
  have hsp := splitN (hP.len q1) hle q2
  refine ⟨g, c', cs, Fj, cells.take (j * size), cells.drop (j * size + size), rfl, by rw [List.length_take]; omega, q1, fun q hq => List.mem_append_right _ (q3 q hq), List.mem_append_left _ hgf, fun e => h4 g hgf (q3 g e), ?_, fun w' cs' x' hh hx hk => ?_⟩
  ·unfold RowHole
   rw [← hsp]; exact h1
  ·have := q4 w' cs' x' hx (fun q hq hn => hk q (List.mem_append_right _ hq) hn (fun e => h4 g hgf (by rw [← e]; exact hq)))
   exact ⟨_, G, by rw [List.length_set]; exact hh, this, rfl, h4⟩
theorem Nst.getN (hP : GoodP P size) {a : Option Addr} {n c : Nat} (h : Nst P T size w (.slice a n c) xs F) (hn : 0 < xs.length) : ∃ g, a = some ⟨g, 0, none⟩ ∧ g < w.heap.size ∧ (∀ i, w.frozen? ⟨g, i, none⟩ = false) ∧ ∀ j d, j < xs.length → ∃ cs Fj, P w cs (xs.getD j d) Fj ∧ (∀ i u, i < size → cs[i]? = some u → w.cell? ⟨g, j * size + i, none⟩ = some u) ∧ ∀ q ∈ Fj, q ∈ F := by
 obtain ⟨cells, G, h1, h2, rfl, h4⟩ := h
 obtain ⟨a', c', e, hr, _⟩ := ownsRow_row h1
 cases e
 obtain ⟨g, rfl, hb, hg⟩ := ownsRow_block h1 hn
 refine ⟨g, rfl, hg, fun i => ownsRow_frozen h1 i, fun j d hj => ?_⟩
 obtain ⟨cs, Fj, q1, q2, q3⟩ := h2.get hP j d hj
 exact ⟨cs, Fj, q1, fun i u hi hu => ownsRow_cell h1 ((q2 i hi).trans hu), fun q hq => List.mem_append_right _ (q3 q hq)⟩
end
end Go.Proofs.Ytgialedmbmfejaa

namespace Go.Proofs.Ytgialedmbmfejaa
open Go.RowKit
set_option maxRecDepth 100000
set_option linter.unusedVariables false
set_option linter.unusedSimpArgs false
theorem lutK_sm {c : Circ} (V : c.Valid) {n : Nat} (hn : c.vars = (n : Int)) : ∀ k, k ≤ c.gates.length → ∀ x ∈ (lutK c n k).2, x.lv.length ≤ 3 := by
 intro k
 induction k with
 | zero => intro _ x hx; simp [lutK] at hx
 | succ k ih =>
  intro hk x hx
  rw [lutK, lutStep] at hx
  split at hx
  ·rcases List.mem_cons.1 hx with rfl | h
   ·have hi0 := V.i0
    have h := bestN_cut V (k := c.gates.length - 1 - k) (by omega)
    have hf0 : 0 ≤ c.first := by unfold Circ.first; omega
    have e : c.first.toNat + (c.gates.length - 1 - k) = n - 1 - k := by
     unfold Circ.vars at hn
     omega
    rw [e] at h
    exact h.len
   ·exact ih (by omega) x h
  ·exact ih (by omega) x hx
structure CellT where
 net : Int
 ins : List Int
 tb : Int
 rg : Bool
def cell0 : CellT := ⟨0, [], 0, false⟩
/-- The cell of a latch; of a lookup table. -/
def latchCell (c : Circ) (i : Nat) : CellT := if 1 < c.next.getD i 0 then ⟨1 + c.inputs + i, [c.next.getD i 0 / 2], 2 - c.next.getD i 0 % 2, true⟩ else ⟨1 + c.inputs + i, [], c.next.getD i 0 % 2, true⟩
def lutCell (x : LutT) : CellT := ⟨x.var, x.lv, x.tb, false⟩
def latchK (c : Circ) (k : Nat) : List CellT := (List.range k).map (latchCell c)
theorem latchK_succ (c : Circ) (k : Nat) : latchK c (k + 1) = latchK c k ++ [latchCell c k] := by unfold latchK; rw [List.range_succ, List.map_append]; rfl
theorem latchK_length (c : Circ) (k : Nat) : (latchK c k).length = k := by simp [latchK]
def cellsN (c : Circ) : List CellT := latchK c c.next.length ++ (lutN c).map lutCell
noncomputable def cellsV (c : Circ) : List CellT := if validB c then cellsN c else []
def PCell : OwnP CellT := fun w cs l F => ∃ v, cs = [.int .i64 l.net, v, .int .i64 l.tb, .bool l.rg] ∧ OwnInts w 0 3 v l.ins ∧ F = fp v
theorem goodCell : GoodP PCell 4 where
 len := by rintro w cs x F ⟨v, rfl, _⟩; rfl
 lt := by rintro w cs x F ⟨v, rfl, h, rfl⟩ g hg; exact (fp_lt h g hg).2
 keep := by rintro w w' cs x F ⟨v, rfl, h, rfl⟩ hk; exact ⟨v, rfl, ownsRow_keep h (fun g hg => hk g (mem_fp.2 hg)), rfl⟩
 one := by
  rintro w cs x F ⟨v, rfl, h, rfl⟩ u hu
  obtain ⟨a, c, rfl, _⟩ := own_sl h
  simp at hu
  rcases hu with rfl | rfl | rfl | rfl <;> rfl
abbrev NstC (w : World) (v : Value) (xs : List CellT) (F : List Nat) : Prop := Nst PCell 134 4 w v xs F
abbrev GiveCells (w : World) (xs : List CellT) (e : Ending) (w' : World) : Prop := GiveN PCell 134 4 w xs e w'
theorem tyCells : RowTy Try.prog 93 134 4 48 := RowTy.mk' (z := .agg #[.int .i64 0, .slice none 0 0, .int .i64 0, .bool false]) Try.underlying93 (by kernel_rfl) rfl (by decide) (by decide)
/-- An element behind the row, its blocks apart from the row's. -/
theorem nst_snocD {α : Type} {P : OwnP α} {T : TypeId} {size : Nat} {w0 w w' : World} {v : Value} {xs : List α} (hP : GoodP P size) {v' : Value} {cells cs : List Value} {G Fx : List Nat} {x : α} {n : Nat} (h1 : w0.ownsRow 0 T size v n cells) (h2 : ElsN P w0 cells xs G) (h4 : ∀ g ∈ fp v, g ∉ G) (e : Ext w0 w) (hx : P w cs x Fx) (hdv : ∀ g ∈ Fx, g ∉ fp v) (hdG : ∀ g ∈ G, g ∉ Fx) (hg : w.grownBy w' v.ownBlock) (hm : RowMoved w v v') (hn : n = xs.length)
  (o : w'.ownsRow 0 T size v' (n + 1) (cells ++ cs)) : Nst P T size w' v' (xs ++ [x]) (fp v' ++ (G ++ Fx)) ∧ ∀ g ∈ fp v' ++ (G ++ Fx), g ∈ fp v ++ G ∨ g ∈ Fx ∨ w.heap.size ≤ g := by
 subst hn
 have hsz := e.size
 have lv := fp_lt h1
 have lG := h2.lt hP
 have lx := hP.lt hx
 have hG : ∀ g ∈ G, w'.heap[g]? = w0.heap[g]? := fun g hgG => (hg.block g (by have := lG g hgG; omega) (fun e2 => h4 g (mem_fp.2 e2.symm) hgG)).trans (Below.block e g (lG g hgG))
 have hX : ∀ g ∈ Fx, w'.heap[g]? = w.heap[g]? := fun g hgx => hg.block g (lx g hgx) (fun e2 => hdv g hgx (mem_fp.2 e2.symm))
 have hf : ∀ g ∈ fp v', g ∈ fp v ∨ w.heap.size ≤ g := by
  intro g hgv
  have h5 := mem_fp.1 hgv
  rcases hm with e6 | ⟨q, e6, hq⟩
  ·exact .inl (mem_fp.2 (e6.symm.trans h5))
  ·rw [e6] at h5; cases h5; exact .inr hq
 refine ⟨⟨cells ++ cs, G ++ Fx, by rw [List.length_append]; exact o, (h2.keep hP hG).snoc (hP.keep hx hX) hdG, rfl, fun g hgv hgG => ?_⟩, fun g hgg => ?_⟩
 ·rcases hf g hgv with h | h
  ·rcases List.mem_append.1 hgG with h5 | h5
   ·exact h4 g h h5
   ·exact hdv g h5 h
  ·rcases List.mem_append.1 hgG with h5 | h5
   ·have := lG g h5; omega
   ·have := lx g h5; omega
 ·rcases List.mem_append.1 hgg with h | h
  ·rcases hf g h with h5 | h5
   ·exact .inl (List.mem_append_left _ h5)
   ·exact .inr (.inr h5)
  ·rcases List.mem_append.1 h with h5 | h5
   ·exact .inl (List.mem_append_right _ h5)
   ·exact .inr (.inl h5)
end Go.Proofs.Ytgialedmbmfejaa

namespace Go.Proofs.Ytgialedmbmfejaa
open Go.RowKit
set_option maxRecDepth 100000
set_option linter.unusedVariables false
set_option linter.unusedSimpArgs false
theorem ElsN.inv {α : Type} {P : OwnP α} {w : World} {cells : List Value} {x : α} {xs : List α} {G : List Nat} (h : ElsN P w cells (x :: xs) G) : ∃ cs F cells' G', cells = cs ++ cells' ∧ G = F ++ G' ∧ P w cs x F ∧ ElsN P w cells' xs G' ∧ ∀ g ∈ F, g ∉ G' := by
 cases h with
 | @cons cs _ F cells' _ G' h1 h2 h3 => exact ⟨cs, F, cells', G', rfl, rfl, h1, h2, h3⟩
theorem drop_getC {α : Type} (xs : List α) (k : Nat) (d : α) (h : k < xs.length) : xs.drop k = xs.getD k d :: xs.drop (k + 1) := by
 rw [List.drop_eq_getElem_cons h, List.getD_eq_getElem?_getD, List.getElem?_eq_getElem h]; rfl
/-- The tables that are still to be turned into cells: they own blocks of their own. -/
structure LutRest (w : World) (lv : Value) (lcells : List Value) (L : List LutT) (j : Nat) (F G : List Nat) : Prop where
 row : w.ownsRow 0 139 3 lv L.length lcells
 els : ElsN PLut w (lcells.drop (j * 3)) (L.drop j) G
 off : ∀ g ∈ fp lv, g ∉ G
 dis : ∀ g ∈ F, g ∉ G
 own : ∀ g ∈ F, g ∉ fp lv
theorem LutRest.next {w : World} {lv : Value} {lcells : List Value} {L : List LutT} {j : Nat} {F G : List Nat} (h : LutRest w lv lcells L j F G) (hj : j < L.length) : ∃ v F1 G', G = F1 ++ G' ∧ lcells[j * 3 + 0]? = some (.int .i64 (L.getD j lut0).var) ∧ lcells[j * 3 + 1]? = some v ∧ lcells[j * 3 + 2]? = some (.int .i64 (L.getD j lut0).tb) ∧ OwnInts w 0 3 v (L.getD j lut0).lv ∧ F1 = fp v ∧
  (∀ g ∈ F1, g ∉ F) ∧ (∀ g ∈ F1, g ∉ fp lv) ∧
  ∀ (w' : World) (F' : List Nat), Ext w w' ∨ (∃ r, w.grownBy w' r ∧ ∀ k, r = some k → k ∈ F ∨ w.heap.size ≤ k) → (∀ g ∈ F', g ∈ F ∨ g ∈ F1 ∨ w.heap.size ≤ g) → LutRest w' lv lcells L (j + 1) F' G' := by
 obtain ⟨hr, he, ho, hd, hw⟩ := h
 rw [drop_getC L j lut0 hj] at he
 obtain ⟨cs, F1, cells', G', e1, rfl, ⟨v, rfl, o1, rfl⟩, h2, h3⟩ := he.inv
 have hc : ∀ i, lcells[j * 3 + i]? = ([.int .i64 (L.getD j lut0).var, v, .int .i64 (L.getD j lut0).tb] ++ cells')[i]? := fun i => by rw [← e1, List.getElem?_drop]
 have hl1 := fp_lt o1
 have hl2 := h2.lt goodLut
 have hlv := fp_lt hr
 refine ⟨v, fp v, G', rfl, hc 0, hc 1, hc 2, o1, rfl, fun g hg hg2 => hd g hg2 (List.mem_append_left _ hg), fun g hg hg2 => ho g hg2 (List.mem_append_left _ hg), fun w' F' hw' hF' => ?_⟩
 have hk : ∀ g, g < w.heap.size → g ∉ F → w'.heap[g]? = w.heap[g]? := by
  intro g hg hgF
  rcases hw' with e | ⟨r, hgr, hr2⟩
  ·exact Below.block e g hg
  ·refine hgr.block g hg (fun e => ?_)
   rcases hr2 g e.symm with h | h
   ·exact hgF h
   ·omega
 refine ⟨ownsRow_keep hr (fun g hg => hk g (hlv g (mem_fp.2 hg)).2 (fun h => hw g h (mem_fp.2 hg))), ?_, fun g hg hg2 => ho g hg (List.mem_append_right _ hg2), fun g hg hg2 => ?_, fun g hg hg2 => ?_⟩
 ·have e2 : lcells.drop ((j + 1) * 3) = cells' := by
   rw [Nat.add_mul, ← List.drop_drop, e1]; rfl
  rw [e2]
  exact h2.keep goodLut (fun g hg => hk g (hl2 g hg) (fun h => hd g h (List.mem_append_right _ hg)))
 ·rcases hF' g hg with h | h | h
  ·exact hd g h (List.mem_append_right _ hg2)
  ·exact h3 g h hg2
  ·have := hl2 g hg2; omega
 ·rcases hF' g hg with h | h | h
  ·exact hw g h hg2
  ·exact ho g hg2 (List.mem_append_left _ h)
  ·have := (hlv g hg2).2; omega
end Go.Proofs.Ytgialedmbmfejaa

namespace Go.Proofs.Ytgialedmbmfejaa
open Go.RowKit
set_option maxRecDepth 100000
set_option linter.unusedVariables false
set_option linter.unusedSimpArgs false
set_option maxHeartbeats 8000000 in
theorem l6Cells_c (c : Circ) (p : Where3) (w : World) (hc : CircAt w c p) (V : c.Valid) :
  Calls Try.prog 67 #[.agg #[.int .i64 c.inputs, .slice p.an c.next.length p.cn, .slice p.ag c.gates.length p.cg, .slice p.ao c.outs.length p.co]] w (GiveCells w (cellsN c)) := by
 obtain ⟨an, cn, ag, cg, ao, co⟩ := p
 dsimp only
 have E1 : Ext w (w.alloc (.cells #[.int .i64 c.inputs, .slice an c.next.length cn, .slice ag c.gates.length cg, .slice ao c.outs.length co] 26)) := (Ext.refl w).alloc _
 have y1 := CircBox.made w c ⟨an, cn, ag, cg, ao, co⟩ 26
 have HC1 := Lib.hid (hc.ext E1)
 have HV := Lib.hid V
 have ln := V.ln
 have lg := V.lg
 have lo := V.lo
 have hi0 := V.i0
 have hi4 := V.i4
 have hxi := root_ok V (xs := c.next) (fun x hx => List.mem_append_left _ hx)
 have hvl : c.vars ≤ 100 := by unfold Circ.vars Circ.first; omega
 have hll : (lutN c).length ≤ 14 := by have := lutK_count c c.vars.toNat c.gates.length; unfold lutN; omega
 have HXI := Lib.hid hxi
 obtain ⟨L, hL⟩ : ∃ L, L = lutN c := ⟨_, rfl⟩
 rw [← hL] at hll
 have h3 : ∀ j, j < L.length → (L.getD j lut0).lv.length ≤ 3 := by
  intro j hj
  have hn : c.vars = ((c.vars.toNat : Nat) : Int) := by unfold Circ.vars Circ.first; omega
  have := lutK_sm V hn c.gates.length (Nat.le_refl _) (L.getD j lut0) (by
   have e : (lutK c c.vars.toNat c.gates.length).2 = L := by rw [hL]; rfl
   rw [e]; exact getN_mem hj)
  exact this
 have H3 := Lib.hid h3
 have HL := Lib.hid hL
 obtain ⟨D, hD⟩ : ∃ D, D = cellsN c := ⟨_, rfl⟩
 rw [← hD]
 have HDD : Hid (D = latchK c c.next.length ++ L.map lutCell) := Lib.hid (by rw [hD, hL]; rfl)
 clear V hxi hL hD h3 hc
 go_enter Try.func67, Try.ntmps67
 go_upto_region 1 with fail
 obtain ⟨w1, hw1⟩ : ∃ x : World, x = w.alloc (.cells #[.int .i64 c.inputs, .slice an c.next.length cn, .slice ag c.gates.length cg, .slice ao c.outs.length co] 26) := ⟨_, rfl⟩
 rw [← hw1] at E1 y1 HC1
 rw [← hw1]
 clear hw1
 have Y1 := Lib.hid y1
 (obtain ⟨lb, b0, b1, b2, b3⟩ := (id y1))
 dsimp only at b1 b2 b3
 have O0 : (w1.alloc (.cells #[] 134)).ownsRow 0 134 4 (.slice (some ⟨w1.heap.size, 0, none⟩) 0 0) 0 [] := (Blk.at w1 [] 134 rfl).owns (n := 0) rfl (Nat.zero_le _) (by decide)
 have N0 : NstC (w1.alloc (.cells #[] 134)) (.slice (some ⟨w1.heap.size, 0, none⟩) 0 0) [] [w1.heap.size] := ⟨[], [], O0, .nil, rfl, fun g _ h => by simp at h⟩
 have E10 := (Ext.refl w1).alloc (.cells #[] 134)
 clear O0
 go_wp2_with fail
 go_loopw [3, 4] (fun u3 u15 wr => ∃ (k : Nat) (F : List Nat), k ≤ c.next.length ∧ u15 = .int .i64 k ∧ NstC wr u3 (latchK c k) F ∧ (∀ g ∈ F, w1.heap.size ≤ g) ∧ Ext w1 wr) (fun _ v _ => c.next.length - (intOf v).toNat)
 case atStart => exact ⟨0, [w1.heap.size], Nat.zero_le _, rfl, N0, (fun g hg => by simp at hg; omega), E10⟩
 case round =>
  clear b0 b1 b2 b3 lb N0 E10 y1
  obtain ⟨k, F, hk, rfl, hN, hF, hE⟩ := hrel
  obtain ⟨w2, rfl⟩ : ∃ z : World, z = wr := ⟨_, rfl⟩
  have y2 := Y1.out.ext hE
  (obtain ⟨lb, b0, b1, b2, b3⟩ := (id y2))
  dsimp only at b1 b2 b3
  by_cases hlt : k < c.next.length
  ·obtain ⟨b5, o5, ean, hb5, hc5⟩ := (HC1.out.nx.ext hE).get (by omega)
   have q1 := hc5 k hlt
   obtain ⟨i1, i2⟩ := HXI.out k hlt
   have hsn : latchK c (k + 1) = latchK c k ++ [if 1 < c.next.getD k 0 then ⟨1 + c.inputs + k, [c.next.getD k 0 / 2], 2 - c.next.getD k 0 % 2, true⟩ else ⟨1 + c.inputs + k, [], c.next.getD k 0 % 2, true⟩] := latchK_succ c k
   obtain ⟨l, hl⟩ : ∃ l, l = c.next.getD k 0 := ⟨_, rfl⟩
   rw [← hl] at q1 i1 i2 hsn
   have hta : IntKind.i64.wrap (l.tdiv 2) = l / 2 := by rw [Int.tdiv_eq_ediv_of_nonneg i1]; exact IntWalk.i64_in _ (by omega)
   have hm0 : 0 ≤ l % 2 ∧ l % 2 < 2 := by omega
   obtain ⟨hm0, hm1⟩ := hm0
   have HSN := Lib.hid hsn
   dsimp only at ean
   subst ean
   obtain ⟨cells, G, o8, els8, rfl, off8⟩ := hN
   clear hc5 hl hsn
   by_cases hgt : 1 < l
   ·have hgt2 : 0 < l / 2 := by omega
    go_wp2_with (at_builtin; refine wpList_app tyCells (ownsRow_ext o8 (by (repeat (first | with_reducible assumption | with_reducible exact Ext.refl _ | with_reducible refine Ext.drew' ?_ | with_reducible refine Ext.drewN' ?_ _ | with_reducible refine Ext.alloc ?_ _ | (with_reducible refine Ext.setNew ?_ (by first | exact Nat.le_refl _ | (simp; done) | (simp; omega) | omega) _))))) (rowNew _ _ _ (by simp)) rfl (by simp [Value.oneCell']) (by rw [latchK_length]; omega) (Nat.zero_le _) rfl rfl rfl rfl ?_; intro v9 w9 o9 g9 m9)
    obtain ⟨W, EW, hB, hg, hm⟩ : ∃ W, Ext w2 W ∧ Blk W (w2.heap.size + 1) 3 [.int .i64 (l / 2)] ∧ W.grownBy w9 u3.ownBlock ∧ RowMoved W u3 v9 := ⟨_, by (repeat (first | with_reducible assumption | with_reducible exact Ext.refl _ | with_reducible refine Ext.drew' ?_ | with_reducible refine Ext.drewN' ?_ _ | with_reducible refine Ext.alloc ?_ _ | (with_reducible refine Ext.setNew ?_ (by first | exact Nat.le_refl _ | (simp; done) | (simp; omega) | omega) _))), by repeat (first | exact Blk.at _ [Value.int .i64 (l / 2)] _ (by simp) | refine Blk.alloc ?_ _), g9, m9⟩
    have hPC : PCell W [.int .i64 (c.inputs + 1 + k), .slice (some ⟨w2.heap.size + 1, 0, none⟩) 1 1, .int .i64 (2 - l % 2), .bool true] ⟨c.inputs + 1 + k, [l / 2], 2 - l % 2, true⟩ [w2.heap.size + 1] := ⟨_, rfl, hB.owns (n := 1) (size := 1) rfl (Nat.zero_le _) (by decide), rfl⟩
    obtain ⟨N9, F9⟩ := nst_snoc goodCell o8 els8 off8 EW hPC (fun g hg => by simp at hg; omega) hg hm rfl o9
    have hs2 : latchK c (k + 1) = latchK c k ++ [⟨c.inputs + 1 + k, [l / 2], 2 - l % 2, true⟩] := by rw [HSN.out, if_pos hgt, Int.add_comm 1]
    rw [← hs2] at N9
    have E9 := ext_grown (hE.trans EW) hg (fun q hq => hF q (List.mem_append_left _ (mem_fp.2 hq)))
    have hsE := hE.size
    go_roundw
    case rel => exact ⟨k + 1, _, by omega, by go_num, N9, F9 w1.heap.size hF hsE, E9⟩
    case measure => simp [intOf]; omega
   ·have hgt2 : ¬ 0 < l / 2 := by omega
    go_wp2_with (at_builtin; refine wpList_app tyCells (ownsRow_ext o8 (by (repeat (first | with_reducible assumption | with_reducible exact Ext.refl _ | with_reducible refine Ext.drew' ?_ | with_reducible refine Ext.drewN' ?_ _ | with_reducible refine Ext.alloc ?_ _ | (with_reducible refine Ext.setNew ?_ (by first | exact Nat.le_refl _ | (simp; done) | (simp; omega) | omega) _))))) (rowNew _ _ _ (by simp)) rfl (by simp [Value.oneCell']) (by rw [latchK_length]; omega) (Nat.zero_le _) rfl rfl rfl rfl ?_; intro v9 w9 o9 g9 m9)
    obtain ⟨W, EW, hg, hm⟩ : ∃ W, Ext w2 W ∧ W.grownBy w9 u3.ownBlock ∧ RowMoved W u3 v9 := ⟨_, by (repeat (first | with_reducible assumption | with_reducible exact Ext.refl _ | with_reducible refine Ext.drew' ?_ | with_reducible refine Ext.drewN' ?_ _ | with_reducible refine Ext.alloc ?_ _ | (with_reducible refine Ext.setNew ?_ (by first | exact Nat.le_refl _ | (simp; done) | (simp; omega) | omega) _))), g9, m9⟩
    have hPC : PCell W [.int .i64 (c.inputs + 1 + k), .slice none 0 0, .int .i64 (l % 2), .bool true] ⟨c.inputs + 1 + k, [], l % 2, true⟩ [] := ⟨_, rfl, ownsRow_nil, rfl⟩
    obtain ⟨N9, F9⟩ := nst_snoc goodCell o8 els8 off8 EW hPC (fun g hg => by simp at hg) hg hm rfl o9
    have hs2 : latchK c (k + 1) = latchK c k ++ [⟨c.inputs + 1 + k, [], l % 2, true⟩] := by rw [HSN.out, if_neg (by omega), Int.add_comm 1]
    rw [← hs2] at N9
    have E9 := ext_grown (hE.trans EW) hg (fun q hq => hF q (List.mem_append_left _ (mem_fp.2 hq)))
    have hsE := hE.size
    go_roundw
    case rel => exact ⟨k + 1, _, by omega, by go_num, N9, F9 w1.heap.size hF hsE, E9⟩
    case measure => simp [intOf]; omega
  ·have hk2 : k = c.next.length := by omega
   have hnn : ¬ ((k : Int) < (c.next.length : Int)) := by omega
   obtain ⟨X, hX⟩ : ∃ X, X = latchK c k := ⟨_, rfl⟩
   have hXl : X.length = k := by rw [hX, latchK_length]
   rw [← hX] at hN
   have HDX : Hid (D = X ++ L.map lutCell) := Lib.hid (by rw [HDD.out, hX, hk2])
   have hX3 : X.length ≤ 3 := by omega
   have HXL := Lib.hid hXl
   clear hX hXl HDD hk2
   go_wp2_with fail
   refine (l5Map_c c ⟨an, cn, ag, cg, ao, co⟩ _ (HC1.out.ext hE) HV.out).mono ?_
   rw [← HL.out]
   rintro e w3 ⟨lv, FL, rfl, hNL, hFL, hE3⟩
   have N3 := hN.ext goodCell hE3
   have E3 := hE.trans hE3
   have hsE := hE.size
   obtain ⟨la, lc, rfl, _⟩ := hNL.sl
   have hdis : ∀ g ∈ F, g ∉ FL := fun g hg hg2 => by have := hN.lt goodCell g hg; have := hFL g hg2; omega
   clear hN hE hFL hE3 b0 b1 b2 b3 lb y2
   go_wp2_with fail
   go_loopw [3, 8] (fun u3 u46 wr => ∃ (j : Nat) (F : List Nat), j ≤ L.length ∧ u46 = .int .i64 j ∧ NstC wr u3 (X ++ (L.take j).map lutCell) F ∧ (∀ g ∈ F, w1.heap.size ≤ g) ∧ (∀ g ∈ F, g ∉ FL) ∧ NstL wr (.slice la L.length lc) L FL ∧ Ext w1 wr) (fun _ v _ => L.length - (intOf v).toNat)
   case atStart => exact ⟨0, F, Nat.zero_le _, rfl, by simpa using N3, hF, hdis, hNL, E3⟩
   case round =>
    clear N3 hF hdis hNL E3
    obtain ⟨j, F, hj, rfl, hN, hF, hdis, hNL, hE⟩ := hrel
    obtain ⟨w4, rfl⟩ : ∃ z : World, z = wr := ⟨_, rfl⟩
    by_cases hlt2 : j < L.length
    ·have lFL := hNL.lt goodLut
     have HNL := Lib.hid hNL
     obtain ⟨gl, rfl, hgl, _, hcs⟩ := Nst.getN goodLut hNL (by omega)
     obtain ⟨cs, F1, ⟨v, rfl, o1, rfl⟩, q, _⟩ := hcs j lut0 hlt2
     have r0 := q 0 _ (by omega) rfl
     have r1 := q 1 _ (by omega) rfl
     have r2 := q 2 _ (by omega) rfl
     rw [Nat.add_zero] at r0
     have hsn : X ++ (L.take (j + 1)).map lutCell = (X ++ (L.take j).map lutCell) ++ [lutCell (L.getD j lut0)] := by
      rw [take_snocD L j lut0 hlt2, List.map_append, List.append_assoc]; rfl
     have hl3 := H3.out j hlt2
     obtain ⟨x, hx⟩ : ∃ x, x = L.getD j lut0 := ⟨_, rfl⟩
     rw [← hx] at r0 r2 o1 hsn hl3
     have hxl : (X ++ (L.take j).map lutCell).length ≤ 17 := by simp; omega
     obtain ⟨xs, hxs⟩ : ∃ xs, xs = X ++ (L.take j).map lutCell := ⟨_, rfl⟩
     rw [← hxs] at hxl hsn hN
     obtain ⟨va, vc, rfl, hI1, _⟩ := o1.opened
     have HSN := Lib.hid hsn
     have hsz4 := hE.size
     obtain ⟨cells, Gc, o8, els8, rfl, off8⟩ := hN
     have l8 := fp_lt o8
     have lG8 := els8.lt goodCell
     have OA := (Blk.at (World.drew w4) [] 3 rfl).owns (base := w4.heap.size) (size := 1) (n := 0) rfl (Nat.le_refl _) (by decide)
     have A1 := (Ext.drew w4).alloc (.cells #[] 3)
     clear hx hxs hsn q hcs hNL o1
     go_upto_region 16 with fail
     (refine wp_regionT ((fun w' => (∀ b o, b < w4.heap.size → w'.cell? ⟨b, o, none⟩ = w4.cell? ⟨b, o, none⟩) ∧ Ext w4 w')) 20 (by kernel_rfl) ?_; have hS0 := held_mk (Ext.drew w4))
     ((refine tkT 0 (v := ?_) rfl (by kernel_rfl) (by kernel_rfl) ?_ (by assumption) ?_; rotate_left; (intro wS hSw; (try dsimp only at hSw); go_simp; (try with_reducible rfl)); (try simp only [Act.put, lA, lB, lC])); (refine tkT 1 (v := ?_) rfl (by kernel_rfl) (by kernel_rfl) ?_ (by assumption) ?_; rotate_left; (intro wS hSw; (try dsimp only at hSw); go_simp; (try with_reducible rfl)); (try simp only [Act.put, lA, lB, lC])); (refine tkT 2 (v := ?_) rfl (by kernel_rfl) (by kernel_rfl) ?_ (by assumption) ?_; rotate_left; (intro wS hSw; (try dsimp only at hSw); go_simp; (try with_reducible rfl)); (try simp only [Act.put, lA, lB, lC])); (refine tkT 3 (v := ?_) rfl (by kernel_rfl) (by kernel_rfl) ?_ (by assumption) ?_; rotate_left; (intro wS hSw; (try dsimp only at hSw); go_simp; (try with_reducible rfl)); (try simp only [Act.put, lA, lB, lC])); (refine tkT 4 (v := ?_) rfl (by kernel_rfl) (by kernel_rfl) ?_ (by assumption) ?_; rotate_left; (intro wS hSw; (try dsimp only at hSw); go_simp; (try with_reducible rfl)); (try simp only [Act.put, lA, lB, lC])); (refine tkT 5 (v := ?_) rfl (by kernel_rfl) (by kernel_rfl) ?_ (by assumption) ?_; rotate_left; (intro wS hSw; (try dsimp only at hSw); go_simp; (try with_reducible rfl)); (try simp only [Act.put, lA, lB, lC])); (refine tkT 7 (v := ?_) rfl (by kernel_rfl) (by kernel_rfl) ?_ (by assumption) ?_; rotate_left; (intro wS hSw; (try dsimp only at hSw); go_simp; (try with_reducible rfl)); (try simp only [Act.put, lA, lB, lC])); (refine tkT 8 (v := ?_) rfl (by kernel_rfl) (by kernel_rfl) ?_ (by assumption) ?_; rotate_left; (intro wS hSw; (try dsimp only at hSw); go_simp; (try with_reducible rfl)); (try simp only [Act.put, lA, lB, lC])); (refine tkT 9 (v := ?_) rfl (by kernel_rfl) (by kernel_rfl) ?_ (by assumption) ?_; rotate_left; (intro wS hSw; (try dsimp only at hSw); go_simp; (try with_reducible rfl)); (try simp only [Act.put, lA, lB, lC])); (refine tkT 10 (v := ?_) rfl (by kernel_rfl) (by kernel_rfl) ?_ (by assumption) ?_; rotate_left; (intro wS hSw; (try dsimp only at hSw); go_simp; (try with_reducible rfl)); (try simp only [Act.put, lA, lB, lC])); (refine tkT 11 (v := ?_) rfl (by kernel_rfl) (by kernel_rfl) ?_ (by assumption) ?_; rotate_left; (intro wS hSw; (try dsimp only at hSw); go_simp; (try with_reducible rfl)); (try simp only [Act.put, lA, lB, lC])); (refine tkT 13 (v := ?_) rfl (by kernel_rfl) (by kernel_rfl) ?_ (by assumption) ?_; rotate_left; (intro wS hSw; (try dsimp only at hSw); go_simp; (try with_reducible rfl)); (try simp only [Act.put, lA, lB, lC])); (refine tkT 14 (v := ?_) rfl (by kernel_rfl) (by kernel_rfl) ?_ (by assumption) ?_; rotate_left; (intro wS hSw; (try dsimp only at hSw); go_simp; (try with_reducible rfl)); (try simp only [Act.put, lA, lB, lC])); (refine tkT 15 (v := ?_) rfl (by kernel_rfl) (by kernel_rfl) ?_ (by assumption) ?_; rotate_left; (intro wS hSw; (try dsimp only at hSw); go_simp; (try with_reducible rfl)); (try simp only [Act.put, lA, lB, lC])); (refine tkT 16 (v := ?_) rfl (by kernel_rfl) (by kernel_rfl) ?_ (by assumption) ?_; rotate_left; (intro wS hSw; (try dsimp only at hSw); go_simp; (try with_reducible rfl)); (try simp only [Act.put, lA, lB, lC])); (refine tkT 17 (v := ?_) rfl (by kernel_rfl) (by kernel_rfl) ?_ (by assumption) ?_; rotate_left; (intro wS hSw; (try dsimp only at hSw); go_simp; (try with_reducible rfl)); (try simp only [Act.put, lA, lB, lC])))
     (refine wpAnyT_do 6 (by kernel_rfl) rfl (fun K hK => ?_))
     go_simp
     have hS1 := held_mk A1
     (refine hK _ _ hS1 ?_; clear hK K; (try simp only [Act.put, lA, lB, lC]))
     (refine wpAnyT_do 12 (by kernel_rfl) rfl (fun K hK => ?_))
     refine step_app tyInts OA (hI1.row.ext A1) (by simp) (oneCell_ints x.lv) (by omega) (by simp) rfl rfl rfl rfl ?_
     intro cv w9 oC' g9 m9
     have E9 := ext_grown A1 g9 (by intro k hk; simp [Value.ownBlock] at hk; omega)
     have oC : OwnInts w9 w4.heap.size 3 cv x.lv := by
      unfold OwnInts
      rw [Nat.zero_add, List.nil_append] at oC'
      exact oC'
     obtain ⟨ca, cc, rfl, _, _⟩ := own_sl oC
     have hS2 := held_mk E9
     (refine hK _ _ hS2 ?_; clear hK K; (try simp only [Act.put, lA, lB, lC]))
     ((refine tkT 18 (v := ?_) rfl (by kernel_rfl) (by kernel_rfl) ?_ (by assumption) ?_; rotate_left; (intro wS hSw; (try dsimp only at hSw); go_simp; (try with_reducible rfl)); (try simp only [Act.put, lA, lB, lC])))
     (refine wpAnyT_do 19 (by kernel_rfl) rfl (fun K hK => ?_))
     go_simp
     have A := E9.alloc (.cells #[.int .i64 x.var, (.slice ca x.lv.length cc), .int .i64 x.tb, .bool false] 134)
     have hS4 := held_mk A
     (refine hK _ _ hS4 ?_; clear hK K; (try simp only [Act.put, lA, lB, lC]))
     (refine wpAnyT_doN 20 (by kernel_rfl) rfl (by decide) (fun K hK => ?_))
     have hPC : PCell (w9.alloc (.cells #[.int .i64 x.var, (.slice ca x.lv.length cc), .int .i64 x.tb, .bool false] 134)) [.int .i64 x.var, (.slice ca x.lv.length cc), .int .i64 x.tb, .bool false] (lutCell x) (fp (.slice ca x.lv.length cc)) := ⟨_, rfl, ownsRow_zero (ownsRow_ext oC ((Ext.refl w9).alloc _)), rfl⟩
     have hoC := own_lo oC
     refine step_app tyCells (ownsRow_ext o8 A) (rowNew w9 [.int .i64 x.var, (.slice ca x.lv.length cc), .int .i64 x.tb, .bool false] 134 rfl) rfl (goodCell.one hPC) (by omega) (Nat.zero_le _) rfl rfl rfl rfl ?_
     intro v11 w11 o11 g11 m11
     obtain ⟨N11, F11⟩ := nst_snocD goodCell o8 els8 off8 A hPC (fun g hg hg2 => by have := (hoC g (mem_fp.1 hg)).1; have := (l8 g hg2).2; omega) (fun g hg hg2 => by have := (hoC g (mem_fp.1 hg2)).1; have := lG8 g hg; omega) g11 m11 rfl o11
     rw [← HSN.out] at N11
     have zA := A.size
     have E11 := ext_grown (hE.trans A) g11 (fun q hq => hF q (List.mem_append_left _ (mem_fp.2 hq)))
     have hF11 : ∀ g ∈ fp v11 ++ (Gc ++ fp (.slice ca x.lv.length cc)), w1.heap.size ≤ g := fun g hg => by
      rcases F11 g hg with h | h | h
      ·exact hF g h
      ·have := (hoC g (mem_fp.1 h)).1; omega
      ·omega
     have hD11 : ∀ g ∈ fp v11 ++ (Gc ++ fp (.slice ca x.lv.length cc)), g ∉ FL := fun g hg hg2 => by
      have := lFL g hg2
      rcases F11 g hg with h | h | h
      ·exact hdis g h hg2
      ·have := (hoC g (mem_fp.1 h)).1; omega
      ·omega
     have NL11 := HNL.out.keep goodLut (w' := w11) (fun g hg => (g11.block g (by have := lFL g hg; omega) (fun e => hdis g (List.mem_append_left _ (mem_fp.2 e.symm)) hg)).trans (Below.block A g (lFL g hg)))
     clear hS1 hS2 hI1 OA A1 oC oC' E9 A g9 m9 hPC hoC o11 g11 m11 F11 lG8 l8 lFL
     (refine hK _ _ ?_; clear hK K; (try simp only [Act.put, lA, lB, lC]))
     (refine wpAnyT_last 21 (by kernel_rfl) rfl (by decide) (by kernel_rfl) (fun K hK => ?_))
     go_simp
     (refine hK _ _ ?_; clear hK K; (try simp only [Act.put, lA, lB, lC]))
     clear hS0 hS4
     go_wp2_with fail
     go_roundw
     case rel => exact ⟨j + 1, _, by omega, by go_num, N11, hF11, hD11, NL11, E11⟩
     case measure => simp [intOf]; omega
    ·have hj2 : j = L.length := by omega
     rw [hj2, List.take_length, ← HDX.out] at hN
     go_wp2_with fail
     go_ret
     exact ⟨_, F, rfl, hN, fun g hg => by have := hF g hg; have := E1.size; omega, E1.trans hE⟩
set_option maxHeartbeats 2000000 in
theorem specCells_c (c : Circ) (p : Where3) (w : World) (hc : CircAt w c p) :
  Calls Try.prog 123 #[.agg #[.int .i64 c.inputs, .slice p.an c.next.length p.cn, .slice p.ag c.gates.length p.cg, .slice p.ao c.outs.length p.co]] w (GiveCells w (cellsV c)) := by
 have E0 : Ext w (w.alloc (.cells #[.int .i64 c.inputs, .slice p.an c.next.length p.cn, .slice p.ag c.gates.length p.cg, .slice p.ao c.outs.length p.co] 26)) := (Ext.refl w).alloc _
 have y := CircBox.made w c p 26
 obtain ⟨D, hD⟩ : ∃ D, D = cellsV c := ⟨_, rfl⟩
 rw [← hD]
 have HD := Lib.hid hD
 clear hD
 (obtain ⟨lb, b0, b1, b2, b3⟩ := (id y))
 go_enter Try.func123, Try.ntmps123
 go_wp2_with fail
 refine (specCircuitValid_c c p _ (hc.ext E0)).mono ?_
 rintro e w1 ⟨rfl, hE1⟩
 clear b0 b1 b2 b3 lb
 have y1 := y.ext hE1
 have E1 := E0.trans hE1
 (obtain ⟨lb, b0, b1, b2, b3⟩ := (id y1))
 cases hv : validB c
 ·have hd : D = [] := by rw [HD.out]; unfold cellsV; rw [hv]; rfl
  subst hd
  have O0 : (w1.alloc (.cells #[] 134)).ownsRow 0 134 4 (.slice (some ⟨w1.heap.size, 0, none⟩) 0 0) 0 [] := (Blk.at w1 [] 134 rfl).owns (n := 0) rfl (Nat.zero_le _) (by decide)
  have N0 : NstC (w1.alloc (.cells #[] 134)) (.slice (some ⟨w1.heap.size, 0, none⟩) 0 0) [] [w1.heap.size] := ⟨[], [], O0, .nil, rfl, fun g _ h => by simp at h⟩
  have EA := E1.alloc (.cells #[] 134)
  go_wp2_with fail
  go_ret
  exact ⟨_, _, rfl, N0, (fun g hg => by have := E1.size; simp at hg; omega), EA⟩
 ·have V := validB_iff.1 hv
  have hd : D = cellsN c := by rw [HD.out]; unfold cellsV; rw [hv]; rfl
  clear hv HD
  go_wp2_with fail
  refine (l6Cells_c c p _ (hc.ext E1) V).mono ?_
  rintro e w2 ⟨v, F, rfl, hN, hF, hE2⟩
  rw [← hd] at hN
  clear hd
  go_wp2_with fail
  go_ret
  exact ⟨v, F, rfl, hN, (fun g hg => by have := hF g hg; have := E1.size; omega), E1.trans hE2⟩
end Go.Proofs.Ytgialedmbmfejaa

