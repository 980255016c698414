/- Blocks that are known whole: their cells, and what a store leaves. -/
import Derived.Test.YtgialedmbmfejaaBase
import Derived.Deep.OwnRows
import Derived.Laws.OwnMore
namespace Go.Proofs.Ytgialedmbmfejaa
open Go.RowKit
set_option linter.unusedVariables false
set_option linter.unusedSimpArgs false
/-- Block B holds the cells cs, and nothing else. -/
def Blk (w : World) (B : Nat) (t : TypeId) (cs : List Value) : Prop := w.heap[B]? = some (.cells cs.toArray t (0, 0))
section
variable {w w' : World} {B : Nat} {t : TypeId} {cs : List Value}
theorem Blk.new (w : World) (cs : List Value) (t : TypeId) : Blk (w.alloc (.cells cs.toArray t)) w.heap.size t cs := heap_alloc_new w _
theorem Blk.at (w : World) (cs : List Value) (t : TypeId) {B : Nat} (h : w.heap.size = B) : Blk (w.alloc (.cells cs.toArray t)) B t cs := by subst h; exact heap_alloc_new w _
theorem Blk.lt (h : Blk w B t cs) : B < w.heap.size := (Array.getElem?_eq_some_iff.1 h).1
theorem Blk.ext (h : Blk w B t cs) (e : Ext w w') : Blk w' B t cs := (Below.block e B h.lt).trans h
theorem Blk.alloc (h : Blk w B t cs) (o : Obj) : Blk (w.alloc o) B t cs := h.ext ((Ext.refl w).alloc o)
theorem Blk.drew (h : Blk w B t cs) : Blk w.drew B t cs := h.ext (Ext.drew w)
theorem Blk.drewN (h : Blk w B t cs) (n : Nat) : Blk (w.drewN n) B t cs := h.ext (Ext.drewN w n)
theorem Blk.gr (h : Blk w B t cs) {r : Option Nat} (g : w.grownBy w' r) (hne : r ≠ some B) : Blk w' B t cs := (g.block B h.lt (fun e => hne e.symm)).trans h
theorem Blk.below (h : Blk w B t cs) {N : Nat} (g : Below N w w') (hlt : B < N) : Blk w' B t cs := (g.block B hlt).trans h
theorem Blk.cell (h : Blk w B t cs) {i : Nat} {u : Value} (hu : cs[i]? = some u) : w.cell? ⟨B, i, none⟩ = some u := by
 rw [cell_of_row _ _ _ _ _ _ h]; simpa using hu
theorem Blk.frozen (h : Blk w B t cs) (i : Nat) : w.frozen? ⟨B, i, none⟩ = false := frozen_of_row _ _ _ _ _ h
theorem Blk.set (h : Blk w B t cs) (i : Nat) (v : Value) : Blk (w.setCell ⟨B, i, none⟩ v) B t (cs.set i v) := by
 unfold Blk
 rw [heap_setCell_same _ _ _ _ _ _ h]
 simp [List.setIfInBounds_toArray]
theorem Blk.setOther (h : Blk w B t cs) {p : Addr} (hp : B ≠ p.block) (v : Value) : Blk (w.setCell p v) B t cs := (heap_setCell_other w p B v hp).trans h
theorem Blk.row (h : Blk w B t cs) : RowAt w (some ⟨B, 0, none⟩) cs := .inr ⟨B, 0, rfl, h.lt, fun j u hj => by simpa using h.cell hj⟩
theorem Blk.ints {xs : List Int} (h : Blk w B t (xs.map (Value.int .i64))) : IntsAt w (some ⟨B, 0, none⟩) xs := intsAt_of_row h.row
theorem Blk.bools {xs : List Bool} (h : Blk w B t (xs.map Value.bool)) : BoolsAt w (some ⟨B, 0, none⟩) xs := boolsAt_of_row h.row
theorem Blk.pairs {xs : List (Int × Int)} (h : Blk w B t (flat xs)) : PairsAt w (some ⟨B, 0, none⟩) xs := pairsAt_of_row h.row
theorem Blk.owns {size n : Nat} (h : Blk w B t cs) (hl : cs.length = n * size) {base : Nat} (hb : base ≤ B) (hm : n ≤ maxLen) : w.ownsRow base t size (.slice (some ⟨B, 0, none⟩) n n) n cs :=
 ⟨hl, .inr ⟨B, n, cs.toArray, rfl, hb, h, Nat.le_refl _, hm, by simpa using hl, by rw [← hl]; simp⟩⟩
end
theorem CircBox.at (w : World) (c : Circ) (p : Where3) (t : TypeId) {B : Nat} (h : w.heap.size = B) : CircBox (w.alloc (.cells #[.int .i64 c.inputs, .slice p.an c.next.length p.cn, .slice p.ag c.gates.length p.cg, .slice p.ao c.outs.length p.co] t)) B c p := by subst h; exact CircBox.made w c p t
theorem CircBox.grn {w w' : World} {b : Nat} {c : Circ} {p : Where3} {r : Option Nat} (h : CircBox w b c p) (g : w.grownBy w' r) (hne : r ≠ some b) : CircBox w' b c p := by
 have hb := g.block b h.lt (fun e => hne e.symm)
 exact ⟨Nat.lt_of_lt_of_le h.lt g.size, (World.cell?_of_block (a := ⟨b, 0, none⟩) hb).trans h.h0, (World.cell?_of_block (a := ⟨b, 1, none⟩) hb).trans h.h1, (World.cell?_of_block (a := ⟨b, 2, none⟩) hb).trans h.h2, (World.cell?_of_block (a := ⟨b, 3, none⟩) hb).trans h.h3⟩
theorem zeros_cells (z : Value) (n : Nat) : madeCells #[z] n = (List.replicate n z).toArray := by
 apply Array.toList_inj.1
 rw [toList_madeCells_one]
theorem made_flat (zc : List Value) (h0 : 0 < zc.length) : ∀ n, (madeCells zc.toArray (n * zc.length)).toList = (List.replicate n zc).flatten
 | 0 => by simp [madeCells]
 | n + 1 => by
  have ih := made_flat zc h0 n
  have e : (n + 1) * zc.length = n * zc.length + zc.length := by rw [Nat.succ_mul]
  have e2 : ((List.range zc.length).map fun i => zc.toArray[(n * zc.length + i) % zc.toArray.size]!) = zc := by
   apply List.ext_getElem?
   intro i
   rcases Nat.lt_or_ge i zc.length with hi | hi
   ·have hm : (n * zc.length + i) % zc.length = i := by rw [Nat.mul_comm, Nat.mul_add_mod]; exact Nat.mod_eq_of_lt hi
    simp [hi, Nat.mod_eq_of_lt hi]
   ·rw [List.getElem?_eq_none (by simpa using hi), List.getElem?_eq_none hi]
  rw [List.replicate_succ', List.flatten_append, ← ih]
  simp only [madeCells, e, Array.toList_map, Array.toList_range, List.range_add, List.map_append, List.map_map, List.flatten_cons, List.flatten_nil, List.append_nil]
  rw [show ((fun x => zc.toArray[x % zc.toArray.size]!) ∘ fun x => n * zc.length + x) = fun i => zc.toArray[(n * zc.length + i) % zc.toArray.size]! from rfl, e2]
/-- make: n zero elements. -/
theorem run_zeros {P : Program} (t e : TypeId) (z : Value) (zc : List Value) (bytes : Nat) (ht : P.underlying t = some (.slice e)) (hinfo : (P.info? e).map (fun i => (i.zero, i.size, i.bytes)) = some (some z, zc.length, bytes))
  (hz : z.cells = zc.toArray) (h0 : 0 < zc.length) (hb : bytes ≤ 1024) (n : Nat) (hn : n ≤ 1048576) (w : World) :
  (Instr.makeSlice t (.int .i64 (n : Int)) (.int .i64 (n : Int))).run P w = .ok (.slice (some ⟨w.heap.size, 0, none⟩) n n) (w.alloc (.cells (List.replicate n zc).flatten.toArray e)) := by
 obtain ⟨i, hi, hzz⟩ := Option.map_eq_some_iff.1 hinfo
 simp only [Prod.mk.injEq] at hzz
 obtain ⟨hiz, hs, hbb⟩ := hzz
 have hbi : bytes * n ≤ 1024 * 1048576 := Nat.mul_le_mul hb hn
 have hbi2 : (i.bytes : Int) * (n : Int) ≤ 281474976710656 := by
  rw [hbb, ← Int.natCast_mul]; omega
 have h := run_make (P := P) w t e i z ht hi hiz .i64 .i64 n n (by omega) (Int.le_refl _) hbi2 (by omega)
 simp only [Int.toNat_natCast] at h
 rw [h, hz, hs, ← made_flat zc h0 n]
/-- A list that has been filled up to k. -/
def upTo {α : Type} (xs : List α) (d : α) (n k : Nat) : List α := xs.take k ++ List.replicate (n - k) d
theorem upTo_zero {α : Type} (xs : List α) (d : α) (n : Nat) : upTo xs d n 0 = List.replicate n d := by simp [upTo]
theorem upTo_all {α : Type} (xs : List α) (d : α) : upTo xs d xs.length xs.length = xs := by simp [upTo]
theorem upTo_length {α : Type} (xs : List α) (d : α) (k : Nat) (hk : k ≤ xs.length) : (upTo xs d xs.length k).length = xs.length := by simp [upTo]; omega
theorem upTo_set {α : Type} (xs : List α) (d : α) (k : Nat) (hk : k < xs.length) : (upTo xs d xs.length k).set k (xs.getD k d) = upTo xs d xs.length (k + 1) := by
 have hl : (xs.take k).length = k := by rw [List.length_take]; omega
 unfold upTo
 rw [List.set_append_right _ _ (by omega), hl, Nat.sub_self, List.take_add_one, List.getElem?_eq_getElem hk]
 obtain ⟨m, hm⟩ : ∃ m, xs.length - k = m + 1 := ⟨xs.length - k - 1, by omega⟩
 have hm2 : xs.length - (k + 1) = m := by omega
 rw [hm, hm2]
 have hg : xs.getD k d = xs[k] := by simp [List.getD_eq_getElem?_getD, List.getElem?_eq_getElem hk]
 rw [hg]
 simp only [List.replicate_succ, List.set_cons_zero, Option.toList_some, List.append_assoc, List.cons_append, List.nil_append]
theorem flat_set : ∀ (gs : List (Int × Int)) (k : Nat) (g : Int × Int), ((flat gs).set (k * 2) (.int .i64 g.1)).set (k * 2 + 1) (.int .i64 g.2) = flat (gs.set k g)
 | [], k, g => by simp [flat]
 | x :: gs, 0, g => by simp [flat]
 | x :: gs, k + 1, g => by
  have ih := flat_set gs k g
  have e : ∀ (y : Int × Int) (ys : List (Int × Int)), flat (y :: ys) = .int .i64 y.1 :: .int .i64 y.2 :: flat ys := fun _ _ => rfl
  have e1 : (k + 1) * 2 = k * 2 + 1 + 1 := by omega
  rw [List.set_cons_succ, e, e, e1, List.set_cons_succ, List.set_cons_succ, List.set_cons_succ, List.set_cons_succ, ih]
theorem map_set {α β : Type} (f : α → β) (xs : List α) (k : Nat) (x : α) : (xs.set k x).map f = (xs.map f).set k (f x) := List.map_set
end Go.Proofs.Ytgialedmbmfejaa
