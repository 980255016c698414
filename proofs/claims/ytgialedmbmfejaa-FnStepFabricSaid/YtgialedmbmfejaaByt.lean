/- Slices of bytes: those that a call owns; how the exact laws copy, compare and mark them. -/
import Derived.Test.YtgialedmbmfejaaOwn
import Derived.Test.YtgialedmbmfejaaLib2
namespace Go.Proofs.Ytgialedmbmfejaa
open Go.RowKit
set_option maxRecDepth 100000
set_option linter.unusedVariables false
set_option linter.unusedSimpArgs false
theorem tyByt : RowTy Try.prog 22 5 1 1 := RowTy.mk' (z := .int .u8 0) Try.underlying22 (by kernel_rfl) rfl (by decide) (by decide)
theorem bytInfo : (Try.prog.info? 5).map (fun i => (i.zero, i.size, i.bytes)) = some (some (.int .u8 0), 1, 1) := by kernel_rfl
/-- How a slice of bytes reads. -/
def BytAt (w : World) (a : Option Addr) (xs : List Int) : Prop :=
 xs = [] ∨ ∃ b o, a = some ⟨b, o, none⟩ ∧ b < w.heap.size ∧ ∀ j, j < xs.length → w.cell? ⟨b, o + j, none⟩ = some (.int .u8 (xs.getD j 0))
def IsB (x : Int) : Prop := 0 ≤ x ∧ x < 256
def AllB (xs : List Int) : Prop := ∀ x ∈ xs, IsB x
theorem AllB.get {xs : List Int} (h : AllB xs) (j : Nat) (hj : j < xs.length) : 0 ≤ xs.getD j 0 ∧ xs.getD j 0 < 256 := by
 rw [List.getD_eq_getElem?_getD, List.getElem?_eq_getElem hj]; exact h _ (List.getElem_mem hj)
theorem AllB.app {xs ys : List Int} (h : AllB xs) (k : AllB ys) : AllB (xs ++ ys) := fun x hx => (List.mem_append.1 hx).elim (h x) (k x)
theorem AllB.nil : AllB [] := fun x hx => by cases hx
theorem AllB.cons {x : Int} {xs : List Int} (h0 : 0 ≤ x) (h1 : x < 256) (h : AllB xs) : AllB (x :: xs) := fun y hy => (List.mem_cons.1 hy).elim (fun e => e ▸ ⟨h0, h1⟩) (h y)
section
variable {w w' : World} {a : Option Addr} {xs : List Int}
theorem BytAt.get (h : BytAt w a xs) (hn : 0 < xs.length) : ∃ b o, a = some ⟨b, o, none⟩ ∧ b < w.heap.size ∧ ∀ j, j < xs.length → w.cell? ⟨b, o + j, none⟩ = some (.int .u8 (xs.getD j 0)) := by
 rcases h with rfl | h
 ·simp at hn
 ·exact h
theorem BytAt.ext (h : BytAt w a xs) (e : Ext w w') : BytAt w' a xs := by
 rcases h with rfl | ⟨b, o, ha, hb, hc⟩
 ·exact .inl rfl
 ·exact .inr ⟨b, o, ha, Nat.lt_of_lt_of_le hb e.size, fun j hj => ((ecell e).1 b _ hb).trans (hc j hj)⟩
theorem bytAt_of_row (h : RowAt w a (xs.map (Value.int .u8))) : BytAt w a xs := by
 rcases h with h | ⟨b, o, ha, hb, hc⟩
 ·exact .inl (by simpa using h)
 ·exact .inr ⟨b, o, ha, hb, fun j hj => hc j _ (by simp [hj, List.getD_eq_getElem?_getD])⟩
end
/-- A new row, its block's number spelt out. -/
theorem rowAtN (w : World) (cs : Array Value) (e : TypeId) {B : Nat} (h : w.heap.size = B) : RowAt (w.alloc (.cells cs e)) (some ⟨B, 0, none⟩) cs.toList := by subst h; exact RowAt.new w cs e
/-- A slice of bytes that the call owns. -/
def OwnY (w : World) (base : Nat) (v : Value) (xs : List Int) : Prop := w.ownsRow base 5 1 v xs.length (xs.map (Value.int .u8))
section
variable {w w' : World} {base : Nat} {v : Value} {xs : List Int}
theorem OwnY.opened (h : OwnY w base v xs) : ∃ a c, v = .slice a xs.length c ∧ BytAt w a xs := by
 obtain ⟨a, c, hv, hr, _⟩ := ownsRow_row h
 exact ⟨a, c, hv, bytAt_of_row hr⟩
theorem OwnY.byt {a : Option Addr} {n c : Nat} (h : OwnY w base (.slice a n c) xs) : BytAt w a xs := by
 obtain ⟨a', c', hv, hr, _⟩ := ownsRow_row h
 cases hv; exact bytAt_of_row hr
theorem OwnY.ext (h : OwnY w base v xs) (e : Ext w w') : OwnY w' base v xs := ownsRow_ext h e
theorem OwnY.le {b : Nat} (h : OwnY w base v xs) (hb : b ≤ base) : OwnY w b v xs := by
 refine ⟨h.1, ?_⟩
 rcases h.2 with h | ⟨g, cap, cur, h1, h2, h3⟩
 ·exact .inl h
 ·exact .inr ⟨g, cap, cur, h1, Nat.le_trans hb h2, h3⟩
theorem OwnY.app {v' : Value} {ys : List Int} {n m : Nat} (hn : n = xs.length) (hm : m = ys.length) (h : w'.ownsRow base 5 1 v' (n + m) (xs.map (Value.int .u8) ++ ys.map (Value.int .u8))) : OwnY w' base v' (xs ++ ys) := by
 subst hn hm
 unfold OwnY
 rw [List.length_append, List.map_append]; exact h
theorem OwnY.nil : OwnY w base (.slice none 0 0) [] := World.ownsRow_nil _ _ _ _
theorem OwnY.lt (h : OwnY w base v xs) : ∀ k, v.ownBlock = some k → base ≤ k ∧ k < w.heap.size := fun k hk => World.ownsRow.lt h k hk
end
/-- A slice of bytes is given back. -/
def GiveY (w : World) (xs : List Int) (e : Ending) (w' : World) : Prop := ∃ v, e = .returned v ∧ OwnY w' w.heap.size v xs ∧ Ext w w'
theorem oneCell_byt (xs : List Int) : ∀ u ∈ xs.map (Value.int .u8), u.oneCell' = true := by
 intro u hu
 obtain ⟨x, _, rfl⟩ := List.mem_map.1 hu
 rfl
def mkY (k : Int) (i : Nat) : Int := IntKind.u8.wrap (k + i)
def mksY (k : Int) (n : Nat) : List Int := (List.range n).map (mkY k)
theorem mksY_get (k : Int) (n j : Nat) (h : j < n) : (mksY k n).getD j 0 = mkY k j := by simp [mksY, List.getD_eq_getElem?_getD, h]
theorem mksY_length (k : Int) (n : Nat) : (mksY k n).length = n := by simp [mksY]
theorem map_setY {xs : List Int} {i : Nat} {x : Int} : (xs.set i x).map (Value.int .u8) = (xs.map (Value.int .u8)).set i (.int .u8 x) := by rw [List.map_set]
end Go.Proofs.Ytgialedmbmfejaa
