/- Rows that a call owns: their cells, and a store into them; how the exact laws mark a slice. -/
import Derived.Test.YtgialedmbmfejaaBlk
namespace Go.Proofs.Ytgialedmbmfejaa
open Go.RowKit
set_option linter.unusedVariables false
set_option linter.unusedSimpArgs false
section
variable {w w' : World} {base : Nat} {e : TypeId} {size n c : Nat} {a : Option Addr} {xs : List Value}
theorem ownsRow_block (h : w.ownsRow base e size (.slice a n c) n xs) (hn : 0 < n) : ∃ g, a = some ⟨g, 0, none⟩ ∧ base ≤ g ∧ g < w.heap.size := by
 rcases h.2 with ⟨h1, h2⟩ | ⟨g, cap, cur, h1, hb, hg, _⟩
 ·omega
 ·cases h1; exact ⟨g, rfl, hb, (Array.getElem?_eq_some_iff.1 hg).1⟩
theorem ownsRow_cell {g : Nat} (h : w.ownsRow base e size (.slice (some ⟨g, 0, none⟩) n c) n xs) {j : Nat} {u : Value} (hu : xs[j]? = some u) : w.cell? ⟨g, j, none⟩ = some u := by
 have := h.cells (g := g) rfl j u hu
 have hadd : (⟨g, 0, none⟩ : Addr).add j = ⟨g, j, none⟩ := by unfold Addr.add; split <;> simp_all
 rwa [hadd] at this
theorem ownsRow_frozen {g : Nat} (h : w.ownsRow base e size (.slice (some ⟨g, 0, none⟩) n c) n xs) (i : Nat) : w.frozen? ⟨g, i, none⟩ = false := by
 rcases h.2 with ⟨h1, h2⟩ | ⟨g', cap, cur, h1, hb, hg, _⟩
 ·cases h1
 ·cases h1; exact frozen_of_row _ _ _ _ _ hg
theorem ownsRow_setAt {g : Nat} (h : w.ownsRow base e size (.slice (some ⟨g, 0, none⟩) n c) n xs) (i : Nat) (hi : i < xs.length) (u : Value) : (w.setCell ⟨g, i, none⟩ u).ownsRow base e size (.slice (some ⟨g, 0, none⟩) n c) n (xs.set i u) := by
 obtain ⟨hl, h2⟩ := h
 refine ⟨by simpa using hl, ?_⟩
 rcases h2 with ⟨h1, h2⟩ | ⟨g', cap, cur, h1, hb, hg, h3, h4, h5, h6⟩
 ·cases h1
 ·cases h1
  refine .inr ⟨g, c, cur.setIfInBounds i u, rfl, hb, heap_setCell_same _ _ _ _ _ _ hg, h3, h4, by simpa using h5, ?_⟩
  rw [Array.toList_setIfInBounds, List.take_set, h6]
theorem ownsRow_at (h : w.ownsRow base e size (.slice a n c) n xs) : RowAt w a xs := by
 obtain ⟨a', c', hv, hr, _⟩ := ownsRow_row h
 cases hv; exact hr
/-- A store into a row that has been made since. -/
theorem gr_setOwn {w0 : World} {g : Nat} (h : w0.grownBy w (some g)) (i : Nat) (u : Value) : w0.grownBy (w.setCell ⟨g, i, none⟩ u) (some g) :=
 ⟨h.os, h.tape, h.output, by simpa using h.size, fun k hk hne => (heap_setCell_other w _ k u (fun e => hne (by rw [e]))).trans (h.block k hk hne)⟩
end
theorem run_size {P : Program} {e : TypeId} {sz : Nat} (hsz : (P.info? e).map (·.size) = some sz) (w : World) : (sizeOf e).run P w = .ok sz w := by
 obtain ⟨i, hi, hs⟩ := Option.map_eq_some_iff.1 hsz
 simp [sizeOf, typeInfo, hi, hs]
theorem elem_of {P : Program} {t e : TypeId} (ht : P.underlying t = some (.slice e)) : P.elem t = e := by simp [Program.elem, ht]
/-- s[l:], where the slice starts at the head of its block: at the end of the capacity the address stays; so it has a name of its own. -/
theorem run_from {P : Program} {t e : TypeId} {sz : Nat} (ht : P.underlying t = some (.slice e)) (hsz : (P.info? e).map (·.size) = some sz) (B n cap : Nat) (l : Int) (h0 : 0 ≤ l) (h1 : l ≤ n) :
  ∃ o, (l < cap → o = l.toNat * sz) ∧ o ≤ l.toNat * sz ∧ ∀ w, (Instr.sliceAt t (.slice (some ⟨B, 0, none⟩) n cap) (some (.int .i64 l)) none none).run P w = .ok (.slice (some ⟨B, o, none⟩) (n - l.toNat) (cap - l.toNat)) w := by
 have he := elem_of ht
 have ht' : P.underlying t = some (.slice (P.elem t)) := by rw [he]; exact ht
 have hadd : (⟨B, 0, none⟩ : Addr).add (l.toNat * sz) = ⟨B, l.toNat * sz, none⟩ := by unfold Addr.add; split <;> simp_all
 refine ⟨if cap = l.toNat then 0 else l.toNat * sz, fun h => by rw [if_neg (by omega)], by split <;> omega, fun w => ?_⟩
 rw [run_sliceAt_slice w t _ _ _ _ ht', run_slice_l w t _ n cap ht' .i64 l h0 h1, he, run_size hsz]
 simp only [Result.andThen_ok, sliced, Option.map_some, hadd]
 split <;> rfl
/-- n zero elements: a name that the walk's simp does not open. -/
def zeros (zc : List Value) (n : Nat) : List Value := (List.replicate n zc).flatten
theorem zeros_length (zc : List Value) (n : Nat) : (zeros zc n).length = n * zc.length := by simp [zeros]
theorem zeros_one (z : Value) (n : Nat) : zeros [z] n = List.replicate n z := by simp [zeros]
theorem run_zeros' {P : Program} (t e : TypeId) (z : Value) (zc : List Value) (bytes : Nat) (ht : P.underlying t = some (.slice e)) (hinfo : (P.info? e).map (fun i => (i.zero, i.size, i.bytes)) = some (some z, zc.length, bytes))
  (hz : z.cells = zc.toArray) (h0 : 0 < zc.length) (hb : bytes ≤ 1024) (n : Nat) (hn : n ≤ 1048576) (w : World) :
  (Instr.makeSlice t (.int .i64 (n : Int)) (.int .i64 (n : Int))).run P w = .ok (.slice (some ⟨w.heap.size, 0, none⟩) n n) (w.alloc (.cells (zeros zc n).toArray e)) :=
 run_zeros t e z zc bytes ht hinfo hz h0 hb n hn w
/-- The first j elements of xs, over again. -/
def over {α : Type} (f : Nat → α) (xs : List α) (j : Nat) : List α := (List.range j).map f ++ xs.drop j
theorem over_zero {α : Type} (f : Nat → α) (xs : List α) : over f xs 0 = xs := by simp [over]
theorem over_all {α : Type} (f : Nat → α) (xs : List α) : over f xs xs.length = (List.range xs.length).map f := by simp [over]
theorem over_length {α : Type} (f : Nat → α) (xs : List α) (j : Nat) (h : j ≤ xs.length) : (over f xs j).length = xs.length := by simp [over]; omega
theorem over_set {α : Type} (f : Nat → α) (xs : List α) (j : Nat) (h : j < xs.length) : (over f xs j).set j (f j) = over f xs (j + 1) := by
 have hl : ((List.range j).map f).length = j := by simp
 unfold over
 rw [List.set_append_right _ _ (by omega), hl, Nat.sub_self, List.drop_eq_getElem_cons h, List.set_cons_zero, List.range_succ, List.map_append]
 simp only [List.map_cons, List.map_nil, List.append_assoc, List.cons_append, List.nil_append]
def mkB (k : Int) (i : Nat) : Bool := (k + i) % 3 == 0
def mksB (k : Int) (n : Nat) : List Bool := (List.range n).map (mkB k)
def mkI (k : Int) (i : Nat) : Int := k + i
def mksI (k : Int) (n : Nat) : List Int := (List.range n).map (mkI k)
end Go.Proofs.Ytgialedmbmfejaa
