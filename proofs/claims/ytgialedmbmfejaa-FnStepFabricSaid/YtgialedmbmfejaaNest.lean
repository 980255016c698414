/- Rows whose elements own blocks of their own: footprints tell which. -/
import Derived.Test.YtgialedmbmfejaaMidB
import Derived.Test.YtgialedmbmfejaaOffB
import Derived.Test.YtgialedmbmfejaaOwn
namespace Go.Proofs.Ytgialedmbmfejaa
open Go.RowKit
set_option maxRecDepth 100000
set_option linter.unusedVariables false
set_option linter.unusedSimpArgs false
theorem ownsRow_keep {w w' : World} {base : Nat} {e : TypeId} {size : Nat} {v : Value} {n : Nat} {xs : List Value} (h : w.ownsRow base e size v n xs) (hk : ∀ g, v.ownBlock = some g → w'.heap[g]? = w.heap[g]?) : w'.ownsRow base e size v n xs := by
 refine ⟨h.1, ?_⟩
 rcases h.2 with hn | ⟨g, cap, cur, rfl, hb, hgg, rest⟩
 ·exact .inl hn
 ·exact .inr ⟨g, cap, cur, rfl, hb, (hk g rfl).trans hgg, rest⟩
theorem ownsRow_zero {w : World} {b : Nat} {e : TypeId} {size : Nat} {v : Value} {n : Nat} {xs : List Value} (h : w.ownsRow b e size v n xs) : w.ownsRow 0 e size v n xs := ownsRow_base h (Nat.zero_le _)
/-- The block of a slice, as a list. -/
def fp (v : Value) : List Nat := v.ownBlock.toList
theorem mem_fp {v : Value} {g : Nat} : g ∈ fp v ↔ v.ownBlock = some g := by unfold fp; cases v.ownBlock <;> simp [eq_comm]
theorem fp_lt {w : World} {b : Nat} {e : TypeId} {size : Nat} {v : Value} {n : Nat} {xs : List Value} (h : w.ownsRow b e size v n xs) : ∀ g ∈ fp v, b ≤ g ∧ g < w.heap.size := fun g hg => World.ownsRow.lt h g (mem_fp.1 hg)
/-- Only the blocks of F changed, and new ones were made. -/
structure ChgN (F : List Nat) (w w' : World) : Prop where
 os : w'.os = w.os
 tape : w'.tape = w.tape
 output : w'.output = w.output
 size : w.heap.size ≤ w'.heap.size
 block : ∀ k, k < w.heap.size → k ∉ F → w'.heap[k]? = w.heap[k]?
section
variable {F G : List Nat} {w w' w'' : World}
theorem ChgN.refl (w : World) : ChgN F w w := ⟨rfl, rfl, rfl, Nat.le_refl _, fun _ _ _ => rfl⟩
theorem ChgN.trans (h : ChgN F w w') (k : ChgN F w' w'') : ChgN F w w'' :=
 ⟨k.os.trans h.os, k.tape.trans h.tape, k.output.trans h.output, Nat.le_trans h.size k.size, fun i hi hr => (k.block i (Nat.lt_of_lt_of_le hi h.size) hr).trans (h.block i hi hr)⟩
theorem ChgN.wider (h : ChgN F w w') (hs : ∀ g ∈ F, g ∈ G) : ChgN G w w' := ⟨h.os, h.tape, h.output, h.size, fun k hk hn => h.block k hk (fun h2 => hn (hs k h2))⟩
theorem ChgN.ofExt (h : Ext w w') : ChgN F w w' := ⟨Below.os h, Below.tape h, Below.output h, Below.size h, fun i hi _ => Below.block h i hi⟩
theorem ChgN.ofGr {v : Value} (h : w.grownBy w' v.ownBlock) : ChgN (fp v) w w' := ⟨h.os, h.tape, h.output, h.size, fun k hk hn => h.block k hk (fun e => hn (mem_fp.2 e.symm))⟩
theorem ChgN.setCell (h : ChgN F w w') {p : Addr} (hp : p.block ∈ F) (v : Value) : ChgN F w (w'.setCell p v) :=
 ⟨h.os, h.tape, h.output, by simpa using h.size, fun k hk hne => (heap_setCell_other w' p k v (fun e => hne (by rw [e]; exact hp))).trans (h.block k hk hne)⟩
theorem ChgN.mid {b N : Nat} (h : ChgN F w w') (hs : ∀ k ∈ F, b ≤ k ∧ k < N) : Mid b N w w' := ⟨h.os, h.tape, h.output, h.size, fun k hk hr => h.block k hk (fun h2 => by have := hs k h2; omega)⟩
end
abbrev OwnP (α : Type) := World → List Value → α → List Nat → Prop
/-- What the reading of an element must obey. -/
structure GoodP {α : Type} (P : OwnP α) (size : Nat) : Prop where
 len : ∀ {w cs x F}, P w cs x F → cs.length = size
 lt : ∀ {w cs x F}, P w cs x F → ∀ g ∈ F, g < w.heap.size
 keep : ∀ {w w' cs x F}, P w cs x F → (∀ g ∈ F, w'.heap[g]? = w.heap[g]?) → P w' cs x F
 one : ∀ {w cs x F}, P w cs x F → ∀ u ∈ cs, u.oneCell' = true
section
variable {α : Type} {P : OwnP α} {size : Nat} {w w' : World}
theorem GoodP.ext (hP : GoodP P size) {cs : List Value} {x : α} {F : List Nat} (h : P w cs x F) (e : Ext w w') : P w' cs x F := hP.keep h (fun g hg => Below.block e g (hP.lt h g hg))
theorem GoodP.chg (hP : GoodP P size) {cs : List Value} {x : α} {F G : List Nat} (h : P w cs x F) (e : ChgN G w w') (hd : ∀ g ∈ F, g ∉ G) : P w' cs x F := hP.keep h (fun g hg => e.block g (hP.lt h g hg) (hd g hg))
theorem GoodP.mid {b N : Nat} (hP : GoodP P size) {cs : List Value} {x : α} {F : List Nat} (h : P w cs x F) (e : Mid b N w w') (hd : ∀ g ∈ F, g < b ∨ N ≤ g) : P w' cs x F := hP.keep h (fun g hg => e.block g (hP.lt h g hg) (hd g hg))
/-- The elements of a row, their blocks all apart. -/
inductive ElsN (P : OwnP α) (w : World) : List Value → List α → List Nat → Prop
 | nil : ElsN P w [] [] []
 | cons {cs : List Value} {x : α} {F : List Nat} {cells : List Value} {xs : List α} {G : List Nat} : P w cs x F → ElsN P w cells xs G → (∀ g ∈ F, g ∉ G) → ElsN P w (cs ++ cells) (x :: xs) (F ++ G)
theorem ElsN.keep (hP : GoodP P size) {cells : List Value} {xs : List α} {G : List Nat} (h : ElsN P w cells xs G) (hk : ∀ g ∈ G, w'.heap[g]? = w.heap[g]?) : ElsN P w' cells xs G := by
 induction h with
 | nil => exact .nil
 | cons h1 h2 h3 ih => exact .cons (hP.keep h1 (fun g hg => hk g (List.mem_append_left _ hg))) (ih (fun g hg => hk g (List.mem_append_right _ hg))) h3
theorem ElsN.lt (hP : GoodP P size) {cells : List Value} {xs : List α} {G : List Nat} (h : ElsN P w cells xs G) : ∀ g ∈ G, g < w.heap.size := by
 induction h with
 | nil => intro g hg; simp at hg
 | cons h1 h2 h3 ih =>
  intro g hg
  rcases List.mem_append.1 hg with h | h
  ·exact hP.lt h1 g h
  ·exact ih g h
theorem ElsN.ext (hP : GoodP P size) {cells : List Value} {xs : List α} {G : List Nat} (h : ElsN P w cells xs G) (e : Ext w w') : ElsN P w' cells xs G := h.keep hP (fun g hg => Below.block e g (h.lt hP g hg))
theorem ElsN.len (hP : GoodP P size) {cells : List Value} {xs : List α} {G : List Nat} (h : ElsN P w cells xs G) : cells.length = xs.length * size := by
 induction h with
 | nil => simp
 | cons h1 h2 h3 ih => rw [List.length_append, ih, hP.len h1, List.length_cons, Nat.add_mul]; omega
theorem ElsN.one (hP : GoodP P size) {cells : List Value} {xs : List α} {G : List Nat} (h : ElsN P w cells xs G) : ∀ u ∈ cells, u.oneCell' = true := by
 induction h with
 | nil => intro u hu; simp at hu
 | cons h1 h2 h3 ih =>
  intro u hu
  rcases List.mem_append.1 hu with h | h
  ·exact hP.one h1 u h
  ·exact ih u h
theorem ElsN.append {cells cells2 : List Value} {xs ys : List α} {G G2 : List Nat} (h : ElsN P w cells xs G) (h2 : ElsN P w cells2 ys G2) (hd : ∀ g ∈ G, g ∉ G2) : ElsN P w (cells ++ cells2) (xs ++ ys) (G ++ G2) := by
 induction h with
 | nil => simpa using h2
 | cons a1 a2 a3 ih =>
  have := ih (fun g hg => hd g (List.mem_append_right _ hg))
  rw [List.append_assoc, List.append_assoc, List.cons_append]
  refine .cons a1 this (fun g hg hg2 => ?_)
  rcases List.mem_append.1 hg2 with h | h
  ·exact a3 g hg h
  ·exact hd g (List.mem_append_left _ hg) h
theorem ElsN.one_ {cs : List Value} {x : α} {F : List Nat} (h : P w cs x F) : ElsN P w cs [x] F := by
 have := ElsN.cons h (ElsN.nil (P := P) (w := w)) (fun g _ hg => by simp at hg)
 simpa using this
theorem ElsN.snoc {cells cs : List Value} {xs : List α} {x : α} {G F : List Nat} (h : ElsN P w cells xs G) (h2 : P w cs x F) (hd : ∀ g ∈ G, g ∉ F) : ElsN P w (cells ++ cs) (xs ++ [x]) (G ++ F) := h.append (ElsN.one_ h2) hd
/-- An element: what its cells are, and what putting another in its place makes of the row. -/
theorem ElsN.upd (hP : GoodP P size) {cells : List Value} {xs : List α} {G : List Nat} (h : ElsN P w cells xs G) : ∀ (j : Nat) (d : α), j < xs.length → ∃ cs F, P w cs (xs.getD j d) F ∧ (∀ i, i < size → cells[j * size + i]? = cs[i]?) ∧ (∀ g ∈ F, g ∈ G) ∧
  ∀ (w' : World) (cs' : List Value) (x' : α), P w' cs' x' F → (∀ g ∈ G, g ∉ F → w'.heap[g]? = w.heap[g]?) → ElsN P w' (cells.take (j * size) ++ (cs' ++ cells.drop (j * size + size))) (xs.set j x') G := by
 induction h with
 | nil => intro j d hj; simp at hj
 | @cons cs x F cells xs G h1 h2 h3 ih =>
  intro j d hj
  have hl := hP.len h1
  cases j with
  | zero =>
   refine ⟨cs, F, h1, fun i hi => ?_, fun g hg => List.mem_append_left _ hg, fun w' cs' x' hx hk => ?_⟩
   ·rw [Nat.zero_mul, Nat.zero_add, List.getElem?_append_left (by omega)]
   ·rw [Nat.zero_mul, List.take_zero, List.nil_append, Nat.zero_add, List.drop_left' hl, List.set_cons_zero]
    exact .cons hx (h2.keep hP (fun g hg => hk g (List.mem_append_right _ hg) (fun h => h3 g h hg))) h3
  | succ j =>
   obtain ⟨cs2, F2, a1, a2, a3, a4⟩ := ih j d (by simpa using hj)
   have e1 : (j + 1) * size = cs.length + j * size := by rw [hl, Nat.add_mul]; omega
   refine ⟨cs2, F2, by simpa using a1, fun i hi => ?_, fun g hg => List.mem_append_right _ (a3 g hg), fun w' cs' x' hx hk => ?_⟩
   ·rw [e1, Nat.add_assoc, List.getElem?_append_right (by omega), Nat.add_sub_cancel_left]
    exact a2 i hi
   ·have e2 : (cs ++ cells).take ((j + 1) * size) = cs ++ cells.take (j * size) := by rw [e1, List.take_length_add_append]
    have e3 : (cs ++ cells).drop ((j + 1) * size + size) = cells.drop (j * size + size) := by rw [e1, Nat.add_assoc, List.drop_length_add_append]
    rw [e2, e3, List.append_assoc, List.set_cons_succ]
    refine .cons (hP.keep h1 (fun g hg => hk g (List.mem_append_left _ hg) (fun h => h3 g hg (a3 g h)))) (a4 w' cs' x' hx (fun g hg hg2 => hk g (List.mem_append_right _ hg) hg2)) h3
theorem ElsN.get (hP : GoodP P size) {cells : List Value} {xs : List α} {G : List Nat} (h : ElsN P w cells xs G) (j : Nat) (d : α) (hj : j < xs.length) : ∃ cs F, P w cs (xs.getD j d) F ∧ (∀ i, i < size → cells[j * size + i]? = cs[i]?) ∧ (∀ g ∈ F, g ∈ G) := by
 obtain ⟨cs, F, a1, a2, a3, _⟩ := h.upd hP j d hj
 exact ⟨cs, F, a1, a2, a3⟩
/-- A row whose elements own blocks: it is what xs says, and owns just the blocks of F. -/
def Nst (P : OwnP α) (T : TypeId) (size : Nat) (w : World) (v : Value) (xs : List α) (F : List Nat) : Prop :=
 ∃ cells G, w.ownsRow 0 T size v xs.length cells ∧ ElsN P w cells xs G ∧ F = fp v ++ G ∧ ∀ g ∈ fp v, g ∉ G
def PNst (P : OwnP α) (T : TypeId) (size : Nat) : OwnP (List α) := fun w cs xs F => ∃ v, cs = [v] ∧ Nst P T size w v xs F
section
variable {T : TypeId} {v : Value} {xs : List α} {F : List Nat}
theorem Nst.keep (hP : GoodP P size) (h : Nst P T size w v xs F) (hk : ∀ g ∈ F, w'.heap[g]? = w.heap[g]?) : Nst P T size w' v xs F := by
 obtain ⟨cells, G, h1, h2, rfl, h4⟩ := h
 exact ⟨cells, G, ownsRow_keep h1 (fun g hg => hk g (List.mem_append_left _ (mem_fp.2 hg))), h2.keep hP (fun g hg => hk g (List.mem_append_right _ hg)), rfl, h4⟩
theorem Nst.lt (hP : GoodP P size) (h : Nst P T size w v xs F) : ∀ g ∈ F, g < w.heap.size := by
 obtain ⟨cells, G, h1, h2, rfl, h4⟩ := h
 intro g hg
 rcases List.mem_append.1 hg with h | h
 ·exact (fp_lt h1 g h).2
 ·exact h2.lt hP g h
theorem Nst.ext (hP : GoodP P size) (h : Nst P T size w v xs F) (e : Ext w w') : Nst P T size w' v xs F := h.keep hP (fun g hg => Below.block e g (h.lt hP g hg))
theorem Nst.nil : Nst P T size w (.slice none 0 0) ([] : List α) [] := ⟨[], [], ownsRow_nil, .nil, rfl, fun g hg => by simp [fp, Value.ownBlock] at hg⟩
theorem Nst.sl (h : Nst P T size w v xs F) : ∃ a c, v = .slice a xs.length c ∧ xs.length ≤ c ∧ c ≤ maxLen := by
 obtain ⟨cells, G, h1, h2, rfl, h4⟩ := h
 obtain ⟨a, c, hv, _, h5, h6, _⟩ := ownsRow_row h1
 exact ⟨a, c, hv, h5, h6⟩
theorem goodNst (hP : GoodP P size) : GoodP (PNst P T size) 1 where
 len := by rintro w cs x F ⟨v, rfl, _⟩; rfl
 lt := by rintro w cs x F ⟨v, rfl, h⟩; exact h.lt hP
 keep := by rintro w w' cs x F ⟨v, rfl, h⟩ hk; exact ⟨v, rfl, h.keep hP hk⟩
 one := by
  rintro w cs x F ⟨v, rfl, h⟩ u hu
  obtain ⟨a, c, rfl, _⟩ := h.sl
  simp at hu; subst hu; rfl
/-- An element behind the row, its blocks newer than the row's world. -/
theorem nst_snoc {w0 : World} (hP : GoodP P size) {v' : Value} {cells cs : List Value} {G Fx : List Nat} {x : α} {n : Nat} (h1 : w0.ownsRow 0 T size v n cells) (h2 : ElsN P w0 cells xs G) (h4 : ∀ g ∈ fp v, g ∉ G) (e : Ext w0 w) (hx : P w cs x Fx) (hN : ∀ g ∈ Fx, w0.heap.size ≤ g) (hg : w.grownBy w' v.ownBlock) (hm : RowMoved w v v') (hn : n = xs.length)
  (o : w'.ownsRow 0 T size v' (n + 1) (cells ++ cs)) : Nst P T size w' v' (xs ++ [x]) (fp v' ++ (G ++ Fx)) ∧ ∀ b, (∀ g ∈ fp v ++ G, b ≤ g) → b ≤ w0.heap.size → ∀ g ∈ fp v' ++ (G ++ Fx), b ≤ g := by
 subst hn
 have hsz := e.size
 have lv := fp_lt h1
 have lG := h2.lt hP
 have lx := hP.lt hx
 have hG : ∀ g ∈ G, w'.heap[g]? = w0.heap[g]? := fun g hgG => (hg.block g (by have := lG g hgG; omega) (fun e2 => h4 g (mem_fp.2 e2.symm) hgG)).trans (Below.block e g (lG g hgG))
 have hX : ∀ g ∈ Fx, w'.heap[g]? = w.heap[g]? := fun g hgx => hg.block g (lx g hgx) (fun e2 => by have := (lv g (mem_fp.2 e2.symm)).2; have := hN g hgx; omega)
 have hf : ∀ g ∈ fp v', g ∈ fp v ∨ w.heap.size ≤ g := by
  intro g hgv
  have h5 := mem_fp.1 hgv
  rcases hm with e6 | ⟨q, e6, hq⟩
  ·exact .inl (mem_fp.2 (e6.symm.trans h5))
  ·rw [e6] at h5; cases h5; exact .inr hq
 refine ⟨⟨cells ++ cs, G ++ Fx, by rw [List.length_append]; exact o, (h2.keep hP hG).snoc (hP.keep hx hX) (fun g hgG hgx => by have := lG g hgG; have := hN g hgx; omega), rfl, fun g hgv hgG => ?_⟩, fun b hb hb0 g hgg => ?_⟩
 ·rcases hf g hgv with h | h
  ·rcases List.mem_append.1 hgG with h5 | h5
   ·exact h4 g h h5
   ·have := (lv g h).2; have := hN g h5; omega
  ·rcases List.mem_append.1 hgG with h5 | h5
   ·have := lG g h5; omega
   ·have := lx g h5; omega
 ·rcases List.mem_append.1 hgg with h | h
  ·rcases hf g h with h5 | h5
   ·exact hb g (List.mem_append_left _ h5)
   ·omega
  ·rcases List.mem_append.1 h with h5 | h5
   ·exact hb g (List.mem_append_right _ h5)
   ·have := hN g h5; omega
end
end
/-- A new row, its block's number by a name. -/
theorem rowNew (w : World) (cs : List Value) (t : TypeId) {B : Nat} (h : w.heap.size = B) : RowAt (w.alloc (.cells cs.toArray t)) (some ⟨B, 0, none⟩) cs := (Blk.at w cs t h).row
/-! ### Slices of numbers -/
def PInts : OwnP (List Int) := fun w cs xs F => ∃ v, cs = [v] ∧ OwnInts w 0 3 v xs ∧ F = fp v
theorem own_sl {w : World} {b : Nat} {v : Value} {xs : List Int} (h : OwnInts w b 3 v xs) : ∃ a c, v = .slice a xs.length c ∧ xs.length ≤ c ∧ c ≤ maxLen := by
 obtain ⟨a, c, hv, _, h1, h2, _⟩ := ownsRow_row h
 exact ⟨a, c, hv, h1, h2⟩
theorem goodInts : GoodP PInts 1 where
 len := by rintro w cs x F ⟨v, rfl, _⟩; rfl
 lt := by rintro w cs x F ⟨v, rfl, h, rfl⟩ g hg; exact (fp_lt h g hg).2
 keep := by rintro w w' cs x F ⟨v, rfl, h, rfl⟩ hk; exact ⟨v, rfl, ownsRow_keep h (fun g hg => hk g (mem_fp.2 hg)), rfl⟩
 one := by
  rintro w cs x F ⟨v, rfl, h, rfl⟩ u hu
  obtain ⟨a, c, rfl, _⟩ := own_sl h
  simp at hu; subst hu; rfl
/-- Reading an element of a row of slices of numbers. -/
theorem ElsN.ints {w : World} {cells : List Value} {xss : List (List Int)} {G : List Nat} (h : ElsN PInts w cells xss G) {j : Nat} (hj : j < xss.length) : ∃ a c, cells[j]? = some (.slice a (xss.getD j []).length c) ∧ IntsAt w a (xss.getD j []) ∧ (xss.getD j []).length ≤ c := by
 obtain ⟨cs, F, ⟨v, rfl, h1, rfl⟩, h2, h3⟩ := h.get goodInts j [] hj
 obtain ⟨a, c, rfl, h4, _⟩ := h1.opened
 obtain ⟨a', c', e, h5, _⟩ := own_sl h1
 cases e
 have := h2 0 (by omega)
 exact ⟨a, c, by simpa using this, h4, h5⟩
abbrev NstI (w : World) (v : Value) (xss : List (List Int)) (F : List Nat) : Prop := Nst PInts 23 1 w v xss F
theorem NstI.get {w : World} {a : Option Addr} {n c : Nat} {xss : List (List Int)} {F : List Nat} (h : NstI w (.slice a n c) xss F) (hn : 0 < xss.length) : ∃ g, a = some ⟨g, 0, none⟩ ∧ g < w.heap.size ∧ ∀ j, j < xss.length → ∃ aj cj, w.cell? ⟨g, j, none⟩ = some (.slice aj (xss.getD j []).length cj) ∧ IntsAt w aj (xss.getD j []) := by
 obtain ⟨cells, G, h1, h2, rfl, h4⟩ := h
 have hl := h1.1
 obtain ⟨a', c', hv, hr, _⟩ := ownsRow_row h1
 cases hv
 obtain ⟨g, rfl, hb, hg⟩ := ownsRow_block h1 hn
 refine ⟨g, rfl, hg, fun j hj => ?_⟩
 obtain ⟨aj, cj, q, hA, _⟩ := h2.ints hj
 exact ⟨aj, cj, ownsRow_cell h1 q, hA⟩
/-- A call gives back a slice of numbers that it has made. -/
def GiveNL (w : World) (xs : List Int) (e : Ending) (w' : World) : Prop := ∃ v, e = .returned v ∧ OwnInts w' w.heap.size 3 v xs ∧ Ext w w'
theorem own_app {w' : World} {base : Nat} {v' : Value} {xs ys : List Int} {n m : Nat} (hn : n = xs.length) (hm : m = ys.length) (h : w'.ownsRow base 3 1 v' (n + m) (xs.map (Value.int .i64) ++ ys.map (Value.int .i64))) : OwnInts w' base 3 v' (xs ++ ys) := by
 subst hn hm
 unfold OwnInts
 rw [List.length_append, List.map_append]; exact h
theorem own_lo {w : World} {b : Nat} {v : Value} {xs : List Int} (h : OwnInts w b 3 v xs) : ∀ k, v.ownBlock = some k → b ≤ k ∧ k < w.heap.size := fun k hk => World.ownsRow.lt h k hk
theorem PInts.of {w : World} {b : Nat} {v : Value} {xs : List Int} (h : OwnInts w b 3 v xs) : PInts w [v] xs (fp v) ∧ ∀ g ∈ fp v, b ≤ g := ⟨⟨v, rfl, ownsRow_zero h, rfl⟩, fun g hg => (fp_lt h g hg).1⟩
end Go.Proofs.Ytgialedmbmfejaa
