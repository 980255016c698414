/- Contracts: the depth of a circuit, the program's and the reference's. -/
import Derived.Test.YtgialedmbmfejaaLev
import Derived.Deep.OwnRows
import Derived.Laws.OwnMore
namespace Go.Proofs.Ytgialedmbmfejaa
open Go.RowKit
set_option maxRecDepth 100000
set_option linter.unusedVariables false
set_option linter.unusedSimpArgs false
theorem ownsRow_made (w : World) (base : Nat) (e : TypeId) (xs : List Value) (hb : base ≤ w.heap.size) (hm : xs.length ≤ maxLen) : (w.alloc (.cells xs.toArray e)).ownsRow base e 1 (.slice (some ⟨w.heap.size, 0, none⟩) xs.length xs.length) xs.length xs :=
  ⟨by simp, .inr ⟨_, xs.length, xs.toArray, rfl, hb, heap_alloc_new w _, Nat.le_refl _, hm, by simp, by simp⟩⟩
theorem ownInts_zeros (w : World) (base : Nat) (e : TypeId) (n : Nat) (hb : base ≤ w.heap.size) (hm : n ≤ maxLen) : OwnInts (w.alloc (.cells (madeCells #[.int .i64 0] n) e)) base e (.slice (some ⟨w.heap.size, 0, none⟩) n n) (List.replicate n 0) := by
  have e1 : madeCells #[Value.int .i64 0] n = ((List.replicate n (0 : Int)).map (Value.int .i64)).toArray := by
    apply Array.toList_inj.1
    rw [toList_madeCells_one]
    simp
  have := ownsRow_made w base e ((List.replicate n (0 : Int)).map (Value.int .i64)) hb (by simpa using hm)
  unfold OwnInts
  rw [e1]
  simpa using this
theorem litB_iff {l n : Int} : litB l n = true ↔ 0 ≤ l ∧ l < 2 * n := by simp [litB]
theorem take_snocP {α : Type} (xs : List α) (k : Nat) (d : α) (h : k < xs.length) : xs.take (k + 1) = xs.take k ++ [xs.getD k d] := by
  rw [List.take_add_one, List.getElem?_eq_getElem h, List.getD_eq_getElem?_getD, List.getElem?_eq_getElem h]; rfl
theorem CircBox.gr {w w' : World} {b : Nat} {c : Circ} {p : Where3} {r : Option Nat} (h : CircBox w b c p) (g : w.grownBy w' r) (hne : r ≠ some b) : CircBox w' b c p := by
  have hb := g.block b h.lt (fun e => hne e.symm)
  exact ⟨Nat.lt_of_lt_of_le h.lt g.size, (World.cell?_of_block (a := ⟨b, 0, none⟩) hb).trans h.h0, (World.cell?_of_block (a := ⟨b, 1, none⟩) hb).trans h.h1, (World.cell?_of_block (a := ⟨b, 2, none⟩) hb).trans h.h2, (World.cell?_of_block (a := ⟨b, 3, none⟩) hb).trans h.h3⟩
theorem ownsRow_mono {w : World} {B base : Nat} {e : TypeId} {size : Nat} {v : Value} {n : Nat} {xs : List Value} (h : w.ownsRow base e size v n xs) (hb : B ≤ base) : w.ownsRow B e size v n xs := by
  refine ⟨h.1, ?_⟩
  rcases h.2 with h | ⟨g, cap, cur, h1, h2, h3⟩
  · exact .inl h
  · exact .inr ⟨g, cap, cur, h1, Nat.le_trans hb h2, h3⟩
theorem intInfo : (Try.prog.info? 3).map (fun i => (i.zero, i.size, i.bytes)) = some (some (.int .i64 0), 1, 8) := by kernel_rfl
end Go.Proofs.Ytgialedmbmfejaa
