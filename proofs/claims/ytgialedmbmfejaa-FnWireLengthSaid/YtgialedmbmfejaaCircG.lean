/- A circuit's rows under changes of other blocks. -/
import Derived.Test.YtgialedmbmfejaaDraw3
namespace Go.Proofs.Ytgialedmbmfejaa
open Go.RowKit
set_option linter.unusedVariables false
theorem CircAt.grG {w w' : World} {c : Circ} {p : Where3} {r : Option Nat} (h : CircAt w c p) (g : w.grownBy w' r) (h1 : ∀ x, p.an = some x → r ≠ some x.block) (h2 : ∀ x, p.ag = some x → r ≠ some x.block) (h3 : ∀ x, p.ao = some x → r ≠ some x.block) : CircAt w' c p := by
  obtain ⟨nx, gs, ou, l1, l2, l3⟩ := h
  have cell : ∀ b o, b < w.heap.size → r ≠ some b → w'.cell? ⟨b, o, none⟩ = w.cell? ⟨b, o, none⟩ := fun b o hb hne => World.cell?_of_block (a := ⟨b, o, none⟩) (g.block b hb (fun e => hne e.symm))
  refine ⟨?_, ?_, ?_, l1, l2, l3⟩
  · rcases nx with e | ⟨b, o, ha, hb, hc⟩
    · exact .inl e
    · exact .inr ⟨b, o, ha, Nat.lt_of_lt_of_le hb g.size, fun j hj => (cell b _ hb (h1 _ ha)).trans (hc j hj)⟩
  · rcases gs with e | ⟨b, o, ha, hb, hc, hd⟩
    · exact .inl e
    · exact .inr ⟨b, o, ha, Nat.lt_of_lt_of_le hb g.size, fun j hj => (cell b _ hb (h2 _ ha)).trans (hc j hj), fun j hj => (cell b _ hb (h2 _ ha)).trans (hd j hj)⟩
  · rcases ou with e | ⟨b, o, ha, hb, hc⟩
    · exact .inl e
    · exact .inr ⟨b, o, ha, Nat.lt_of_lt_of_le hb g.size, fun j hj => (cell b _ hb (h3 _ ha)).trans (hc j hj)⟩
theorem CircAt.drawnG {w w' : World} {c : Circ} {p : Where3} {b rb : Nat} (h : CircAt w c p) (f : FromB b p) (g : w.grownBy w' (some rb)) (hrb : rb < b) : CircAt w' c p :=
  h.grG g (fun x hx e => by have := f.1 x hx; have : rb = x.block := Option.some.inj e; omega) (fun x hx e => by have := f.2.1 x hx; have : rb = x.block := Option.some.inj e; omega) (fun x hx e => by have := f.2.2 x hx; have : rb = x.block := Option.some.inj e; omega)
end Go.Proofs.Ytgialedmbmfejaa
