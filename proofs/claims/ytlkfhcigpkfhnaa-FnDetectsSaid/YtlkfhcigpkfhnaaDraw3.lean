/- The drawing of a circuit from a code. (Written by gen in wip.) -/
import Derived.Test.YtlkfhcigpkfhnaaDraw2
namespace Go.Proofs.Ytlkfhcigpkfhnaa
open Go.RowKit
set_option maxRecDepth 100000
set_option linter.unusedVariables false
set_option linter.unusedSimpArgs false
/-- The circuit's slices lie within their capacities. -/
def Caps (c : Circ) (p : Where3) : Prop := c.next.length ≤ p.cn ∧ c.gates.length ≤ p.cg ∧ c.outs.length ≤ p.co
/-- What a draw hands back: a circuit in new memory. -/
def DrawnPost (w : World) (n : Int) (e : Ending) (w' : World) : Prop :=
  ∃ c p, e = .returned (.agg #[.int .i64 c.inputs, .slice p.an c.next.length p.cn, .slice p.ag c.gates.length p.cg, .slice p.ao c.outs.length p.co]) ∧ CircAt w' c p ∧ DrawnC c n ∧ Ext w w' ∧ Caps c p
/-- The circuit's rows lie in blocks from B on. -/
def FromB (B : Nat) (p : Where3) : Prop := (∀ x, p.an = some x → B ≤ x.block) ∧ (∀ x, p.ag = some x → B ≤ x.block) ∧ (∀ x, p.ao = some x → B ≤ x.block)
theorem drawn_open {w w' : World} {rb : Nat} {bs : List Int} {N : Nat} {n : Int} {e : Ending} (h : DrawPost w rb bs N n e w') :
    ∃ c p, e = .returned (.agg #[.int .i64 c.inputs, .slice p.an c.next.length p.cn, .slice p.ag c.gates.length p.cg, .slice p.ao c.outs.length p.co]) ∧ CircAt w' c p ∧ DrawnC c n ∧ FromB w.heap.size p ∧ Rdr w' rb bs (N + 200) ∧ w.grownBy w' (some rb) ∧ Caps c p := by
  obtain ⟨c, nv, gv, ov, rfl, hd, hn, hg, ho, hr, hG⟩ := h
  obtain ⟨an, cn, rfl, rn, mn, _, bn⟩ := ownsRow_row hn
  obtain ⟨ag, cg, rfl, rg, mg, _, bg⟩ := ownsRow_row hg
  obtain ⟨ao, co, rfl, ro, mo, _, bo⟩ := ownsRow_row ho
  have d := hd
  exact ⟨c, ⟨an, cn, ag, cg, ao, co⟩, rfl, ⟨intsAt_of_row rn, pairsAt_of_row rg, intsAt_of_row ro, by have := d.ln; omega, by have := d.lg; omega, by have := d.lo; omega⟩, hd, ⟨fun x hx => (bn x hx).1, fun x hx => (bg x hx).1, fun x hx => (bo x hx).1⟩, hr, hG, mn, mg, mo⟩
theorem ext_of_gr {w w1 w2 : World} {rb : Nat} (h : Ext w w1) (hg : w1.grownBy w2 (some rb)) (hrb : w.heap.size ≤ rb) : Ext w w2 :=
  Below.trans h ⟨hg.os, hg.tape, hg.output, hg.size, fun k hk => hg.block k (Nat.lt_of_lt_of_le hk h.size) (by intro e; have : k = rb := (by simpa using e); omega)⟩
theorem IntsAt.set {w : World} {a : Option Addr} {xs : List Int} (h : IntsAt w a xs) {b : Nat} (hb : ∀ x, a = some x → b ≠ x.block) (i : Nat) (v : Value) : IntsAt (w.setCell ⟨b, i, none⟩ v) a xs := by
  rcases h with rfl | ⟨b', o, ha, hlt, hc⟩
  · exact .inl rfl
  · exact .inr ⟨b', o, ha, by simpa using hlt, fun j hj => by rw [World.cell?_setCell_far _ _ _ _ (hb _ ha)]; exact hc j hj⟩
theorem PairsAt.set {w : World} {a : Option Addr} {xs : List (Int × Int)} (h : PairsAt w a xs) {b : Nat} (hb : ∀ x, a = some x → b ≠ x.block) (i : Nat) (v : Value) : PairsAt (w.setCell ⟨b, i, none⟩ v) a xs := by
  rcases h with rfl | ⟨b', o, ha, hlt, hc, hd⟩
  · exact .inl rfl
  · exact .inr ⟨b', o, ha, by simpa using hlt, fun j hj => by rw [World.cell?_setCell_far _ _ _ _ (hb _ ha)]; exact hc j hj, fun j hj => by rw [World.cell?_setCell_far _ _ _ _ (hb _ ha)]; exact hd j hj⟩
theorem CircAt.set {w : World} {c : Circ} {p : Where3} (h : CircAt w c p) {b : Nat} (f1 : ∀ x, p.an = some x → b ≠ x.block) (f2 : ∀ x, p.ag = some x → b ≠ x.block) (f3 : ∀ x, p.ao = some x → b ≠ x.block) (i : Nat) (v : Value) : CircAt (w.setCell ⟨b, i, none⟩ v) c p :=
  ⟨h.nx.set f1 i v, h.gs.set f2 i v, h.ou.set f3 i v, h.ln, h.lg, h.lo⟩
end Go.Proofs.Ytlkfhcigpkfhnaa
