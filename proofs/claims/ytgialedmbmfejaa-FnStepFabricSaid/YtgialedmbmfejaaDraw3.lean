/- The drawing of a circuit from a code. (Written by gen in wip.) -/
import Derived.Test.YtgialedmbmfejaaDraw2
namespace Go.Proofs.Ytgialedmbmfejaa
open Go.RowKit
set_option maxRecDepth 100000
set_option linter.unusedVariables false
set_option linter.unusedSimpArgs false
/-- The circuit's slices lie within their capacities. -/
def Caps (c : Circ) (p : Where3) : Prop := c.next.length ≤ p.cn ∧ c.gates.length ≤ p.cg ∧ c.outs.length ≤ p.co
/-- What a draw hands back: a circuit in new memory. -/
def DrawnPost (w : World) (n : Int) (e : Ending) (w' : World) : Prop :=
 ∃ c p, e = .returned (.agg #[.int .i64 c.inputs, .slice p.an c.next.length p.cn, .slice p.ag c.gates.length p.cg, .slice p.ao c.outs.length p.co]) ∧ CircAt w' c p ∧ DrawnC c n ∧ Ext w w' ∧ Caps c p
/-- The circuit's rows lie in blocks from B on. -/
def FromB (B : Nat) (p : Where3) : Prop := (∀ x, p.an = some x → B ≤ x.block) ∧ (∀ x, p.ag = some x → B ≤ x.block) ∧ (∀ x, p.ao = some x → B ≤ x.block)
theorem drawn_open {w w' : World} {rb : Nat} {bs : List Int} {N : Nat} {n : Int} {e : Ending} (h : DrawPost w rb bs N n e w') :
  ∃ c p, e = .returned (.agg #[.int .i64 c.inputs, .slice p.an c.next.length p.cn, .slice p.ag c.gates.length p.cg, .slice p.ao c.outs.length p.co]) ∧ CircAt w' c p ∧ DrawnC c n ∧ FromB w.heap.size p ∧ Rdr w' rb bs (N + 200) ∧ w.grownBy w' (some rb) ∧ Caps c p := by
 obtain ⟨c, nv, gv, ov, rfl, hd, hn, hg, ho, hr, hG⟩ := h
 obtain ⟨an, cn, rfl, rn, mn, _, bn⟩ := ownsRow_row hn
 obtain ⟨ag, cg, rfl, rg, mg, _, bg⟩ := ownsRow_row hg
 obtain ⟨ao, co, rfl, ro, mo, _, bo⟩ := ownsRow_row ho
 have d := hd
 exact ⟨c, ⟨an, cn, ag, cg, ao, co⟩, rfl, ⟨intsAt_of_row rn, pairsAt_of_row rg, intsAt_of_row ro, by have := d.ln; omega, by have := d.lg; omega, by have := d.lo; omega⟩, hd, ⟨fun x hx => (bn x hx).1, fun x hx => (bg x hx).1, fun x hx => (bo x hx).1⟩, hr, hG, mn, mg, mo⟩
theorem ext_of_gr {w w1 w2 : World} {rb : Nat} (h : Ext w w1) (hg : w1.grownBy w2 (some rb)) (hrb : w.heap.size ≤ rb) : Ext w w2 :=
 Below.trans h ⟨hg.os, hg.tape, hg.output, hg.size, fun k hk => hg.block k (Nat.lt_of_lt_of_le hk h.size) (by intro e; have : k = rb := (by simpa using e); omega)⟩
theorem IntsAt.set {w : World} {a : Option Addr} {xs : List Int} (h : IntsAt w a xs) {b : Nat} (hb : ∀ x, a = some x → b ≠ x.block) (i : Nat) (v : Value) : IntsAt (w.setCell ⟨b, i, none⟩ v) a xs := by
 rcases h with rfl | ⟨b', o, ha, hlt, hc⟩
 ·exact .inl rfl
 ·exact .inr ⟨b', o, ha, by simpa using hlt, fun j hj => by rw [World.cell?_setCell_far _ _ _ _ (hb _ ha)]; exact hc j hj⟩
theorem PairsAt.set {w : World} {a : Option Addr} {xs : List (Int × Int)} (h : PairsAt w a xs) {b : Nat} (hb : ∀ x, a = some x → b ≠ x.block) (i : Nat) (v : Value) : PairsAt (w.setCell ⟨b, i, none⟩ v) a xs := by
 rcases h with rfl | ⟨b', o, ha, hlt, hc, hd⟩
 ·exact .inl rfl
 ·exact .inr ⟨b', o, ha, by simpa using hlt, fun j hj => by rw [World.cell?_setCell_far _ _ _ _ (hb _ ha)]; exact hc j hj, fun j hj => by rw [World.cell?_setCell_far _ _ _ _ (hb _ ha)]; exact hd j hj⟩
theorem CircAt.set {w : World} {c : Circ} {p : Where3} (h : CircAt w c p) {b : Nat} (f1 : ∀ x, p.an = some x → b ≠ x.block) (f2 : ∀ x, p.ag = some x → b ≠ x.block) (f3 : ∀ x, p.ao = some x → b ≠ x.block) (i : Nat) (v : Value) : CircAt (w.setCell ⟨b, i, none⟩ v) c p :=
 ⟨h.nx.set f1 i v, h.gs.set f2 i v, h.ou.set f3 i v, h.ln, h.lg, h.lo⟩
theorem DrawPlace_c (a : Option Addr) (c : Nat) (bs : List Int) (w : World) (hB : BytesAt w a bs) (hl : bs.length ≤ 1048576) (hc : bs.length ≤ c) (hcm : c ≤ maxLen) :
  Calls Try.prog 13 #[.slice a bs.length c] w (DrawnPost w 9) := by
 go_enter Try.func13, Try.ntmps13
 go_wp2_with fail
 have b0 := heap_alloc_new w (.cells #[.int .i64 0, .slice none 0 0, .slice none 0 0, .slice none 0 0] 26)
 have E0 : Ext w (w.alloc (.cells #[.int .i64 0, .slice none 0 0, .slice none 0 0, .slice none 0 0] 26)) := (Ext.refl w).alloc _
 have z0 : (w.alloc (.cells #[.int .i64 0, .slice none 0 0, .slice none 0 0, .slice none 0 0] 26)).heap.size = w.heap.size + 1 := by simp
 have hB0 := hB.ext E0
 generalize w.alloc (.cells #[.int .i64 0, .slice none 0 0, .slice none 0 0, .slice none 0 0] 26) = W0 at *
 refine (open_c a c bs _ hB0 hl hc hcm).mono ?_
 rintro e w1 ⟨rb, bs', rfl, hR1, hrb, hE1⟩
 go_wp2_with fail
 refine (l20Circuit_c rb bs' 0 9 _ hR1 (by omega) (by omega) (by omega)).mono ?_
 rintro e w2 hD
 obtain ⟨d, p, rfl, hC, hd, hF, hR2, hG2, hcap⟩ := drawn_open hD
 have E2 : Ext W0 w2 := ext_of_gr hE1 hG2 (by omega)
 have hbox : w2.heap[w.heap.size]? = some (.cells #[.int .i64 0, .slice none 0 0, .slice none 0 0, .slice none 0 0] 26) := (Below.block E2 _ (by omega)).trans b0
 have y0 := cell_of_row w2 w.heap.size 0 _ _ _ hbox
 have y1 := cell_of_row w2 w.heap.size 1 _ _ _ hbox
 have y2 := cell_of_row w2 w.heap.size 2 _ _ _ hbox
 have y3 := cell_of_row w2 w.heap.size 3 _ _ _ hbox
 have fy : ∀ i, w2.frozen? ⟨w.heap.size, i, none⟩ = false := fun i => frozen_of_row _ _ _ _ _ hbox
 simp at y0 y1 y2 y3
 have hbw : Below w.heap.size w2 ((((w2.setCell ⟨w.heap.size, 0, none⟩ (.int .i64 d.inputs)).setCell ⟨w.heap.size, 1, none⟩ (.slice p.an d.next.length p.cn)).setCell ⟨w.heap.size, 2, none⟩ (.slice p.ag d.gates.length p.cg)).setCell ⟨w.heap.size, 3, none⟩ (.slice p.ao d.outs.length p.co)) :=
  Below.setCell (p := ⟨w.heap.size, 3, none⟩) (Below.setCell (p := ⟨w.heap.size, 2, none⟩) (Below.setCell (p := ⟨w.heap.size, 1, none⟩) (Below.setCell (p := ⟨w.heap.size, 0, none⟩) (Below.refl _ w2) (Nat.le_refl _) _) (Nat.le_refl _) _) (Nat.le_refl _) _) (Nat.le_refl _) _
 have hCx : CircAt ((((w2.setCell ⟨w.heap.size, 0, none⟩ (.int .i64 d.inputs)).setCell ⟨w.heap.size, 1, none⟩ (.slice p.an d.next.length p.cn)).setCell ⟨w.heap.size, 2, none⟩ (.slice p.ag d.gates.length p.cg)).setCell ⟨w.heap.size, 3, none⟩ (.slice p.ao d.outs.length p.co)) d p := by
  have hsz := hE1.size
  have f1 : ∀ x, p.an = some x → w.heap.size ≠ x.block := fun x hx => by have := hF.1 x hx; omega
  have f2 : ∀ x, p.ag = some x → w.heap.size ≠ x.block := fun x hx => by have := hF.2.1 x hx; omega
  have f3 : ∀ x, p.ao = some x → w.heap.size ≠ x.block := fun x hx => by have := hF.2.2 x hx; omega
  exact (((hC.set f1 f2 f3 _ _).set f1 f2 f3 _ _).set f1 f2 f3 _ _).set f1 f2 f3 _ _
 have HC := Lib.hid hCx
 clear hCx hbox
 go_wp2
 refine bodyPost_ret (v := .agg #[.int .i64 d.inputs, .slice p.an d.next.length p.cn, .slice p.ag d.gates.length p.cg, .slice p.ao d.outs.length p.co]) (by simp [results, Try.results13, go_sem, y0, y1, y2, y3]) rfl ?_
 exact ⟨d, p, rfl, HC.out, hd, Below.trans (Ext.trans E0 E2) hbw, hcap⟩
end Go.Proofs.Ytgialedmbmfejaa
