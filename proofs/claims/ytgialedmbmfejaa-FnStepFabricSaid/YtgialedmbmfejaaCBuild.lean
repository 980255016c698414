/- A circuit that is being built in a box: its three rows lie apart. -/
import Derived.Test.YtgialedmbmfejaaLib2
import Derived.Test.YtgialedmbmfejaaOffB
namespace Go.Proofs.Ytgialedmbmfejaa
open Go.RowKit
set_option maxRecDepth 100000
set_option linter.unusedVariables false
set_option linter.unusedSimpArgs false
theorem tyGates : RowTy Try.prog 24 100 2 16 := RowTy.mk' (z := .agg #[.int .i64 0, .int .i64 0]) Try.underlying24 (by kernel_rfl) rfl (by decide) (by decide)
/-- A circuit that is being built in a box of the call's own: block cb holds it; its three rows lie apart. -/
structure CBuild (w : World) (base cb : Nat) (c : Circ) (nv gv ov : Value) : Prop where
 blk : w.heap[cb]? = some (.cells #[.int .i64 c.inputs, nv, gv, ov] 26 (0, 0))
 hb : base ≤ cb
 nx : w.ownsRow base 3 1 nv c.next.length (c.next.map (Value.int .i64))
 gs : w.ownsRow base 100 2 gv c.gates.length (flat c.gates)
 os : w.ownsRow base 3 1 ov c.outs.length (c.outs.map (Value.int .i64))
 n1 : nv.ownBlock ≠ some cb
 g1 : gv.ownBlock ≠ some cb
 o1 : ov.ownBlock ≠ some cb
 ng : ∀ k, nv.ownBlock = some k → gv.ownBlock ≠ some k
 no : ∀ k, nv.ownBlock = some k → ov.ownBlock ≠ some k
 go : ∀ k, gv.ownBlock = some k → ov.ownBlock ≠ some k
section
variable {w w' : World} {base cb : Nat} {c : Circ} {nv gv ov : Value}
theorem CBuild.lt (h : CBuild w base cb c nv gv ov) : cb < w.heap.size := (Array.getElem?_eq_some_iff.1 h.blk).1
theorem CBuild.keep (h : CBuild w base cb c nv gv ov) {rb : Nat} (hg : w.grownBy w' (some rb)) (hrb : rb < base) : CBuild w' base cb c nv gv ov := by
 have off : ∀ {v : Value} {e : TypeId} {size n : Nat} {xs : List Value}, w.ownsRow base e size v n xs → v.ownBlock = none ∨ v.ownBlock ≠ some rb := by
  intro v e size n xs hv
  right
  intro h
  have := (hv.lt rb h).1
  omega
 exact { h with
  blk := (hg.block cb h.lt (by intro e; have : cb = rb := (by simpa using e); have := h.hb; omega)).trans h.blk
  nx := ownsRow_gr h.nx hg (off h.nx)
  gs := ownsRow_gr h.gs hg (off h.gs)
  os := ownsRow_gr h.os hg (off h.os) }
theorem CBuild.ext (h : CBuild w base cb c nv gv ov) (hE : Ext w w') : CBuild w' base cb c nv gv ov :=
 { h with
  blk := (Below.block hE cb h.lt).trans h.blk
  nx := ownsRow_ext h.nx hE
  gs := ownsRow_ext h.gs hE
  os := ownsRow_ext h.os hE }
theorem CBuild.cells (h : CBuild w base cb c nv gv ov) :
  w.cell? ⟨cb, 0, none⟩ = some (.int .i64 c.inputs) ∧ w.cell? ⟨cb, 1, none⟩ = some nv ∧ w.cell? ⟨cb, 2, none⟩ = some gv ∧ w.cell? ⟨cb, 3, none⟩ = some ov ∧ ∀ i, w.frozen? ⟨cb, i, none⟩ = false := by
 refine ⟨?_, ?_, ?_, ?_, fun i => frozen_of_row _ _ _ _ _ h.blk⟩ <;> rw [cell_of_row _ _ _ _ _ _ h.blk] <;> rfl
/-- What an append into one of the rows keeps of the others. -/
theorem moved_off {w : World} {v v' u : Value} (hm : RowMoved w v v') (hu : ∀ k, u.ownBlock = some k → k < w.heap.size) (hd : ∀ k, u.ownBlock = some k → v.ownBlock ≠ some k) : ∀ k, u.ownBlock = some k → v'.ownBlock ≠ some k := by
 intro k hk
 rcases hm with e | ⟨j, e, hj⟩
 ·rw [e]; exact hd k hk
 ·rw [e]; intro e'; have : j = k := by simpa using e'
  have := hu k hk
  omega
theorem moved_cb {w : World} {v v' : Value} {cb : Nat} (hm : RowMoved w v v') (hlt : cb < w.heap.size) (h1 : v.ownBlock ≠ some cb) : v'.ownBlock ≠ some cb := by
 rcases hm with e | ⟨k, e, hk⟩
 ·rw [e]; exact h1
 ·rw [e]; intro e'; have : k = cb := by simpa using e'
  omega
/-- 'c.Gates = append(c.Gates, ..)': the row has grown, and the field is written. -/
theorem CBuild.addGates (h : CBuild w base cb c nv gv ov) {w1 : World} {gv' : Value} {gs : List (Int × Int)} (hg : w.grownBy w1 gv.ownBlock) (hm : RowMoved w gv gv') (ho : w1.ownsRow base 100 2 gv' gs.length (flat gs)) :
  CBuild (w1.setCell ⟨cb, 2, none⟩ gv') base cb { c with gates := gs } nv gv' ov := by
 have hcb : w1.heap[cb]? = some (.cells #[.int .i64 c.inputs, nv, gv, ov] 26 (0, 0)) := (hg.block cb h.lt (fun e => h.g1 e.symm)).trans h.blk
 have gcb := moved_cb hm h.lt h.g1
 refine ⟨?_, h.hb, ?_, ?_, ?_, h.n1, gcb, h.o1, ?_, h.no, ?_⟩
 ·rw [heap_setCell_same _ _ _ _ _ _ hcb]; simp
 ·exact ownsRow_set (ownsRow_gr h.nx hg (off_row h.ng)) h.n1 _
 ·exact ownsRow_set ho gcb _
 ·exact ownsRow_set (ownsRow_gr h.os hg (off_row (off_swap h.go))) h.o1 _
 ·exact moved_off hm (fun k hk => (h.nx.lt k hk).2) h.ng
 ·exact off_swap (moved_off hm (fun k hk => (h.os.lt k hk).2) (off_swap h.go))
theorem CBuild.addNext (h : CBuild w base cb c nv gv ov) {w1 : World} {nv' : Value} {xs : List Int} (hg : w.grownBy w1 nv.ownBlock) (hm : RowMoved w nv nv') (ho : w1.ownsRow base 3 1 nv' xs.length (xs.map (Value.int .i64))) :
  CBuild (w1.setCell ⟨cb, 1, none⟩ nv') base cb { c with next := xs } nv' gv ov := by
 have hcb : w1.heap[cb]? = some (.cells #[.int .i64 c.inputs, nv, gv, ov] 26 (0, 0)) := (hg.block cb h.lt (fun e => h.n1 e.symm)).trans h.blk
 have ncb := moved_cb hm h.lt h.n1
 refine ⟨?_, h.hb, ?_, ?_, ?_, ncb, h.g1, h.o1, ?_, ?_, h.go⟩
 ·rw [heap_setCell_same _ _ _ _ _ _ hcb]; simp
 ·exact ownsRow_set ho ncb _
 ·exact ownsRow_set (ownsRow_gr h.gs hg (off_row (off_swap h.ng))) h.g1 _
 ·exact ownsRow_set (ownsRow_gr h.os hg (off_row (off_swap h.no))) h.o1 _
 ·exact off_swap (moved_off hm (fun k hk => (h.gs.lt k hk).2) (off_swap h.ng))
 ·exact off_swap (moved_off hm (fun k hk => (h.os.lt k hk).2) (off_swap h.no))
theorem CBuild.addOuts (h : CBuild w base cb c nv gv ov) {w1 : World} {ov' : Value} {xs : List Int} (hg : w.grownBy w1 ov.ownBlock) (hm : RowMoved w ov ov') (ho : w1.ownsRow base 3 1 ov' xs.length (xs.map (Value.int .i64))) :
  CBuild (w1.setCell ⟨cb, 3, none⟩ ov') base cb { c with outs := xs } nv gv ov' := by
 have hcb : w1.heap[cb]? = some (.cells #[.int .i64 c.inputs, nv, gv, ov] 26 (0, 0)) := (hg.block cb h.lt (fun e => h.o1 e.symm)).trans h.blk
 have ocb := moved_cb hm h.lt h.o1
 refine ⟨?_, h.hb, ?_, ?_, ?_, h.n1, h.g1, ocb, h.ng, ?_, ?_⟩
 ·rw [heap_setCell_same _ _ _ _ _ _ hcb]; simp
 ·exact ownsRow_set (ownsRow_gr h.nx hg (off_row h.no)) h.n1 _
 ·exact ownsRow_set (ownsRow_gr h.gs hg (off_row h.go)) h.g1 _
 ·exact ownsRow_set ho ocb _
 ·exact moved_off hm (fun k hk => (h.nx.lt k hk).2) h.no
 ·exact moved_off hm (fun k hk => (h.gs.lt k hk).2) h.go
/-- The box's own block is still there behind an append into one of the rows. -/
theorem CBuild.box (h : CBuild w base cb c nv gv ov) {w1 : World} {v : Value} (hg : w.grownBy w1 v.ownBlock) (hv : v.ownBlock ≠ some cb) : (∃ x, w1.cell? ⟨cb, 1, none⟩ = some x) ∧ (∃ x, w1.cell? ⟨cb, 2, none⟩ = some x) ∧ (∃ x, w1.cell? ⟨cb, 3, none⟩ = some x) ∧ ∀ i, w1.frozen? ⟨cb, i, none⟩ = false := by
 have hcb : w1.heap[cb]? = some (.cells #[.int .i64 c.inputs, nv, gv, ov] 26 (0, 0)) := (hg.block cb h.lt (fun e => hv e.symm)).trans h.blk
 refine ⟨⟨nv, ?_⟩, ⟨gv, ?_⟩, ⟨ov, ?_⟩, fun i => frozen_of_row _ _ _ _ _ hcb⟩ <;> rw [cell_of_row _ _ _ _ _ _ hcb] <;> rfl
/-- 'c.Inputs = x' -/
theorem CBuild.setInputs (h : CBuild w base cb c nv gv ov) (x : Int) : CBuild (w.setCell ⟨cb, 0, none⟩ (.int .i64 x)) base cb { c with inputs := x } nv gv ov :=
 ⟨by rw [heap_setCell_same _ _ _ _ _ _ h.blk]; simp, h.hb, ownsRow_set h.nx h.n1 _, ownsRow_set h.gs h.g1 _, ownsRow_set h.os h.o1 _, h.n1, h.g1, h.o1, h.ng, h.no, h.go⟩
theorem CBuild.made (w : World) (base : Nat) (x : Int) (hb : base ≤ w.heap.size) : CBuild (w.alloc (.cells #[.int .i64 x, .slice none 0 0, .slice none 0 0, .slice none 0 0] 26)) base w.heap.size ⟨x, [], [], []⟩ (.slice none 0 0) (.slice none 0 0) (.slice none 0 0) :=
 ⟨heap_alloc_new w _, hb, ownsRow_nil, ownsRow_nil, ownsRow_nil, by simp [Value.ownBlock], by simp [Value.ownBlock], by simp [Value.ownBlock], by simp [Value.ownBlock], by simp [Value.ownBlock], by simp [Value.ownBlock]⟩
end
theorem rowAt_pair (w : World) (a b : Int) : RowAt (w.alloc (.cells #[.int .i64 a, .int .i64 b] 100)) (some ⟨w.heap.size, 0, none⟩) (flat [(a, b)]) := RowAt.new w #[.int .i64 a, .int .i64 b] _
end Go.Proofs.Ytgialedmbmfejaa
