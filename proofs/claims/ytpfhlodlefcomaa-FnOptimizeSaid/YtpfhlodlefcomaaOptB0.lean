/- A circuit that is being built, with the row of the new literals. -/
import Derived.Test.YtpfhlodlefcomaaOptS
import Derived.Test.YtpfhlodlefcomaaOptN
import Derived.Test.YtpfhlodlefcomaaOptSLe
import Derived.Test.YtpfhlodlefcomaaOptSGt
import Derived.Test.YtpfhlodlefcomaaOptU
import Derived.Test.YtpfhlodlefcomaaOwn
namespace Go.Proofs.Ytpfhlodlefcomaa
open Go.RowKit
set_option maxRecDepth 100000
set_option linter.unusedVariables false
set_option linter.unusedSimpArgs false
theorem l3And_c (c : Circ) (p : Where3) (a b : Int) (w : World) (base : Nat) (hO : w.ownsRow base 46 2 (.slice p.ag c.gates.length p.cg) c.gates.length (flat c.gates)) (hbase : base ≤ w.heap.size)
    (i0 : 0 ≤ c.inputs) (i4 : c.inputs ≤ 4) (ln : c.next.length ≤ 3) (lg : c.gates.length ≤ 100) (a0 : 0 ≤ a) (b0 : 0 ≤ b) (a9 : a ≤ 10000) (b9 : b ≤ 10000) :
    Calls Try.prog 77 #[.agg #[.int .i64 c.inputs, .slice p.an c.next.length p.cn, .slice p.ag c.gates.length p.cg, .slice p.ao c.outs.length p.co], .int .i64 a, .int .i64 b] w (AndPost w base c p (andG c.first c.gates a b)) := by
  unfold andG
  by_cases h : b < a
  · rw [if_pos h]; exact l3AndGt_c c p b a w base hO hbase i0 i4 ln lg b0 a9 h
  · rw [if_neg h]; exact l3AndLe_c c p a b w base hO hbase i0 i4 ln lg a0 b9 (by omega)
/-- A circuit that the call owns: its three rows lie apart. -/
structure OwnC (w : World) (base : Nat) (c : Circ) (nv gv ov : Value) : Prop where
  nx : w.ownsRow base 3 1 nv c.next.length (c.next.map (Value.int .i64))
  gs : w.ownsRow base 46 2 gv c.gates.length (flat c.gates)
  os : w.ownsRow base 3 1 ov c.outs.length (c.outs.map (Value.int .i64))
  ng : ∀ k, nv.ownBlock = some k → gv.ownBlock ≠ some k
  no : ∀ k, nv.ownBlock = some k → ov.ownBlock ≠ some k
  go : ∀ k, gv.ownBlock = some k → ov.ownBlock ≠ some k
def GiveC (w : World) (c : Circ) (e : Ending) (w' : World) : Prop := ∃ nv gv ov, e = .returned (.agg #[.int .i64 c.inputs, nv, gv, ov]) ∧ OwnC w' w.heap.size c nv gv ov ∧ Ext w w'
section
variable {w w' : World} {base : Nat} {c : Circ} {nv gv ov : Value}
theorem OwnC.ext (h : OwnC w base c nv gv ov) (e : Ext w w') : OwnC w' base c nv gv ov := { h with nx := ownsRow_ext h.nx e, gs := ownsRow_ext h.gs e, os := ownsRow_ext h.os e }
theorem OwnC.le (h : OwnC w base c nv gv ov) {b : Nat} (hb : b ≤ base) : OwnC w b c nv gv ov := { h with nx := ownsRow_base h.nx hb, gs := ownsRow_base h.gs hb, os := ownsRow_base h.os hb }
theorem OwnC.set (h : OwnC w base c nv gv ov) {B : Nat} (hB : B < base) (i : Nat) (u : Value) : OwnC (w.setCell ⟨B, i, none⟩ u) base c nv gv ov :=
  { h with nx := ownsRow_set h.nx (fun e => by have := (h.nx.lt _ e).1; dsimp only at this; omega) _, gs := ownsRow_set h.gs (fun e => by have := (h.gs.lt _ e).1; dsimp only at this; omega) _, os := ownsRow_set h.os (fun e => by have := (h.os.lt _ e).1; dsimp only at this; omega) _ }
theorem OwnC.nil : OwnC w base ⟨0, [], [], []⟩ (.slice none 0 0) (.slice none 0 0) (.slice none 0 0) := ⟨ownsRow_nil, ownsRow_nil, ownsRow_nil, by simp [Value.ownBlock], by simp [Value.ownBlock], by simp [Value.ownBlock]⟩
/-- The rows, as slices, and where they lie. -/
theorem OwnC.opened (h : OwnC w base c nv gv ov) (ln : c.next.length ≤ 1048576) (lg : c.gates.length ≤ 1048576) (lo : c.outs.length ≤ 1048576) : ∃ p : Where3, nv = .slice p.an c.next.length p.cn ∧ gv = .slice p.ag c.gates.length p.cg ∧ ov = .slice p.ao c.outs.length p.co ∧ CircAt w c p ∧
    (∀ x, p.an = some x → base ≤ x.block) ∧ (∀ x, p.ag = some x → base ≤ x.block) ∧ (∀ x, p.ao = some x → base ≤ x.block) ∧ c.next.length ≤ p.cn ∧ p.cn ≤ maxLen ∧ c.gates.length ≤ p.cg ∧ p.cg ≤ maxLen ∧ c.outs.length ≤ p.co ∧ p.co ≤ maxLen := by
  obtain ⟨na, nc, rfl, nr, n1, n2, nb⟩ := ownsRow_row h.nx
  obtain ⟨ga, gc, rfl, gr, g1, g2, gb⟩ := ownsRow_row h.gs
  obtain ⟨oa, oc, rfl, or_, o1, o2, ob⟩ := ownsRow_row h.os
  exact ⟨⟨na, nc, ga, gc, oa, oc⟩, rfl, rfl, rfl, ⟨intsAt_of_row nr, pairsAt_of_row gr, intsAt_of_row or_, ln, lg, lo⟩, fun x hx => (nb x hx).1, fun x hx => (gb x hx).1, fun x hx => (ob x hx).1, n1, n2, g1, g2, o1, o2⟩
end
/-- .. and the row of the new literals beside it. -/
structure BSt (w : World) (base cb : Nat) (c : Circ) (nv gv ov mv : Value) (ms : List Int) : Prop where
  b : CBuild w base cb c nv gv ov
  m : w.ownsRow base 3 1 mv ms.length (ms.map (Value.int .i64))
  m1 : mv.ownBlock ≠ some cb
  mn : ∀ k, mv.ownBlock = some k → nv.ownBlock ≠ some k
  mg : ∀ k, mv.ownBlock = some k → gv.ownBlock ≠ some k
  mo : ∀ k, mv.ownBlock = some k → ov.ownBlock ≠ some k
section
variable {w w' : World} {base cb : Nat} {c : Circ} {nv gv ov mv : Value} {ms : List Int}
theorem BSt.ext (h : BSt w base cb c nv gv ov mv ms) (e : Ext w w') : BSt w' base cb c nv gv ov mv ms := { h with b := h.b.ext e, m := ownsRow_ext h.m e }
theorem BSt.own (h : BSt w base cb c nv gv ov mv ms) : OwnC w base c nv gv ov := ⟨h.b.nx, h.b.gs, h.b.os, h.b.ng, h.b.no, h.b.go⟩
/-- 'm = append(m, x)' -/
theorem BSt.app (h : BSt w base cb c nv gv ov mv ms) {w1 : World} {mv' : Value} {n : Nat} {xs : List Int} (hg : w.grownBy w1 mv.ownBlock) (hm : RowMoved w mv mv') (hn : n = (ms ++ xs).length) (ho : w1.ownsRow base 3 1 mv' n (ms.map (Value.int .i64) ++ xs.map (Value.int .i64))) : BSt w1 base cb c nv gv ov mv' (ms ++ xs) := by
  have lt : ∀ k, nv.ownBlock = some k → k < w.heap.size := fun k hk => (h.b.nx.lt k hk).2
  refine ⟨{ h.b with blk := (hg.block cb h.b.lt (fun e => h.m1 e.symm)).trans h.b.blk, nx := ownsRow_gr h.b.nx hg (off_row (off_swap h.mn)), gs := ownsRow_gr h.b.gs hg (off_row (off_swap h.mg)), os := ownsRow_gr h.b.os hg (off_row (off_swap h.mo)) }, ?_, moved_cb hm h.b.lt h.m1, ?_, ?_, ?_⟩
  · rw [List.map_append, ← hn]; exact ho
  · exact off_swap (moved_off hm (fun k hk => (h.b.nx.lt k hk).2) (off_swap h.mn))
  · exact off_swap (moved_off hm (fun k hk => (h.b.gs.lt k hk).2) (off_swap h.mg))
  · exact off_swap (moved_off hm (fun k hk => (h.b.os.lt k hk).2) (off_swap h.mo))
theorem BSt.ext_app {w0 w1 : World} (h : BSt w base cb c nv gv ov mv ms) (e : Ext w0 w) (hb : w0.heap.size ≤ base) (hg : w.grownBy w1 mv.ownBlock) : Ext w0 w1 := ext_grown e hg (fun k hk => by have := (h.m.lt k hk).1; omega)
/-- The gates are replaced: all four cells of the box are written. -/
theorem BSt.put (h : BSt w base cb c nv gv ov mv ms) {w1 : World} {gv' : Value} {gs : List (Int × Int)} (e : Ext w w1) (ho : w1.ownsRow base 46 2 gv' gs.length (flat gs)) (hs : gv' = gv ∨ ∀ k, gv'.ownBlock = some k → w.heap.size ≤ k) :
    BSt ((((w1.setCell ⟨cb, 0, none⟩ (.int .i64 c.inputs)).setCell ⟨cb, 1, none⟩ nv).setCell ⟨cb, 2, none⟩ gv').setCell ⟨cb, 3, none⟩ ov) base cb { c with gates := gs } nv gv' ov mv ms := by
  have h1 := h.ext e
  have gcb : gv'.ownBlock ≠ some cb := by
    rcases hs with rfl | hs
    · exact h.b.g1
    · intro hk; have := hs _ hk; have := h.b.lt; omega
  have off : ∀ {u : Value} {t : TypeId} {size n : Nat} {xs : List Value}, w.ownsRow base t size u n xs → (∀ k, u.ownBlock = some k → gv.ownBlock ≠ some k) → ∀ k, u.ownBlock = some k → gv'.ownBlock ≠ some k := by
    intro u t size n xs hu hd k hk
    rcases hs with rfl | hs
    · exact hd k hk
    · intro hk2; have := hs _ hk2; have := (hu.lt k hk).2; omega
  have st : ∀ {u : Value} {t : TypeId} {size n : Nat} {xs : List Value}, w1.ownsRow base t size u n xs → u.ownBlock ≠ some cb → ((((w1.setCell ⟨cb, 0, none⟩ (.int .i64 c.inputs)).setCell ⟨cb, 1, none⟩ nv).setCell ⟨cb, 2, none⟩ gv').setCell ⟨cb, 3, none⟩ ov).ownsRow base t size u n xs :=
    fun hu hn => ownsRow_set (ownsRow_set (ownsRow_set (ownsRow_set hu hn _) hn _) hn _) hn _
  have B : Blk w1 cb 26 [.int .i64 c.inputs, nv, gv, ov] := h1.b.blk
  have B4 := (((B.set 0 (.int .i64 c.inputs)).set 1 nv).set 2 gv').set 3 ov
  exact ⟨⟨B4, h.b.hb, st h1.b.nx h.b.n1, st ho gcb, st h1.b.os h.b.o1, h.b.n1, gcb, h.b.o1, off h.b.nx h.b.ng, h.b.no, off_swap (off h.b.os (off_swap h.b.go))⟩, st h1.m h.m1, h.m1, h.mn, off h.m h.mg, h.mo⟩
/-- 'c.Gates = append(c.Gates, ..)' -/
theorem BSt.addGates (h : BSt w base cb c nv gv ov mv ms) {w1 : World} {gv' : Value} {gs : List (Int × Int)} (hg : w.grownBy w1 gv.ownBlock) (hm : RowMoved w gv gv') (ho : w1.ownsRow base 46 2 gv' gs.length (flat gs)) :
    BSt (w1.setCell ⟨cb, 2, none⟩ gv') base cb { c with gates := gs } nv gv' ov mv ms :=
  ⟨h.b.addGates hg hm ho, ownsRow_set (ownsRow_gr h.m hg (off_row h.mg)) h.m1 _, h.m1, h.mn, moved_off hm (fun k hk => (h.m.lt k hk).2) h.mg, h.mo⟩
theorem BSt.addOuts (h : BSt w base cb c nv gv ov mv ms) {w1 : World} {ov' : Value} {xs : List Int} (hg : w.grownBy w1 ov.ownBlock) (hm : RowMoved w ov ov') (ho : w1.ownsRow base 3 1 ov' xs.length (xs.map (Value.int .i64))) :
    BSt (w1.setCell ⟨cb, 3, none⟩ ov') base cb { c with outs := xs } nv gv ov' mv ms :=
  ⟨h.b.addOuts hg hm ho, ownsRow_set (ownsRow_gr h.m hg (off_row h.mo)) h.m1 _, h.m1, h.mn, h.mg, moved_off hm (fun k hk => (h.m.lt k hk).2) h.mo⟩
/-- 'c.Next[i] = x' -/
theorem BSt.setNext {na : Nat} {n nc : Nat} (h : BSt w base cb c (.slice (some ⟨na, 0, none⟩) n nc) gv ov mv ms) (i : Nat) (x : Int) (hi : i < c.next.length) (hn : n = c.next.length) :
    BSt (w.setCell ⟨na, i, none⟩ (.int .i64 x)) base cb { c with next := c.next.set i x } (.slice (some ⟨na, 0, none⟩) n nc) gv ov mv ms := by
  subst hn
  have hne : na ≠ cb := fun e => h.b.n1 (by rw [e]; rfl)
  refine ⟨⟨?_, h.b.hb, ?_, ownsRow_set h.b.gs (h.b.ng na rfl) _, ownsRow_set h.b.os (h.b.no na rfl) _, h.b.n1, h.b.g1, h.b.o1, h.b.ng, h.b.no, h.b.go⟩, ownsRow_set h.m (fun e => h.mn na e rfl) _, h.m1, h.mn, h.mg, h.mo⟩
  · exact (heap_setCell_other w _ cb _ (by show cb ≠ na; exact fun e => hne e.symm)).trans h.b.blk
  · have := ownsRow_setAt h.b.nx i (by simpa using hi) (.int .i64 x)
    simpa only [List.length_set, List.map_set] using this
end
theorem and_same {ag ga : Option Addr} {cg gc m n : Nat} {gs gs' : List (Int × Int)} (h : (ag = ga ∧ cg = gc ∧ gs' = gs) ∨ ∀ k, (Value.slice ag gs'.length cg).ownBlock = some k → m ≤ k) (hn : n ≤ m) :
    (Value.slice ag gs'.length cg) = .slice ga gs.length gc ∨ ∀ k, (Value.slice ag gs'.length cg).ownBlock = some k → n ≤ k := by
  rcases h with ⟨rfl, rfl, rfl⟩ | h
  · exact .inl rfl
  · exact .inr (fun k hk => Nat.le_trans hn (h k hk))
theorem and_ne {w : World} {base b : Nat} {t : TypeId} {size l : Nat} {xs : List Value} {ag ga : Option Addr} {cg gc m : Nat} {gs gs' : List (Int × Int)} (h : (ag = ga ∧ cg = gc ∧ gs' = gs) ∨ ∀ k, (Value.slice ag gs'.length cg).ownBlock = some k → m ≤ k)
    (o : w.ownsRow base t size (.slice ga gs.length gc) l xs) (hb : w.heap.size ≤ b) (hm : b < m) : (Value.slice ag gs'.length cg).ownBlock ≠ some b := by
  intro e
  rcases h with ⟨rfl, rfl, rfl⟩ | h
  · have := (o.lt _ e).2; omega
  · have := h _ e; omega
end Go.Proofs.Ytpfhlodlefcomaa
