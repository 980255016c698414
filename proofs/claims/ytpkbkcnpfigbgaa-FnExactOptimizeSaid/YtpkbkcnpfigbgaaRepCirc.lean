/- A circuit that a call gives back, as the exact laws compare and mark it. -/
import Derived.Test.YtpkbkcnpfigbgaaRepInts
import Derived.Test.YtpkbkcnpfigbgaaOptB0
namespace Go.Proofs.Ytpkbkcnpfigbgaa
open Go.RowKit
set_option maxRecDepth 100000
set_option linter.unusedVariables false
set_option linter.unusedSimpArgs false
def SmallC (c : Circ) : Prop := c.next.length ≤ 1048576 ∧ c.gates.length ≤ 1048576 ∧ c.outs.length ≤ 1048576
structure RepCirc (w : World) (b N : Nat) (i : Int) (nv gv ov : Value) (c : Circ) : Prop where
  ie : i = c.inputs
  own : OwnC w b c nv gv ov
  u1 : ∀ k, nv.ownBlock = some k → k < N
  u2 : ∀ k, gv.ownBlock = some k → k < N
  u3 : ∀ k, ov.ownBlock = some k → k < N
  sm : SmallC c
theorem GiveCirc.rep' {w w' : World} {c : Circ} {e : Ending} (h : GiveC w c e w') (hs : SmallC c := by assumption) : ∃ i a1 n1 c1 a2 n2 c2 a3 n3 c3, e = .returned (.agg #[.int .i64 i, .slice a1 n1 c1, .slice a2 n2 c2, .slice a3 n3 c3]) ∧ RepCirc w' w.heap.size w'.heap.size i (.slice a1 n1 c1) (.slice a2 n2 c2) (.slice a3 n3 c3) c ∧ Ext w w' := by
  obtain ⟨nv, gv, ov, rfl, ho, hE⟩ := h
  obtain ⟨p, rfl, rfl, rfl, _⟩ := ho.opened hs.1 hs.2.1 hs.2.2
  exact ⟨_, _, _, _, _, _, _, _, _, _, rfl, ⟨rfl, ho, fun k hk => (ho.nx.lt k hk).2, fun k hk => (ho.gs.lt k hk).2, fun k hk => (ho.os.lt k hk).2, hs⟩, hE⟩
section
variable {w w' : World} {b b2 N n1 c1 n2 c2 n3 c3 : Nat} {a1 a2 a3 : Option Addr} {i i' : Int} {v1 v2 v3 : Value} {x : Circ}
theorem RepCirc.ext (h : RepCirc w b N i v1 v2 v3 x) (e : Ext w w') : RepCirc w' b N i v1 v2 v3 x := { h with own := h.own.ext e }
theorem RepCirc.le (h : RepCirc w b N i v1 v2 v3 x) (hb : b2 ≤ b) : RepCirc w b2 N i v1 v2 v3 x := { h with own := h.own.le hb }
theorem RepCirc.hi {n m : Nat} (h : RepCirc w b N i v1 v2 v3 x) (g : Mid n m w w') (hb : m ≤ b) : RepCirc w' b N i v1 v2 v3 x :=
  { h with own := { h.own with nx := ownsRow_hi h.own.nx g hb, gs := ownsRow_hi h.own.gs g hb, os := ownsRow_hi h.own.os g hb } }
/-- The rows' lengths are the circuit's. -/
theorem RepCirc.opened (h : RepCirc w b N i (.slice a1 n1 c1) (.slice a2 n2 c2) (.slice a3 n3 c3) x) : n1 = x.next.length ∧ n2 = x.gates.length ∧ n3 = x.outs.length ∧ CircAt w x ⟨a1, c1, a2, c2, a3, c3⟩ := by
  obtain ⟨p, e1, e2, e3, hc, _⟩ := h.own.opened h.sm.1 h.sm.2.1 h.sm.2.2
  cases e1; cases e2; cases e3
  exact ⟨rfl, rfl, rfl, hc⟩
theorem eqCirc_R {b3 N3 m1 d1 m2 d2 m3 d3 : Nat} {p1 p2 p3 : Option Addr} (h : RepCirc w b N i (.slice a1 n1 c1) (.slice a2 n2 c2) (.slice a3 n3 c3) x) (h' : RepCirc w b3 N3 i' (.slice p1 m1 d1) (.slice p2 m2 d2) (.slice p3 m3 d3) x) :
    Calls Try.prog 36 #[.agg #[.int .i64 i, .slice a1 n1 c1, .slice a2 n2 c2, .slice a3 n3 c3], .agg #[.int .i64 i', .slice p1 m1 d1, .slice p2 m2 d2, .slice p3 m3 d3]] w fun e w' => e = .returned (.bool true) ∧ Ext w w' := by
  obtain ⟨rfl, rfl, rfl, hc⟩ := h.opened
  obtain ⟨rfl, rfl, rfl, hc'⟩ := h'.opened
  have e1 := h.ie
  have e2 := h'.ie
  clear h h'
  subst e1
  subst e2
  exact eqCircuit_c x ⟨a1, c1, a2, c2, a3, c3⟩ ⟨p1, d1, p2, d2, p3, d3⟩ w hc hc'
def MkCirc (w : World) (v1 v2 v3 : Value) (km : Int) : Prop := ∃ n1 n2 n3 : Nat, km = 1 + n1 + n2 * 2 + n3 ∧ (∃ a c, v1 = .slice a n1 c ∧ IntsAt w a (mksI 1 n1)) ∧ (∃ a c, v2 = .slice a n2 c ∧ PairsAt w a (mksG (1 + n1) n2)) ∧ (∃ a c, v3 = .slice a n3 c ∧ IntsAt w a (mksI (1 + n1 + n2 * 2) n3)) ∧ n1 ≤ 1048576 ∧ n2 ≤ 1048576 ∧ n3 ≤ 1048576
theorem MkCirc.ext {k : Int} (h : MkCirc w v1 v2 v3 k) (e : Ext w w') : MkCirc w' v1 v2 v3 k := by
  obtain ⟨n1, n2, n3, h1, ⟨a, c, h2, h3⟩, ⟨a', c', h4, h5⟩, ⟨a2, c2, h6, h7⟩, h8⟩ := h
  exact ⟨n1, n2, n3, h1, ⟨a, c, h2, h3.ext e⟩, ⟨a', c', h4, h5.ext e⟩, ⟨a2, c2, h6, h7.ext e⟩, h8⟩
theorem MkCirc.kb {k : Int} (h : MkCirc w v1 v2 v3 k) : 0 ≤ k ∧ k ≤ 100000000 := by
  obtain ⟨n1, n2, n3, rfl, _, _, _, _, _, _⟩ := h
  omega
theorem markCirc_R (h : RepCirc w b N i (.slice a1 n1 c1) (.slice a2 n2 c2) (.slice a3 n3 c3) x) :
    Calls Try.prog 37 #[.agg #[.int .i64 i, .slice a1 n1 c1, .slice a2 n2 c2, .slice a3 n3 c3], .int .i64 1] w fun e w' => ∃ km, e = .returned (.int .i64 km) ∧ MkCirc w' (.slice a1 n1 c1) (.slice a2 n2 c2) (.slice a3 n3 c3) km ∧ Mid b N w w' := by
  obtain ⟨e1, e2, e3, _⟩ := h.opened
  subst e1 e2 e3
  obtain ⟨hie, ho, u1, u2, u3, s1, s2, s3⟩ := h
  clear hie
  have L1 := fun k hk => (ho.nx.lt k hk).1
  have L2 := fun k hk => (ho.gs.lt k hk).1
  have L3 := fun k hk => (ho.os.lt k hk).1
  have y := Blk.at w [.int .i64 i, .slice a1 x.next.length c1, .slice a2 x.gates.length c2, .slice a3 x.outs.length c3] 42 rfl
  go_enter Try.func37, Try.ntmps37
  go_wp2_with fail
  refine (markIntS_o b a1 c1 x.next 1 _ (ownsRow_ext ho.nx (by (repeat (first | with_reducible assumption | with_reducible exact Ext.refl _ | with_reducible refine Ext.drew' ?_ | with_reducible refine Ext.drewN' ?_ _ | with_reducible refine Ext.alloc ?_ _ | (with_reducible refine Ext.setNew ?_ (by first | exact Nat.le_refl _ | (simp; done) | (simp; omega) | omega) _))))) (by omega) (by omega) s1).mono ?_
  rintro e w1 ⟨rfl, o1, g1⟩
  have M1 : Mid b N w w1 := (Mid.ofExt (by (repeat (first | with_reducible assumption | with_reducible exact Ext.refl _ | with_reducible refine Ext.drew' ?_ | with_reducible refine Ext.drewN' ?_ _ | with_reducible refine Ext.alloc ?_ _ | (with_reducible refine Ext.setNew ?_ (by first | exact Nat.le_refl _ | (simp; done) | (simp; omega) | omega) _))))).trans (Mid.ofOwn g1 L1 u1)
  have y1 : Blk w1 w.heap.size _ _ := y.gr g1 (by intro hh; have := (ho.nx.lt _ hh).2; omega)
  have h2 := ownsRow_gr (ownsRow_ext ho.gs (show Ext w _ by (repeat (first | with_reducible assumption | with_reducible exact Ext.refl _ | with_reducible refine Ext.drew' ?_ | with_reducible refine Ext.drewN' ?_ _ | with_reducible refine Ext.alloc ?_ _ | (with_reducible refine Ext.setNew ?_ (by first | exact Nat.le_refl _ | (simp; done) | (simp; omega) | omega) _))))) g1 (off_row (off_swap ho.ng))
  have h3 := ownsRow_gr (ownsRow_ext ho.os (show Ext w _ by (repeat (first | with_reducible assumption | with_reducible exact Ext.refl _ | with_reducible refine Ext.drew' ?_ | with_reducible refine Ext.drewN' ?_ _ | with_reducible refine Ext.alloc ?_ _ | (with_reducible refine Ext.setNew ?_ (by first | exact Nat.le_refl _ | (simp; done) | (simp; omega) | omega) _))))) g1 (off_row (off_swap ho.no))
  have y11 := y1.cell (i := 2) rfl
  go_wp2_with fail
  refine (markGateS_o b a2 c2 x.gates _ _ h2 (by omega) (by omega) s2).mono ?_
  rintro e w2 ⟨rfl, o2, g2⟩
  have M2 : Mid b N w w2 := M1.trans (Mid.ofOwn g2 L2 u2)
  have y2 : Blk w2 w.heap.size _ _ := y1.gr g2 (by intro hh; have := (ho.gs.lt _ hh).2; omega)
  have o1' := ownsRow_gr o1 g2 (off_row ho.ng)
  have h3' := ownsRow_gr h3 g2 (off_row (off_swap ho.go))
  have y21 := y2.cell (i := 3) rfl
  go_wp2_with fail
  refine (markIntS_o b a3 c3 x.outs _ _ h3' (by omega) (by omega) s3).mono ?_
  rintro e w3 ⟨rfl, o3, g3⟩
  have M3 : Mid b N w w3 := M2.trans (Mid.ofOwn g3 L3 u3)
  have q1 := intsAt_of_row (ownsRow_at (ownsRow_gr o1' g3 (off_row ho.no)))
  have q2 := pairsAt_of_row (ownsRow_at (ownsRow_gr o2 g3 (off_row ho.go)))
  have q3 := intsAt_of_row (ownsRow_at o3)
  go_wp2
  go_ret
  exact ⟨_, rfl, ⟨_, _, _, rfl, ⟨_, _, rfl, q1⟩, ⟨_, _, rfl, q2⟩, ⟨_, _, rfl, q3⟩, s1, s2, s3⟩, M3⟩
theorem heldCirc_R {km : Int} (h : MkCirc w (.slice a1 n1 c1) (.slice a2 n2 c2) (.slice a3 n3 c3) km) :
    Calls Try.prog 49 #[.agg #[.int .i64 i, .slice a1 n1 c1, .slice a2 n2 c2, .slice a3 n3 c3], .int .i64 1] w fun e w' => e = .returned (.int .i64 km) ∧ Ext w w' := by
  obtain ⟨m1, m2, m3, rfl, ⟨_, _, e1, k1⟩, ⟨_, _, e2, k2⟩, ⟨_, _, e3, k3⟩, s1, s2, s3⟩ := h
  cases e1; cases e2; cases e3
  have y := Blk.at w [.int .i64 i, .slice a1 n1 c1, .slice a2 n2 c2, .slice a3 n3 c3] 42 rfl
  go_enter Try.func49, Try.ntmps49
  go_wp2_with fail
  refine (heldIntS_c _ _ _ _ _ (k1.ext (by (repeat (first | with_reducible assumption | with_reducible exact Ext.refl _ | with_reducible refine Ext.drew' ?_ | with_reducible refine Ext.drewN' ?_ _ | with_reducible refine Ext.alloc ?_ _ | (with_reducible refine Ext.setNew ?_ (by first | exact Nat.le_refl _ | (simp; done) | (simp; omega) | omega) _))))) (by omega) (by omega) s1).mono ?_
  rintro e w1 ⟨rfl, rfl⟩
  go_wp2_with fail
  refine (heldGateS_c _ _ _ _ _ (k2.ext (by (repeat (first | with_reducible assumption | with_reducible exact Ext.refl _ | with_reducible refine Ext.drew' ?_ | with_reducible refine Ext.drewN' ?_ _ | with_reducible refine Ext.alloc ?_ _ | (with_reducible refine Ext.setNew ?_ (by first | exact Nat.le_refl _ | (simp; done) | (simp; omega) | omega) _))))) (by omega) (by omega) s2).mono ?_
  rintro e w2 ⟨rfl, rfl⟩
  go_wp2_with fail
  refine (heldIntS_c _ _ _ _ _ (k3.ext (by (repeat (first | with_reducible assumption | with_reducible exact Ext.refl _ | with_reducible refine Ext.drew' ?_ | with_reducible refine Ext.drewN' ?_ _ | with_reducible refine Ext.alloc ?_ _ | (with_reducible refine Ext.setNew ?_ (by first | exact Nat.le_refl _ | (simp; done) | (simp; omega) | omega) _))))) (by omega) (by omega) s3).mono ?_
  rintro e w3 ⟨rfl, rfl⟩
  go_wp2
  go_ret
  exact ⟨rfl, by (repeat (first | with_reducible assumption | with_reducible exact Ext.refl _ | with_reducible refine Ext.drew' ?_ | with_reducible refine Ext.drewN' ?_ _ | with_reducible refine Ext.alloc ?_ _ | (with_reducible refine Ext.setNew ?_ (by first | exact Nat.le_refl _ | (simp; done) | (simp; omega) | omega) _)))⟩
end
end Go.Proofs.Ytpkbkcnpfigbgaa
