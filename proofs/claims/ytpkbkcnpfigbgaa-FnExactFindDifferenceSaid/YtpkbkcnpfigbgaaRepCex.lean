/- What FindDifference gives back, as the exact laws compare and mark it. -/
import Derived.Test.YtpkbkcnpfigbgaaRep
import Derived.Test.YtpkbkcnpfigbgaaDiffS
namespace Go.Proofs.Ytpkbkcnpfigbgaa
open Go.RowKit
set_option maxRecDepth 100000
set_option linter.unusedVariables false
set_option linter.unusedSimpArgs false
structure RepCex (w : World) (b N : Nat) (f : Bool) (v1 v2 : Value) (x : Bool × List Bool × List Bool) : Prop where
  fe : f = x.1
  two : RepTwo w b N v1 v2 x.2
theorem GiveCex.rep' {w w' : World} {x : Bool × List Bool × List Bool} {e : Ending} (h : GiveCex w x e w') : ∃ f a1 n1 c1 a2 n2 c2, e = .returned (.agg #[.bool f, .slice a1 n1 c1, .slice a2 n2 c2]) ∧ RepCex w' w.heap.size w'.heap.size f (.slice a1 n1 c1) (.slice a2 n2 c2) x ∧ Ext w w' := by
  obtain ⟨a1, n1, c1, a2, n2, c2, h1, h2, h3⟩ := h
  exact ⟨_, _, _, _, _, _, _, h1, ⟨rfl, h2⟩, h3⟩
section
variable {w w' : World} {b b2 N n1 c1 n2 c2 : Nat} {a1 a2 : Option Addr} {f f' : Bool} {v1 v2 : Value} {x : Bool × List Bool × List Bool}
theorem RepCex.ext (h : RepCex w b N f v1 v2 x) (e : Ext w w') : RepCex w' b N f v1 v2 x := ⟨h.fe, h.two.ext e⟩
theorem RepCex.le (h : RepCex w b N f v1 v2 x) (hb : b2 ≤ b) : RepCex w b2 N f v1 v2 x := ⟨h.fe, h.two.le hb⟩
theorem RepCex.hi {n m : Nat} (h : RepCex w b N f v1 v2 x) (g : Mid n m w w') (hb : m ≤ b) : RepCex w' b N f v1 v2 x :=
  ⟨h.fe, ⟨ownsRow_hi h.two.own1 g hb, ownsRow_hi h.two.own2 g hb, h.two.up1, h.two.up2, h.two.ne, h.two.small1, h.two.small2⟩⟩
theorem RepCex.set (h : RepCex w b N f v1 v2 x) {p : Addr} (hp : p.block < b) (u : Value) : RepCex (w.setCell p u) b N f v1 v2 x := ⟨h.fe, h.two.set hp u⟩
set_option maxHeartbeats 1000000 in
theorem eqCex_R {b3 N3 m1 d1 m2 d2 : Nat} {p1 p2 : Option Addr} (h : RepCex w b N f (.slice a1 n1 c1) (.slice a2 n2 c2) x) (h' : RepCex w b3 N3 f' (.slice p1 m1 d1) (.slice p2 m2 d2) x) :
    Calls Try.prog 35 #[.agg #[.bool f, .slice a1 n1 c1, .slice a2 n2 c2], .agg #[.bool f', .slice p1 m1 d1, .slice p2 m2 d2]] w fun e w' => e = .returned (.bool true) ∧ Ext w w' := by
  obtain ⟨he, ⟨h1, h2, _, _, _, s1, s2⟩⟩ := h
  obtain ⟨he', ⟨h1', h2', _, _, _, _, _⟩⟩ := h'
  obtain rfl : f = f' := he.trans he'.symm
  clear he he'
  obtain ⟨a1, c1, e1, r1⟩ := h1.opened
  obtain ⟨a2, c2, e2, r2⟩ := h2.opened
  obtain ⟨p1, d1, e3, r3⟩ := h1'.opened
  obtain ⟨p2, d2, e4, r4⟩ := h2'.opened
  cases e1; cases e2; cases e3; cases e4
  have y := (Blk.at w [.bool f, .slice a1 x.2.1.length c1, .slice a2 x.2.2.length c2] 60 rfl).ext ((Ext.refl _).alloc (.cells #[.bool f, .slice p1 x.2.1.length d1, .slice p2 x.2.2.length d2] 60))
  have z := Blk.at (w.alloc (.cells #[.bool f, .slice a1 x.2.1.length c1, .slice a2 x.2.2.length c2] 60)) [.bool f, .slice p1 x.2.1.length d1, .slice p2 x.2.2.length d2] 60 (B := w.heap.size + 1) (by simp)
  cases f
  all_goals
    go_enter Try.func35, Try.ntmps35
    go_wp2_with fail
    refine (eqBoolS_c _ _ _ _ _ _ (r1.ext (by (repeat (first | with_reducible assumption | with_reducible exact Ext.refl _ | with_reducible refine Ext.drew' ?_ | with_reducible refine Ext.drewN' ?_ _ | with_reducible refine Ext.alloc ?_ _ | (with_reducible refine Ext.setNew ?_ (by first | exact Nat.le_refl _ | (simp; done) | (simp; omega) | omega) _))))) (r3.ext (by (repeat (first | with_reducible assumption | with_reducible exact Ext.refl _ | with_reducible refine Ext.drew' ?_ | with_reducible refine Ext.drewN' ?_ _ | with_reducible refine Ext.alloc ?_ _ | (with_reducible refine Ext.setNew ?_ (by first | exact Nat.le_refl _ | (simp; done) | (simp; omega) | omega) _))))) s1).mono ?_
    rintro e w1 ⟨rfl, hE1⟩
    have E1 := Ext.trans (a := w) (by (repeat (first | with_reducible assumption | with_reducible exact Ext.refl _ | with_reducible refine Ext.drew' ?_ | with_reducible refine Ext.drewN' ?_ _ | with_reducible refine Ext.alloc ?_ _ | (with_reducible refine Ext.setNew ?_ (by first | exact Nat.le_refl _ | (simp; done) | (simp; omega) | omega) _)))) hE1
    have y1 := (y.ext hE1).cell (i := 2) rfl
    have z1 := (z.ext hE1).cell (i := 2) rfl
    go_wp2_with fail
    refine (eqBoolS_c _ _ _ _ _ _ (r2.ext E1) (r4.ext E1) s2).mono ?_
    rintro e w2 ⟨rfl, hE2⟩
    go_wp2
    go_ret
    exact ⟨rfl, E1.trans hE2⟩
def MkCex (w : World) (v1 v2 : Value) (km : Int) : Prop := ∃ n1 n2 : Nat, km = 1 + n1 + n2 ∧ MarkedBools w v1 n1 1 ∧ MarkedBools w v2 n2 (1 + n1)
theorem MkCex.ext {k : Int} (h : MkCex w v1 v2 k) (e : Ext w w') : MkCex w' v1 v2 k := by
  obtain ⟨n, m, h1, h2, h3⟩ := h
  exact ⟨n, m, h1, h2.ext e, h3.ext e⟩
theorem MkCex.kb {k : Int} (h : MkCex w v1 v2 k) : 0 ≤ k ∧ k ≤ 100000000 := by
  obtain ⟨n, m, rfl, h2, h3⟩ := h
  have := h2.small
  have := h3.small
  omega
theorem markCex_R (h : RepCex w b N f (.slice a1 n1 c1) (.slice a2 n2 c2) x) :
    Calls Try.prog 38 #[.agg #[.bool f, .slice a1 n1 c1, .slice a2 n2 c2], .int .i64 1] w fun e w' => ∃ km, e = .returned (.int .i64 km) ∧ MkCex w' (.slice a1 n1 c1) (.slice a2 n2 c2) km ∧ Mid b N w w' := by
  obtain ⟨hfe, ⟨h1, h2, u1, u2, hne, s1, s2⟩⟩ := h
  clear hfe
  obtain ⟨a1', c1', e1, r1⟩ := h1.opened
  obtain ⟨a2', c2', e2, r2⟩ := h2.opened
  cases e1; cases e2
  have L1 := fun k hk => (h1.lt' k hk).1
  have L2 := fun k hk => (h2.lt' k hk).1
  have y := Blk.at w [.bool f, .slice a1 x.2.1.length c1, .slice a2 x.2.2.length c2] 60 rfl
  go_enter Try.func38, Try.ntmps38
  go_wp2_with fail
  refine (markBools_k (b := b) (N := N) ⟨h1.ext (by (repeat (first | with_reducible assumption | with_reducible exact Ext.refl _ | with_reducible refine Ext.drew' ?_ | with_reducible refine Ext.drewN' ?_ _ | with_reducible refine Ext.alloc ?_ _ | (with_reducible refine Ext.setNew ?_ (by first | exact Nat.le_refl _ | (simp; done) | (simp; omega) | omega) _)))), u1, s1⟩ 1 (by omega) (by omega)).mono ?_
  rintro e w1 ⟨rfl, o1, g1⟩
  have M1 : Mid b N w w1 := (Mid.ofExt (by (repeat (first | with_reducible assumption | with_reducible exact Ext.refl _ | with_reducible refine Ext.drew' ?_ | with_reducible refine Ext.drewN' ?_ _ | with_reducible refine Ext.alloc ?_ _ | (with_reducible refine Ext.setNew ?_ (by first | exact Nat.le_refl _ | (simp; done) | (simp; omega) | omega) _))))).trans (Mid.ofOwn g1 L1 u1)
  have y1 : Blk w1 w.heap.size _ _ := y.gr g1 (by intro hh; have := (h1.lt' _ hh).2; omega)
  have h2' : OwnB w1 b (.slice a2 x.2.2.length c2) x.2.2 := ownsRow_gr (ownsRow_ext h2 (by (repeat (first | with_reducible assumption | with_reducible exact Ext.refl _ | with_reducible refine Ext.drew' ?_ | with_reducible refine Ext.drewN' ?_ _ | with_reducible refine Ext.alloc ?_ _ | (with_reducible refine Ext.setNew ?_ (by first | exact Nat.le_refl _ | (simp; done) | (simp; omega) | omega) _))))) g1 (by
    cases hb : (Value.slice a2 x.2.2.length c2).ownBlock with
    | none => exact .inl rfl
    | some k => exact .inr (fun hh => hne k hh.symm hb))
  have y11 := y1.cell (i := 2) rfl
  go_wp2_with fail
  refine (markBools_k (b := b) (N := N) ⟨h2', u2, s2⟩ _ (by omega) (by omega)).mono ?_
  rintro e w2 ⟨rfl, o2, g2⟩
  have M2 : Mid b N w w2 := M1.trans (Mid.ofOwn g2 L2 u2)
  have k2 := MarkedBools.of o2 s2
  have o1' := ownsRow_gr o1 g2 (by
    cases hb : (Value.slice a1 x.2.1.length c1).ownBlock with
    | none => exact .inl rfl
    | some k => exact .inr (fun hh => hne k hb hh.symm))
  go_wp2
  go_ret
  exact ⟨_, rfl, ⟨_, _, rfl, MarkedBools.of o1' s1, k2⟩, M2⟩
theorem heldCex_R {km : Int} (h : MkCex w (.slice a1 n1 c1) (.slice a2 n2 c2) km) :
    Calls Try.prog 39 #[.agg #[.bool f, .slice a1 n1 c1, .slice a2 n2 c2], .int .i64 1] w fun e w' => e = .returned (.int .i64 km) ∧ Ext w w' := by
  obtain ⟨m1, m2, rfl, k1, k2⟩ := h
  have s1 := k1.small
  have s2 := k2.small
  have y := Blk.at w [.bool f, .slice a1 n1 c1, .slice a2 n2 c2] 60 rfl
  go_enter Try.func39, Try.ntmps39
  go_wp2_with fail
  refine (heldBools_k (k1.ext (by (repeat (first | with_reducible assumption | with_reducible exact Ext.refl _ | with_reducible refine Ext.drew' ?_ | with_reducible refine Ext.drewN' ?_ _ | with_reducible refine Ext.alloc ?_ _ | (with_reducible refine Ext.setNew ?_ (by first | exact Nat.le_refl _ | (simp; done) | (simp; omega) | omega) _))))) (by omega) (by omega)).mono ?_
  rintro e w1 ⟨rfl, rfl⟩
  go_wp2_with fail
  refine (heldBools_k (k2.ext (by (repeat (first | with_reducible assumption | with_reducible exact Ext.refl _ | with_reducible refine Ext.drew' ?_ | with_reducible refine Ext.drewN' ?_ _ | with_reducible refine Ext.alloc ?_ _ | (with_reducible refine Ext.setNew ?_ (by first | exact Nat.le_refl _ | (simp; done) | (simp; omega) | omega) _))))) (by omega) (by omega)).mono ?_
  rintro e w2 ⟨rfl, rfl⟩
  go_wp2
  go_ret
  exact ⟨rfl, by (repeat (first | with_reducible assumption | with_reducible exact Ext.refl _ | with_reducible refine Ext.drew' ?_ | with_reducible refine Ext.drewN' ?_ _ | with_reducible refine Ext.alloc ?_ _ | (with_reducible refine Ext.setNew ?_ (by first | exact Nat.le_refl _ | (simp; done) | (simp; omega) | omega) _)))⟩
end
end Go.Proofs.Ytpkbkcnpfigbgaa
