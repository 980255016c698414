/- What Step gives back, as the exact laws compare and mark it. -/
import Derived.Test.YtlkfhcigpkfhnaaRep
import Derived.Test.YtlkfhcigpkfhnaaStep
namespace Go.Proofs.Ytlkfhcigpkfhnaa
open Go.RowKit
set_option maxRecDepth 100000
set_option linter.unusedVariables false
set_option linter.unusedSimpArgs false
theorem GiveStep.rep' {w w' : World} {x : List Bool × List Bool} {e : Ending} (h : GiveStep w x e w') : ∃ a1 n1 c1 a2 n2 c2, e = .returned (.agg #[.slice a1 n1 c1, .slice a2 n2 c2]) ∧ RepStep w' w.heap.size w'.heap.size (.slice a1 n1 c1) (.slice a2 n2 c2) x ∧ Ext w w' := by
  obtain ⟨v1, v2, h1, h2, h3⟩ := h
  obtain ⟨a1, c1, n1, a2, c2, n2, rfl, rfl⟩ := h2.sl
  exact ⟨_, _, _, _, _, _, h1, h2, h3⟩
section
variable {w w' : World} {b N n1 c1 n2 c2 : Nat} {a1 a2 : Option Addr} {x : List Bool × List Bool}
theorem RepStep.hi {v1 v2 : Value} {n m : Nat} (h : RepStep w b N v1 v2 x) (g : Mid n m w w') (hb : m ≤ b) : RepStep w' b N v1 v2 x := by
  obtain ⟨⟨k, h1, h2, h3, h4, h5, h6⟩, s1, s2⟩ := h
  exact ⟨⟨k, ownsRow_hi h1 g hb, h2, ownsRow_hi h3 g (Nat.le_trans hb h5), h4, h5, h6⟩, s1, s2⟩
theorem eqStep_R {b3 N3 m1 d1 m2 d2 : Nat} {p1 p2 : Option Addr} (h : RepStep w b N (.slice a1 n1 c1) (.slice a2 n2 c2) x) (h' : RepStep w b3 N3 (.slice p1 m1 d1) (.slice p2 m2 d2) x) :
    Calls Try.prog 56 #[.agg #[.slice a1 n1 c1, .slice a2 n2 c2], .agg #[.slice p1 m1 d1, .slice p2 m2 d2]] w fun e w' => e = .returned (.bool true) ∧ Ext w w' := by
  obtain ⟨⟨k, h1, _, h2, _, _, _⟩, s1, s2⟩ := h
  obtain ⟨⟨k', h1', _, h2', _, _, _⟩, _, _⟩ := h'
  obtain ⟨a1, c1, e1, r1⟩ := h1.opened
  obtain ⟨a2, c2, e2, r2⟩ := h2.opened
  obtain ⟨p1, d1, e3, r3⟩ := h1'.opened
  obtain ⟨p2, d2, e4, r4⟩ := h2'.opened
  cases e1; cases e2; cases e3; cases e4
  have y := (Blk.at w [.slice a1 x.1.length c1, .slice a2 x.2.length c2] 39 rfl).ext ((Ext.refl _).alloc (.cells #[.slice p1 x.1.length d1, .slice p2 x.2.length d2] 39))
  have z := Blk.at (w.alloc (.cells #[.slice a1 x.1.length c1, .slice a2 x.2.length c2] 39)) [.slice p1 x.1.length d1, .slice p2 x.2.length d2] 39 (B := w.heap.size + 1) (by simp)
  go_enter Try.func56, Try.ntmps56
  go_wp2_with fail
  refine (eqBoolS_c _ _ _ _ _ _ (r1.ext (by (repeat (first | with_reducible assumption | with_reducible exact Ext.refl _ | with_reducible refine Ext.drew' ?_ | with_reducible refine Ext.drewN' ?_ _ | with_reducible refine Ext.alloc ?_ _ | (with_reducible refine Ext.setNew ?_ (by first | exact Nat.le_refl _ | (simp; done) | (simp; omega) | omega) _))))) (r3.ext (by (repeat (first | with_reducible assumption | with_reducible exact Ext.refl _ | with_reducible refine Ext.drew' ?_ | with_reducible refine Ext.drewN' ?_ _ | with_reducible refine Ext.alloc ?_ _ | (with_reducible refine Ext.setNew ?_ (by first | exact Nat.le_refl _ | (simp; done) | (simp; omega) | omega) _))))) s1).mono ?_
  rintro e w1 ⟨rfl, hE1⟩
  have E1 := Ext.trans (a := w) (by (repeat (first | with_reducible assumption | with_reducible exact Ext.refl _ | with_reducible refine Ext.drew' ?_ | with_reducible refine Ext.drewN' ?_ _ | with_reducible refine Ext.alloc ?_ _ | (with_reducible refine Ext.setNew ?_ (by first | exact Nat.le_refl _ | (simp; done) | (simp; omega) | omega) _)))) hE1
  have y1 := (y.ext hE1).cell (i := 1) rfl
  have z1 := (z.ext hE1).cell (i := 1) rfl
  go_wp2_with fail
  refine (eqBoolS_c _ _ _ _ _ _ (r2.ext E1) (r4.ext E1) s2).mono ?_
  rintro e w2 ⟨rfl, hE2⟩
  go_wp2
  go_ret
  exact ⟨rfl, E1.trans hE2⟩
def MkStep (w : World) (v1 v2 : Value) (km : Int) : Prop := ∃ n1 n2 : Nat, km = 1 + n1 + n2 ∧ MarkedBools w v1 n1 1 ∧ MarkedBools w v2 n2 (1 + n1)
theorem MkStep.ext {v1 v2 : Value} {k : Int} (h : MkStep w v1 v2 k) (e : Ext w w') : MkStep w' v1 v2 k := by
  obtain ⟨n, m, h1, h2, h3⟩ := h
  exact ⟨n, m, h1, h2.ext e, h3.ext e⟩
theorem MkStep.kb {v1 v2 : Value} {k : Int} (h : MkStep w v1 v2 k) : 0 ≤ k ∧ k ≤ 100000000 := by
  obtain ⟨n, m, rfl, h2, h3⟩ := h
  have := h2.small
  have := h3.small
  omega
theorem markStep_R (h : RepStep w b N (.slice a1 n1 c1) (.slice a2 n2 c2) x) :
    Calls Try.prog 57 #[.agg #[.slice a1 n1 c1, .slice a2 n2 c2], .int .i64 1] w fun e w' => ∃ km, e = .returned (.int .i64 km) ∧ MkStep w' (.slice a1 n1 c1) (.slice a2 n2 c2) km ∧ Mid b N w w' := by
  obtain ⟨⟨m, h1, u1, h2, u2, l1, l2⟩, s1, s2⟩ := h
  obtain ⟨a1', c1', e1, r1⟩ := h1.opened
  obtain ⟨a2', c2', e2, r2⟩ := h2.opened
  cases e1; cases e2
  have L1 := fun k hk => (h1.lt' k hk).1
  have L2 := fun k hk => (h2.lt' k hk)
  have y := Blk.at w [.slice a1 x.1.length c1, .slice a2 x.2.length c2] 39 rfl
  go_enter Try.func57, Try.ntmps57
  go_wp2_with fail
  refine (markBools_k (b := b) (N := N) ⟨h1.ext (by (repeat (first | with_reducible assumption | with_reducible exact Ext.refl _ | with_reducible refine Ext.drew' ?_ | with_reducible refine Ext.drewN' ?_ _ | with_reducible refine Ext.alloc ?_ _ | (with_reducible refine Ext.setNew ?_ (by first | exact Nat.le_refl _ | (simp; done) | (simp; omega) | omega) _)))), fun k hk => Nat.lt_of_lt_of_le (u1 k hk) l2, s1⟩ 1 (by omega) (by omega)).mono ?_
  rintro e w1 ⟨rfl, o1, g1⟩
  have M1 : Mid b N w w1 := (Mid.ofExt (by (repeat (first | with_reducible assumption | with_reducible exact Ext.refl _ | with_reducible refine Ext.drew' ?_ | with_reducible refine Ext.drewN' ?_ _ | with_reducible refine Ext.alloc ?_ _ | (with_reducible refine Ext.setNew ?_ (by first | exact Nat.le_refl _ | (simp; done) | (simp; omega) | omega) _))))).trans (Mid.ofOwn g1 L1 (fun k hk => Nat.lt_of_lt_of_le (u1 k hk) l2))
  have k1 := MarkedBools.of o1 s1
  have y1 : Blk w1 w.heap.size _ _ := y.gr g1 (by intro hh; have := (h1.lt' _ hh).2; omega)
  have h2' : OwnB w1 m (.slice a2 x.2.length c2) x.2 := ownsRow_gr (ownsRow_ext h2 (by (repeat (first | with_reducible assumption | with_reducible exact Ext.refl _ | with_reducible refine Ext.drew' ?_ | with_reducible refine Ext.drewN' ?_ _ | with_reducible refine Ext.alloc ?_ _ | (with_reducible refine Ext.setNew ?_ (by first | exact Nat.le_refl _ | (simp; done) | (simp; omega) | omega) _))))) g1 (by
    cases hb : (Value.slice a2 x.2.length c2).ownBlock with
    | none => exact .inl rfl
    | some k => exact .inr (fun hh => by have q1 := (L2 k hb).1; have q2 := u1 k hh.symm; omega))
  have y11 := y1.cell (i := 1) rfl
  go_wp2_with fail
  refine (markBools_k (b := m) (N := N) ⟨h2', u2, s2⟩ _ (by omega) (by omega)).mono ?_
  rintro e w2 ⟨rfl, o2, g2⟩
  have M2 : Mid b N w w2 := M1.trans (Mid.ofOwn g2 (fun k hk => Nat.le_trans l1 (L2 k hk).1) u2)
  have k2 := MarkedBools.of o2 s2
  have o1' := ownsRow_gr o1 g2 (by
    cases hb : (Value.slice a1 x.1.length c1).ownBlock with
    | none => exact .inl rfl
    | some k => exact .inr (fun hh => by have q1 := u1 k hb; have q2 := (L2 k hh.symm).1; omega))
  go_wp2
  go_ret
  exact ⟨_, rfl, ⟨_, _, rfl, MarkedBools.of o1' s1, k2⟩, M2⟩
theorem heldStep_R {km : Int} (h : MkStep w (.slice a1 n1 c1) (.slice a2 n2 c2) km) :
    Calls Try.prog 58 #[.agg #[.slice a1 n1 c1, .slice a2 n2 c2], .int .i64 1] w fun e w' => e = .returned (.int .i64 km) ∧ Ext w w' := by
  obtain ⟨m1, m2, rfl, k1, k2⟩ := h
  have s1 := k1.small
  have s2 := k2.small
  have y := Blk.at w [.slice a1 n1 c1, .slice a2 n2 c2] 39 rfl
  go_enter Try.func58, Try.ntmps58
  go_wp2_with fail
  refine (heldBools_k (k1.ext (by (repeat (first | with_reducible assumption | with_reducible exact Ext.refl _ | with_reducible refine Ext.drew' ?_ | with_reducible refine Ext.drewN' ?_ _ | with_reducible refine Ext.alloc ?_ _ | (with_reducible refine Ext.setNew ?_ (by first | exact Nat.le_refl _ | (simp; done) | (simp; omega) | omega) _))))) (by omega) (by omega)).mono ?_
  rintro e w1 ⟨rfl, rfl⟩
  go_wp2_with fail
  refine (heldBools_k (k2.ext (by (repeat (first | with_reducible assumption | with_reducible exact Ext.refl _ | with_reducible refine Ext.drew' ?_ | with_reducible refine Ext.drewN' ?_ _ | with_reducible refine Ext.alloc ?_ _ | (with_reducible refine Ext.setNew ?_ (by first | exact Nat.le_refl _ | (simp; done) | (simp; omega) | omega) _))))) (by omega) (by omega)).mono ?_
  rintro e w2 ⟨rfl, rfl⟩
  go_wp2
  go_ret
  exact ⟨rfl, by (repeat (first | with_reducible assumption | with_reducible exact Ext.refl _ | with_reducible refine Ext.drew' ?_ | with_reducible refine Ext.drewN' ?_ _ | with_reducible refine Ext.alloc ?_ _ | (with_reducible refine Ext.setNew ?_ (by first | exact Nat.le_refl _ | (simp; done) | (simp; omega) | omega) _)))⟩
end
end Go.Proofs.Ytlkfhcigpkfhnaa
