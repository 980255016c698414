/- Contracts of SameInterface: the program's and the reference's. -/
import Derived.Test.YtpfhlodlefcomaaSpec1
import Derived.Test.YtpfhlodlefcomaaBlk
namespace Go.Proofs.Ytpfhlodlefcomaa
open Go.RowKit
set_option maxRecDepth 100000
set_option linter.unusedVariables false
set_option linter.unusedSimpArgs false
noncomputable def sameI (c d : Circ) : Bool := validB c && validB d && (c.inputs == d.inputs) && ((c.next.length : Int) == (d.next.length : Int)) && ((c.outs.length : Int) == (d.outs.length : Int))
theorem sameI_iff {c d : Circ} : sameI c d = true ↔ c.Valid ∧ d.Valid ∧ c.inputs = d.inputs ∧ c.next.length = d.next.length ∧ c.outs.length = d.outs.length := by
  unfold sameI
  simp only [Bool.and_eq_true, beq_iff_eq, validB_iff]
  constructor
  · rintro ⟨⟨⟨⟨a, b⟩, c⟩, d⟩, e⟩
    exact ⟨a, b, c, by omega, by omega⟩
  · rintro ⟨a, b, c, d, e⟩
    exact ⟨⟨⟨⟨a, b⟩, c⟩, by omega⟩, by omega⟩
set_option maxHeartbeats 1000000 in
theorem implSame_c (c d : Circ) (p q : Where3) (w : World) (hc : CircAt w c p) (hd : CircAt w d q) :
    Calls Try.prog 12 #[.agg #[.int .i64 c.inputs, .slice p.an c.next.length p.cn, .slice p.ag c.gates.length p.cg, .slice p.ao c.outs.length p.co], .agg #[.int .i64 d.inputs, .slice q.an d.next.length q.cn, .slice q.ag d.gates.length q.cg, .slice q.ao d.outs.length q.co]] w fun e w' => e = .returned (.bool (sameI c d)) ∧ Ext w w' := by
  have y := CircBox.made w c p 26
  have x := CircBox.at (w.alloc (.cells #[.int .i64 c.inputs, .slice p.an c.next.length p.cn, .slice p.ag c.gates.length p.cg, .slice p.ao c.outs.length p.co] 26)) d q 26 (B := w.heap.size + 1) (by simp)
  have y1 := y.ext ((Ext.refl _).alloc (.cells #[.int .i64 d.inputs, .slice q.an d.next.length q.cn, .slice q.ag d.gates.length q.cg, .slice q.ao d.outs.length q.co] 26))
  have ES : Hid (sameI c d = (validB c && validB d && (c.inputs == d.inputs) && ((c.next.length : Int) == (d.next.length : Int)) && ((c.outs.length : Int) == (d.outs.length : Int)))) := Lib.hid rfl
  generalize sameI c d = S at *
  cases hv : validB c
  · go_enter Try.func12, Try.ntmps12
    go_wp2_with fail
    refine (implCircuitValid_c c p _ (hc.ext (by (repeat (first | with_reducible assumption | with_reducible exact Ext.refl _ | with_reducible refine Ext.drew' ?_ | with_reducible refine Ext.drewN' ?_ _ | with_reducible refine Ext.alloc ?_ _ | (with_reducible refine Ext.setNew ?_ (by first | exact Nat.le_refl _ | (simp; done) | (simp; omega) | omega) _)))))).mono ?_
    rintro e w1 ⟨rfl, hE1⟩
    have E1 := Ext.trans (a := w) (by (repeat (first | with_reducible assumption | with_reducible exact Ext.refl _ | with_reducible refine Ext.drew' ?_ | with_reducible refine Ext.drewN' ?_ _ | with_reducible refine Ext.alloc ?_ _ | (with_reducible refine Ext.setNew ?_ (by first | exact Nat.le_refl _ | (simp; done) | (simp; omega) | omega) _)))) hE1
    rw [hv]
    go_wp2
    go_ret
    exact ⟨by rw [ES.out, hv]; rfl, E1⟩
  cases hu : validB d
  · go_enter Try.func12, Try.ntmps12
    go_wp2_with fail
    refine (implCircuitValid_c c p _ (hc.ext (by (repeat (first | with_reducible assumption | with_reducible exact Ext.refl _ | with_reducible refine Ext.drew' ?_ | with_reducible refine Ext.drewN' ?_ _ | with_reducible refine Ext.alloc ?_ _ | (with_reducible refine Ext.setNew ?_ (by first | exact Nat.le_refl _ | (simp; done) | (simp; omega) | omega) _)))))).mono ?_
    rintro e w1 ⟨rfl, hE1⟩
    have E1 := Ext.trans (a := w) (by (repeat (first | with_reducible assumption | with_reducible exact Ext.refl _ | with_reducible refine Ext.drew' ?_ | with_reducible refine Ext.drewN' ?_ _ | with_reducible refine Ext.alloc ?_ _ | (with_reducible refine Ext.setNew ?_ (by first | exact Nat.le_refl _ | (simp; done) | (simp; omega) | omega) _)))) hE1
    have x2 := x.ext hE1
    (obtain ⟨lb, b0, b1, b2, b3⟩ := (id x2))
    rw [hv]
    go_wp2_with fail
    refine (implCircuitValid_c d q _ (hd.ext E1)).mono ?_
    rintro e w2 ⟨rfl, hE2⟩
    rw [hu]
    go_wp2
    go_ret
    exact ⟨by rw [ES.out, hv, hu]; rfl, E1.trans hE2⟩
  have hES : S = ((c.inputs == d.inputs) && ((c.next.length : Int) == (d.next.length : Int)) && ((c.outs.length : Int) == (d.outs.length : Int))) := by rw [ES.out, hv, hu]; rfl
  have HS := Lib.hid hES
  have HV := Lib.hid hv
  have HU := Lib.hid hu
  clear ES hES hv hu
  cases h1 : (c.inputs == d.inputs)
  rotate_left
  cases h2 : ((c.next.length : Int) == (d.next.length : Int))
  rotate_left
  cases h3 : ((c.outs.length : Int) == (d.outs.length : Int))
  all_goals
    go_enter Try.func12, Try.ntmps12
    go_wp2_with fail
    refine (implCircuitValid_c c p _ (hc.ext (by (repeat (first | with_reducible assumption | with_reducible exact Ext.refl _ | with_reducible refine Ext.drew' ?_ | with_reducible refine Ext.drewN' ?_ _ | with_reducible refine Ext.alloc ?_ _ | (with_reducible refine Ext.setNew ?_ (by first | exact Nat.le_refl _ | (simp; done) | (simp; omega) | omega) _)))))).mono ?_
    rintro e w1 ⟨rfl, hE1⟩
    have E1 := Ext.trans (a := w) (by (repeat (first | with_reducible assumption | with_reducible exact Ext.refl _ | with_reducible refine Ext.drew' ?_ | with_reducible refine Ext.drewN' ?_ _ | with_reducible refine Ext.alloc ?_ _ | (with_reducible refine Ext.setNew ?_ (by first | exact Nat.le_refl _ | (simp; done) | (simp; omega) | omega) _)))) hE1
    have x2 := x.ext hE1
    have y2 := y1.ext hE1
    (obtain ⟨lb, b0, b1, b2, b3⟩ := (id x2))
    rw [HV.out]
    go_wp2_with fail
    refine (implCircuitValid_c d q _ (hd.ext E1)).mono ?_
    rintro e w2 ⟨rfl, hE2⟩
    rw [HU.out]
    have x3 := x2.ext hE2
    have y3 := y2.ext hE2
    clear b0 b1 b2 b3 lb
    (obtain ⟨lb, b0, b1, b2, b3⟩ := (id x3))
    (obtain ⟨la, a0, a1, a2, a3⟩ := (id y3))
    go_wp2
    go_ret
    refine ⟨?_, E1.trans hE2⟩
    rw [HS.out]
    simp [*]
set_option maxHeartbeats 1000000 in
theorem specSame_c (c d : Circ) (p q : Where3) (w : World) (hc : CircAt w c p) (hd : CircAt w d q) :
    Calls Try.prog 13 #[.agg #[.int .i64 c.inputs, .slice p.an c.next.length p.cn, .slice p.ag c.gates.length p.cg, .slice p.ao c.outs.length p.co], .agg #[.int .i64 d.inputs, .slice q.an d.next.length q.cn, .slice q.ag d.gates.length q.cg, .slice q.ao d.outs.length q.co]] w fun e w' => e = .returned (.bool (sameI c d)) ∧ Ext w w' := by
  have y := CircBox.made w c p 26
  have x := CircBox.at (w.alloc (.cells #[.int .i64 c.inputs, .slice p.an c.next.length p.cn, .slice p.ag c.gates.length p.cg, .slice p.ao c.outs.length p.co] 26)) d q 26 (B := w.heap.size + 1) (by simp)
  have y1 := y.ext ((Ext.refl _).alloc (.cells #[.int .i64 d.inputs, .slice q.an d.next.length q.cn, .slice q.ag d.gates.length q.cg, .slice q.ao d.outs.length q.co] 26))
  have ES : Hid (sameI c d = (validB c && validB d && (c.inputs == d.inputs) && ((c.next.length : Int) == (d.next.length : Int)) && ((c.outs.length : Int) == (d.outs.length : Int)))) := Lib.hid rfl
  generalize sameI c d = S at *
  cases hv : validB c
  · go_enter Try.func13, Try.ntmps13
    go_wp2_with fail
    refine (specCircuitValid_c c p _ (hc.ext (by (repeat (first | with_reducible assumption | with_reducible exact Ext.refl _ | with_reducible refine Ext.drew' ?_ | with_reducible refine Ext.drewN' ?_ _ | with_reducible refine Ext.alloc ?_ _ | (with_reducible refine Ext.setNew ?_ (by first | exact Nat.le_refl _ | (simp; done) | (simp; omega) | omega) _)))))).mono ?_
    rintro e w1 ⟨rfl, hE1⟩
    have E1 := Ext.trans (a := w) (by (repeat (first | with_reducible assumption | with_reducible exact Ext.refl _ | with_reducible refine Ext.drew' ?_ | with_reducible refine Ext.drewN' ?_ _ | with_reducible refine Ext.alloc ?_ _ | (with_reducible refine Ext.setNew ?_ (by first | exact Nat.le_refl _ | (simp; done) | (simp; omega) | omega) _)))) hE1
    rw [hv]
    go_wp2
    go_ret
    exact ⟨by rw [ES.out, hv]; rfl, E1⟩
  cases hu : validB d
  · go_enter Try.func13, Try.ntmps13
    go_wp2_with fail
    refine (specCircuitValid_c c p _ (hc.ext (by (repeat (first | with_reducible assumption | with_reducible exact Ext.refl _ | with_reducible refine Ext.drew' ?_ | with_reducible refine Ext.drewN' ?_ _ | with_reducible refine Ext.alloc ?_ _ | (with_reducible refine Ext.setNew ?_ (by first | exact Nat.le_refl _ | (simp; done) | (simp; omega) | omega) _)))))).mono ?_
    rintro e w1 ⟨rfl, hE1⟩
    have E1 := Ext.trans (a := w) (by (repeat (first | with_reducible assumption | with_reducible exact Ext.refl _ | with_reducible refine Ext.drew' ?_ | with_reducible refine Ext.drewN' ?_ _ | with_reducible refine Ext.alloc ?_ _ | (with_reducible refine Ext.setNew ?_ (by first | exact Nat.le_refl _ | (simp; done) | (simp; omega) | omega) _)))) hE1
    have x2 := x.ext hE1
    (obtain ⟨lb, b0, b1, b2, b3⟩ := (id x2))
    rw [hv]
    go_wp2_with fail
    refine (specCircuitValid_c d q _ (hd.ext E1)).mono ?_
    rintro e w2 ⟨rfl, hE2⟩
    rw [hu]
    go_wp2
    go_ret
    exact ⟨by rw [ES.out, hv, hu]; rfl, E1.trans hE2⟩
  have hES : S = ((c.inputs == d.inputs) && ((c.next.length : Int) == (d.next.length : Int)) && ((c.outs.length : Int) == (d.outs.length : Int))) := by rw [ES.out, hv, hu]; rfl
  have HS := Lib.hid hES
  have HV := Lib.hid hv
  have HU := Lib.hid hu
  clear ES hES hv hu
  cases h1 : (c.inputs == d.inputs)
  rotate_left
  cases h2 : ((c.next.length : Int) == (d.next.length : Int))
  rotate_left
  cases h3 : ((c.outs.length : Int) == (d.outs.length : Int))
  all_goals
    go_enter Try.func13, Try.ntmps13
    go_wp2_with fail
    refine (specCircuitValid_c c p _ (hc.ext (by (repeat (first | with_reducible assumption | with_reducible exact Ext.refl _ | with_reducible refine Ext.drew' ?_ | with_reducible refine Ext.drewN' ?_ _ | with_reducible refine Ext.alloc ?_ _ | (with_reducible refine Ext.setNew ?_ (by first | exact Nat.le_refl _ | (simp; done) | (simp; omega) | omega) _)))))).mono ?_
    rintro e w1 ⟨rfl, hE1⟩
    have E1 := Ext.trans (a := w) (by (repeat (first | with_reducible assumption | with_reducible exact Ext.refl _ | with_reducible refine Ext.drew' ?_ | with_reducible refine Ext.drewN' ?_ _ | with_reducible refine Ext.alloc ?_ _ | (with_reducible refine Ext.setNew ?_ (by first | exact Nat.le_refl _ | (simp; done) | (simp; omega) | omega) _)))) hE1
    have x2 := x.ext hE1
    have y2 := y1.ext hE1
    (obtain ⟨lb, b0, b1, b2, b3⟩ := (id x2))
    rw [HV.out]
    go_wp2_with fail
    refine (specCircuitValid_c d q _ (hd.ext E1)).mono ?_
    rintro e w2 ⟨rfl, hE2⟩
    rw [HU.out]
    have x3 := x2.ext hE2
    have y3 := y2.ext hE2
    clear b0 b1 b2 b3 lb
    (obtain ⟨lb, b0, b1, b2, b3⟩ := (id x3))
    (obtain ⟨la, a0, a1, a2, a3⟩ := (id y3))
    go_wp2
    go_ret
    refine ⟨?_, E1.trans hE2⟩
    rw [HS.out]
    simp [*]
end Go.Proofs.Ytpfhlodlefcomaa
