/- The exact law of Cuts. No condition. -/
import Derived.Test.YtpomcoegpjehgaaRepN
import Derived.Test.YtpomcoegpjehgaaCutI
import Derived.Test.YtpomcoegpjehgaaRep
import Derived.Test.YtpomcoegpjehgaaCirc
import Derived.Test.YtpomcoegpjehgaaFrame
namespace Go.Proofs.Ytpomcoegpjehgaa
open Go.ChangeShapes Go.WideShapes Go.ChangeAt Go.RowKit
set_option maxRecDepth 100000
set_option linter.unusedVariables false
set_option linter.unusedSimpArgs false
theorem specCuts_c (c : Circ) (p : Where3) (w : World) (hc : CircAt w c p) :
    Calls Try.prog 17 #[.agg #[.int .i64 c.inputs, .slice p.an c.next.length p.cn, .slice p.ag c.gates.length p.cg, .slice p.ao c.outs.length p.co]] w (GiveIII w (cutsV c)) := by
  have E0 : Ext w (w.alloc (.cells #[.int .i64 c.inputs, .slice p.an c.next.length p.cn, .slice p.ag c.gates.length p.cg, .slice p.ao c.outs.length p.co] 26)) := (Ext.refl w).alloc _
  have y := CircBox.made w c p 26
  cases hv : validB c
  · have HU : Hid (cutsV c = []) := Lib.hid (by unfold cutsV; rw [hv]; rfl)
    (obtain ⟨lb, b0, b1, b2, b3⟩ := (id y))
    go_enter Try.func17, Try.ntmps17
    go_wp2_with fail
    refine (specCircuitValid_c c p _ (hc.ext E0)).mono ?_
    rw [hv]
    rintro e w1 ⟨rfl, hE1⟩
    have E1 := E0.trans hE1
    go_wp2_with fail
    go_ret
    rw [HU.out]
    exact ⟨_, [w1.heap.size], rfl, Nst.made0 w1 rfl, fun g hg => by have := E1.size; simp at hg; omega, E1.alloc _⟩
  · have V := validB_iff.1 hv
    have HU : Hid (cutsV c = cutsN c) := Lib.hid (by unfold cutsV; rw [hv]; rfl)
    (obtain ⟨lb, b0, b1, b2, b3⟩ := (id y))
    go_enter Try.func17, Try.ntmps17
    go_wp2_with fail
    refine (specCircuitValid_c c p _ (hc.ext E0)).mono ?_
    rw [hv]
    rintro e w1 ⟨rfl, hE1⟩
    have E1 := E0.trans hE1
    have y1 := y.ext hE1
    clear lb b0 b1 b2 b3
    (obtain ⟨lb, b0, b1, b2, b3⟩ := (id y1))
    go_wp2_with fail
    refine (l5Cuts_c c p _ (hc.ext E1) V).mono ?_
    rintro e w2 ⟨v2, F2, rfl, hN2, hF2, hE2⟩
    go_wp2_with fail
    go_ret
    rw [HU.out]
    exact ⟨v2, F2, rfl, hN2, fun g hg => by have := hF2 g hg; have := E1.size; omega, E1.trans hE2⟩
theorem szF_le {α : Type} {sz : α → Nat} {m : Nat} : ∀ (xs : List α), (∀ x ∈ xs, sz x ≤ m) → szF sz xs ≤ xs.length * m
  | [], _ => by simp [szF]
  | x :: xs, h => by
    have h1 := szF_le xs (fun y hy => h y (List.mem_cons_of_mem _ hy))
    have h2 := h x (by simp)
    rw [szF, List.length_cons, Nat.add_mul]; omega
theorem cutsV_small (c : Circ) : SmallIII (cutsV c) := by
  cases hv : validB c
  · have e : cutsV c = [] := by unfold cutsV; rw [hv]; rfl
    rw [e]
    exact ⟨⟨by simp, by simp⟩, by simp [szF]⟩
  · have V := validB_iff.1 hv
    have e : cutsV c = (c.gates.take c.gates.length).foldl cutStep (cuts0 c.first) := by rw [List.take_length]; unfold cutsV; rw [hv]; rfl
    obtain ⟨h1, h2⟩ := cutsK_ok V c.gates.length (Nat.le_refl _)
    have hf : 1 ≤ c.first ∧ c.first ≤ 8 := by have := V.i0; have := V.i4; have := V.ln; unfold Circ.first; omega
    have lg := V.lg
    rw [e]
    generalize (c.gates.take c.gates.length).foldl cutStep (cuts0 c.first) = all at h1 h2
    have hL : ∀ L ∈ all, L.length ≤ 9 ∧ ∀ x ∈ L, x.length ≤ 3 := by
      intro L hL
      obtain ⟨j, hj, e⟩ := mem_getN (d := []) hL
      have := h1 j hj
      rw [e] at this
      exact ⟨this.n, fun x hx => (this.ok x hx).len⟩
    refine ⟨⟨by omega, fun L hLm => ⟨by have := (hL L hLm).1; omega, fun x hx => by have := (hL L hLm).2 x hx; unfold SmI; omega⟩⟩, ?_⟩
    have := szF_le (sz := szF szI) (m := 27) all (fun L hLm => by
      have := szF_le (sz := szI) (m := 3) L (fun x hx => (hL L hLm).2 x hx)
      have := (hL L hLm).1
      omega)
    have h3 : all.length ≤ 22 := by omega
    have h4 : all.length * 27 ≤ 22 * 27 := Nat.mul_le_mul_right _ h3
    omega
set_option maxHeartbeats 4000000 in
theorem fnExactCuts_walk (c0 : Circ) (q0 : Where3) (w : World) (w0 : CircIn w c0 q0) :
    Calls Try.prog 5 #[.agg #[.int .i64 c0.inputs, .slice q0.an c0.next.length q0.cn, .slice q0.ag c0.gates.length q0.cg, .slice q0.ao c0.outs.length q0.co]] w fun e w' => e = .returned (.bool true) ∧ Below w.heap.size w w' := by
  have E := Ext.refl w
  have y0 := (CircBox.at w c0 q0 38 (B := w.heap.size) (by simp))
  by_cases hz0 : szC c0 (1048576) < 0
  · go_enter Try.func5, Try.ntmps5
    go_wp2_with fail
    refine (szCircuit_c _ _ _ _ (w0.ext (Ext.trans E (by (repeat (first | with_reducible assumption | with_reducible exact Ext.refl _ | with_reducible refine Ext.drew' ?_ | with_reducible refine Ext.drewN' ?_ _ | with_reducible refine Ext.alloc ?_ _ | (with_reducible refine Ext.setNew ?_ (by first | exact Nat.le_refl _ | (simp; done) | (simp; omega) | omega) _)))))) (by omega) (by omega)).mono ?_
    rintro e s1 ⟨rfl, hE⟩
    replace E := Ext.trans E (Ext.trans (by (repeat (first | with_reducible assumption | with_reducible exact Ext.refl _ | with_reducible refine Ext.drew' ?_ | with_reducible refine Ext.drewN' ?_ _ | with_reducible refine Ext.alloc ?_ _ | (with_reducible refine Ext.setNew ?_ (by first | exact Nat.le_refl _ | (simp; done) | (simp; omega) | omega) _)))) hE)
    replace y0 := y0.ext (Ext.trans (by (repeat (first | with_reducible assumption | with_reducible exact Ext.refl _ | with_reducible refine Ext.drew' ?_ | with_reducible refine Ext.drewN' ?_ _ | with_reducible refine Ext.alloc ?_ _ | (with_reducible refine Ext.setNew ?_ (by first | exact Nat.le_refl _ | (simp; done) | (simp; omega) | omega) _)))) hE)
    clear hE
    go_wp2
    go_ret
    exact ⟨rfl, E⟩
  have hzz0 := szC_ok hz0
  have hC0 : CircAt w c0 q0 := ⟨w0.nx, w0.gs, w0.ou, by omega, by omega, by omega⟩
  have ln0 := hC0.ln
  have lg0 := hC0.lg
  have lo0 := hC0.lo
  have hsm := cutsV_small c0
  obtain ⟨V, HV⟩ : ∃ V, Hid (V = (cutsV c0)) := ⟨_, Lib.hid rfl⟩
  rw [← HV.out] at hsm
  go_enter Try.func5, Try.ntmps5
  go_wp2_with fail
  refine (szCircuit_c _ _ _ _ (w0.ext (Ext.trans E (by (repeat (first | with_reducible assumption | with_reducible exact Ext.refl _ | with_reducible refine Ext.drew' ?_ | with_reducible refine Ext.drewN' ?_ _ | with_reducible refine Ext.alloc ?_ _ | (with_reducible refine Ext.setNew ?_ (by first | exact Nat.le_refl _ | (simp; done) | (simp; omega) | omega) _)))))) (by omega) (by omega)).mono ?_
  rintro e s1 ⟨rfl, hE⟩
  replace E := Ext.trans E (Ext.trans (by (repeat (first | with_reducible assumption | with_reducible exact Ext.refl _ | with_reducible refine Ext.drew' ?_ | with_reducible refine Ext.drewN' ?_ _ | with_reducible refine Ext.alloc ?_ _ | (with_reducible refine Ext.setNew ?_ (by first | exact Nat.le_refl _ | (simp; done) | (simp; omega) | omega) _)))) hE)
  replace y0 := y0.ext (Ext.trans (by (repeat (first | with_reducible assumption | with_reducible exact Ext.refl _ | with_reducible refine Ext.drew' ?_ | with_reducible refine Ext.drewN' ?_ _ | with_reducible refine Ext.alloc ?_ _ | (with_reducible refine Ext.setNew ?_ (by first | exact Nat.le_refl _ | (simp; done) | (simp; omega) | omega) _)))) hE)
  clear hE
  obtain ⟨y0l, y00, y01, y02, y03⟩ := (id y0)
  try dsimp only at y01 y02 y03
  go_wp2_with fail
  refine (toCircuitB_c c0 q0 _ (hC0.ext (Ext.trans E (by (repeat (first | with_reducible assumption | with_reducible exact Ext.refl _ | with_reducible refine Ext.drew' ?_ | with_reducible refine Ext.drewN' ?_ _ | with_reducible refine Ext.alloc ?_ _ | (with_reducible refine Ext.setNew ?_ (by first | exact Nat.le_refl _ | (simp; done) | (simp; omega) | omega) _))))))).mono ?_
  rintro e s2 ⟨pt0, rfl, t0, hE, t0m⟩
  clear t0m
  clear y0l y00 y01 y02 y03
  replace E := Ext.trans E (Ext.trans (by (repeat (first | with_reducible assumption | with_reducible exact Ext.refl _ | with_reducible refine Ext.drew' ?_ | with_reducible refine Ext.drewN' ?_ _ | with_reducible refine Ext.alloc ?_ _ | (with_reducible refine Ext.setNew ?_ (by first | exact Nat.le_refl _ | (simp; done) | (simp; omega) | omega) _)))) hE)
  replace y0 := y0.ext (Ext.trans (by (repeat (first | with_reducible assumption | with_reducible exact Ext.refl _ | with_reducible refine Ext.drew' ?_ | with_reducible refine Ext.drewN' ?_ _ | with_reducible refine Ext.alloc ?_ _ | (with_reducible refine Ext.setNew ?_ (by first | exact Nat.le_refl _ | (simp; done) | (simp; omega) | omega) _)))) hE)
  clear hE
  go_wp2_with fail
  refine (specCuts_c c0 pt0 _ (t0.ext (by (repeat (first | with_reducible assumption | with_reducible exact Ext.refl _ | with_reducible refine Ext.drew' ?_ | with_reducible refine Ext.drewN' ?_ _ | with_reducible refine Ext.alloc ?_ _ | (with_reducible refine Ext.setNew ?_ (by first | exact Nat.le_refl _ | (simp; done) | (simp; omega) | omega) _)))))).mono ?_
  rw [← HV.out]
  rintro e s3 hh
  obtain ⟨vr0, rfl, r, hE⟩ := GiveIII.rep hh
  replace E := Ext.trans E (Ext.trans (by (repeat (first | with_reducible assumption | with_reducible exact Ext.refl _ | with_reducible refine Ext.drew' ?_ | with_reducible refine Ext.drewN' ?_ _ | with_reducible refine Ext.alloc ?_ _ | (with_reducible refine Ext.setNew ?_ (by first | exact Nat.le_refl _ | (simp; done) | (simp; omega) | omega) _)))) hE)
  replace y0 := y0.ext (Ext.trans (by (repeat (first | with_reducible assumption | with_reducible exact Ext.refl _ | with_reducible refine Ext.drew' ?_ | with_reducible refine Ext.drewN' ?_ _ | with_reducible refine Ext.alloc ?_ _ | (with_reducible refine Ext.setNew ?_ (by first | exact Nat.le_refl _ | (simp; done) | (simp; omega) | omega) _)))) hE)
  replace t0 := t0.ext (Ext.trans (by (repeat (first | with_reducible assumption | with_reducible exact Ext.refl _ | with_reducible refine Ext.drew' ?_ | with_reducible refine Ext.drewN' ?_ _ | with_reducible refine Ext.alloc ?_ _ | (with_reducible refine Ext.setNew ?_ (by first | exact Nat.le_refl _ | (simp; done) | (simp; omega) | omega) _)))) hE)
  clear hE
  have E4 := Ext.refl s3
  have lE := E.size
  have y0s := y0
  obtain ⟨y0l, y00, y01, y02, y03⟩ := (id y0)
  try dsimp only at y01 y02 y03
  go_wp2_with fail
  refine (toCircuitB_c c0 q0 _ (hC0.ext (Ext.trans E (by (repeat (first | with_reducible assumption | with_reducible exact Ext.refl _ | with_reducible refine Ext.drew' ?_ | with_reducible refine Ext.drewN' ?_ _ | with_reducible refine Ext.alloc ?_ _ | (with_reducible refine Ext.setNew ?_ (by first | exact Nat.le_refl _ | (simp; done) | (simp; omega) | omega) _))))))).mono ?_
  rintro e s4 ⟨px0, rfl, x0, hE, x0m⟩
  replace x0m := x0m.le (b2 := s3.heap.size) (Ext.size (w := s3) (by (repeat (first | with_reducible assumption | with_reducible exact Ext.refl _ | with_reducible refine Ext.drew' ?_ | with_reducible refine Ext.drewN' ?_ _ | with_reducible refine Ext.alloc ?_ _ | (with_reducible refine Ext.setNew ?_ (by first | exact Nat.le_refl _ | (simp; done) | (simp; omega) | omega) _)))))
  clear y0l y00 y01 y02 y03
  replace E := Ext.trans E (Ext.trans (by (repeat (first | with_reducible assumption | with_reducible exact Ext.refl _ | with_reducible refine Ext.drew' ?_ | with_reducible refine Ext.drewN' ?_ _ | with_reducible refine Ext.alloc ?_ _ | (with_reducible refine Ext.setNew ?_ (by first | exact Nat.le_refl _ | (simp; done) | (simp; omega) | omega) _)))) hE)
  replace y0 := y0.ext (Ext.trans (by (repeat (first | with_reducible assumption | with_reducible exact Ext.refl _ | with_reducible refine Ext.drew' ?_ | with_reducible refine Ext.drewN' ?_ _ | with_reducible refine Ext.alloc ?_ _ | (with_reducible refine Ext.setNew ?_ (by first | exact Nat.le_refl _ | (simp; done) | (simp; omega) | omega) _)))) hE)
  replace E4 := Ext.trans E4 (Ext.trans (by (repeat (first | with_reducible assumption | with_reducible exact Ext.refl _ | with_reducible refine Ext.drew' ?_ | with_reducible refine Ext.drewN' ?_ _ | with_reducible refine Ext.alloc ?_ _ | (with_reducible refine Ext.setNew ?_ (by first | exact Nat.le_refl _ | (simp; done) | (simp; omega) | omega) _)))) hE)
  clear hE
  have lEx0 := E4.size
  have Ex0 := Ext.refl s4
  have x0x := CircBox.made s4 c0 px0 26
  have lEg := Ex0.size
  have Eg := Ext.refl s4
  obtain ⟨x0xl, x0x0, x0x1, x0x2, x0x3⟩ := (id x0x)
  try dsimp only at x0x1 x0x2 x0x3
  go_wp2_with fail
  refine (implCuts_c c0 px0 _ (x0.ext (by (repeat (first | with_reducible assumption | with_reducible exact Ext.refl _ | with_reducible refine Ext.drew' ?_ | with_reducible refine Ext.drewN' ?_ _ | with_reducible refine Ext.alloc ?_ _ | (with_reducible refine Ext.setNew ?_ (by first | exact Nat.le_refl _ | (simp; done) | (simp; omega) | omega) _)))))).mono ?_
  rw [← HV.out]
  rintro e s5 hh
  obtain ⟨vg0, rfl, g, hE⟩ := GiveIII.rep hh
  replace g := g.le (b2 := s4.heap.size) (Ext.size (w := s4) (by (repeat (first | with_reducible assumption | with_reducible exact Ext.refl _ | with_reducible refine Ext.drew' ?_ | with_reducible refine Ext.drewN' ?_ _ | with_reducible refine Ext.alloc ?_ _ | (with_reducible refine Ext.setNew ?_ (by first | exact Nat.le_refl _ | (simp; done) | (simp; omega) | omega) _)))))
  clear x0xl x0x0 x0x1 x0x2 x0x3
  replace E := Ext.trans E (Ext.trans (by (repeat (first | with_reducible assumption | with_reducible exact Ext.refl _ | with_reducible refine Ext.drew' ?_ | with_reducible refine Ext.drewN' ?_ _ | with_reducible refine Ext.alloc ?_ _ | (with_reducible refine Ext.setNew ?_ (by first | exact Nat.le_refl _ | (simp; done) | (simp; omega) | omega) _)))) hE)
  replace y0 := y0.ext (Ext.trans (by (repeat (first | with_reducible assumption | with_reducible exact Ext.refl _ | with_reducible refine Ext.drew' ?_ | with_reducible refine Ext.drewN' ?_ _ | with_reducible refine Ext.alloc ?_ _ | (with_reducible refine Ext.setNew ?_ (by first | exact Nat.le_refl _ | (simp; done) | (simp; omega) | omega) _)))) hE)
  replace E4 := Ext.trans E4 (Ext.trans (by (repeat (first | with_reducible assumption | with_reducible exact Ext.refl _ | with_reducible refine Ext.drew' ?_ | with_reducible refine Ext.drewN' ?_ _ | with_reducible refine Ext.alloc ?_ _ | (with_reducible refine Ext.setNew ?_ (by first | exact Nat.le_refl _ | (simp; done) | (simp; omega) | omega) _)))) hE)
  replace x0 := x0.ext (Ext.trans (by (repeat (first | with_reducible assumption | with_reducible exact Ext.refl _ | with_reducible refine Ext.drew' ?_ | with_reducible refine Ext.drewN' ?_ _ | with_reducible refine Ext.alloc ?_ _ | (with_reducible refine Ext.setNew ?_ (by first | exact Nat.le_refl _ | (simp; done) | (simp; omega) | omega) _)))) hE)
  replace Ex0 := Ext.trans Ex0 (Ext.trans (by (repeat (first | with_reducible assumption | with_reducible exact Ext.refl _ | with_reducible refine Ext.drew' ?_ | with_reducible refine Ext.drewN' ?_ _ | with_reducible refine Ext.alloc ?_ _ | (with_reducible refine Ext.setNew ?_ (by first | exact Nat.le_refl _ | (simp; done) | (simp; omega) | omega) _)))) hE)
  replace x0m := x0m.ext (Ext.trans (by (repeat (first | with_reducible assumption | with_reducible exact Ext.refl _ | with_reducible refine Ext.drew' ?_ | with_reducible refine Ext.drewN' ?_ _ | with_reducible refine Ext.alloc ?_ _ | (with_reducible refine Ext.setNew ?_ (by first | exact Nat.le_refl _ | (simp; done) | (simp; omega) | omega) _)))) hE)
  replace x0x := x0x.ext (Ext.trans (by (repeat (first | with_reducible assumption | with_reducible exact Ext.refl _ | with_reducible refine Ext.drew' ?_ | with_reducible refine Ext.drewN' ?_ _ | with_reducible refine Ext.alloc ?_ _ | (with_reducible refine Ext.setNew ?_ (by first | exact Nat.le_refl _ | (simp; done) | (simp; omega) | omega) _)))) hE)
  replace Eg := Ext.trans Eg (Ext.trans (by (repeat (first | with_reducible assumption | with_reducible exact Ext.refl _ | with_reducible refine Ext.drew' ?_ | with_reducible refine Ext.drewN' ?_ _ | with_reducible refine Ext.alloc ?_ _ | (with_reducible refine Ext.setNew ?_ (by first | exact Nat.le_refl _ | (simp; done) | (simp; omega) | omega) _)))) hE)
  clear hE
  have lEh := Eg.size
  go_wp2_with fail
  refine (eqIII_R (g.ext (by (repeat (first | with_reducible assumption | with_reducible exact Ext.refl _ | with_reducible refine Ext.drew' ?_ | with_reducible refine Ext.drewN' ?_ _ | with_reducible refine Ext.alloc ?_ _ | (with_reducible refine Ext.setNew ?_ (by first | exact Nat.le_refl _ | (simp; done) | (simp; omega) | omega) _))))) (r.ext (Ext.trans E4 (by (repeat (first | with_reducible assumption | with_reducible exact Ext.refl _ | with_reducible refine Ext.drew' ?_ | with_reducible refine Ext.drewN' ?_ _ | with_reducible refine Ext.alloc ?_ _ | (with_reducible refine Ext.setNew ?_ (by first | exact Nat.le_refl _ | (simp; done) | (simp; omega) | omega) _))))))).mono ?_
  rintro e s6 ⟨rfl, hE⟩
  replace E := Ext.trans E (Ext.trans (by (repeat (first | with_reducible assumption | with_reducible exact Ext.refl _ | with_reducible refine Ext.drew' ?_ | with_reducible refine Ext.drewN' ?_ _ | with_reducible refine Ext.alloc ?_ _ | (with_reducible refine Ext.setNew ?_ (by first | exact Nat.le_refl _ | (simp; done) | (simp; omega) | omega) _)))) hE)
  replace y0 := y0.ext (Ext.trans (by (repeat (first | with_reducible assumption | with_reducible exact Ext.refl _ | with_reducible refine Ext.drew' ?_ | with_reducible refine Ext.drewN' ?_ _ | with_reducible refine Ext.alloc ?_ _ | (with_reducible refine Ext.setNew ?_ (by first | exact Nat.le_refl _ | (simp; done) | (simp; omega) | omega) _)))) hE)
  replace E4 := Ext.trans E4 (Ext.trans (by (repeat (first | with_reducible assumption | with_reducible exact Ext.refl _ | with_reducible refine Ext.drew' ?_ | with_reducible refine Ext.drewN' ?_ _ | with_reducible refine Ext.alloc ?_ _ | (with_reducible refine Ext.setNew ?_ (by first | exact Nat.le_refl _ | (simp; done) | (simp; omega) | omega) _)))) hE)
  replace x0 := x0.ext (Ext.trans (by (repeat (first | with_reducible assumption | with_reducible exact Ext.refl _ | with_reducible refine Ext.drew' ?_ | with_reducible refine Ext.drewN' ?_ _ | with_reducible refine Ext.alloc ?_ _ | (with_reducible refine Ext.setNew ?_ (by first | exact Nat.le_refl _ | (simp; done) | (simp; omega) | omega) _)))) hE)
  replace Ex0 := Ext.trans Ex0 (Ext.trans (by (repeat (first | with_reducible assumption | with_reducible exact Ext.refl _ | with_reducible refine Ext.drew' ?_ | with_reducible refine Ext.drewN' ?_ _ | with_reducible refine Ext.alloc ?_ _ | (with_reducible refine Ext.setNew ?_ (by first | exact Nat.le_refl _ | (simp; done) | (simp; omega) | omega) _)))) hE)
  replace x0m := x0m.ext (Ext.trans (by (repeat (first | with_reducible assumption | with_reducible exact Ext.refl _ | with_reducible refine Ext.drew' ?_ | with_reducible refine Ext.drewN' ?_ _ | with_reducible refine Ext.alloc ?_ _ | (with_reducible refine Ext.setNew ?_ (by first | exact Nat.le_refl _ | (simp; done) | (simp; omega) | omega) _)))) hE)
  replace x0x := x0x.ext (Ext.trans (by (repeat (first | with_reducible assumption | with_reducible exact Ext.refl _ | with_reducible refine Ext.drew' ?_ | with_reducible refine Ext.drewN' ?_ _ | with_reducible refine Ext.alloc ?_ _ | (with_reducible refine Ext.setNew ?_ (by first | exact Nat.le_refl _ | (simp; done) | (simp; omega) | omega) _)))) hE)
  replace Eg := Ext.trans Eg (Ext.trans (by (repeat (first | with_reducible assumption | with_reducible exact Ext.refl _ | with_reducible refine Ext.drew' ?_ | with_reducible refine Ext.drewN' ?_ _ | with_reducible refine Ext.alloc ?_ _ | (with_reducible refine Ext.setNew ?_ (by first | exact Nat.le_refl _ | (simp; done) | (simp; omega) | omega) _)))) hE)
  replace g := g.ext (Ext.trans (by (repeat (first | with_reducible assumption | with_reducible exact Ext.refl _ | with_reducible refine Ext.drew' ?_ | with_reducible refine Ext.drewN' ?_ _ | with_reducible refine Ext.alloc ?_ _ | (with_reducible refine Ext.setNew ?_ (by first | exact Nat.le_refl _ | (simp; done) | (simp; omega) | omega) _)))) hE)
  clear hE
  obtain ⟨y0l, y00, y01, y02, y03⟩ := (id y0)
  try dsimp only at y01 y02 y03
  obtain ⟨x0xl, x0x0, x0x1, x0x2, x0x3⟩ := (id x0x)
  try dsimp only at x0x1 x0x2 x0x3
  go_wp2_with fail
  go_region_held3 ((fun w' => (∀ b o, b < s6.heap.size → w'.cell? ⟨b, o, none⟩ = s6.cell? ⟨b, o, none⟩) ∧ Ext s6 w')) ((first | assumption | (with_reducible exact held_mk (Ext.drew s6)) | (with_reducible exact held_mk (((Ext.refl s6).alloc _).drew')) | (with_reducible exact held_mk ((Ext.drew s6).alloc _)))) (first | (go_simp; go_at_call 24; refine (toCircuit_c c0 q0 _ (hC0.ext (Ext.trans E (Ext.drew _)))).mono ?_; rintro e s7 ⟨pp, rfl, hCC, hE1⟩; have hK1 := held_mk ((Ext.drew s6).trans hE1)) | (go_simp; go_at_call 26; refine (eqCircuit_c c0 _ _ _ (x0.ext (held_ext hK1)) hCC).mono ?_; rintro e s8 ⟨rfl, hE2⟩; have hK2 := held_mk ((held_ext hK1).trans hE2)))
  have hE := held_ext hK2
  clear hK1 hK2 hE1 hE2 hCC
  clear y0l y00 y01 y02 y03 x0xl x0x0 x0x1 x0x2 x0x3
  replace E := Ext.trans E (Ext.trans (by (repeat (first | with_reducible assumption | with_reducible exact Ext.refl _ | with_reducible refine Ext.drew' ?_ | with_reducible refine Ext.drewN' ?_ _ | with_reducible refine Ext.alloc ?_ _ | (with_reducible refine Ext.setNew ?_ (by first | exact Nat.le_refl _ | (simp; done) | (simp; omega) | omega) _)))) hE)
  replace y0 := y0.ext (Ext.trans (by (repeat (first | with_reducible assumption | with_reducible exact Ext.refl _ | with_reducible refine Ext.drew' ?_ | with_reducible refine Ext.drewN' ?_ _ | with_reducible refine Ext.alloc ?_ _ | (with_reducible refine Ext.setNew ?_ (by first | exact Nat.le_refl _ | (simp; done) | (simp; omega) | omega) _)))) hE)
  replace E4 := Ext.trans E4 (Ext.trans (by (repeat (first | with_reducible assumption | with_reducible exact Ext.refl _ | with_reducible refine Ext.drew' ?_ | with_reducible refine Ext.drewN' ?_ _ | with_reducible refine Ext.alloc ?_ _ | (with_reducible refine Ext.setNew ?_ (by first | exact Nat.le_refl _ | (simp; done) | (simp; omega) | omega) _)))) hE)
  replace x0 := x0.ext (Ext.trans (by (repeat (first | with_reducible assumption | with_reducible exact Ext.refl _ | with_reducible refine Ext.drew' ?_ | with_reducible refine Ext.drewN' ?_ _ | with_reducible refine Ext.alloc ?_ _ | (with_reducible refine Ext.setNew ?_ (by first | exact Nat.le_refl _ | (simp; done) | (simp; omega) | omega) _)))) hE)
  replace Ex0 := Ext.trans Ex0 (Ext.trans (by (repeat (first | with_reducible assumption | with_reducible exact Ext.refl _ | with_reducible refine Ext.drew' ?_ | with_reducible refine Ext.drewN' ?_ _ | with_reducible refine Ext.alloc ?_ _ | (with_reducible refine Ext.setNew ?_ (by first | exact Nat.le_refl _ | (simp; done) | (simp; omega) | omega) _)))) hE)
  replace x0m := x0m.ext (Ext.trans (by (repeat (first | with_reducible assumption | with_reducible exact Ext.refl _ | with_reducible refine Ext.drew' ?_ | with_reducible refine Ext.drewN' ?_ _ | with_reducible refine Ext.alloc ?_ _ | (with_reducible refine Ext.setNew ?_ (by first | exact Nat.le_refl _ | (simp; done) | (simp; omega) | omega) _)))) hE)
  replace x0x := x0x.ext (Ext.trans (by (repeat (first | with_reducible assumption | with_reducible exact Ext.refl _ | with_reducible refine Ext.drew' ?_ | with_reducible refine Ext.drewN' ?_ _ | with_reducible refine Ext.alloc ?_ _ | (with_reducible refine Ext.setNew ?_ (by first | exact Nat.le_refl _ | (simp; done) | (simp; omega) | omega) _)))) hE)
  replace Eg := Ext.trans Eg (Ext.trans (by (repeat (first | with_reducible assumption | with_reducible exact Ext.refl _ | with_reducible refine Ext.drew' ?_ | with_reducible refine Ext.drewN' ?_ _ | with_reducible refine Ext.alloc ?_ _ | (with_reducible refine Ext.setNew ?_ (by first | exact Nat.le_refl _ | (simp; done) | (simp; omega) | omega) _)))) hE)
  replace g := g.ext (Ext.trans (by (repeat (first | with_reducible assumption | with_reducible exact Ext.refl _ | with_reducible refine Ext.drew' ?_ | with_reducible refine Ext.drewN' ?_ _ | with_reducible refine Ext.alloc ?_ _ | (with_reducible refine Ext.setNew ?_ (by first | exact Nat.le_refl _ | (simp; done) | (simp; omega) | omega) _)))) hE)
  clear hE
  clear x0
  obtain ⟨x0xl, x0x0, x0x1, x0x2, x0x3⟩ := (id x0x)
  try dsimp only at x0x1 x0x2 x0x3
  go_wp2_with fail
  refine (markCircuit_c _ _ c0 px0 _ _ (x0m.ext (by (repeat (first | with_reducible assumption | with_reducible exact Ext.refl _ | with_reducible refine Ext.drew' ?_ | with_reducible refine Ext.drewN' ?_ _ | with_reducible refine Ext.alloc ?_ _ | (with_reducible refine Ext.setNew ?_ (by first | exact Nat.le_refl _ | (simp; done) | (simp; omega) | omega) _))))) (by omega) (by omega) ln0 lg0 lo0).mono ?_
  rintro e s9 ⟨⟨k0, rfl, ka0, kb0⟩, hM⟩
  clear x0xl x0x0 x0x1 x0x2 x0x3
  clear x0m x0x
  replace hM := Mid.trans (Mid.ofExt (w := s8) (by (repeat (first | with_reducible assumption | with_reducible exact Ext.refl _ | with_reducible refine Ext.drew' ?_ | with_reducible refine Ext.drewN' ?_ _ | with_reducible refine Ext.alloc ?_ _ | (with_reducible refine Ext.setNew ?_ (by first | exact Nat.le_refl _ | (simp; done) | (simp; omega) | omega) _))))) hM
  replace E := E.mid hM (by omega)
  replace E4 := E4.mid hM (by omega)
  replace g := g.hi hM (by omega)
  clear hM
  have y0 := y0s.ext E4
  go_wp2_with fail
  refine (eqIII_R (g.ext (by (repeat (first | with_reducible assumption | with_reducible exact Ext.refl _ | with_reducible refine Ext.drew' ?_ | with_reducible refine Ext.drewN' ?_ _ | with_reducible refine Ext.alloc ?_ _ | (with_reducible refine Ext.setNew ?_ (by first | exact Nat.le_refl _ | (simp; done) | (simp; omega) | omega) _))))) (r.ext (Ext.trans E4 (by (repeat (first | with_reducible assumption | with_reducible exact Ext.refl _ | with_reducible refine Ext.drew' ?_ | with_reducible refine Ext.drewN' ?_ _ | with_reducible refine Ext.alloc ?_ _ | (with_reducible refine Ext.setNew ?_ (by first | exact Nat.le_refl _ | (simp; done) | (simp; omega) | omega) _))))))).mono ?_
  rintro e s10 ⟨rfl, hE⟩
  replace E := Ext.trans E (Ext.trans (by (repeat (first | with_reducible assumption | with_reducible exact Ext.refl _ | with_reducible refine Ext.drew' ?_ | with_reducible refine Ext.drewN' ?_ _ | with_reducible refine Ext.alloc ?_ _ | (with_reducible refine Ext.setNew ?_ (by first | exact Nat.le_refl _ | (simp; done) | (simp; omega) | omega) _)))) hE)
  replace E4 := Ext.trans E4 (Ext.trans (by (repeat (first | with_reducible assumption | with_reducible exact Ext.refl _ | with_reducible refine Ext.drew' ?_ | with_reducible refine Ext.drewN' ?_ _ | with_reducible refine Ext.alloc ?_ _ | (with_reducible refine Ext.setNew ?_ (by first | exact Nat.le_refl _ | (simp; done) | (simp; omega) | omega) _)))) hE)
  replace g := g.ext (Ext.trans (by (repeat (first | with_reducible assumption | with_reducible exact Ext.refl _ | with_reducible refine Ext.drew' ?_ | with_reducible refine Ext.drewN' ?_ _ | with_reducible refine Ext.alloc ?_ _ | (with_reducible refine Ext.setNew ?_ (by first | exact Nat.le_refl _ | (simp; done) | (simp; omega) | omega) _)))) hE)
  replace y0 := y0.ext (Ext.trans (by (repeat (first | with_reducible assumption | with_reducible exact Ext.refl _ | with_reducible refine Ext.drew' ?_ | with_reducible refine Ext.drewN' ?_ _ | with_reducible refine Ext.alloc ?_ _ | (with_reducible refine Ext.setNew ?_ (by first | exact Nat.le_refl _ | (simp; done) | (simp; omega) | omega) _)))) hE)
  clear hE
  go_wp2_with fail
  refine (markIII_R (g.ext (by (repeat (first | with_reducible assumption | with_reducible exact Ext.refl _ | with_reducible refine Ext.drew' ?_ | with_reducible refine Ext.drewN' ?_ _ | with_reducible refine Ext.alloc ?_ _ | (with_reducible refine Ext.setNew ?_ (by first | exact Nat.le_refl _ | (simp; done) | (simp; omega) | omega) _)))))).mono ?_
  rintro e s11 ⟨km, rfl, mk, hM⟩
  obtain ⟨km0, km1⟩ := mk.kb
  clear g
  clear y0
  replace hM := Mid.trans (Mid.ofExt (w := s10) (by (repeat (first | with_reducible assumption | with_reducible exact Ext.refl _ | with_reducible refine Ext.drew' ?_ | with_reducible refine Ext.drewN' ?_ _ | with_reducible refine Ext.alloc ?_ _ | (with_reducible refine Ext.setNew ?_ (by first | exact Nat.le_refl _ | (simp; done) | (simp; omega) | omega) _))))) hM
  replace E := E.mid hM (by omega)
  replace E4 := E4.mid hM (by omega)
  clear hM
  have y0 := y0s.ext E4
  go_wp2_with fail
  refine (heldIII_R (mk.ext (by (repeat (first | with_reducible assumption | with_reducible exact Ext.refl _ | with_reducible refine Ext.drew' ?_ | with_reducible refine Ext.drewN' ?_ _ | with_reducible refine Ext.alloc ?_ _ | (with_reducible refine Ext.setNew ?_ (by first | exact Nat.le_refl _ | (simp; done) | (simp; omega) | omega) _)))))).mono ?_
  rintro e s12 ⟨rfl, hE⟩
  replace E := Ext.trans E (Ext.trans (by (repeat (first | with_reducible assumption | with_reducible exact Ext.refl _ | with_reducible refine Ext.drew' ?_ | with_reducible refine Ext.drewN' ?_ _ | with_reducible refine Ext.alloc ?_ _ | (with_reducible refine Ext.setNew ?_ (by first | exact Nat.le_refl _ | (simp; done) | (simp; omega) | omega) _)))) hE)
  replace E4 := Ext.trans E4 (Ext.trans (by (repeat (first | with_reducible assumption | with_reducible exact Ext.refl _ | with_reducible refine Ext.drew' ?_ | with_reducible refine Ext.drewN' ?_ _ | with_reducible refine Ext.alloc ?_ _ | (with_reducible refine Ext.setNew ?_ (by first | exact Nat.le_refl _ | (simp; done) | (simp; omega) | omega) _)))) hE)
  replace mk := mk.ext (Ext.trans (by (repeat (first | with_reducible assumption | with_reducible exact Ext.refl _ | with_reducible refine Ext.drew' ?_ | with_reducible refine Ext.drewN' ?_ _ | with_reducible refine Ext.alloc ?_ _ | (with_reducible refine Ext.setNew ?_ (by first | exact Nat.le_refl _ | (simp; done) | (simp; omega) | omega) _)))) hE)
  replace y0 := y0.ext (Ext.trans (by (repeat (first | with_reducible assumption | with_reducible exact Ext.refl _ | with_reducible refine Ext.drew' ?_ | with_reducible refine Ext.drewN' ?_ _ | with_reducible refine Ext.alloc ?_ _ | (with_reducible refine Ext.setNew ?_ (by first | exact Nat.le_refl _ | (simp; done) | (simp; omega) | omega) _)))) hE)
  clear hE
  obtain ⟨y0l, y00, y01, y02, y03⟩ := (id y0)
  try dsimp only at y01 y02 y03
  go_wp2_with fail
  refine (toCircuitB_c c0 q0 _ (hC0.ext (Ext.trans E (by (repeat (first | with_reducible assumption | with_reducible exact Ext.refl _ | with_reducible refine Ext.drew' ?_ | with_reducible refine Ext.drewN' ?_ _ | with_reducible refine Ext.alloc ?_ _ | (with_reducible refine Ext.setNew ?_ (by first | exact Nat.le_refl _ | (simp; done) | (simp; omega) | omega) _))))))).mono ?_
  rintro e s13 ⟨pu0, rfl, u0, hE, u0m⟩
  clear u0m
  clear y0l y00 y01 y02 y03
  replace E := Ext.trans E (Ext.trans (by (repeat (first | with_reducible assumption | with_reducible exact Ext.refl _ | with_reducible refine Ext.drew' ?_ | with_reducible refine Ext.drewN' ?_ _ | with_reducible refine Ext.alloc ?_ _ | (with_reducible refine Ext.setNew ?_ (by first | exact Nat.le_refl _ | (simp; done) | (simp; omega) | omega) _)))) hE)
  replace E4 := Ext.trans E4 (Ext.trans (by (repeat (first | with_reducible assumption | with_reducible exact Ext.refl _ | with_reducible refine Ext.drew' ?_ | with_reducible refine Ext.drewN' ?_ _ | with_reducible refine Ext.alloc ?_ _ | (with_reducible refine Ext.setNew ?_ (by first | exact Nat.le_refl _ | (simp; done) | (simp; omega) | omega) _)))) hE)
  replace mk := mk.ext (Ext.trans (by (repeat (first | with_reducible assumption | with_reducible exact Ext.refl _ | with_reducible refine Ext.drew' ?_ | with_reducible refine Ext.drewN' ?_ _ | with_reducible refine Ext.alloc ?_ _ | (with_reducible refine Ext.setNew ?_ (by first | exact Nat.le_refl _ | (simp; done) | (simp; omega) | omega) _)))) hE)
  replace y0 := y0.ext (Ext.trans (by (repeat (first | with_reducible assumption | with_reducible exact Ext.refl _ | with_reducible refine Ext.drew' ?_ | with_reducible refine Ext.drewN' ?_ _ | with_reducible refine Ext.alloc ?_ _ | (with_reducible refine Ext.setNew ?_ (by first | exact Nat.le_refl _ | (simp; done) | (simp; omega) | omega) _)))) hE)
  clear hE
  go_wp2_with fail
  refine (implCuts_c c0 pu0 _ (u0.ext (by (repeat (first | with_reducible assumption | with_reducible exact Ext.refl _ | with_reducible refine Ext.drew' ?_ | with_reducible refine Ext.drewN' ?_ _ | with_reducible refine Ext.alloc ?_ _ | (with_reducible refine Ext.setNew ?_ (by first | exact Nat.le_refl _ | (simp; done) | (simp; omega) | omega) _)))))).mono ?_
  rw [← HV.out]
  rintro e s14 hh
  obtain ⟨vh0, rfl, h, hE⟩ := GiveIII.rep hh
  replace E := Ext.trans E (Ext.trans (by (repeat (first | with_reducible assumption | with_reducible exact Ext.refl _ | with_reducible refine Ext.drew' ?_ | with_reducible refine Ext.drewN' ?_ _ | with_reducible refine Ext.alloc ?_ _ | (with_reducible refine Ext.setNew ?_ (by first | exact Nat.le_refl _ | (simp; done) | (simp; omega) | omega) _)))) hE)
  replace E4 := Ext.trans E4 (Ext.trans (by (repeat (first | with_reducible assumption | with_reducible exact Ext.refl _ | with_reducible refine Ext.drew' ?_ | with_reducible refine Ext.drewN' ?_ _ | with_reducible refine Ext.alloc ?_ _ | (with_reducible refine Ext.setNew ?_ (by first | exact Nat.le_refl _ | (simp; done) | (simp; omega) | omega) _)))) hE)
  replace mk := mk.ext (Ext.trans (by (repeat (first | with_reducible assumption | with_reducible exact Ext.refl _ | with_reducible refine Ext.drew' ?_ | with_reducible refine Ext.drewN' ?_ _ | with_reducible refine Ext.alloc ?_ _ | (with_reducible refine Ext.setNew ?_ (by first | exact Nat.le_refl _ | (simp; done) | (simp; omega) | omega) _)))) hE)
  replace y0 := y0.ext (Ext.trans (by (repeat (first | with_reducible assumption | with_reducible exact Ext.refl _ | with_reducible refine Ext.drew' ?_ | with_reducible refine Ext.drewN' ?_ _ | with_reducible refine Ext.alloc ?_ _ | (with_reducible refine Ext.setNew ?_ (by first | exact Nat.le_refl _ | (simp; done) | (simp; omega) | omega) _)))) hE)
  replace u0 := u0.ext (Ext.trans (by (repeat (first | with_reducible assumption | with_reducible exact Ext.refl _ | with_reducible refine Ext.drew' ?_ | with_reducible refine Ext.drewN' ?_ _ | with_reducible refine Ext.alloc ?_ _ | (with_reducible refine Ext.setNew ?_ (by first | exact Nat.le_refl _ | (simp; done) | (simp; omega) | omega) _)))) hE)
  clear hE
  go_wp2_with fail
  refine (eqIII_R (h.ext (by (repeat (first | with_reducible assumption | with_reducible exact Ext.refl _ | with_reducible refine Ext.drew' ?_ | with_reducible refine Ext.drewN' ?_ _ | with_reducible refine Ext.alloc ?_ _ | (with_reducible refine Ext.setNew ?_ (by first | exact Nat.le_refl _ | (simp; done) | (simp; omega) | omega) _))))) (r.ext (Ext.trans E4 (by (repeat (first | with_reducible assumption | with_reducible exact Ext.refl _ | with_reducible refine Ext.drew' ?_ | with_reducible refine Ext.drewN' ?_ _ | with_reducible refine Ext.alloc ?_ _ | (with_reducible refine Ext.setNew ?_ (by first | exact Nat.le_refl _ | (simp; done) | (simp; omega) | omega) _))))))).mono ?_
  rintro e s15 ⟨rfl, hE⟩
  replace E := Ext.trans E (Ext.trans (by (repeat (first | with_reducible assumption | with_reducible exact Ext.refl _ | with_reducible refine Ext.drew' ?_ | with_reducible refine Ext.drewN' ?_ _ | with_reducible refine Ext.alloc ?_ _ | (with_reducible refine Ext.setNew ?_ (by first | exact Nat.le_refl _ | (simp; done) | (simp; omega) | omega) _)))) hE)
  replace E4 := Ext.trans E4 (Ext.trans (by (repeat (first | with_reducible assumption | with_reducible exact Ext.refl _ | with_reducible refine Ext.drew' ?_ | with_reducible refine Ext.drewN' ?_ _ | with_reducible refine Ext.alloc ?_ _ | (with_reducible refine Ext.setNew ?_ (by first | exact Nat.le_refl _ | (simp; done) | (simp; omega) | omega) _)))) hE)
  replace mk := mk.ext (Ext.trans (by (repeat (first | with_reducible assumption | with_reducible exact Ext.refl _ | with_reducible refine Ext.drew' ?_ | with_reducible refine Ext.drewN' ?_ _ | with_reducible refine Ext.alloc ?_ _ | (with_reducible refine Ext.setNew ?_ (by first | exact Nat.le_refl _ | (simp; done) | (simp; omega) | omega) _)))) hE)
  replace y0 := y0.ext (Ext.trans (by (repeat (first | with_reducible assumption | with_reducible exact Ext.refl _ | with_reducible refine Ext.drew' ?_ | with_reducible refine Ext.drewN' ?_ _ | with_reducible refine Ext.alloc ?_ _ | (with_reducible refine Ext.setNew ?_ (by first | exact Nat.le_refl _ | (simp; done) | (simp; omega) | omega) _)))) hE)
  replace h := h.ext (Ext.trans (by (repeat (first | with_reducible assumption | with_reducible exact Ext.refl _ | with_reducible refine Ext.drew' ?_ | with_reducible refine Ext.drewN' ?_ _ | with_reducible refine Ext.alloc ?_ _ | (with_reducible refine Ext.setNew ?_ (by first | exact Nat.le_refl _ | (simp; done) | (simp; omega) | omega) _)))) hE)
  clear hE
  go_wp2_with fail
  refine (heldIII_R (mk.ext (by (repeat (first | with_reducible assumption | with_reducible exact Ext.refl _ | with_reducible refine Ext.drew' ?_ | with_reducible refine Ext.drewN' ?_ _ | with_reducible refine Ext.alloc ?_ _ | (with_reducible refine Ext.setNew ?_ (by first | exact Nat.le_refl _ | (simp; done) | (simp; omega) | omega) _)))))).mono ?_
  rintro e s16 ⟨rfl, hE⟩
  replace E := Ext.trans E (Ext.trans (by (repeat (first | with_reducible assumption | with_reducible exact Ext.refl _ | with_reducible refine Ext.drew' ?_ | with_reducible refine Ext.drewN' ?_ _ | with_reducible refine Ext.alloc ?_ _ | (with_reducible refine Ext.setNew ?_ (by first | exact Nat.le_refl _ | (simp; done) | (simp; omega) | omega) _)))) hE)
  replace E4 := Ext.trans E4 (Ext.trans (by (repeat (first | with_reducible assumption | with_reducible exact Ext.refl _ | with_reducible refine Ext.drew' ?_ | with_reducible refine Ext.drewN' ?_ _ | with_reducible refine Ext.alloc ?_ _ | (with_reducible refine Ext.setNew ?_ (by first | exact Nat.le_refl _ | (simp; done) | (simp; omega) | omega) _)))) hE)
  replace mk := mk.ext (Ext.trans (by (repeat (first | with_reducible assumption | with_reducible exact Ext.refl _ | with_reducible refine Ext.drew' ?_ | with_reducible refine Ext.drewN' ?_ _ | with_reducible refine Ext.alloc ?_ _ | (with_reducible refine Ext.setNew ?_ (by first | exact Nat.le_refl _ | (simp; done) | (simp; omega) | omega) _)))) hE)
  replace y0 := y0.ext (Ext.trans (by (repeat (first | with_reducible assumption | with_reducible exact Ext.refl _ | with_reducible refine Ext.drew' ?_ | with_reducible refine Ext.drewN' ?_ _ | with_reducible refine Ext.alloc ?_ _ | (with_reducible refine Ext.setNew ?_ (by first | exact Nat.le_refl _ | (simp; done) | (simp; omega) | omega) _)))) hE)
  replace h := h.ext (Ext.trans (by (repeat (first | with_reducible assumption | with_reducible exact Ext.refl _ | with_reducible refine Ext.drew' ?_ | with_reducible refine Ext.drewN' ?_ _ | with_reducible refine Ext.alloc ?_ _ | (with_reducible refine Ext.setNew ?_ (by first | exact Nat.le_refl _ | (simp; done) | (simp; omega) | omega) _)))) hE)
  clear hE
  go_wp2
  go_ret
  exact ⟨rfl, E⟩
theorem fnExactCuts_lifted (os : Os) (started : os.Started) (H : Type) (enc : TypeId × Value → H) :
    ReturnsInHanded {} Try.checked os 5 .any (Rows.fnExactCutsSpec.pre6 enc Try.prog Try.f5 Rows.fnExactCutsRow.domain false) (Rows.fnExactCutsSpec.post enc Try.prog Try.f5 false true false false) := by
  refine returnsInHanded_of_change (C := Try.checked) own started (by kernel_rfl) Try.func5
    (ChangeSpec.witness6 (enc := enc) (C := Try.checked) false ⟨#[], #[.agg #[.int .i64 0, .slice none 0 0, .slice none 0 0, .slice none 0 0]], []⟩ 8 (by kernel_rfl) (by kernel_rfl) (by kernel_rfl) (by kernel_rfl)) ?_
  intro W base args ds gs before hval0 hW hcnd _
  have hval : ∀ (j : Nat) t v, Try.f5.params[j]? = some t → args[j]? = some v → Value.okWide Try.prog W .any base t v := hval0
  have hW' := hW
  obtain ⟨p, q, hA0, hV, rfl, hfz, hnd⟩ := hW
  have hA : DataW.TrodAll enc Try.prog W 0 (fun _ => true) true Try.f5.params.toList args.toList ds p := hA0
  rw [Try.params5] at hA hval
  obtain ⟨v0, vs0, d0, ds0, p0, q0, hargs, rfl, rfl, h0, r0⟩ := trodAll_cons hA
  obtain ⟨rfl, rfl, rfl⟩ := trodAll_nil r0
  obtain rfl : args = #[v0] := by cases args; simp_all
  obtain ⟨rfl, rfl⟩ := trodVars_none hV
  have k0 := h0
  have lt0 : ∀ x ∈ p0, x.block < W.heap.size := by obtain ⟨m, hm⟩ := k0; exact DataW.trod_lt m _ _ _ hm
  obtain ⟨c0, q0', rfl, w0, _⟩ := open_circ (hval 0 38 v0 rfl rfl) h0
  clear hA0 hval0
  refine (fnExactCuts_walk c0 q0' W w0).mono fun e W' ⟨he, bel⟩ => ?_
  subst he
  exact ⟨_, rfl, _, _, _, [], _, [], hW', trodAll_mk1 (shut_bool Try.underlying4 _), (trodAll_cons_mk (Below.trod laidOut (by kernel_rfl) (of_decide_eq_true (by kernel_rfl)) k0 bel lt0) trodAll_mk0), rfl, bel.frame _, fun h => by cases h⟩
theorem fnExactCuts_over : Rows.fnExactCutsRow.holds Try.pinned (OpenSpec.ofChange Rows.fnExactCutsSpec) :=
  OpenClaim.holds_of_wide 5 Try.f5 rfl rfl rfl rfl rfl rfl rfl ⟨rfl, rfl, rfl, rfl, rfl⟩ rfl rfl rfl rfl rfl (by kernel_rfl) Try.func5 (by kernel_rfl)
    (of_decide_eq_true (by kernel_rfl)) (by unfold Func.isWrapper; first | (rw [if_pos (by decide +kernel)]; kernel_rfl) | (rw [if_neg (by decide +kernel)]; exact ⟨rfl, rfl⟩))
    (fun os started H enc _ => fnExactCuts_lifted os started H enc)
theorem fnExactCuts_holds : Rows.FnExactCutsSaid := fnExactCuts_over
end Go.Proofs.Ytpomcoegpjehgaa
