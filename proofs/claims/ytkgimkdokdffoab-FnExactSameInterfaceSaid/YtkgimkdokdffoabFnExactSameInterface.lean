/- The exact law of SameInterface. No condition. -/
import Derived.Test.YtkgimkdokdffoabExact
import Derived.Test.YtkgimkdokdffoabSame
namespace Go.Proofs.Ytkgimkdokdffoab
open Go.ChangeShapes Go.WideShapes Go.ChangeAt Go.RowKit
set_option maxRecDepth 100000
set_option linter.unusedVariables false
set_option linter.unusedSimpArgs false
theorem fnExactSameInterface_walk (c0 : Circ) (q0 : Where3) (c1 : Circ) (q1 : Where3) (w : World) (w0 : CircIn w c0 q0) (w1 : CircIn w c1 q1) :
    Calls Try.prog 3 #[.agg #[.int .i64 c0.inputs, .slice q0.an c0.next.length q0.cn, .slice q0.ag c0.gates.length q0.cg, .slice q0.ao c0.outs.length q0.co], .agg #[.int .i64 c1.inputs, .slice q1.an c1.next.length q1.cn, .slice q1.ag c1.gates.length q1.cg, .slice q1.ao c1.outs.length q1.co]] w fun e w' => e = .returned (.bool true) ∧ Below w.heap.size w w' := by
  have y := (CircBox.made w c0 q0 25).ext ((Ext.refl _).alloc (.cells #[.int .i64 c1.inputs, .slice q1.an c1.next.length q1.cn, .slice q1.ag c1.gates.length q1.cg, .slice q1.ao c1.outs.length q1.co] 25))
  have x := CircBox.at (w.alloc (.cells #[.int .i64 c0.inputs, .slice q0.an c0.next.length q0.cn, .slice q0.ag c0.gates.length q0.cg, .slice q0.ao c0.outs.length q0.co] 25)) c1 q1 25 (B := w.heap.size + 1) (by simp)
  have w1 := w1
  by_cases hz : szC c0 1048576 < 0
  · go_enter Try.func3, Try.ntmps3
    go_wp2_with fail
    refine (szCircuit_c _ _ _ _ (w0.ext (by (repeat (first | with_reducible assumption | with_reducible exact Ext.refl _ | with_reducible refine Ext.drew' ?_ | with_reducible refine Ext.drewN' ?_ _ | with_reducible refine Ext.alloc ?_ _ | (with_reducible refine Ext.setNew ?_ (by first | exact Nat.le_refl _ | (simp; done) | (simp; omega) | omega) _))))) (by omega) (by omega)).mono ?_
    rintro e z1 ⟨rfl, hE1⟩
    have E1 := Ext.trans (a := w) (by (repeat (first | with_reducible assumption | with_reducible exact Ext.refl _ | with_reducible refine Ext.drew' ?_ | with_reducible refine Ext.drewN' ?_ _ | with_reducible refine Ext.alloc ?_ _ | (with_reducible refine Ext.setNew ?_ (by first | exact Nat.le_refl _ | (simp; done) | (simp; omega) | omega) _)))) hE1
    go_wp2
    go_ret
    exact ⟨rfl, E1⟩
  have hz2 := szC_ok hz
  by_cases hzz : szC c1 (szC c0 1048576) < 0
  · go_enter Try.func3, Try.ntmps3
    go_wp2_with fail
    refine (szCircuit_c _ _ _ _ (w0.ext (by (repeat (first | with_reducible assumption | with_reducible exact Ext.refl _ | with_reducible refine Ext.drew' ?_ | with_reducible refine Ext.drewN' ?_ _ | with_reducible refine Ext.alloc ?_ _ | (with_reducible refine Ext.setNew ?_ (by first | exact Nat.le_refl _ | (simp; done) | (simp; omega) | omega) _))))) (by omega) (by omega)).mono ?_
    rintro e z1 ⟨rfl, hE1⟩
    have E1 := Ext.trans (a := w) (by (repeat (first | with_reducible assumption | with_reducible exact Ext.refl _ | with_reducible refine Ext.drew' ?_ | with_reducible refine Ext.drewN' ?_ _ | with_reducible refine Ext.alloc ?_ _ | (with_reducible refine Ext.setNew ?_ (by first | exact Nat.le_refl _ | (simp; done) | (simp; omega) | omega) _)))) hE1
    have x1 := x.ext hE1
    (obtain ⟨la, a0, a1, a2, a3⟩ := (id x1))
    go_wp2_with fail
    refine (szCircuit_c _ _ _ _ (w1.ext E1) (by omega) (by omega)).mono ?_
    rintro e z2 ⟨rfl, hE2⟩
    go_wp2
    go_ret
    exact ⟨rfl, E1.trans hE2⟩
  have hz3 := szC_ok hzz
  have hC : CircAt w c0 q0 := ⟨w0.nx, w0.gs, w0.ou, by omega, by omega, by omega⟩
  have hD : CircAt w c1 q1 := ⟨w1.nx, w1.gs, w1.ou, by omega, by omega, by omega⟩
  go_enter Try.func3, Try.ntmps3
  go_wp2_with fail
  refine (szCircuit_c _ _ _ _ (w0.ext (by (repeat (first | with_reducible assumption | with_reducible exact Ext.refl _ | with_reducible refine Ext.drew' ?_ | with_reducible refine Ext.drewN' ?_ _ | with_reducible refine Ext.alloc ?_ _ | (with_reducible refine Ext.setNew ?_ (by first | exact Nat.le_refl _ | (simp; done) | (simp; omega) | omega) _))))) (by omega) (by omega)).mono ?_
  rintro e z1 ⟨rfl, hE1⟩
  have E1 := Ext.trans (a := w) (by (repeat (first | with_reducible assumption | with_reducible exact Ext.refl _ | with_reducible refine Ext.drew' ?_ | with_reducible refine Ext.drewN' ?_ _ | with_reducible refine Ext.alloc ?_ _ | (with_reducible refine Ext.setNew ?_ (by first | exact Nat.le_refl _ | (simp; done) | (simp; omega) | omega) _)))) hE1
  have x1 := x.ext hE1
  have y1 := y.ext hE1
  (obtain ⟨la, a0, a1, a2, a3⟩ := (id x1))
  go_wp2_with fail
  refine (szCircuit_c _ _ _ _ (w1.ext E1) (by omega) (by omega)).mono ?_
  rintro e z2 ⟨rfl, hE2⟩
  have E2 := E1.trans hE2
  have x2 := x1.ext hE2
  have y2 := y1.ext hE2
  clear a0 a1 a2 a3 la
  (obtain ⟨la, a0, a1, a2, a3⟩ := (id x2))
  (obtain ⟨lb, b0, b1, b2, b3⟩ := (id y2))
  obtain ⟨S, hS⟩ : ∃ S, S = sameI c0 c1 := ⟨_, rfl⟩
  have HS := Lib.hid hS
  clear hS
  have tok : True := trivial
  go_wp2_with fail
  go_region_held3 ((fun w' => (∀ b o, b < z2.heap.size → w'.cell? ⟨b, o, none⟩ = z2.cell? ⟨b, o, none⟩) ∧ Ext z2 w')) ((first | assumption | (with_reducible exact held_mk (Ext.drew z2)) | (with_reducible exact held_mk (((Ext.refl z2).alloc _).drew')) | (with_reducible exact held_mk ((Ext.drew z2).alloc _)))) (first | (go_simp; go_at_call 11; have _t := tok; refine (toCircuit_c c0 q0 _ (hC.ext (E2.trans (by first | exact Ext.drew _ | exact held_ext (by assumption))))).mono ?_; rintro e zA ⟨pA, rfl, hCA, hEA⟩; clear tok _t; have hKA := held_mk ((Ext.drew z2).trans hEA)) | (go_simp; go_at_call 11; refine (toCircuit_c c1 q1 _ (hD.ext (E2.trans (by first | exact Ext.drew _ | exact held_ext (by assumption))))).mono ?_; rintro e zB ⟨pB, rfl, hCB, hEB⟩; have hKB := held_mk ((held_ext hKA).trans hEB)) | (go_simp; go_at_call 10; refine (specSame_c c0 c1 _ _ _ (hCA.ext hEB) hCB).mono ?_; rw [← HS.out]; rintro e zC ⟨rfl, hEC⟩; have hKC := held_mk ((held_ext hKB).trans hEC)))
  have E3 := E2.trans (held_ext hKC)
  have x3 := x2.ext (held_ext hKC)
  have y3 := y2.ext (held_ext hKC)
  clear a0 a1 a2 a3 la b0 b1 b2 b3 lb hKA hKB hCA hCB
  (obtain ⟨lb, b0, b1, b2, b3⟩ := (id y3))
  go_wp2_with fail
  refine (toCircuit_c c0 q0 _ (hC.ext E3)).mono ?_
  rintro e z4 ⟨p4, rfl, hC4, hE4⟩
  have E4 := E3.trans hE4
  have x4 := x3.ext hE4
  have y4 := y3.ext hE4
  have u4 := CircBox.made z4 c0 p4 30
  clear b0 b1 b2 b3 lb
  have x5 := x4.ext ((Ext.refl z4).alloc (.cells #[.int .i64 c0.inputs, .slice p4.an c0.next.length p4.cn, .slice p4.ag c0.gates.length p4.cg, .slice p4.ao c0.outs.length p4.co] 30))
  (obtain ⟨la, a0, a1, a2, a3⟩ := (id x5))
  go_wp2_with fail
  refine (toCircuit_c c1 q1 _ (hD.ext (by (repeat (first | with_reducible assumption | with_reducible exact Ext.refl _ | with_reducible refine Ext.drew' ?_ | with_reducible refine Ext.drewN' ?_ _ | with_reducible refine Ext.alloc ?_ _ | (with_reducible refine Ext.setNew ?_ (by first | exact Nat.le_refl _ | (simp; done) | (simp; omega) | omega) _)))))).mono ?_
  rintro e z5 ⟨p5, rfl, hC5, hE5⟩
  have F5 := Ext.trans (a := z4) (by (repeat (first | with_reducible assumption | with_reducible exact Ext.refl _ | with_reducible refine Ext.drew' ?_ | with_reducible refine Ext.drewN' ?_ _ | with_reducible refine Ext.alloc ?_ _ | (with_reducible refine Ext.setNew ?_ (by first | exact Nat.le_refl _ | (simp; done) | (simp; omega) | omega) _)))) hE5
  have u5 := u4.ext hE5
  have v5 := CircBox.made z5 c1 p5 30
  have u6 := u5.ext ((Ext.refl z5).alloc (.cells #[.int .i64 c1.inputs, .slice p5.an c1.next.length p5.cn, .slice p5.ag c1.gates.length p5.cg, .slice p5.ao c1.outs.length p5.co] 30))
  clear a0 a1 a2 a3 la
  (obtain ⟨la, a0, a1, a2, a3⟩ := (id u6))
  (obtain ⟨lb, b0, b1, b2, b3⟩ := (id v5))
  go_wp2_with fail
  refine (implSame_c c0 c1 _ _ _ ((hC4.ext F5).ext (by (repeat (first | with_reducible assumption | with_reducible exact Ext.refl _ | with_reducible refine Ext.drew' ?_ | with_reducible refine Ext.drewN' ?_ _ | with_reducible refine Ext.alloc ?_ _ | (with_reducible refine Ext.setNew ?_ (by first | exact Nat.le_refl _ | (simp; done) | (simp; omega) | omega) _))))) (hC5.ext (by (repeat (first | with_reducible assumption | with_reducible exact Ext.refl _ | with_reducible refine Ext.drew' ?_ | with_reducible refine Ext.drewN' ?_ _ | with_reducible refine Ext.alloc ?_ _ | (with_reducible refine Ext.setNew ?_ (by first | exact Nat.le_refl _ | (simp; done) | (simp; omega) | omega) _)))))).mono ?_
  rw [← HS.out]
  rintro e z6 ⟨rfl, hE6⟩
  have F6 := Ext.trans (a := z5) (by (repeat (first | with_reducible assumption | with_reducible exact Ext.refl _ | with_reducible refine Ext.drew' ?_ | with_reducible refine Ext.drewN' ?_ _ | with_reducible refine Ext.alloc ?_ _ | (with_reducible refine Ext.setNew ?_ (by first | exact Nat.le_refl _ | (simp; done) | (simp; omega) | omega) _)))) hE6
  have E6 := E4.trans (F5.trans F6)
  have x6 := x4.ext (F5.trans F6)
  have y6 := y4.ext (F5.trans F6)
  have u7 := u6.ext hE6
  have v7 := v5.ext hE6
  clear a0 a1 a2 a3 la b0 b1 b2 b3 lb
  (obtain ⟨la, a0, a1, a2, a3⟩ := (id u7))
  (obtain ⟨lb, b0, b1, b2, b3⟩ := (id y6))
  go_wp2_with fail
  go_region_held3 ((fun w' => (∀ b o, b < z6.heap.size → w'.cell? ⟨b, o, none⟩ = z6.cell? ⟨b, o, none⟩) ∧ Ext z6 w')) ((first | assumption | (with_reducible exact held_mk (Ext.drew z6)) | (with_reducible exact held_mk (((Ext.refl z6).alloc _).drew')) | (with_reducible exact held_mk ((Ext.drew z6).alloc _)))) (first | (go_simp; go_at_call 11; refine (toCircuit_c c0 q0 _ (hC.ext (E6.trans (Ext.drew _)))).mono ?_; rintro e z7 ⟨p7, rfl, hC7, hE7⟩; have hK7 := held_mk ((Ext.drew z6).trans hE7)) | (go_simp; go_at_call 13; refine (eqCircuit_c c0 _ _ _ ((hC4.ext (F5.trans F6)).ext (held_ext hK7)) hC7).mono ?_; rintro e z8 ⟨rfl, hE8⟩; have hK8 := held_mk ((held_ext hK7).trans hE8)))
  have F8 := held_ext hK8
  have E8 := E6.trans F8
  have x8 := x6.ext F8
  have v8 := v7.ext F8
  clear a0 a1 a2 a3 la b0 b1 b2 b3 lb hK7
  (obtain ⟨la, a0, a1, a2, a3⟩ := (id x8))
  (obtain ⟨lb, b0, b1, b2, b3⟩ := (id v8))
  go_wp2_with fail
  go_region_held3 ((fun w' => (∀ b o, b < z8.heap.size → w'.cell? ⟨b, o, none⟩ = z8.cell? ⟨b, o, none⟩) ∧ Ext z8 w')) ((first | assumption | (with_reducible exact held_mk (Ext.drew z8)) | (with_reducible exact held_mk (((Ext.refl z8).alloc _).drew')) | (with_reducible exact held_mk ((Ext.drew z8).alloc _)))) (first | (go_simp; go_at_call 11; refine (toCircuit_c c1 q1 _ (hD.ext (E8.trans (Ext.drew _)))).mono ?_; rintro e z9 ⟨p9, rfl, hC9, hE9⟩; have hK9 := held_mk ((Ext.drew z8).trans hE9)) | (go_simp; go_at_call 13; refine (eqCircuit_c c1 _ _ _ (((hC5.ext F6).ext F8).ext (held_ext hK9)) hC9).mono ?_; rintro e z10 ⟨rfl, hE10⟩; have hK10 := held_mk ((held_ext hK9).trans hE10)))
  go_wp2
  go_ret
  exact ⟨rfl, E8.trans (held_ext hK10)⟩
theorem fnExactSameInterface_lifted (os : Os) (started : os.Started) (H : Type) (enc : TypeId × Value → H) :
    ReturnsInHanded {} Try.checked os 3 .any (Rows.fnExactSameInterfaceSpec.pre6 enc Try.prog Try.f3 Rows.fnExactSameInterfaceRow.domain false) (Rows.fnExactSameInterfaceSpec.post enc Try.prog Try.f3 false true false false) := by
  refine returnsInHanded_of_change (C := Try.checked) own started (by kernel_rfl) Try.func3
    (ChangeSpec.witness6 (enc := enc) (C := Try.checked) false ⟨#[], #[.agg #[.int .i64 0, .slice none 0 0, .slice none 0 0, .slice none 0 0], .agg #[.int .i64 0, .slice none 0 0, .slice none 0 0, .slice none 0 0]], []⟩ 8 (by kernel_rfl) (by kernel_rfl) (by kernel_rfl) (by kernel_rfl)) ?_
  intro W base args ds gs before hval0 hW hcnd _
  have hval : ∀ (j : Nat) t v, Try.f3.params[j]? = some t → args[j]? = some v → Value.okWide Try.prog W .any base t v := hval0
  have hW' := hW
  obtain ⟨p, q, hA0, hV, rfl, hfz, hnd⟩ := hW
  have hA : DataW.TrodAll enc Try.prog W 0 (fun _ => true) true Try.f3.params.toList args.toList ds p := hA0
  rw [Try.params3] at hA hval
  obtain ⟨v0, vs0, d0, ds0, p0, q0, hargs, rfl, rfl, h0, r0⟩ := trodAll_cons hA
  obtain ⟨v1, vs1, d1, ds1, p1, q1, rfl, rfl, rfl, h1, r1⟩ := trodAll_cons r0
  obtain ⟨rfl, rfl, rfl⟩ := trodAll_nil r1
  obtain rfl : args = #[v0, v1] := by cases args; simp_all
  obtain ⟨rfl, rfl⟩ := trodVars_none hV
  have k0 := h0
  have lt0 : ∀ x ∈ p0, x.block < W.heap.size := by obtain ⟨m, hm⟩ := k0; exact DataW.trod_lt m _ _ _ hm
  obtain ⟨c0, q0', rfl, w0, _⟩ := open_circ (hval 0 25 v0 rfl rfl) h0
  have k1 := h1
  have lt1 : ∀ x ∈ p1, x.block < W.heap.size := by obtain ⟨m, hm⟩ := k1; exact DataW.trod_lt m _ _ _ hm
  obtain ⟨c1, q1', rfl, w1, _⟩ := open_circ (hval 1 25 v1 rfl rfl) h1
  clear hA0 hval0
  refine (fnExactSameInterface_walk c0 q0' c1 q1' W w0 w1).mono fun e W' ⟨he, bel⟩ => ?_
  subst he
  exact ⟨_, rfl, _, _, _, [], _, [], hW', trodAll_mk1 (shut_bool Try.underlying4 _), (trodAll_cons_mk (Below.trod laidOut (by kernel_rfl) (of_decide_eq_true (by kernel_rfl)) k0 bel lt0) (trodAll_cons_mk (Below.trod laidOut (by kernel_rfl) (of_decide_eq_true (by kernel_rfl)) k1 bel lt1) trodAll_mk0)), rfl, bel.frame _, fun h => by cases h⟩
theorem fnExactSameInterface_over : Rows.fnExactSameInterfaceRow.holds Try.pinned (OpenSpec.ofChange Rows.fnExactSameInterfaceSpec) :=
  OpenClaim.holds_of_wide 3 Try.f3 rfl rfl rfl rfl rfl rfl rfl ⟨rfl, rfl, rfl, rfl, rfl⟩ rfl rfl rfl rfl rfl (by kernel_rfl) Try.func3 (by kernel_rfl)
    (of_decide_eq_true (by kernel_rfl)) (by unfold Func.isWrapper; first | (rw [if_pos (by decide +kernel)]; kernel_rfl) | (rw [if_neg (by decide +kernel)]; exact ⟨rfl, rfl⟩))
    (fun os started H enc _ => fnExactSameInterface_lifted os started H enc)
theorem fnExactSameInterface_holds : Rows.FnExactSameInterfaceSaid := fnExactSameInterface_over
end Go.Proofs.Ytkgimkdokdffoab
