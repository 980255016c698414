/- The exact law of CircuitValid. No condition. -/
import Derived.Test.YtkgimkdokdffoaaExact
import Derived.Test.YtkgimkdokdffoaaSpec1
namespace Go.Proofs.Ytkgimkdokdffoaa
open Go.ChangeShapes Go.WideShapes Go.ChangeAt Go.RowKit
set_option maxRecDepth 100000
set_option linter.unusedVariables false
set_option linter.unusedSimpArgs false
theorem fnExactCircuitValid_walk (c0 : Circ) (q0 : Where3) (w : World) (w0 : CircIn w c0 q0) :
    Calls Try.prog 7 #[.agg #[.int .i64 c0.inputs, .slice q0.an c0.next.length q0.cn, .slice q0.ag c0.gates.length q0.cg, .slice q0.ao c0.outs.length q0.co]] w fun e w' => e = .returned (.bool true) ∧ Below w.heap.size w w' := by
  have y := CircBox.made w c0 q0 42
  by_cases hz : szC c0 1048576 < 0
  · go_enter Try.func7, Try.ntmps7
    go_wp2_with fail
    refine (szCircuit_c _ _ _ _ (w0.ext (by (repeat (first | with_reducible assumption | with_reducible exact Ext.refl _ | with_reducible refine Ext.drew' ?_ | with_reducible refine Ext.drewN' ?_ _ | with_reducible refine Ext.alloc ?_ _ | (with_reducible refine Ext.setNew ?_ (by first | exact Nat.le_refl _ | (simp; done) | (simp; omega) | omega) _))))) (by omega) (by omega)).mono ?_
    rintro e w1 ⟨rfl, hE1⟩
    have E1 := Ext.trans (a := w) (by (repeat (first | with_reducible assumption | with_reducible exact Ext.refl _ | with_reducible refine Ext.drew' ?_ | with_reducible refine Ext.drewN' ?_ _ | with_reducible refine Ext.alloc ?_ _ | (with_reducible refine Ext.setNew ?_ (by first | exact Nat.le_refl _ | (simp; done) | (simp; omega) | omega) _)))) hE1
    go_wp2
    go_ret
    exact ⟨rfl, E1⟩
  · have hz2 := szC_ok hz
    have hC : CircAt w c0 q0 := ⟨w0.nx, w0.gs, w0.ou, by omega, by omega, by omega⟩
    go_enter Try.func7, Try.ntmps7
    go_wp2_with fail
    refine (szCircuit_c _ _ _ _ (w0.ext (by (repeat (first | with_reducible assumption | with_reducible exact Ext.refl _ | with_reducible refine Ext.drew' ?_ | with_reducible refine Ext.drewN' ?_ _ | with_reducible refine Ext.alloc ?_ _ | (with_reducible refine Ext.setNew ?_ (by first | exact Nat.le_refl _ | (simp; done) | (simp; omega) | omega) _))))) (by omega) (by omega)).mono ?_
    rintro e w1 ⟨rfl, hE1⟩
    have E1 := Ext.trans (a := w) (by (repeat (first | with_reducible assumption | with_reducible exact Ext.refl _ | with_reducible refine Ext.drew' ?_ | with_reducible refine Ext.drewN' ?_ _ | with_reducible refine Ext.alloc ?_ _ | (with_reducible refine Ext.setNew ?_ (by first | exact Nat.le_refl _ | (simp; done) | (simp; omega) | omega) _)))) hE1
    have y1 := y.ext hE1
    (obtain ⟨la, a0, a1, a2, a3⟩ := (id y1))
    go_wp2_with fail
    refine (toCircuit_c _ _ _ (hC.ext E1)).mono ?_
    rintro e w2 ⟨p2, rfl, hC2, hE2⟩
    have E2 := E1.trans hE2
    have y2 := y1.ext hE2
    clear a0 a1 a2 a3
    (obtain ⟨la, a0, a1, a2, a3⟩ := (id y2))
    go_wp2_with fail
    refine (specCircuitValid_c _ _ _ hC2).mono ?_
    rintro e w3 ⟨rfl, hE3⟩
    have E3 := E2.trans hE3
    have y3 := y2.ext hE3
    clear a0 a1 a2 a3
    (obtain ⟨la, a0, a1, a2, a3⟩ := (id y3))
    obtain ⟨V, hV⟩ : ∃ V, V = validB c0 := ⟨_, rfl⟩
    rw [← hV]
    have HV := Lib.hid hV
    clear hV
    go_wp2_with fail
    refine (toCircuit_c _ _ _ (hC.ext E3)).mono ?_
    rintro e w4 ⟨p4, rfl, hC4, hE4⟩
    have E4 := E3.trans hE4
    have y4 := y3.ext hE4
    have x4 := CircBox.made w4 c0 p4 33
    clear a0 a1 a2 a3
    go_wp2_with fail
    refine (implValid_c _ _ _ (hC4.ext (by (repeat (first | with_reducible assumption | with_reducible exact Ext.refl _ | with_reducible refine Ext.drew' ?_ | with_reducible refine Ext.drewN' ?_ _ | with_reducible refine Ext.alloc ?_ _ | (with_reducible refine Ext.setNew ?_ (by first | exact Nat.le_refl _ | (simp; done) | (simp; omega) | omega) _)))))).mono ?_
    rw [← HV.out]
    rintro e w5 ⟨rfl, hE5⟩
    have F5 : Ext w4 w5 := Ext.trans (by (repeat (first | with_reducible assumption | with_reducible exact Ext.refl _ | with_reducible refine Ext.drew' ?_ | with_reducible refine Ext.drewN' ?_ _ | with_reducible refine Ext.alloc ?_ _ | (with_reducible refine Ext.setNew ?_ (by first | exact Nat.le_refl _ | (simp; done) | (simp; omega) | omega) _)))) hE5
    have E5 := E4.trans F5
    have y5 := y4.ext F5
    have x5 := x4.ext hE5
    (obtain ⟨la, a0, a1, a2, a3⟩ := (id y5))
    (obtain ⟨lb, b0, b1, b2, b3⟩ := (id x5))
    go_wp2_with fail
    go_region_held3 ((fun w' => (∀ b o, b < w5.heap.size → w'.cell? ⟨b, o, none⟩ = w5.cell? ⟨b, o, none⟩) ∧ Ext w5 w')) ((first | assumption | (with_reducible exact held_mk (Ext.drew w5)) | (with_reducible exact held_mk (((Ext.refl w5).alloc _).drew')) | (with_reducible exact held_mk ((Ext.drew w5).alloc _)))) (first | (go_simp; go_at_call 22; refine (toCircuit_c _ _ _ (hC.ext (E5.trans (Ext.drew _)))).mono ?_; rintro e w6 ⟨p6, rfl, hC6, hE6⟩; have hK6 := held_mk ((Ext.drew w5).trans hE6)) | (go_simp; go_at_call 23; refine (eqCircuit_c _ _ _ _ (hC4.ext (F5.trans (held_ext hK6))) hC6).mono ?_; rintro e w7 ⟨rfl, hE7⟩; have hK7 := held_mk ((held_ext hK6).trans hE7)))
    go_wp2
    go_ret
    exact ⟨rfl, E5.trans (held_ext hK7)⟩
theorem fnExactCircuitValid_lifted (os : Os) (started : os.Started) (H : Type) (enc : TypeId × Value → H) :
    ReturnsInHanded {} Try.checked os 7 .any (Rows.fnExactCircuitValidSpec.pre6 enc Try.prog Try.f7 Rows.fnExactCircuitValidRow.domain false) (Rows.fnExactCircuitValidSpec.post enc Try.prog Try.f7 false true false false) := by
  refine returnsInHanded_of_change (C := Try.checked) own started (by kernel_rfl) Try.func7
    (ChangeSpec.witness6 (enc := enc) (C := Try.checked) false ⟨#[], #[.agg #[.int .i64 0, .slice none 0 0, .slice none 0 0, .slice none 0 0]], []⟩ 8 (by kernel_rfl) (by kernel_rfl) (by kernel_rfl) (by kernel_rfl)) ?_
  intro W base args ds gs before hval0 hW hcnd _
  have hval : ∀ (j : Nat) t v, Try.f7.params[j]? = some t → args[j]? = some v → Value.okWide Try.prog W .any base t v := hval0
  have hW' := hW
  obtain ⟨p, q, hA0, hV, rfl, hfz, hnd⟩ := hW
  have hA : DataW.TrodAll enc Try.prog W 0 (fun _ => true) true Try.f7.params.toList args.toList ds p := hA0
  rw [Try.params7] at hA hval
  obtain ⟨v0, vs0, d0, ds0, p0, q0, hargs, rfl, rfl, h0, r0⟩ := trodAll_cons hA
  obtain ⟨rfl, rfl, rfl⟩ := trodAll_nil r0
  obtain rfl : args = #[v0] := by cases args; simp_all
  obtain ⟨rfl, rfl⟩ := trodVars_none hV
  have k0 := h0
  have lt0 : ∀ x ∈ p0, x.block < W.heap.size := by obtain ⟨m, hm⟩ := k0; exact DataW.trod_lt m _ _ _ hm
  obtain ⟨c0, q0', rfl, w0, _⟩ := open_circ (hval 0 42 v0 rfl rfl) h0
  clear hA0 hval0
  refine (fnExactCircuitValid_walk c0 q0' W w0).mono fun e W' ⟨he, bel⟩ => ?_
  subst he
  exact ⟨_, rfl, _, _, _, [], _, [], hW', trodAll_mk1 (shut_bool Try.underlying4 _), (trodAll_cons_mk (Below.trod laidOut (by kernel_rfl) (of_decide_eq_true (by kernel_rfl)) k0 bel lt0) trodAll_mk0), rfl, bel.frame _, fun h => by cases h⟩
theorem fnExactCircuitValid_over : Rows.fnExactCircuitValidRow.holds Try.pinned (OpenSpec.ofChange Rows.fnExactCircuitValidSpec) :=
  OpenClaim.holds_of_wide 7 Try.f7 rfl rfl rfl rfl rfl rfl rfl ⟨rfl, rfl, rfl, rfl, rfl⟩ rfl rfl rfl rfl rfl (by kernel_rfl) Try.func7 (by kernel_rfl)
    (of_decide_eq_true (by kernel_rfl)) (by unfold Func.isWrapper; first | (rw [if_pos (by decide +kernel)]; kernel_rfl) | (rw [if_neg (by decide +kernel)]; exact ⟨rfl, rfl⟩))
    (fun os started H enc _ => fnExactCircuitValid_lifted os started H enc)
theorem fnExactCircuitValid_holds : Rows.FnExactCircuitValidSaid := fnExactCircuitValid_over
end Go.Proofs.Ytkgimkdokdffoaa