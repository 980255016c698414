/- The law FnExactConfigAcyclic: both libraries' ConfigAcyclic answer alike, and the argument is left as it was. No condition. -/
import Derived.Test.YtkdiniaddnhkdaaFrame
import Derived.Test.YtkdiniaddnhkdaaConfS
import Derived.Test.YtkdiniaddnhkdaaAcyI
import Derived.Test.YtkdiniaddnhkdaaAcyT
namespace Go.Proofs.Ytkdiniaddnhkdaa
open Go.ChangeShapes Go.WideShapes Go.ChangeAt Go.RowKit
set_option maxRecDepth 100000
set_option linter.unusedVariables false
set_option linter.unusedSimpArgs false
set_option maxHeartbeats 2000000 in
theorem fnExactConfigAcyclic_walk (f0 : Conf) (ta0 : Option Addr) (tc0 : Nat) (pa0 : Option Addr) (pc0 : Nat) (w : World) (w0 : ConfIn w f0 ta0 tc0 pa0 pc0) :
    Calls Try.prog 6 #[.agg #[.slice ta0 f0.ts.length tc0, .slice pa0 f0.ps.length pc0]] w fun e w' => e = .returned (.bool true) ∧ Below w.heap.size w w' := by
  have y := Blk.at w [.slice ta0 f0.ts.length tc0, .slice pa0 f0.ps.length pc0] 33 rfl
  have Ey : Ext w (w.alloc (.cells #[.slice ta0 f0.ts.length tc0, .slice pa0 f0.ps.length pc0] 33)) := (Ext.refl w).alloc _
  by_cases hz : szK f0 1048576 < 0
  · go_enter Try.func6, Try.ntmps6
    go_wp2_with fail
    refine (szConfig_c f0 ta0 pa0 tc0 pc0 _ _ ⟨w0.ts.ext Ey, w0.ps.ext Ey, w0.lt, w0.lp, w0.ls⟩ (by omega) (by omega)).mono ?_
    rintro e w1 ⟨rfl, hE1⟩
    go_wp2
    go_ret
    exact ⟨rfl, Ey.trans hE1⟩
  · obtain ⟨z0, z1, z2, z3, z4⟩ := szK_ok hz (by omega)
    have hK : ConfAt w f0 ta0 pa0 := ⟨w0.ts, w0.ps, z2, z3, z4⟩
    have hz5 : ¬ szK f0 1048576 < 0 := hz
    go_enter Try.func6, Try.ntmps6
    go_wp2_with fail
    refine (szConfig_c f0 ta0 pa0 tc0 pc0 _ _ ⟨w0.ts.ext Ey, w0.ps.ext Ey, w0.lt, w0.lp, w0.ls⟩ (by omega) (by omega)).mono ?_
    rintro e w1 ⟨rfl, hE1⟩
    have y := y.ext hE1
    have E1 := Ey.trans hE1
    have c0 := y.cell (i := 0) rfl
    have c1 := y.cell (i := 1) rfl
    have cl := y.lt
    have HR := Lib.hid (show acyV f0 = acyV f0 from rfl)
    have T1 := Lib.hid (fun (ta pa : Option Addr) (tc pc : Nat) => implConfigAcyclic_c f0 ta pa tc pc)
    have T2 := Lib.hid (fun (ta pa : Option Addr) (tc pc : Nat) => specConfigAcyclic_c f0 ta pa tc pc)
    obtain ⟨R, hR⟩ : ∃ R, R = acyV f0 := ⟨_, rfl⟩
    rw [← hR] at T1 T2
    clear hR HR hz
    go_wp2_with fail
    refine (toConfig_c f0 ta0 pa0 tc0 pc0 _ (hK.ext E1)).mono ?_
    rintro e w2 ⟨tv, pv, us, rfl, hO, hE2⟩
    obtain ⟨ta, tc, pa, pc, rfl, rfl⟩ := hO.sl
    have hA := hO.at_ z2 z3 z4
    have y := y.ext hE2
    have E2 := E1.trans hE2
    clear c0 c1 cl hO
    go_wp2_with fail
    refine (T2.out ta pa tc pc _ hA).mono ?_
    rintro e w3 ⟨rfl, hE3⟩
    have y := y.ext hE3
    have E3 := E2.trans hE3
    have c0 := y.cell (i := 0) rfl
    have c1 := y.cell (i := 1) rfl
    have cl := y.lt
    go_wp2_with fail
    refine (toConfig_c f0 ta0 pa0 tc0 pc0 _ (hK.ext E3)).mono ?_
    rintro e w4 ⟨tv4, pv4, us4, rfl, hO4, hE4⟩
    obtain ⟨ta4, tc4, pa4, pc4, rfl, rfl⟩ := hO4.sl
    have hA4 := hO4.at_ z2 z3 z4
    have y := y.ext hE4
    have E4 := E3.trans hE4
    have x4 := Blk.at w4 [.slice ta4 f0.ts.length tc4, .slice pa4 f0.ps.length pc4] 25 rfl
    have Ex : Ext w4 (w4.alloc (.cells #[.slice ta4 f0.ts.length tc4, .slice pa4 f0.ps.length pc4] 25)) := (Ext.refl w4).alloc _
    clear c0 c1 cl hO4
    go_wp2_with fail
    refine (T1.out ta4 pa4 tc4 pc4 _ (hA4.ext Ex)).mono ?_
    rintro e w5 ⟨rfl, hE5⟩
    have F5 := Ex.trans hE5
    have x5 := x4.ext hE5
    have y := y.ext F5
    have E5 := E4.trans F5
    have hA5 := hA4.ext F5
    have x0 := x5.cell (i := 0) rfl
    have x1 := x5.cell (i := 1) rfl
    have xl := x5.lt
    have c0 := y.cell (i := 0) rfl
    have c1 := y.cell (i := 1) rfl
    have cl := y.lt
    have hRR : (R != R) = false := by simp
    clear T1 T2
    go_wp2_with fail
    go_region_held3 ((fun w' => (∀ b o, b < w5.heap.size → w'.cell? ⟨b, o, none⟩ = w5.cell? ⟨b, o, none⟩) ∧ Ext w5 w')) ((first | assumption | (with_reducible exact held_mk (Ext.drew w5)) | (with_reducible exact held_mk (((Ext.refl w5).alloc _).drew')) | (with_reducible exact held_mk ((Ext.drew w5).alloc _)))) (first
      | (go_simp; go_at_call 14; have hguard := hK1; refine (eqConfig_c f0 ta4 pa4 ta6 pa6 tc4 pc4 tc6 pc6 _ (hA5.ext (held_ext hK1)) hA6).mono ?_; rintro e w7 ⟨rfl, hE7⟩; have hK2 := held_mk ((held_ext hK1).trans hE7))
      | (go_simp; go_at_call 19; refine (toConfig_c f0 ta0 pa0 tc0 pc0 _ (hK.ext (E5.trans (Ext.drew w5)))).mono ?_; rintro e w6 ⟨tv6, pv6, us6, rfl, hO6, hE6⟩; obtain ⟨ta6, tc6, pa6, pc6, rfl, rfl⟩ := hO6.sl; have hA6 := hO6.at_ z2 z3 z4; have hK1 := held_mk ((Ext.drew w5).trans hE6)))
    go_wp2
    go_ret
    exact ⟨rfl, E5.trans (held_ext hK2)⟩
theorem fnExactConfigAcyclic_lifted (os : Os) (started : os.Started) (H : Type) (enc : TypeId × Value → H) :
    ReturnsInHanded {} Try.checked os 6 .any (Rows.fnExactConfigAcyclicSpec.pre6 enc Try.prog Try.f6 Rows.fnExactConfigAcyclicRow.domain false) (Rows.fnExactConfigAcyclicSpec.post enc Try.prog Try.f6 false true false false) := by
  refine returnsInHanded_of_change (C := Try.checked) own started (by kernel_rfl) Try.func6
    (ChangeSpec.witness6 (enc := enc) (C := Try.checked) false ⟨#[], #[.agg #[.slice none 0 0, .slice none 0 0]], []⟩ 8 (by kernel_rfl) (by kernel_rfl) (by kernel_rfl) (by kernel_rfl)) ?_
  intro W base args ds gs before hval0 hW hcnd _
  have hval : ∀ (j : Nat) t v, Try.f6.params[j]? = some t → args[j]? = some v → Value.okWide Try.prog W .any base t v := hval0
  have hW' := hW
  obtain ⟨p, q, hA0, hV, rfl, hfz, hnd⟩ := hW
  have hA : DataW.TrodAll enc Try.prog W 0 (fun _ => true) true Try.f6.params.toList args.toList ds p := hA0
  rw [Try.params6] at hA hval
  obtain ⟨v0, vs0, d0, ds0, p0, q0, hargs, rfl, rfl, h0, r0⟩ := trodAll_cons hA
  obtain ⟨rfl, rfl, rfl⟩ := trodAll_nil r0
  obtain rfl : args = #[v0] := by cases args; simp_all
  obtain ⟨rfl, rfl⟩ := trodVars_none hV
  have k0 := h0
  have lt0 : ∀ x ∈ p0, x.block < W.heap.size := by obtain ⟨m, hm⟩ := k0; exact DataW.trod_lt m _ _ _ hm
  obtain ⟨f0, ta0, tc0, pa0, pc0, rfl, w0⟩ := open_conf (hval 0 33 v0 rfl rfl) h0
  clear hA0 hval0
  refine (fnExactConfigAcyclic_walk f0 ta0 tc0 pa0 pc0 W w0).mono fun e W' ⟨he, bel⟩ => ?_
  subst he
  exact ⟨_, rfl, _, _, _, [], _, [], hW', trodAll_mk1 (shut_bool Try.underlying4 _), (trodAll_cons_mk (Below.trod laidOut (by kernel_rfl) (of_decide_eq_true (by kernel_rfl)) k0 bel lt0) trodAll_mk0), rfl, bel.frame _, fun h => by cases h⟩
theorem fnExactConfigAcyclic_over : Rows.fnExactConfigAcyclicRow.holds Try.pinned (OpenSpec.ofChange Rows.fnExactConfigAcyclicSpec) :=
  OpenClaim.holds_of_wide 6 Try.f6 rfl rfl rfl rfl rfl rfl rfl ⟨rfl, rfl, rfl, rfl, rfl⟩ rfl rfl rfl rfl rfl (by kernel_rfl) Try.func6 (by kernel_rfl)
    (of_decide_eq_true (by kernel_rfl)) (by unfold Func.isWrapper; first | (rw [if_pos (by decide +kernel)]; kernel_rfl) | (rw [if_neg (by decide +kernel)]; exact ⟨rfl, rfl⟩))
    (fun os started H enc _ => fnExactConfigAcyclic_lifted os started H enc)
theorem fnExactConfigAcyclic_holds : Rows.FnExactConfigAcyclicSaid := fnExactConfigAcyclic_over
end Go.Proofs.Ytkdiniaddnhkdaa
