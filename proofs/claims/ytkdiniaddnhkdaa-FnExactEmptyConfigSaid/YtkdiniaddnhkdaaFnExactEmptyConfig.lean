/- The exact law of EmptyConfig. No condition. -/
import Derived.Test.YtkdiniaddnhkdaaConfY
import Derived.Test.YtkdiniaddnhkdaaConfS
import Derived.Test.YtkdiniaddnhkdaaFrame
namespace Go.Proofs.Ytkdiniaddnhkdaa
open Go.ChangeShapes Go.WideShapes Go.ChangeAt Go.RowKit
set_option maxRecDepth 100000
set_option linter.unusedVariables false
set_option linter.unusedSimpArgs false
theorem OwnK.blk {w : World} {base : Nat} {tv pv : Value} {us : List Value} {K : Conf} (h : OwnK w base tv pv us K) {q : Nat} (hq : BlkK tv pv us K.ts.length q) : base ≤ q ∧ q < w.heap.size := by
  rcases hq with h1 | h1
  · exact h.ts.blk h1
  · exact World.ownsRow.lt h.ps q h1
theorem OwnK.only {S : Nat → Prop} {w w' : World} {base : Nat} {tv pv : Value} {us : List Value} {K : Conf} (h : OwnK w base tv pv us K) (m : OnlyIn S w w') (hs : ∀ q, BlkK tv pv us K.ts.length q → ¬ S q) : OwnK w' base tv pv us K :=
  { h with
    ts := { h.ts with
      row := ownsRow_only h.ts.row m (fun q hq => hs q (.inl (.inl hq)))
      els := { h.ts.els with el := fun j hj => ownsRow_only (h.ts.els.el j hj) m (fun q hq => hs q (.inl (.inr ⟨j, by rw [flT_length] at hj; exact hj, hq⟩))) } }
    ps := ownsRow_only h.ps m (fun q hq => hs q (.inr hq)) }
theorem econf_lens : ∀ j, j < econf.ts.length → (econf.ts.getD j tile0).sl.length ≤ 1048576 ∧ (econf.ts.getD j tile0).dr.length ≤ 1048576 := by
  intro j hj
  have hj2 : j < 25 := by simpa [econf] using hj
  have e : econf.ts.getD j tile0 = etile := by
    show (List.replicate 25 etile).getD j tile0 = etile
    rw [List.getD_eq_getElem?_getD, List.getElem?_replicate, if_pos hj2]; rfl
  rw [e]; simp [etile]
theorem fnExactEmptyConfig_walk  (w : World)  :
    Calls Try.prog 3 #[] w fun e w' => e = .returned (.bool true) ∧ Below w.heap.size w w' := by
  have l1 : econf.ts.length ≤ 1048576 := by simp [econf]
  have l2 : econf.ps.length ≤ 1048576 := by simp [econf]
  have l3 := econf_lens
  have l4 : totM econf.ts ≤ 1000 := by decide
  have T1 := Lib.hid (fun w => specEmptyConfig_c w)
  have T2 := Lib.hid (fun w => implEmptyConfig_c w)
  obtain ⟨K, hK⟩ : ∃ K, K = econf := ⟨_, rfl⟩
  rw [← hK] at l1 l2 l3 l4 T1 T2
  clear hK
  go_enter Try.func3, Try.ntmps3
  go_wp2_with fail
  refine (T1.out _).mono ?_
  rintro e w1 ⟨tv1, pv1, us1, rfl, hO1, hE1⟩
  obtain ⟨ta1, tc1, pa1, pc1, rfl, rfl⟩ := hO1.sl
  have b1 := Blk.at w1 [.slice ta1 K.ts.length tc1, .slice pa1 K.ps.length pc1] 25 rfl
  go_wp2_with fail
  refine (T2.out _).mono ?_
  rintro e w2 ⟨tv2, pv2, us2, rfl, hO2, hE2⟩
  obtain ⟨ta2, tc2, pa2, pc2, rfl, rfl⟩ := hO2.sl
  have F2 := Ext.trans (a := w1) (by (repeat (first | with_reducible assumption | with_reducible exact Ext.refl _ | with_reducible refine Ext.drew' ?_ | with_reducible refine Ext.drewN' ?_ _ | with_reducible refine Ext.alloc ?_ _ | (with_reducible refine Ext.setNew ?_ (by first | exact Nat.le_refl _ | (simp; done) | (simp; omega) | omega) _)))) hE2
  have E2 := hE1.trans F2
  have b1 := (b1.ext hE2).alloc (.cells #[.slice ta2 K.ts.length tc2, .slice pa2 K.ps.length pc2] 25)
  have b2 := Blk.at w2 [.slice ta2 K.ts.length tc2, .slice pa2 K.ps.length pc2] 25 rfl
  have A2 := (Ext.refl w2).alloc (.cells #[.slice ta2 K.ts.length tc2, .slice pa2 K.ps.length pc2] 25)
  have o1 := (hO1.ext F2).ext A2
  have o2 := hO2.ext A2
  have s0 := hE1.size
  have s1 := hE2.size
  simp at s1
  have k1 : ∀ q, BlkK (.slice ta1 K.ts.length tc1) (.slice pa1 K.ps.length pc1) us1 K.ts.length q → q < w1.heap.size := fun q hq => (hO1.blk hq).2
  have k2 : ∀ q, BlkK (.slice ta2 K.ts.length tc2) (.slice pa2 K.ps.length pc2) us2 K.ts.length q → w1.heap.size < q ∧ q < w2.heap.size := fun q hq => by have := hO2.blk hq; simp at this; omega
  have H1 := Lib.hid k1
  have H2 := Lib.hid k2
  have O1 := Lib.hid o1
  have O2 := Lib.hid o2
  clear k1 k2 o1 o2 hO1 hO2
  have z10 := b1.cell (i := 0) rfl
  have z11 := b1.cell (i := 1) rfl
  have bl1 := b1.lt
  go_wp2_with fail
  refine (eqConfig_c K ta2 pa2 ta1 pa1 tc2 pc2 tc1 pc1 _ (O2.out.at_ l1 l2 l3) (O1.out.at_ l1 l2 l3)).mono ?_
  rintro e w3 ⟨rfl, hE3⟩
  have c1 := b1.ext hE3
  have c2 := b2.ext hE3
  have E3 := (E2.trans A2).trans hE3
  have P1 := Lib.hid (O1.out.ext hE3)
  have P2 := Lib.hid (O2.out.ext hE3)
  have s3 := hE3.size
  simp at s3
  clear z10 z11 bl1
  have z20 := c2.cell (i := 0) rfl
  have z21 := c2.cell (i := 1) rfl
  have bl2 := c2.lt
  go_wp2_with fail
  refine (markConfig_c (w1.heap.size + 1) ta2 pa2 tc2 pc2 us2 K 1 _ (P2.out.le (by simp)) (by omega) (by omega) l1 l2 l3).mono ?_
  rintro e w4 ⟨rfl, hO4, hN4⟩
  have d1 := c1.only hN4 (fun e => by have := H2.out _ e; omega)
  have d2 := c2.only hN4 (fun e => by have := H2.out _ e; omega)
  have Q1 := Lib.hid (P1.out.only hN4 (fun q hq e => by have := H1.out q hq; have := H2.out q e; omega))
  have E4 := Ext.mid E3 (hN4.mid (b := w1.heap.size) (N := w2.heap.size) (fun q hq => by have := H2.out q hq; omega)) (by omega)
  have RT : TilesAt w4 ta2 (mkTs 1 K.ts) := hO4.ts.tiles
  have RP : PadsAt w4 pa2 (mksP (1 + totM K.ts) K.ps.length) := by
    have hps := hO4.ps
    rw [show (mkK 1 K).ps.length = K.ps.length from mksP_length _ _] at hps
    exact padsAt_of_row (ownsRow_at hps)
  clear z20 z21 bl2 hO4 hN4
  have z20 := d2.cell (i := 0) rfl
  have z21 := d2.cell (i := 1) rfl
  have bl2 := d2.lt
  go_wp2_with fail
  refine (heldConfig_c ta2 pa2 tc2 pc2 K 1 _ RT RP (by omega) (by omega) l1 l2 l3).mono ?_
  rintro e w5 ⟨rfl, hE5⟩
  have E5 := E4.trans hE5
  have d1 := d1.ext hE5
  have d2 := d2.ext hE5
  have Q1 := Lib.hid (Q1.out.ext hE5)
  have RT := RT.ext hE5
  have RP := RP.ext hE5
  clear z20 z21 bl2
  go_wp2_with fail
  refine (T2.out _).mono ?_
  rintro e w6 ⟨tv6, pv6, us6, rfl, hO6, hE6⟩
  obtain ⟨ta6, tc6, pa6, pc6, rfl, rfl⟩ := hO6.sl
  have E6 := E5.trans hE6
  have A6 := (Ext.refl w6).alloc (.cells #[.slice ta6 K.ts.length tc6, .slice pa6 K.ps.length pc6] 25)
  have d1 := (d1.ext hE6).ext A6
  have d2 := (d2.ext hE6).ext A6
  have Q6 := Lib.hid (hO6.ext A6)
  have Q1 := Lib.hid ((Q1.out.ext hE6).ext A6)
  have RT := (RT.ext hE6).ext A6
  have RP := (RP.ext hE6).ext A6
  have E7 := E6.trans A6
  clear hO6
  have z10 := d1.cell (i := 0) rfl
  have z11 := d1.cell (i := 1) rfl
  have bl1 := d1.lt
  go_wp2_with fail
  refine (eqConfig_c K ta6 pa6 ta1 pa1 tc6 pc6 tc1 pc1 _ (Q6.out.at_ l1 l2 l3) (Q1.out.at_ l1 l2 l3)).mono ?_
  rintro e w7 ⟨rfl, hE7⟩
  have d2 := d2.ext hE7
  have E8 := E7.trans hE7
  clear z10 z11 bl1
  have z20 := d2.cell (i := 0) rfl
  have z21 := d2.cell (i := 1) rfl
  have bl2 := d2.lt
  go_wp2_with fail
  refine (heldConfig_c ta2 pa2 tc2 pc2 K 1 _ (RT.ext hE7) (RP.ext hE7) (by omega) (by omega) l1 l2 l3).mono ?_
  rintro e w8 ⟨rfl, hE8⟩
  go_wp2
  go_ret
  exact ⟨rfl, E8.trans hE8⟩
theorem fnExactEmptyConfig_lifted (os : Os) (started : os.Started) (H : Type) (enc : TypeId × Value → H) :
    ReturnsInHanded {} Try.checked os 3 .any (Rows.fnExactEmptyConfigSpec.pre6 enc Try.prog Try.f3 Rows.fnExactEmptyConfigRow.domain false) (Rows.fnExactEmptyConfigSpec.post enc Try.prog Try.f3 false true false false) := by
  refine returnsInHanded_of_change (C := Try.checked) own started (by kernel_rfl) Try.func3
    (ChangeSpec.witness6 (enc := enc) (C := Try.checked) false ⟨#[], #[], []⟩ 8 (by kernel_rfl) (by kernel_rfl) (by kernel_rfl) (by kernel_rfl)) ?_
  intro W base args ds gs before hval0 hW hcnd _
  have hval : ∀ (j : Nat) t v, Try.f3.params[j]? = some t → args[j]? = some v → Value.okWide Try.prog W .any base t v := hval0
  have hW' := hW
  obtain ⟨p, q, hA0, hV, rfl, hfz, hnd⟩ := hW
  have hA : DataW.TrodAll enc Try.prog W 0 (fun _ => true) true Try.f3.params.toList args.toList ds p := hA0
  rw [Try.params3] at hA hval
  obtain ⟨rfl, rfl, rfl⟩ := trodAll_none hA
  obtain ⟨rfl, rfl⟩ := trodVars_none hV
  clear hA0 hval0
  refine (fnExactEmptyConfig_walk  W ).mono fun e W' ⟨he, bel⟩ => ?_
  subst he
  exact ⟨_, rfl, _, _, _, [], _, [], hW', trodAll_mk1 (shut_bool Try.underlying4 _), trodAll_mk0, rfl, bel.frame _, fun h => by cases h⟩
theorem fnExactEmptyConfig_over : Rows.fnExactEmptyConfigRow.holds Try.pinned (OpenSpec.ofChange Rows.fnExactEmptyConfigSpec) :=
  OpenClaim.holds_of_wide 3 Try.f3 rfl rfl rfl rfl rfl rfl rfl ⟨rfl, rfl, rfl, rfl, rfl⟩ rfl rfl rfl rfl rfl (by kernel_rfl) Try.func3 (by kernel_rfl)
    (of_decide_eq_true (by kernel_rfl)) (by unfold Func.isWrapper; first | (rw [if_pos (by decide +kernel)]; kernel_rfl) | (rw [if_neg (by decide +kernel)]; exact ⟨rfl, rfl⟩))
    (fun os started H enc _ => fnExactEmptyConfig_lifted os started H enc)
theorem fnExactEmptyConfig_holds : Rows.FnExactEmptyConfigSaid := fnExactEmptyConfig_over
end Go.Proofs.Ytkdiniaddnhkdaa
