/- The exact law of FabricReset. No condition. -/
import Derived.Test.YtkgimkdokdffoaaMark
import Derived.Test.YtkgimkdokdffoaaFrame
namespace Go.Proofs.Ytkgimkdokdffoaa
open Go.ChangeShapes Go.WideShapes Go.ChangeAt Go.RowKit
set_option maxRecDepth 100000
set_option linter.unusedVariables false
set_option linter.unusedSimpArgs false
theorem boolInfo : (Try.prog.info? 4).map (fun i => (i.zero, i.size, i.bytes)) = some (some (.bool false), 1, 1) := by kernel_rfl
def zer25 : List Value := (List.replicate 25 [Value.bool false]).flatten
theorem zer25_eq : zer25 = (List.replicate 25 false).map Value.bool := by unfold zer25; rfl
theorem make25 (w : World) : (Instr.makeSlice 23 (.int .i64 25) (.int .i64 25)).run Try.prog w = .ok (.slice (some ⟨w.heap.size, 0, none⟩) 25 25) (w.alloc (.cells zer25.toArray 4)) :=
  run_zeros (P := Try.prog) 23 4 (.bool false) [.bool false] 1 Try.underlying23 boolInfo rfl (by decide) (by decide) 25 (by decide) w
def ResetPost (w : World) (e : Ending) (w' : World) : Prop := ∃ B, e = .returned (.agg #[.slice (some ⟨B, 0, none⟩) 25 25]) ∧ w.heap.size ≤ B ∧ Blk w' B 4 ((List.replicate 25 false).map Value.bool) ∧ Ext w w'
theorem specReset_c (w : World) : Calls Try.prog 9 #[] w (ResetPost w) := by
  have hm := make25
  go_enter Try.func9, Try.ntmps9
  go_wp2
  refine bodyPost_ret (v := .agg #[.slice (some ⟨w.heap.size + 1, 0, none⟩) 25 25]) (by simp [results, Try.results9, go_sem]) rfl ?_
  refine ⟨_, rfl, by omega, ?_, by (repeat (first | with_reducible assumption | with_reducible exact Ext.refl _ | with_reducible refine Ext.drew' ?_ | with_reducible refine Ext.drewN' ?_ _ | with_reducible refine Ext.alloc ?_ _ | (with_reducible refine Ext.setNew ?_ (by first | exact Nat.le_refl _ | (simp; done) | (simp; omega) | omega) _)))⟩
  rw [← zer25_eq]
  repeat (first | with_reducible refine Blk.setOther ?_ (by simp) _ | with_reducible exact Blk.at _ _ _ (by simp))
theorem implReset_c (w : World) : Calls Try.prog 10 #[] w (ResetPost w) := by
  have hm := make25
  go_enter Try.func10, Try.ntmps10
  go_wp2
  refine bodyPost_ret (v := .agg #[.slice (some ⟨w.heap.size + 1, 0, none⟩) 25 25]) (by simp [results, Try.results10, go_sem]) rfl ?_
  refine ⟨_, rfl, by omega, ?_, by (repeat (first | with_reducible assumption | with_reducible exact Ext.refl _ | with_reducible refine Ext.drew' ?_ | with_reducible refine Ext.drewN' ?_ _ | with_reducible refine Ext.alloc ?_ _ | (with_reducible refine Ext.setNew ?_ (by first | exact Nat.le_refl _ | (simp; done) | (simp; omega) | omega) _)))⟩
  rw [← zer25_eq]
  repeat (first | with_reducible refine Blk.setOther ?_ (by simp) _ | with_reducible exact Blk.at _ _ _ (by simp))
theorem eqFabricState_c (a b : Option Addr) (c d n : Nat) (xs : List Bool) (hn : xs.length = n) (w : World) (hx : BoolsAt w a xs) (hy : BoolsAt w b xs) (hl : xs.length ≤ 1048576) :
    Calls Try.prog 11 #[.agg #[.slice a n c], .agg #[.slice b n d]] w fun e w' => e = .returned (.bool true) ∧ Ext w w' := by
  subst hn
  go_enter Try.func11, Try.ntmps11
  go_wp2_with fail
  refine (eqBoolS_c _ _ _ _ _ _ (hx.ext (by (repeat (first | with_reducible assumption | with_reducible exact Ext.refl _ | with_reducible refine Ext.drew' ?_ | with_reducible refine Ext.drewN' ?_ _ | with_reducible refine Ext.alloc ?_ _ | (with_reducible refine Ext.setNew ?_ (by first | exact Nat.le_refl _ | (simp; done) | (simp; omega) | omega) _))))) (hy.ext (by (repeat (first | with_reducible assumption | with_reducible exact Ext.refl _ | with_reducible refine Ext.drew' ?_ | with_reducible refine Ext.drewN' ?_ _ | with_reducible refine Ext.alloc ?_ _ | (with_reducible refine Ext.setNew ?_ (by first | exact Nat.le_refl _ | (simp; done) | (simp; omega) | omega) _))))) hl).mono ?_
  rintro e w1 ⟨rfl, hE1⟩
  have E1 := Ext.trans (a := w) (by (repeat (first | with_reducible assumption | with_reducible exact Ext.refl _ | with_reducible refine Ext.drew' ?_ | with_reducible refine Ext.drewN' ?_ _ | with_reducible refine Ext.alloc ?_ _ | (with_reducible refine Ext.setNew ?_ (by first | exact Nat.le_refl _ | (simp; done) | (simp; omega) | omega) _)))) hE1
  go_wp2
  go_ret
  exact ⟨rfl, E1⟩
theorem markFabricState_c (base g c n : Nat) (xs : List Bool) (hn : xs.length = n) (k : Int) (w : World) (ho : w.ownsRow base 4 1 (.slice (some ⟨g, 0, none⟩) n c) n (xs.map Value.bool)) (h0 : 0 ≤ k) (h1 : k ≤ 1000000000) (hl : xs.length ≤ 1048576) :
    Calls Try.prog 12 #[.agg #[.slice (some ⟨g, 0, none⟩) n c], .int .i64 k] w fun e w' => e = .returned (.int .i64 (k + n)) ∧ w'.ownsRow base 4 1 (.slice (some ⟨g, 0, none⟩) n c) n ((mksB k n).map Value.bool) ∧ w.grownBy w' (some g) := by
  subst hn
  go_enter Try.func12, Try.ntmps12
  go_wp2_with fail
  refine (markBoolS_c base _ _ xs k _ (ownsRow_ext ho (by (repeat (first | with_reducible assumption | with_reducible exact Ext.refl _ | with_reducible refine Ext.drew' ?_ | with_reducible refine Ext.drewN' ?_ _ | with_reducible refine Ext.alloc ?_ _ | (with_reducible refine Ext.setNew ?_ (by first | exact Nat.le_refl _ | (simp; done) | (simp; omega) | omega) _))))) h0 h1 hl).mono ?_
  rintro e w1 ⟨rfl, hO, hG⟩
  go_wp2
  go_ret
  exact ⟨rfl, hO, Gr.trans (Gr.ext (by (repeat (first | with_reducible assumption | with_reducible exact Ext.refl _ | with_reducible refine Ext.drew' ?_ | with_reducible refine Ext.drewN' ?_ _ | with_reducible refine Ext.alloc ?_ _ | (with_reducible refine Ext.setNew ?_ (by first | exact Nat.le_refl _ | (simp; done) | (simp; omega) | omega) _)))) _) hG⟩
theorem heldFabricState_c (a : Option Addr) (c n : Nat) (k : Int) (w : World) (hx : BoolsAt w a (mksB k n)) (h0 : 0 ≤ k) (h1 : k ≤ 1000000000) (hl : n ≤ 1048576) :
    Calls Try.prog 13 #[.agg #[.slice a n c], .int .i64 k] w fun e w' => e = .returned (.int .i64 (k + n)) ∧ Ext w w' := by
  go_enter Try.func13, Try.ntmps13
  go_wp2_with fail
  refine (heldBoolS_c _ _ _ k _ (hx.ext (by (repeat (first | with_reducible assumption | with_reducible exact Ext.refl _ | with_reducible refine Ext.drew' ?_ | with_reducible refine Ext.drewN' ?_ _ | with_reducible refine Ext.alloc ?_ _ | (with_reducible refine Ext.setNew ?_ (by first | exact Nat.le_refl _ | (simp; done) | (simp; omega) | omega) _))))) h0 h1 hl).mono ?_
  rintro e w1 ⟨rfl, rfl⟩
  go_wp2
  go_ret
  exact ⟨rfl, by (repeat (first | with_reducible assumption | with_reducible exact Ext.refl _ | with_reducible refine Ext.drew' ?_ | with_reducible refine Ext.drewN' ?_ _ | with_reducible refine Ext.alloc ?_ _ | (with_reducible refine Ext.setNew ?_ (by first | exact Nat.le_refl _ | (simp; done) | (simp; omega) | omega) _)))⟩
theorem fnExactFabricReset_walk  (w : World)  :
    Calls Try.prog 4 #[] w fun e w' => e = .returned (.bool true) ∧ Below w.heap.size w w' := by
  go_enter Try.func4, Try.ntmps4
  go_wp2_with fail
  refine (specReset_c _).mono ?_
  rintro e w1 ⟨B1, rfl, hB1, hI1, hE1⟩
  have b1 := Blk.at w1 [.slice (some ⟨B1, 0, none⟩) 25 25] 25 rfl
  go_wp2_with fail
  refine (implReset_c _).mono ?_
  rintro e w2 ⟨B2, rfl, hB2, hI2, hE2⟩
  have F2 := Ext.trans (a := w1) (by (repeat (first | with_reducible assumption | with_reducible exact Ext.refl _ | with_reducible refine Ext.drew' ?_ | with_reducible refine Ext.drewN' ?_ _ | with_reducible refine Ext.alloc ?_ _ | (with_reducible refine Ext.setNew ?_ (by first | exact Nat.le_refl _ | (simp; done) | (simp; omega) | omega) _)))) hE2
  have E2 := hE1.trans F2
  have b1 := (b1.ext hE2).alloc (.cells #[.slice (some ⟨B2, 0, none⟩) 25 25] 25)
  have b2 := Blk.at w2 [.slice (some ⟨B2, 0, none⟩) 25 25] 25 rfl
  have i1 := hI1.ext F2
  have l1 := hI1.lt
  have l2 := hI2.lt
  have s1 := hE2.size
  simp at s1 hB2
  have z1 := b1.cell (i := 0) rfl
  go_wp2_with fail
  refine (eqFabricState_c _ _ _ _ 25 (List.replicate 25 false) (by simp) _ (hI2.bools.ext (by (repeat (first | with_reducible assumption | with_reducible exact Ext.refl _ | with_reducible refine Ext.drew' ?_ | with_reducible refine Ext.drewN' ?_ _ | with_reducible refine Ext.alloc ?_ _ | (with_reducible refine Ext.setNew ?_ (by first | exact Nat.le_refl _ | (simp; done) | (simp; omega) | omega) _))))) (i1.bools.ext (by (repeat (first | with_reducible assumption | with_reducible exact Ext.refl _ | with_reducible refine Ext.drew' ?_ | with_reducible refine Ext.drewN' ?_ _ | with_reducible refine Ext.alloc ?_ _ | (with_reducible refine Ext.setNew ?_ (by first | exact Nat.le_refl _ | (simp; done) | (simp; omega) | omega) _))))) (by simp)).mono ?_
  rintro e w3 ⟨rfl, hE3⟩
  have E3 := E2.trans (Ext.trans (a := w2) (by (repeat (first | with_reducible assumption | with_reducible exact Ext.refl _ | with_reducible refine Ext.drew' ?_ | with_reducible refine Ext.drewN' ?_ _ | with_reducible refine Ext.alloc ?_ _ | (with_reducible refine Ext.setNew ?_ (by first | exact Nat.le_refl _ | (simp; done) | (simp; omega) | omega) _)))) hE3)
  have c1 := b1.ext hE3
  have c2 := b2.ext hE3
  have i3 := hI2.ext (Ext.trans (a := w2) (by (repeat (first | with_reducible assumption | with_reducible exact Ext.refl _ | with_reducible refine Ext.drew' ?_ | with_reducible refine Ext.drewN' ?_ _ | with_reducible refine Ext.alloc ?_ _ | (with_reducible refine Ext.setNew ?_ (by first | exact Nat.le_refl _ | (simp; done) | (simp; omega) | omega) _)))) hE3)
  have i1 := i1.ext (Ext.trans (a := w2) (by (repeat (first | with_reducible assumption | with_reducible exact Ext.refl _ | with_reducible refine Ext.drew' ?_ | with_reducible refine Ext.drewN' ?_ _ | with_reducible refine Ext.alloc ?_ _ | (with_reducible refine Ext.setNew ?_ (by first | exact Nat.le_refl _ | (simp; done) | (simp; omega) | omega) _)))) hE3)
  have l3 := i3.lt
  clear z1
  have z2 := c2.cell (i := 0) rfl
  have O3 := i3.owns (n := 25) (size := 1) (by simp) (base := w1.heap.size) (by omega) (by decide)
  go_wp2_with fail
  refine (markFabricState_c w1.heap.size B2 25 25 (List.replicate 25 false) (by simp) 1 _ O3 (by omega) (by omega) (by simp)).mono ?_
  rintro e w4 ⟨rfl, O4, G4⟩
  have d1 := c1.gr G4 (by simp; omega)
  have d2 := c2.gr G4 (by simp; omega)
  have i4 := i1.gr G4 (by simp; omega)
  clear z2
  have z2 := d2.cell (i := 0) rfl
  have R4 := boolsAt_of_row (ownsRow_at O4)
  have E4 := ext_grown (v := .slice (some ⟨B2, 0, none⟩) 25 25) E3 G4 (by intro k hk; cases hk; have := E2.size; have := hE1.size; simp at *; omega)
  go_wp2_with fail
  refine (heldFabricState_c _ _ _ 1 _ R4 (by omega) (by omega) (by omega)).mono ?_
  rintro e w5 ⟨rfl, hE5⟩
  have E5 := E4.trans hE5
  have d1 := d1.ext hE5
  have d2 := d2.ext hE5
  have i5 := i4.ext hE5
  have R5 := R4.ext hE5
  clear z2
  go_wp2_with fail
  refine (implReset_c _).mono ?_
  rintro e w6 ⟨B6, rfl, hB6, hI6, hE6⟩
  have E6 := E5.trans hE6
  have d1 := (d1.ext hE6).alloc (.cells #[.slice (some ⟨B6, 0, none⟩) 25 25] 25)
  have d2 := (d2.ext hE6).alloc (.cells #[.slice (some ⟨B6, 0, none⟩) 25 25] 25)
  have z1 := d1.cell (i := 0) rfl
  go_wp2_with fail
  refine (eqFabricState_c _ _ _ _ 25 (List.replicate 25 false) (by simp) _ (hI6.bools.ext (by (repeat (first | with_reducible assumption | with_reducible exact Ext.refl _ | with_reducible refine Ext.drew' ?_ | with_reducible refine Ext.drewN' ?_ _ | with_reducible refine Ext.alloc ?_ _ | (with_reducible refine Ext.setNew ?_ (by first | exact Nat.le_refl _ | (simp; done) | (simp; omega) | omega) _))))) ((i5.bools.ext hE6).ext (by (repeat (first | with_reducible assumption | with_reducible exact Ext.refl _ | with_reducible refine Ext.drew' ?_ | with_reducible refine Ext.drewN' ?_ _ | with_reducible refine Ext.alloc ?_ _ | (with_reducible refine Ext.setNew ?_ (by first | exact Nat.le_refl _ | (simp; done) | (simp; omega) | omega) _))))) (by simp)).mono ?_
  rintro e w7 ⟨rfl, hE7⟩
  have F7 := Ext.trans (a := w6) (by (repeat (first | with_reducible assumption | with_reducible exact Ext.refl _ | with_reducible refine Ext.drew' ?_ | with_reducible refine Ext.drewN' ?_ _ | with_reducible refine Ext.alloc ?_ _ | (with_reducible refine Ext.setNew ?_ (by first | exact Nat.le_refl _ | (simp; done) | (simp; omega) | omega) _)))) hE7
  have d2 := d2.ext hE7
  have z2 := d2.cell (i := 0) rfl
  go_wp2_with fail
  refine (heldFabricState_c _ _ _ 1 _ (R5.ext (hE6.trans F7)) (by omega) (by omega) (by omega)).mono ?_
  rintro e w8 ⟨rfl, hE8⟩
  go_wp2
  go_ret
  exact ⟨rfl, (E6.trans F7).trans hE8⟩
theorem fnExactFabricReset_lifted (os : Os) (started : os.Started) (H : Type) (enc : TypeId × Value → H) :
    ReturnsInHanded {} Try.checked os 4 .any (Rows.fnExactFabricResetSpec.pre6 enc Try.prog Try.f4 Rows.fnExactFabricResetRow.domain false) (Rows.fnExactFabricResetSpec.post enc Try.prog Try.f4 false true false false) := by
  refine returnsInHanded_of_change (C := Try.checked) own started (by kernel_rfl) Try.func4
    (ChangeSpec.witness6 (enc := enc) (C := Try.checked) false ⟨#[], #[], []⟩ 8 (by kernel_rfl) (by kernel_rfl) (by kernel_rfl) (by kernel_rfl)) ?_
  intro W base args ds gs before hval0 hW hcnd _
  have hval : ∀ (j : Nat) t v, Try.f4.params[j]? = some t → args[j]? = some v → Value.okWide Try.prog W .any base t v := hval0
  have hW' := hW
  obtain ⟨p, q, hA0, hV, rfl, hfz, hnd⟩ := hW
  have hA : DataW.TrodAll enc Try.prog W 0 (fun _ => true) true Try.f4.params.toList args.toList ds p := hA0
  rw [Try.params4] at hA hval
  obtain ⟨rfl, rfl, rfl⟩ := trodAll_none hA
  obtain ⟨rfl, rfl⟩ := trodVars_none hV
  clear hA0 hval0
  refine (fnExactFabricReset_walk  W ).mono fun e W' ⟨he, bel⟩ => ?_
  subst he
  exact ⟨_, rfl, _, _, _, [], _, [], hW', trodAll_mk1 (shut_bool Try.underlying4 _), trodAll_mk0, rfl, bel.frame _, fun h => by cases h⟩
theorem fnExactFabricReset_over : Rows.fnExactFabricResetRow.holds Try.pinned (OpenSpec.ofChange Rows.fnExactFabricResetSpec) :=
  OpenClaim.holds_of_wide 4 Try.f4 rfl rfl rfl rfl rfl rfl rfl ⟨rfl, rfl, rfl, rfl, rfl⟩ rfl rfl rfl rfl rfl (by kernel_rfl) Try.func4 (by kernel_rfl)
    (of_decide_eq_true (by kernel_rfl)) (by unfold Func.isWrapper; first | (rw [if_pos (by decide +kernel)]; kernel_rfl) | (rw [if_neg (by decide +kernel)]; exact ⟨rfl, rfl⟩))
    (fun os started H enc _ => fnExactFabricReset_lifted os started H enc)
theorem fnExactFabricReset_holds : Rows.FnExactFabricResetSaid := fnExactFabricReset_over
end Go.Proofs.Ytkgimkdokdffoaa
