/- The law FnOptimizeSmall: the optimized circuit has no more gates and no more levels. No condition. -/
import Derived.Test.YtpfhlodlefcomaaBytes
import Derived.Test.YtpfhlodlefcomaaDraw3
import Derived.Test.YtpfhlodlefcomaaDepth2
import Derived.Test.YtpfhlodlefcomaaOptC
import Derived.Test.YtpfhlodlefcomaaOptM
import Derived.Test.YtpfhlodlefcomaaOptE
import Derived.Test.YtpfhlodlefcomaaSameC
namespace Go.Proofs.Ytpfhlodlefcomaa
open Go.ChangeShapes Go.WideShapes Go.ChangeAt Go.RowKit
set_option maxRecDepth 100000
set_option linter.unusedVariables false
set_option linter.unusedSimpArgs false
set_option maxHeartbeats 4000000 in
theorem fnOptimizeSmall_walk (a0 : Option Addr) (len0 cap0 : Nat) (z0 : List Int) (w : World) (w0 : IsRow .u8 w a0 len0 cap0 z0) :
    Calls Try.prog 6 #[.slice a0 len0 cap0] w fun e w' => e = .returned (.bool true) ∧ Below w.heap.size w w' := by
  obtain ⟨bs, rfl, hB, hlc, hcm⟩ := bytes_of_row w0
  by_cases hl : bs.length ≤ 1048576
  · go_enter Try.func6, Try.ntmps6
    go_wp2_with fail
    refine (DrawOptimize_c a0 cap0 bs _ hB hl hlc hcm).mono ?_
    rintro e w1 ⟨c, p, rfl, hC, hd, hE, hcap⟩
    have hb := Blk.at w1 [.int .i64 c.inputs, .slice p.an c.next.length p.cn, .slice p.ag c.gates.length p.cg, .slice p.ao c.outs.length p.co] 26 rfl
    go_wp2_with fail
    (have y := CircBox.made w1 c p 26; have Ey : Ext w1 (w1.alloc (.cells #[.int .i64 c.inputs, .slice p.an c.next.length p.cn, .slice p.ag c.gates.length p.cg, .slice p.ao c.outs.length p.co] 26)) := (Ext.refl w1).alloc _; have hC := hC.ext Ey)
    generalize w1.alloc (.cells #[.int .i64 c.inputs, .slice p.an c.next.length p.cn, .slice p.ag c.gates.length p.cg, .slice p.ao c.outs.length p.co] 26) = W1 at *
    have E1 := Ext.trans hE Ey
    clear hE Ey hb
    refine (implOptimize_c c p _ hC).mono ?_
    rintro e w2 ⟨nv, gv, ov, rfl, o2, hE2⟩
    obtain ⟨l1, l2, l3⟩ := optV_lens c
    have hno := optV_no (c := c)
    have hsm := opt_small (c := c)
    have hval := optV_valid (c := c)
    obtain ⟨d, hd2⟩ : ∃ d, d = optV c := ⟨_, rfl⟩
    rw [← hd2] at o2 l1 l2 l3 hno hsm hval ⊢
    have HD := Lib.hid hd2
    have HNO := Lib.hid hno
    have HSM := Lib.hid hsm
    have HVAL := Lib.hid hval
    clear hno hsm hval hd2
    obtain ⟨q, rfl, rfl, rfl, hCd, _⟩ := o2.opened (by omega) (by omega) (by omega)
    have hC := hC.ext hE2
    have y := y.ext hE2
    have E2 := E1.trans hE2
    clear o2 hE2 E1
    go_wp2_with fail
    have Ez : Ext w2 (w2.alloc (.cells #[.int .i64 d.inputs, .slice q.an d.next.length q.cn, .slice q.ag d.gates.length q.cg, .slice q.ao d.outs.length q.co] 26)) := (Ext.refl w2).alloc _
    have z := CircBox.made w2 d q 26
    have hC := hC.ext Ez
    have hCd := hCd.ext Ez
    have y := y.ext Ez
    have E3 := E2.trans Ez
    generalize w2.alloc (.cells #[.int .i64 d.inputs, .slice q.an d.next.length q.cn, .slice q.ag d.gates.length q.cg, .slice q.ao d.outs.length q.co] 26) = W3 at *
    clear E2 Ez
    (obtain ⟨ly, y0, y1, y2, y3⟩ := (id y))
    (obtain ⟨lz, z0, z1, z2, z3⟩ := (id z))
    go_region_held3 ((fun w' => (∀ b o, b < W3.heap.size → w'.cell? ⟨b, o, none⟩ = W3.cell? ⟨b, o, none⟩) ∧ Ext W3 w')) ((first | assumption | (with_reducible exact held_mk (Ext.drew W3)) | (with_reducible exact held_mk (((Ext.refl W3).alloc _).drew')) | (with_reducible exact held_mk ((Ext.drew W3).alloc _)))) (first | (go_simp; go_at_call 25; have hguard := hK1; refine (sameCircuit_c d q r _ (hCd.ext (held_ext hK1)) hR).mono ?_; rintro e w5 ⟨rfl, hE5⟩; have hK2 := held_mk ((held_ext hK1).trans hE5)) | (go_simp; go_at_call 26; refine (specOptimize_c c p _ (hC.ext (Ext.drew W3))).mono ?_; rw [← HD.out]; rintro e w4 ⟨nv4, gv4, ov4, rfl, o4, hE4⟩; obtain ⟨r, rfl, rfl, rfl, hR, _⟩ := o4.opened (by omega) (by omega) (by omega); have hK1 := held_mk ((Ext.drew W3).trans hE4)))
    have E5 := held_ext hK2
    have hC := hC.ext E5
    have hCd := hCd.ext E5
    have y := y.ext E5
    have z := z.ext E5
    have E6 := E3.trans E5
    clear hK1 hK2 hE4 hE5 o4 hR E3 E5 y0 y1 y2 y3 ly z0 z1 z2 z3 lz
    (obtain ⟨ly, y0, y1, y2, y3⟩ := (id y))
    go_wp2_with fail
    refine (specCircuitValid_c c p _ hC).mono ?_
    rintro e w6 ⟨rfl, hE6⟩
    have hC := hC.ext hE6
    have hCd := hCd.ext hE6
    have y := y.ext hE6
    have z := z.ext hE6
    have E7 := E6.trans hE6
    clear hE6 E6 y0 y1 y2 y3 ly
    cases hv : validB c
    · have hz := HNO.out hv
      subst hz
      (obtain ⟨lz, z0, z1, z2, z3⟩ := (id z))
      clear hv
      dsimp only at z0 z1 z2 z3
      go_wp2_with fail
      refine (sameCircuit_c ⟨0, [], [], []⟩ q ⟨none, 0, none, 0, none, 0⟩ _ hCd ⟨.inl rfl, .inl rfl, .inl rfl, by simp, by simp, by simp⟩).mono ?_
      rintro e w7 ⟨rfl, hE7⟩
      go_wp2_with fail
      refine (alive_c _).mono ?_
      rintro e w8 ⟨rfl, hE8⟩
      go_wp2
      go_ret
      exact ⟨rfl, (E7.trans hE7).trans hE8⟩
    · have V := validB_iff.1 hv
      obtain ⟨s1, s2⟩ := HSM.out V
      have g1 : decide ((d.gates.length : Int) ≤ (c.gates.length : Int)) = true := by simp; omega
      have g0 : decide (d.gates.length ≤ c.gates.length) = true := by simp; omega
      have g3 : ((d.gates.length : Int) ≤ (c.gates.length : Int)) := by omega
      have g2 : decide (depthOf d ≤ depthOf c) = true := by simp; omega
      clear hv V s1 s2
      (obtain ⟨lz, z0, z1, z2, z3⟩ := (id z))
      (obtain ⟨ly, y0, y1, y2, y3⟩ := (id y))
      go_wp2_with fail
      (refine wp_regionT ((fun w' => (∀ b o, b < w6.heap.size → w'.cell? ⟨b, o, none⟩ = w6.cell? ⟨b, o, none⟩) ∧ Ext w6 w')) 14 (by kernel_rfl) ?_; have hS0 := held_mk (Ext.drew w6))
      ((refine wpAnyT_take 0 (v := ?_) rfl (by kernel_rfl) (fun _ _ _ h => h) (Or.inl ⟨by kernel_rfl, ?_⟩) (by assumption) ?_; rotate_left; (intro wS hSw; (try dsimp only at hSw); go_simp; (try with_reducible rfl)); (try simp only [Act.put, List.setIfInBounds_toArray, List.set_cons_zero, List.set_cons_succ])); (refine wpAnyT_take 1 (v := ?_) rfl (by kernel_rfl) (fun _ _ _ h => h) (Or.inl ⟨by kernel_rfl, ?_⟩) (by assumption) ?_; rotate_left; (intro wS hSw; (try dsimp only at hSw); go_simp; (try with_reducible rfl)); (try simp only [Act.put, List.setIfInBounds_toArray, List.set_cons_zero, List.set_cons_succ])); (refine wpAnyT_take 2 (v := ?_) rfl (by kernel_rfl) (fun _ _ _ h => h) (Or.inl ⟨by kernel_rfl, ?_⟩) (by assumption) ?_; rotate_left; (intro wS hSw; (try dsimp only at hSw); go_simp; (try with_reducible rfl)); (try simp only [Act.put, List.setIfInBounds_toArray, List.set_cons_zero, List.set_cons_succ])); (refine wpAnyT_take 3 (v := ?_) rfl (by kernel_rfl) (fun _ _ _ h => h) (Or.inl ⟨by kernel_rfl, ?_⟩) (by assumption) ?_; rotate_left; (intro wS hSw; (try dsimp only at hSw); go_simp; (try with_reducible rfl)); (try simp only [Act.put, List.setIfInBounds_toArray, List.set_cons_zero, List.set_cons_succ])); (refine wpAnyT_take 4 (v := ?_) rfl (by kernel_rfl) (fun _ _ _ h => h) (Or.inl ⟨by kernel_rfl, ?_⟩) (by assumption) ?_; rotate_left; (intro wS hSw; (try dsimp only at hSw); go_simp; (try with_reducible rfl)); (try simp only [Act.put, List.setIfInBounds_toArray, List.set_cons_zero, List.set_cons_succ])); (refine wpAnyT_take 5 (v := ?_) rfl (by kernel_rfl) (fun _ _ _ h => h) (Or.inl ⟨by kernel_rfl, ?_⟩) (by assumption) ?_; rotate_left; (intro wS hSw; (try dsimp only at hSw); go_simp; (try with_reducible rfl)); (try simp only [Act.put, List.setIfInBounds_toArray, List.set_cons_zero, List.set_cons_succ])); (refine wpAnyT_take 6 (v := ?_) rfl (by kernel_rfl) (fun _ _ _ h => h) (Or.inl ⟨by kernel_rfl, ?_⟩) (by assumption) ?_; rotate_left; (intro wS hSw; (try dsimp only at hSw); go_simp; (try with_reducible rfl)); (try simp only [Act.put, List.setIfInBounds_toArray, List.set_cons_zero, List.set_cons_succ])); (refine wpAnyT_take 7 (v := ?_) rfl (by kernel_rfl) (fun _ _ _ h => h) (Or.inl ⟨by kernel_rfl, ?_⟩) (by assumption) ?_; rotate_left; (intro wS hSw; (try dsimp only at hSw); go_simp; (try with_reducible rfl)); (try simp only [Act.put, List.setIfInBounds_toArray, List.set_cons_zero, List.set_cons_succ])))
      ((refine wpAnyT_take 8 (v := ?_) rfl (by kernel_rfl) (fun _ _ _ h => h) (Or.inl ⟨by kernel_rfl, ?_⟩) (by assumption) ?_; rotate_left; (intro wS hSw; (try dsimp only at hSw); go_simp; (try with_reducible rfl)); (try simp only [Act.put, List.setIfInBounds_toArray, List.set_cons_zero, List.set_cons_succ])); (refine wpAnyT_take 10 (v := ?_) rfl (by kernel_rfl) (fun _ _ _ h => h) (Or.inl ⟨by kernel_rfl, ?_⟩) (by assumption) ?_; rotate_left; (intro wS hSw; (try dsimp only at hSw); go_simp; (try with_reducible rfl)); (try simp only [Act.put, List.setIfInBounds_toArray, List.set_cons_zero, List.set_cons_succ])))
      (refine wpAnyT_do 9 (by kernel_rfl) rfl (fun K hK => ?_))
      go_simp
      go_at_call 27
      refine (implDepth_c d q _ (hCd.ext (Ext.drew w6))).mono ?_
      rintro e w7 ⟨rfl, hE7⟩
      have hK1 := held_mk ((Ext.drew w6).trans hE7)
      (refine hK _ _ hK1 ?_; clear hK K; (try simp only [Act.put, List.setIfInBounds_toArray, List.set_cons_zero, List.set_cons_succ]))
      (refine wpAnyT_do 11 (by kernel_rfl) rfl (fun K hK => ?_))
      go_simp
      go_at_call 27
      refine (implDepth_c c p _ (hC.ext (held_ext hK1))).mono ?_
      rintro e w8 ⟨rfl, hE8⟩
      have hK2 := held_mk ((held_ext hK1).trans hE8)
      (refine hK _ _ hK2 ?_; clear hK K; (try simp only [Act.put, List.setIfInBounds_toArray, List.set_cons_zero, List.set_cons_succ]))
      ((refine wpAnyT_take 12 (v := ?_) rfl (by kernel_rfl) (fun _ _ _ h => h) (Or.inl ⟨by kernel_rfl, ?_⟩) (by assumption) ?_; rotate_left; (intro wS hSw; (try dsimp only at hSw); go_simp; (try with_reducible rfl)); (try simp only [Act.put, List.setIfInBounds_toArray, List.set_cons_zero, List.set_cons_succ])); (refine wpAnyT_take 13 (v := ?_) rfl (by kernel_rfl) (fun _ _ _ h => h) (Or.inl ⟨by kernel_rfl, ?_⟩) (by assumption) ?_; rotate_left; (intro wS hSw; (try dsimp only at hSw); go_simp; (try with_reducible rfl)); (try simp only [Act.put, List.setIfInBounds_toArray, List.set_cons_zero, List.set_cons_succ])))
      (refine wpAnyT_last 14 (by kernel_rfl) rfl (by decide) (by kernel_rfl) (fun K hK => ?_))
      go_simp
      (refine hK _ _ ?_; clear hK K; (try simp only [Act.put, List.setIfInBounds_toArray, List.set_cons_zero, List.set_cons_succ]))
      go_wp2
      go_ret
      exact ⟨by first | rfl | simp [g2], E7.trans (held_ext hK2)⟩
  · go_enter Try.func6, Try.ntmps6
    go_wp2
    go_ret
    exact ⟨rfl, Below.refl _ _⟩
theorem fnOptimizeSmall_lifted (os : Os) (started : os.Started) (H : Type) (enc : TypeId × Value → H) :
    ReturnsInHanded {} Try.checked os 6 .any (Rows.fnOptimizeSmallSpec.pre6 enc Try.prog Try.f6 Rows.fnOptimizeSmallRow.domain false) (Rows.fnOptimizeSmallSpec.post enc Try.prog Try.f6 false true false false) := by
  refine returnsInHanded_of_change (C := Try.checked) own started (by kernel_rfl) Try.func6
    (ChangeSpec.witness6 (enc := enc) (C := Try.checked) false ⟨#[], #[.slice none 0 0], []⟩ 8 (by kernel_rfl) (by kernel_rfl) (by kernel_rfl) (by kernel_rfl)) ?_
  intro W base args ds gs before hval0 hW hcnd _
  have hval : ∀ (j : Nat) t v, Try.f6.params[j]? = some t → args[j]? = some v → Value.okWide Try.prog W .any base t v := hval0
  have hW' := hW
  obtain ⟨p, q, hA0, hV, rfl, hfz, hnd⟩ := hW
  have hA : DataW.TrodAll enc Try.prog W 0 (fun _ => true) true Try.f6.params.toList args.toList ds p := hA0
  rw [Try.params6] at hA hval
  obtain ⟨v0, vs0, d0, ds0, p0, q0, hargs, rfl, rfl, h0, r0⟩ := trodAll_cons hA
  obtain ⟨rfl, rfl, rfl⟩ := trodAll_nil r0
  obtain rfl : args = #[v0] := by cases args; simp_all
  obtain ⟨rfl, rfl⟩ := trodVars_none hV
  obtain ⟨a0, len0, cap0, rfl⟩ := okWide_slice Try.underlying22 (hval 0 22 v0 rfl rfl)
  have k0 := h0
  have lt0 : ∀ x ∈ p0, x.block < W.heap.size := by obtain ⟨m, hm⟩ := k0; exact DataW.trod_lt m _ _ _ hm
  obtain ⟨z0, w0⟩ : ∃ zs, IsRow .u8 W a0 len0 cap0 zs := by
    obtain ⟨fuel, hf⟩ := h0
    rcases open_ints Try.underlying22 Try.underlying5 (by kernel_rfl) hf with ⟨hcs, _⟩ | ⟨x, l, c, zs, hcs, _, hl, hm, hz, _, hcell, hwz⟩
    · simp [Value.cells] at hcs
      obtain ⟨rfl, rfl, rfl⟩ := hcs
      exact ⟨[], .inl ⟨rfl, rfl, rfl, rfl⟩⟩
    · simp [Value.cells] at hcs
      obtain ⟨rfl, rfl, rfl⟩ := hcs
      exact ⟨zs, .inr ⟨_, rfl, hl, hm, by simpa using hz, hcell, hwz⟩⟩
  clear hA0 hval0
  refine (fnOptimizeSmall_walk a0 len0 cap0 z0 W w0).mono fun e W' ⟨he, bel⟩ => ?_
  subst he
  exact ⟨_, rfl, _, _, _, [], _, [], hW', trodAll_mk1 (shut_bool Try.underlying4 _), (trodAll_cons_mk (Below.trod laidOut (by kernel_rfl) (of_decide_eq_true (by kernel_rfl)) k0 bel lt0) trodAll_mk0), rfl, bel.frame _, fun h => by cases h⟩
theorem fnOptimizeSmall_over : Rows.fnOptimizeSmallRow.holds Try.pinned (OpenSpec.ofChange Rows.fnOptimizeSmallSpec) :=
  OpenClaim.holds_of_wide 6 Try.f6 rfl rfl rfl rfl rfl rfl rfl ⟨rfl, rfl, rfl, rfl, rfl⟩ rfl rfl rfl rfl rfl (by kernel_rfl) Try.func6 (by kernel_rfl)
    (of_decide_eq_true (by kernel_rfl)) (by unfold Func.isWrapper; first | (rw [if_pos (by decide +kernel)]; kernel_rfl) | (rw [if_neg (by decide +kernel)]; exact ⟨rfl, rfl⟩))
    (fun os started H enc _ => fnOptimizeSmall_lifted os started H enc)
theorem fnOptimizeSmall_holds : Rows.FnOptimizeSmallSaid := fnOptimizeSmall_over
end Go.Proofs.Ytpfhlodlefcomaa
