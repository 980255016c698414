/- The law FnWireLength: the wire length of a valid placement lies between 0 and twice four for each variable. No condition. -/
import Derived.Test.YtgialedmbmfejaaBytes
import Derived.Test.YtgialedmbmfejaaDrawPv
import Derived.Test.YtgialedmbmfejaaWlI
import Derived.Test.YtgialedmbmfejaaWlC
namespace Go.Proofs.Ytgialedmbmfejaa
open Go.ChangeShapes Go.WideShapes Go.ChangeAt Go.RowKit
set_option maxRecDepth 100000
set_option linter.unusedVariables false
set_option linter.unusedSimpArgs false
theorem wl_bound {c : Circ} {ps : List Int} (h : pvalV c ps = true) : 0 ≤ wlV c ps ∧ wlV c ps ≤ varCount c * 2 * 4 := by
  obtain ⟨V, _, hok⟩ := pval_iff.1 h
  have e : varCount c = c.vars := by simp [varCount, validB_true V]
  have hi0 := V.i0
  have hv : 1 ≤ c.vars := by unfold Circ.vars Circ.first; omega
  have hb := costK_bound V (cellsV c) hok.1 (c.vars - 1).toNat
  have hw : wlV c ps = costK c (cellsV c) ps (c.vars - 1).toNat := by unfold wlV costV; rw [if_pos h]
  rw [e, hw]
  omega
theorem wl_no {c : Circ} {ps : List Int} (h : pvalV c ps = false) : wlV c ps = -1 := by
  unfold wlV
  rw [if_neg (by rw [h]; decide)]
theorem varCount_sm (c : Circ) : -1 ≤ varCount c ∧ varCount c ≤ 100 := by
  cases hv : validB c
  · simp [varCount, hv]
  · have V := validB_iff.1 hv
    have h1 := V.lg
    have h2 := V.ln
    have h3 := V.i4
    have h4 := V.i0
    have e : varCount c = c.vars := by simp [varCount, hv]
    rw [e]
    unfold Circ.vars Circ.first
    omega
set_option maxHeartbeats 8000000 in
theorem fnWireLength_walk (a0 : Option Addr) (len0 cap0 : Nat) (z0 : List Int) (w : World) (w0 : IsRow .u8 w a0 len0 cap0 z0) :
    Calls Try.prog 11 #[.slice a0 len0 cap0] w fun e w' => e = .returned (.bool true) ∧ Below w.heap.size w w' := by
  obtain ⟨bs, rfl, hB, hlc, hcm⟩ := bytes_of_row w0
  by_cases hl : bs.length ≤ 1048576
  · go_enter Try.func11, Try.ntmps11
    go_wp2_with fail
    refine (DrawWireLength_c a0 cap0 bs _ hB hl hlc hcm).mono ?_
    rintro e w1 ⟨c, p, a, cap, ps, rfl, hC, hI, hx, hpc, hpm, hE⟩
    go_wp2_with fail
    (have y := CircBox.made w1 c p 26; have Ey : Ext w1 (w1.alloc (.cells #[.int .i64 c.inputs, .slice p.an c.next.length p.cn, .slice p.ag c.gates.length p.cg, .slice p.ao c.outs.length p.co] 26)) := (Ext.refl w1).alloc _; have hC := hC.ext Ey)
    have hI := hI.ext Ey
    generalize w1.alloc (.cells #[.int .i64 c.inputs, .slice p.an c.next.length p.cn, .slice p.ag c.gates.length p.cg, .slice p.ao c.outs.length p.co] 26) = W1 at *
    have E1 := Ext.trans hE Ey
    clear hE Ey
    have T1 := Lib.hid (implWireLength_c c p a cap ps)
    have T2 := Lib.hid (specWireLength_c c p a cap ps)
    have T3 := Lib.hid (specPlacementValid_c c p a cap ps)
    have T4 := Lib.hid (implVarCount_c c p)
    have HWB := Lib.hid (wl_bound (c := c) (ps := ps))
    have HWN := Lib.hid (wl_no (c := c) (ps := ps))
    obtain ⟨vc0, vc1⟩ := varCount_sm c
    obtain ⟨D, hD⟩ : ∃ D, D = wlV c ps := ⟨_, rfl⟩
    rw [← hD] at T1 T2 HWB HWN
    obtain ⟨B, hB⟩ : ∃ B, B = pvalV c ps := ⟨_, rfl⟩
    rw [← hB] at T3 HWB HWN
    obtain ⟨N, hN⟩ : ∃ N, N = varCount c := ⟨_, rfl⟩
    rw [← hN] at T4 HWB vc0 vc1
    clear hD hB hN
    refine (T1.out _ hC hI (by omega)).mono ?_
    rintro e w2 ⟨rfl, hE2⟩
    have hC := hC.ext hE2
    have hI := hI.ext hE2
    have y := y.ext hE2
    have E2 := E1.trans hE2
    clear hE2 E1 T1
    (obtain ⟨ly, y0, y1, y2, y3⟩ := (id y))
    have hne : (D != D) = false := bne_self_eq_false D
    go_wp2_with fail
    refine (T2.out _ hC hI (by omega) hpc hpm).mono ?_
    rintro e w3 ⟨rfl, hE3⟩
    have hC := hC.ext hE3
    have hI := hI.ext hE3
    have y := y.ext hE3
    have E3 := E2.trans hE3
    clear hE3 E2 T2 y0 y1 y2 y3 ly
    (obtain ⟨ly, y0, y1, y2, y3⟩ := (id y))
    go_wp2_with fail
    refine (T3.out _ hC hI (by omega) hpc hpm).mono ?_
    rintro e w4 ⟨rfl, hE4⟩
    have hC := hC.ext hE4
    have y := y.ext hE4
    have E4 := E3.trans hE4
    clear hE4 E3 T3 y0 y1 y2 y3 ly hI
    cases B
    · have hd := HWN.out rfl
      subst hd
      go_wp2_with fail
      refine (alive_c _).mono ?_
      rintro e w5 ⟨rfl, hE5⟩
      go_wp2
      go_ret
      exact ⟨rfl, E4.trans hE5⟩
    · obtain ⟨d0, d1⟩ := HWB.out rfl
      have hdd : decide (D ≤ N * 2 * 4) = true := by simpa using d1
      (obtain ⟨ly, y0, y1, y2, y3⟩ := (id y))
      go_wp2_with fail
      refine (T4.out _ hC).mono ?_
      rintro e w5 hh
      obtain ⟨rfl, hE5⟩ := hh
      go_wp2
      go_ret
      exact ⟨by first | rfl | (rw [hdd]; rfl) | simp [hdd], E4.trans hE5⟩
  · go_enter Try.func11, Try.ntmps11
    go_wp2
    go_ret
    exact ⟨rfl, Ext.refl _⟩
theorem fnWireLength_lifted (os : Os) (started : os.Started) (H : Type) (enc : TypeId × Value → H) :
    ReturnsInHanded {} Try.checked os 11 .any (Rows.fnWireLengthSpec.pre6 enc Try.prog Try.f11 Rows.fnWireLengthRow.domain false) (Rows.fnWireLengthSpec.post enc Try.prog Try.f11 false true false false) := by
  refine returnsInHanded_of_change (C := Try.checked) own started (by kernel_rfl) Try.func11
    (ChangeSpec.witness6 (enc := enc) (C := Try.checked) false ⟨#[], #[.slice none 0 0], []⟩ 8 (by kernel_rfl) (by kernel_rfl) (by kernel_rfl) (by kernel_rfl)) ?_
  intro W base args ds gs before hval0 hW hcnd _
  have hval : ∀ (j : Nat) t v, Try.f11.params[j]? = some t → args[j]? = some v → Value.okWide Try.prog W .any base t v := hval0
  have hW' := hW
  obtain ⟨p, q, hA0, hV, rfl, hfz, hnd⟩ := hW
  have hA : DataW.TrodAll enc Try.prog W 0 (fun _ => true) true Try.f11.params.toList args.toList ds p := hA0
  rw [Try.params11] at hA hval
  obtain ⟨v0, vs0, d0, ds0, p0, q0, hargs, rfl, rfl, h0, r0⟩ := trodAll_cons hA
  obtain ⟨rfl, rfl, rfl⟩ := trodAll_nil r0
  obtain rfl : args = #[v0] := by cases args; simp_all
  obtain ⟨rfl, rfl⟩ := trodVars_none hV
  obtain ⟨a0, len0, cap0, rfl⟩ := okWide_slice Try.underlying22 (hval 0 22 v0 rfl rfl)
  have k0 := h0
  have lt0 : ∀ x ∈ p0, x.block < W.heap.size := by obtain ⟨m, hm⟩ := k0; exact DataW.trod_lt m _ _ _ hm
  obtain ⟨z0, w0⟩ : ∃ zs, IsRow .u8 W a0 len0 cap0 zs := by
    obtain ⟨fuel, hf⟩ := h0
    rcases open_ints Try.underlying22 Try.underlying5 (by kernel_rfl) hf with ⟨hcs, _⟩ | ⟨x, l, c, zs, hcs, _, hl, hm, hz, _, hcell, hwz⟩
    · simp [Value.cells] at hcs
      obtain ⟨rfl, rfl, rfl⟩ := hcs
      exact ⟨[], .inl ⟨rfl, rfl, rfl, rfl⟩⟩
    · simp [Value.cells] at hcs
      obtain ⟨rfl, rfl, rfl⟩ := hcs
      exact ⟨zs, .inr ⟨_, rfl, hl, hm, by simpa using hz, hcell, hwz⟩⟩
  clear hA0 hval0
  refine (fnWireLength_walk a0 len0 cap0 z0 W w0).mono fun e W' ⟨he, bel⟩ => ?_
  subst he
  exact ⟨_, rfl, _, _, _, [], _, [], hW', trodAll_mk1 (shut_bool Try.underlying4 _), (trodAll_cons_mk (Below.trod laidOut (by kernel_rfl) (of_decide_eq_true (by kernel_rfl)) k0 bel lt0) trodAll_mk0), rfl, bel.frame _, fun h => by cases h⟩
theorem fnWireLength_over : Rows.fnWireLengthRow.holds Try.pinned (OpenSpec.ofChange Rows.fnWireLengthSpec) :=
  OpenClaim.holds_of_wide 11 Try.f11 rfl rfl rfl rfl rfl rfl rfl ⟨rfl, rfl, rfl, rfl, rfl⟩ rfl rfl rfl rfl rfl (by kernel_rfl) Try.func11 (by kernel_rfl)
    (of_decide_eq_true (by kernel_rfl)) (by unfold Func.isWrapper; first | (rw [if_pos (by decide +kernel)]; kernel_rfl) | (rw [if_neg (by decide +kernel)]; exact ⟨rfl, rfl⟩))
    (fun os started H enc _ => fnWireLength_lifted os started H enc)
theorem fnWireLength_holds : Rows.FnWireLengthSaid := fnWireLength_over
end Go.Proofs.Ytgialedmbmfejaa
