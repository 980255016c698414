/- The law FnPlace: both placers agree; the placement is valid and no longer than the one it began with. No condition. -/
import Derived.Test.YtgialedmbmfejaaBytes
import Derived.Test.YtgialedmbmfejaaDraw3
import Derived.Test.YtgialedmbmfejaaPlI
import Derived.Test.YtgialedmbmfejaaSameC
import Derived.Test.YtgialedmbmfejaaRegion2
namespace Go.Proofs.Ytgialedmbmfejaa
open Go.ChangeShapes Go.WideShapes Go.ChangeAt Go.RowKit
set_option maxRecDepth 100000
set_option linter.unusedVariables false
set_option linter.unusedSimpArgs false
theorem place_facts {c : Circ} (h : validB c = true) : (placeV c).length ≤ 17 ∧ pvalV c (placeV c) = true ∧ pvalV c (rangeI (placeV c).length) = true ∧ wlV c (placeV c) ≤ wlV c (rangeI (placeV c).length) := by
  have V := validB_iff.1 h
  have hcv : cellsV c = cellsN c := by unfold cellsV; rw [h]; rfl
  have hsm := cells_sm c
  rw [hcv] at hsm
  have I := plK_inv (c := c) (cs := cellsN c) (by omega) 3
  have hp : placeV c = (plK c (cellsN c) 3).1 := by unfold placeV; rw [if_pos h]
  have h1 : pvalV c (placeV c) = true := by
    rw [hp]
    exact pval_iff.2 ⟨V, by rw [hcv]; exact I.len, I.ok⟩
  have h2 : pvalV c (rangeI (placeV c).length) = true := by
    rw [hp, I.len]
    exact pval_iff.2 ⟨V, by rw [hcv, rangeI_length], rangeI_ok (by omega)⟩
  refine ⟨by rw [hp, I.len]; exact hsm.1, h1, h2, ?_⟩
  have e1 : wlV c (placeV c) = costV c (cellsN c) (plK c (cellsN c) 3).1 := by
    unfold wlV
    rw [if_pos h1, hcv, hp]
  have e2 : wlV c (rangeI (placeV c).length) = costV c (cellsN c) (rangeI (cellsN c).length) := by
    unfold wlV
    rw [if_pos h2, hcv, hp, I.len]
  rw [e1, e2, ← I.cost]
  exact I.le
theorem place_no {c : Circ} (h : validB c = false) : placeV c = [] := by
  unfold placeV
  rw [if_neg (by rw [h]; decide)]
set_option maxHeartbeats 8000000 in
theorem fnPlace_walk (a0 : Option Addr) (len0 cap0 : Nat) (z0 : List Int) (w : World) (w0 : IsRow .u8 w a0 len0 cap0 z0) :
    Calls Try.prog 3 #[.slice a0 len0 cap0] w fun e w' => e = .returned (.bool true) ∧ Below w.heap.size w w' := by
  obtain ⟨bs, rfl, hB, hlc, hcm⟩ := bytes_of_row w0
  by_cases hl : bs.length ≤ 1048576
  · go_enter Try.func3, Try.ntmps3
    go_wp2_with fail
    refine (DrawPlace_c a0 cap0 bs _ hB hl hlc hcm).mono ?_
    rintro e w1 ⟨c, p, rfl, hC, hd, hE, hcap⟩
    clear hd hcap
    go_wp2_with fail
    (have y := CircBox.made w1 c p 26; have Ey : Ext w1 (w1.alloc (.cells #[.int .i64 c.inputs, .slice p.an c.next.length p.cn, .slice p.ag c.gates.length p.cg, .slice p.ao c.outs.length p.co] 26)) := (Ext.refl w1).alloc _; have hC := hC.ext Ey)
    generalize w1.alloc (.cells #[.int .i64 c.inputs, .slice p.an c.next.length p.cn, .slice p.ag c.gates.length p.cg, .slice p.ao c.outs.length p.co] 26) = W1 at *
    have E1 := Ext.trans hE Ey
    clear hE Ey
    have T1 := Lib.hid (implPlace_c c p)
    have T2 := Lib.hid (specPlace_c c p)
    have T3 := Lib.hid (specCircuitValid_c c p)
    have T4 := Lib.hid (implPlacementValid_c c p)
    have T5 := Lib.hid (implWireLength_c c p)
    have HF := Lib.hid (place_facts (c := c))
    have HNO := Lib.hid (place_no (c := c))
    obtain ⟨B, hB⟩ : ∃ B, B = validB c := ⟨_, rfl⟩
    rw [← hB] at T3 HF HNO
    obtain ⟨P, hP⟩ : ∃ P, P = placeV c := ⟨_, rfl⟩
    rw [← hP] at T1 T2 HF HNO
    have hP17 : P.length ≤ 17 := by
      cases B
      · rw [HNO.out rfl]; simp
      · exact (HF.out rfl).1
    clear hB hP
    refine (T1.out _ hC).mono ?_
    rintro e w2 ⟨v2, rfl, hO2, hE2⟩
    obtain ⟨sa, sc, rfl, hSA, _⟩ := hO2.opened
    have hC := hC.ext hE2
    have y := y.ext hE2
    have E2 := E1.trans hE2
    clear hO2 hE2 E1 T1
    (obtain ⟨ly, y0, y1, y2, y3⟩ := (id y))
    go_wp2_with fail
    refine (T2.out _ hC).mono ?_
    rintro e w3 ⟨v3, rfl, hO3, hE3⟩
    obtain ⟨ra, rc, rfl, hRA, _⟩ := hO3.opened
    have hC := hC.ext hE3
    have hSA := hSA.ext hE3
    have y := y.ext hE3
    have E3 := E2.trans hE3
    clear hO3 hE3 E2 T2 y0 y1 y2 y3 ly
    go_wp2_with fail
    refine (sameInts_c _ _ _ _ P _ hSA hRA (by omega)).mono ?_
    rintro e w4 ⟨rfl, hE4⟩
    have hC := hC.ext hE4
    have hSA := hSA.ext hE4
    have y := y.ext hE4
    have E4 := E3.trans hE4
    clear hE4 E3 hRA
    (obtain ⟨ly, y0, y1, y2, y3⟩ := (id y))
    go_wp2_with fail
    refine (T3.out _ hC).mono ?_
    rintro e w5 ⟨rfl, hE5⟩
    have hC := hC.ext hE5
    have hSA := hSA.ext hE5
    have y := y.ext hE5
    have E5 := E4.trans hE5
    clear hE5 E4 T3 y0 y1 y2 y3 ly
    cases B
    · have hd := HNO.out rfl
      subst hd
      go_wp2_with fail
      refine (alive_c _).mono ?_
      rintro e w6 ⟨rfl, hE6⟩
      go_wp2
      go_ret
      exact ⟨rfl, E5.trans hE6⟩
    · obtain ⟨_, f1, f2, f3⟩ := HF.out rfl
      have T4a := T4.out sa sc P
      rw [f1] at T4a
      have HT4 := Lib.hid T4a
      have T5a := T5.out sa sc P
      have T5b := fun a cap => T5.out a cap (rangeI P.length)
      obtain ⟨D1, hD1⟩ : ∃ D, D = wlV c P := ⟨_, rfl⟩
      obtain ⟨D2, hD2⟩ : ∃ D, D = wlV c (rangeI P.length) := ⟨_, rfl⟩
      rw [← hD1] at T5a f3
      rw [← hD2] at T5b f3
      have HT5 := Lib.hid T5a
      have HT6 := Lib.hid T5b
      have O0 : OwnInts (w5.alloc (.cells #[] 3)) w5.heap.size 3 (.slice (some ⟨w5.heap.size, 0, none⟩) 0 0) (rangeI 0) := (Blk.at w5 [] 3 rfl).owns (n := 0) (size := 1) rfl (Nat.le_refl _) (by decide)
      have EA := (Ext.refl w5).alloc (.cells #[] 3)
      have HS5 := Lib.hid hSA
      have HC5 := Lib.hid hC
      have HY5 := Lib.hid y
      clear HF HNO T4 T5 T4a T5a T5b f1 f2 hD1 hD2 hSA hC y
      go_wp2_with fail
      go_loopw [5, 6] (fun u5 u6 wr => ∃ k : Nat, k ≤ P.length ∧ u6 = .int .i64 k ∧ OwnInts wr w5.heap.size 3 u5 (rangeI k) ∧ Ext w5 wr) (fun _ v _ => P.length - (intOf v).toNat)
      case atStart => exact ⟨0, Nat.zero_le _, rfl, O0, EA⟩
      case round =>
        clear O0 EA
        obtain ⟨k, hk, rfl, hO, hE⟩ := hrel
        obtain ⟨w6, rfl⟩ : ∃ z : World, z = wr := ⟨_, rfl⟩
        have hrs := rangeI_succ k
        have hrl := rangeI_length k
        by_cases hlt : k < P.length
        · obtain ⟨S, hS⟩ : ∃ S, S = rangeI k := ⟨_, rfl⟩
          rw [← hS] at hO hrs hrl
          have hSl : S.length ≤ 17 := by omega
          have HRS := Lib.hid hrs
          have hsz := hE.size
          clear hS hrl hrs
          go_wp2_with (at_builtin; refine wpList_app tyInts (ownsRow_ext hO (by (repeat (first | with_reducible assumption | with_reducible exact Ext.refl _ | with_reducible refine Ext.drew' ?_ | with_reducible refine Ext.drewN' ?_ _ | with_reducible refine Ext.alloc ?_ _ | (with_reducible refine Ext.setNew ?_ (by first | exact Nat.le_refl _ | (simp; done) | (simp; omega) | omega) _))))) (rowNew _ _ _ (by simp)) rfl (by simp [Value.oneCell']) (by omega) (by simp; omega) rfl rfl rfl rfl ?_; intro v9 w9 o9 g9 m9)
          have E9 : Ext w5 w9 := ext_grown (w1 := _) (Ext.trans hE (by (repeat (first | with_reducible assumption | with_reducible exact Ext.refl _ | with_reducible refine Ext.drew' ?_ | with_reducible refine Ext.drewN' ?_ _ | with_reducible refine Ext.alloc ?_ _ | (with_reducible refine Ext.setNew ?_ (by first | exact Nat.le_refl _ | (simp; done) | (simp; omega) | omega) _))))) g9 (fun q hq => (own_lo hO q hq).1)
          have O9 : OwnInts w9 w5.heap.size 3 v9 (S ++ [(k : Int)]) := own_app (xs := S) (ys := [(k : Int)]) rfl rfl o9
          go_roundw
          case rel => exact ⟨k + 1, by omega, by go_num, by rw [HRS.out]; exact O9, E9⟩
          case measure => simp [intOf]; omega
        · have hk2 : k = P.length := by omega
          have hnn : ¬ ((k : Int) < (P.length : Int)) := by omega
          rw [hk2] at hO
          obtain ⟨pa, pc, rfl⟩ := own_len hO (n := P.length) (rangeI_length _)
          have hIA := own_at hO
          have T6 := HT6.out pa pc
          rw [rangeI_length] at T6
          have HT7 := Lib.hid T6
          have y6 := HY5.out.ext hE
          have C6 := HC5.out.ext hE
          have S6 := HS5.out.ext hE
          have hdd : decide (D1 ≤ D2) = true := by simpa using f3
          clear hrs hrl hk2 hO T6 HT6 f3
          (obtain ⟨lb, b0, b1, b2, b3⟩ := (id y6))
          go_wp2_with fail
          (refine wp_regionT ((fun w' => (∀ b o, b < w6.heap.size → w'.cell? ⟨b, o, none⟩ = w6.cell? ⟨b, o, none⟩) ∧ Ext w6 w')) 12 (by kernel_rfl) ?_; have hS0 := held_mk (Ext.drew w6))
          ((refine wpAnyT_take 0 (v := ?_) rfl (by kernel_rfl) (fun _ _ _ h => h) (Or.inl ⟨by kernel_rfl, ?_⟩) (by assumption) ?_; rotate_left; (intro wS hSw; (try dsimp only at hSw); go_simp; (try with_reducible rfl)); (try simp only [Act.put, List.setIfInBounds_toArray, List.set_cons_zero, List.set_cons_succ])); (refine wpAnyT_take 1 (v := ?_) rfl (by kernel_rfl) (fun _ _ _ h => h) (Or.inl ⟨by kernel_rfl, ?_⟩) (by assumption) ?_; rotate_left; (intro wS hSw; (try dsimp only at hSw); go_simp; (try with_reducible rfl)); (try simp only [Act.put, List.setIfInBounds_toArray, List.set_cons_zero, List.set_cons_succ])))
          (refine wpAnyT_do 2 (by kernel_rfl) rfl (fun K hK => ?_))
          go_simp
          refine (HT4.out _ (C6.ext (Ext.drew w6)) (S6.ext (Ext.drew w6)) (by omega)).mono ?_
          rintro e w7 ⟨rfl, hE7⟩
          have hX7 : Ext w6 w7 := (Ext.drew w6).trans hE7
          have hS1 := held_mk hX7
          (refine hK _ _ hS1 ?_; clear hK K; (try simp only [Act.put, List.setIfInBounds_toArray, List.set_cons_zero, List.set_cons_succ]))
          ((refine wpAnyT_take 3 (v := ?_) rfl (by kernel_rfl) (fun _ _ _ h => h) (Or.inl ⟨by kernel_rfl, ?_⟩) (by assumption) ?_; rotate_left; (intro wS hSw; (try dsimp only at hSw); go_simp; (try with_reducible rfl)); (try simp only [Act.put, List.setIfInBounds_toArray, List.set_cons_zero, List.set_cons_succ])); (refine wpAnyT_take 4 (v := ?_) rfl (by kernel_rfl) (fun _ _ _ h => h) (Or.inl ⟨by kernel_rfl, ?_⟩) (by assumption) ?_; rotate_left; (intro wS hSw; (try dsimp only at hSw); go_simp; (try with_reducible rfl)); (try simp only [Act.put, List.setIfInBounds_toArray, List.set_cons_zero, List.set_cons_succ])); (refine wpAnyT_take 5 (v := ?_) rfl (by kernel_rfl) (fun _ _ _ h => h) (Or.inl ⟨by kernel_rfl, ?_⟩) (by assumption) ?_; rotate_left; (intro wS hSw; (try dsimp only at hSw); go_simp; (try with_reducible rfl)); (try simp only [Act.put, List.setIfInBounds_toArray, List.set_cons_zero, List.set_cons_succ])); (refine wpAnyT_take 7 (v := ?_) rfl (by kernel_rfl) (fun _ _ _ h => h) (Or.inl ⟨by kernel_rfl, ?_⟩) (by assumption) ?_; rotate_left; (intro wS hSw; (try dsimp only at hSw); go_simp; (try with_reducible rfl)); (try simp only [Act.put, List.setIfInBounds_toArray, List.set_cons_zero, List.set_cons_succ])); (refine wpAnyT_take 8 (v := ?_) rfl (by kernel_rfl) (fun _ _ _ h => h) (Or.inl ⟨by kernel_rfl, ?_⟩) (by assumption) ?_; rotate_left; (intro wS hSw; (try dsimp only at hSw); go_simp; (try with_reducible rfl)); (try simp only [Act.put, List.setIfInBounds_toArray, List.set_cons_zero, List.set_cons_succ])))
          (refine wpAnyT_do 6 (by kernel_rfl) rfl (fun K hK => ?_))
          go_simp
          refine (HT5.out _ (C6.ext hX7) (S6.ext hX7) (by omega)).mono ?_
          rintro e w8 ⟨rfl, hE8⟩
          have hX8 := hX7.trans hE8
          have hS2 := held_mk hX8
          (refine hK _ _ hS2 ?_; clear hK K; (try simp only [Act.put, List.setIfInBounds_toArray, List.set_cons_zero, List.set_cons_succ]))
          (refine wpAnyT_do 9 (by kernel_rfl) rfl (fun K hK => ?_))
          go_simp
          refine (HT7.out _ (C6.ext hX8) (hIA.ext hX8) (by omega)).mono ?_
          rintro e w9 ⟨rfl, hE9⟩
          have hX9 := hX8.trans hE9
          have hS3 := held_mk hX9
          (refine hK _ _ hS3 ?_; clear hK K; (try simp only [Act.put, List.setIfInBounds_toArray, List.set_cons_zero, List.set_cons_succ]))
          ((refine wpAnyT_take 10 (v := ?_) rfl (by kernel_rfl) (fun _ _ _ h => h) (Or.inl ⟨by kernel_rfl, ?_⟩) (by assumption) ?_; rotate_left; (intro wS hSw; (try dsimp only at hSw); go_simp; (try with_reducible rfl)); (try simp only [Act.put, List.setIfInBounds_toArray, List.set_cons_zero, List.set_cons_succ])); (refine wpAnyT_take 11 (v := ?_) rfl (by kernel_rfl) (fun _ _ _ h => h) (Or.inl ⟨by kernel_rfl, ?_⟩) (by assumption) ?_; rotate_left; (intro wS hSw; (try dsimp only at hSw); go_simp; (try with_reducible rfl)); (try simp only [Act.put, List.setIfInBounds_toArray, List.set_cons_zero, List.set_cons_succ])))
          (refine wpAnyT_last 12 (by kernel_rfl) rfl (by decide) (by kernel_rfl) (fun K hK => ?_))
          go_simp
          (refine hK _ _ ?_; clear hK K; (try simp only [Act.put, List.setIfInBounds_toArray, List.set_cons_zero, List.set_cons_succ]))
          go_wp2
          go_ret
          exact ⟨by first | rfl | (rw [hdd]; rfl) | simp [hdd], (E5.trans hE).trans hX9⟩
  · go_enter Try.func3, Try.ntmps3
    go_wp2
    go_ret
    exact ⟨rfl, Ext.refl _⟩
theorem fnPlace_lifted (os : Os) (started : os.Started) (H : Type) (enc : TypeId × Value → H) :
    ReturnsInHanded {} Try.checked os 3 .any (Rows.fnPlaceSpec.pre6 enc Try.prog Try.f3 Rows.fnPlaceRow.domain false) (Rows.fnPlaceSpec.post enc Try.prog Try.f3 false true false false) := by
  refine returnsInHanded_of_change (C := Try.checked) own started (by kernel_rfl) Try.func3
    (ChangeSpec.witness6 (enc := enc) (C := Try.checked) false ⟨#[], #[.slice none 0 0], []⟩ 8 (by kernel_rfl) (by kernel_rfl) (by kernel_rfl) (by kernel_rfl)) ?_
  intro W base args ds gs before hval0 hW hcnd _
  have hval : ∀ (j : Nat) t v, Try.f3.params[j]? = some t → args[j]? = some v → Value.okWide Try.prog W .any base t v := hval0
  have hW' := hW
  obtain ⟨p, q, hA0, hV, rfl, hfz, hnd⟩ := hW
  have hA : DataW.TrodAll enc Try.prog W 0 (fun _ => true) true Try.f3.params.toList args.toList ds p := hA0
  rw [Try.params3] at hA hval
  obtain ⟨v0, vs0, d0, ds0, p0, q0, hargs, rfl, rfl, h0, r0⟩ := trodAll_cons hA
  obtain ⟨rfl, rfl, rfl⟩ := trodAll_nil r0
  obtain rfl : args = #[v0] := by cases args; simp_all
  obtain ⟨rfl, rfl⟩ := trodVars_none hV
  obtain ⟨a0, len0, cap0, rfl⟩ := okWide_slice Try.underlying22 (hval 0 22 v0 rfl rfl)
  have k0 := h0
  have lt0 : ∀ x ∈ p0, x.block < W.heap.size := by obtain ⟨m, hm⟩ := k0; exact DataW.trod_lt m _ _ _ hm
  obtain ⟨z0, w0⟩ : ∃ zs, IsRow .u8 W a0 len0 cap0 zs := by
    obtain ⟨fuel, hf⟩ := h0
    rcases open_ints Try.underlying22 Try.underlying5 (by kernel_rfl) hf with ⟨hcs, _⟩ | ⟨x, l, c, zs, hcs, _, hl, hm, hz, _, hcell, hwz⟩
    · simp [Value.cells] at hcs
      obtain ⟨rfl, rfl, rfl⟩ := hcs
      exact ⟨[], .inl ⟨rfl, rfl, rfl, rfl⟩⟩
    · simp [Value.cells] at hcs
      obtain ⟨rfl, rfl, rfl⟩ := hcs
      exact ⟨zs, .inr ⟨_, rfl, hl, hm, by simpa using hz, hcell, hwz⟩⟩
  clear hA0 hval0
  refine (fnPlace_walk a0 len0 cap0 z0 W w0).mono fun e W' ⟨he, bel⟩ => ?_
  subst he
  exact ⟨_, rfl, _, _, _, [], _, [], hW', trodAll_mk1 (shut_bool Try.underlying4 _), (trodAll_cons_mk (Below.trod laidOut (by kernel_rfl) (of_decide_eq_true (by kernel_rfl)) k0 bel lt0) trodAll_mk0), rfl, bel.frame _, fun h => by cases h⟩
theorem fnPlace_over : Rows.fnPlaceRow.holds Try.pinned (OpenSpec.ofChange Rows.fnPlaceSpec) :=
  OpenClaim.holds_of_wide 3 Try.f3 rfl rfl rfl rfl rfl rfl rfl ⟨rfl, rfl, rfl, rfl, rfl⟩ rfl rfl rfl rfl rfl (by kernel_rfl) Try.func3 (by kernel_rfl)
    (of_decide_eq_true (by kernel_rfl)) (by unfold Func.isWrapper; first | (rw [if_pos (by decide +kernel)]; kernel_rfl) | (rw [if_neg (by decide +kernel)]; exact ⟨rfl, rfl⟩))
    (fun os started H enc _ => fnPlace_lifted os started H enc)
theorem fnPlace_holds : Rows.FnPlaceSaid := fnPlace_over
end Go.Proofs.Ytgialedmbmfejaa
