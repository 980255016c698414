/- The law FnUndetectable: the undetectable faults are the faults without a test. -/
import Derived.Test.YtpkbkcnpfigbgaaBytes
import Derived.Test.YtpkbkcnpfigbgaaUndet
namespace Go.Proofs.Ytpkbkcnpfigbgaa
open Go.ChangeShapes Go.WideShapes Go.ChangeAt Go.RowKit
set_option maxRecDepth 100000
set_option linter.unusedVariables false
set_option linter.unusedSimpArgs false
theorem filter_at {α : Type} (p : α → Bool) (xs : List α) (k : Nat) (d : α) (h : k < xs.length) (hp : p (xs.getD k d) = true) : ((xs.take k).filter p).length < (xs.filter p).length ∧ (xs.filter p).getD ((xs.take k).filter p).length d = xs.getD k d := by
  have e : xs.filter p = (xs.take k).filter p ++ xs.getD k d :: (xs.drop (k + 1)).filter p := by
    have h2 : xs = xs.take k ++ xs.getD k d :: xs.drop (k + 1) := by
      have hg : xs.getD k d = xs[k] := by simp [List.getD_eq_getElem?_getD, h]
      rw [hg]; simp
    conv => lhs; rw [h2]
    rw [List.filter_append, List.filter_cons, if_pos hp]
  rw [e]
  constructor
  · simp
  · rw [List.getD_eq_getElem?_getD, List.getElem?_append_right (Nat.le_refl _)]; simp
theorem faults_len (c : Circ) : ((faultsV c).length : Int) = 2 * (if 0 < varCount c - 1 then varCount c - 1 else 0) := by
  unfold faultsV varCount
  cases hv : validB c
  · simp
  · have := vars_le (validB_iff.1 hv)
    simp only [if_true]
    rw [faultsN_length]
    split <;> omega
set_option maxHeartbeats 8000000 in
theorem fnUndetectable_walk (a0 : Option Addr) (len0 cap0 : Nat) (z0 : List Int) (w : World) (w0 : IsRow .u8 w a0 len0 cap0 z0) :
    Calls Try.prog 5 #[.slice a0 len0 cap0] w fun e w' => e = .returned (.bool true) ∧ Below w.heap.size w w' := by
  obtain ⟨bs, rfl, hB, hlc, hcm⟩ := bytes_of_row w0
  by_cases hl : bs.length ≤ 1048576
  · go_enter Try.func5, Try.ntmps5
    go_wp2_with fail
    refine (DrawUndetectable_c a0 cap0 bs _ hB hl hlc hcm).mono ?_
    rintro e w1 ⟨c, p, rfl, hC, hd, hE1, hcap⟩
    clear hd hcap
    have y := CircBox.made w1 c p 42
    have hsm := faultsV_small c
    have HFLA := Lib.hid (faults_len c)
    have HU : Hid (undetV c = (faultsV c).filter (noTest c)) := Lib.hid rfl
    have hul : (undetV c).length ≤ (faultsV c).length := List.length_filter_le _ _
    obtain ⟨U, hU⟩ : ∃ U, U = undetV c := ⟨_, rfl⟩
    obtain ⟨fs, hfs⟩ : ∃ fs, fs = faultsV c := ⟨_, rfl⟩
    rw [← hU] at HU hul
    rw [← hfs] at hsm HU hul HFLA
    have HUU := Lib.hid hU
    have HFS := Lib.hid hfs
    clear hU hfs
    go_wp2_with fail
    refine (implUndetectable_c c p _ (hC.ext (by (repeat (first | with_reducible assumption | with_reducible exact Ext.refl _ | with_reducible refine Ext.drew' ?_ | with_reducible refine Ext.drewN' ?_ _ | with_reducible refine Ext.alloc ?_ _ | (with_reducible refine Ext.setNew ?_ (by first | exact Nat.le_refl _ | (simp; done) | (simp; omega) | omega) _)))))).mono ?_
    rw [← HUU.out]
    rintro e w2 ⟨v2, rfl, hO2, hE2⟩
    obtain ⟨r2, c2, rfl, hA2⟩ := hO2.opened
    have E2 := Ext.trans (a := w1) (by (repeat (first | with_reducible assumption | with_reducible exact Ext.refl _ | with_reducible refine Ext.drew' ?_ | with_reducible refine Ext.drewN' ?_ _ | with_reducible refine Ext.alloc ?_ _ | (with_reducible refine Ext.setNew ?_ (by first | exact Nat.le_refl _ | (simp; done) | (simp; omega) | omega) _)))) hE2
    replace y := y.ext hE2
    (obtain ⟨la, a0, a1, a2, a3⟩ := (id y))
    go_wp2_with fail
    refine (specUndetectable_c c p _ (hC.ext E2)).mono ?_
    rw [← HUU.out]
    rintro e w3 ⟨v3, rfl, hO3, hE3⟩
    obtain ⟨r3, c3, rfl, hA3⟩ := hO3.opened
    have E3 := E2.trans hE3
    replace y := y.ext hE3
    clear a0 a1 a2 a3 la
    (obtain ⟨la, a0, a1, a2, a3⟩ := (id y))
    go_wp2_with fail
    refine (implFaults_c c p _ (hC.ext E3)).mono ?_
    rw [← HFS.out]
    rintro e w4 ⟨v4, rfl, hO4, hE4⟩
    obtain ⟨r4, c4, rfl, hA4⟩ := hO4.opened
    have E4 := E3.trans hE4
    replace y := y.ext hE4
    clear a0 a1 a2 a3 la
    (obtain ⟨la, a0, a1, a2, a3⟩ := (id y))
    have hfl := HFLA.out
    obtain ⟨M, hM⟩ : ∃ M, M = varCount c := ⟨_, rfl⟩
    have hM2 : -1000 ≤ M ∧ M ≤ 1000 := by
      rw [hM]; unfold varCount
      cases hv : validB c
      · simp
      · have := vars_le (validB_iff.1 hv); simp only [if_true]; omega
    obtain ⟨hM3, hM4⟩ := hM2
    rw [← hM] at hfl
    have HM := Lib.hid hM
    have HFL0 := Lib.hid hfl
    clear hM hfl
    go_wp2_with fail
    refine (implVarCount_c c p _ (hC.ext E4)).mono ?_
    rw [← HM.out]
    rintro e w5 ⟨rfl, hE5⟩
    have E5 := E4.trans hE5
    have y5 := y.ext hE5
    have B2 : FaultsAt w5 r2 U := RowAt.ext hA2 ((hE3.trans hE4).trans hE5)
    have B3 : FaultsAt w5 r3 U := RowAt.ext hA3 (hE4.trans hE5)
    have B4 : FaultsAt w5 r4 fs := RowAt.ext hA4 hE5
    clear a0 a1 a2 a3 la
    have E15 := hE1.trans E5
    have hmem : ∀ k, k < fs.length → c.Valid ∧ fs.getD k (0, false) = ((((k / 2 : Nat) : Int) + 1), k % 2 == 1) ∧ ((k / 2 : Nat) : Int) + 1 < c.vars := by
      intro k hk
      rw [HFS.out] at hk ⊢
      unfold faultsV at hk ⊢
      cases hv : validB c
      · rw [hv] at hk; simp at hk
      · rw [hv] at hk
        simp only [if_true] at hk ⊢
        have V := validB_iff.1 hv
        rw [faultsN_length] at hk
        have := vars_le V
        exact ⟨V, faultsN_get _ _ hk, by omega⟩
    have HMEM := Lib.hid hmem
    clear hmem
    have hfl := HFL0.out
    have hlenM : (0 < M - 1 ∧ (fs.length : Int) = 2 * (M - 1)) ∨ (¬ 0 < M - 1 ∧ (fs.length : Int) = 2 * 0) := by
      split at hfl
      · exact .inl ⟨by assumption, hfl⟩
      · exact .inr ⟨by assumption, hfl⟩
    clear hfl
    rcases hlenM with ⟨hp, hfl⟩ | ⟨hp, hfl⟩
    all_goals
      first
      | (have hne : ((fs.length : Int) != 2 * (M - 1)) = false := by rw [hfl]; exact bne_self_eq_false _)
      | (have hne : ((fs.length : Int) != 0) = false := by rw [hfl]; rfl)
      have HFL := Lib.hid hfl
      clear hfl
      go_wp2_with fail
      go_loopw [7] (fun u wr => ∃ k : Nat, k ≤ U.length ∧ u = .int .i64 k ∧ Ext w5 wr) (fun i _ => U.length - (intOf i).toNat)
      case atStart => exact ⟨0, Nat.zero_le _, rfl, Ext.refl _⟩
      case round =>
        obtain ⟨k, hk, rfl, hE⟩ := hrel
        by_cases hlt : k < U.length
        · obtain ⟨b2, o2, hb2, _, hc2⟩ := FaultsAt.get (RowAt.ext B2 hE) (by omega)
          obtain ⟨b3, o3, hb3, _, hc3⟩ := FaultsAt.get (RowAt.ext B3 hE) (by omega)
          subst hb2 hb3
          obtain ⟨p1, p2⟩ := hc2 k hlt
          obtain ⟨p3, p4⟩ := hc3 k hlt
          obtain ⟨s, hs⟩ : ∃ s, s = (U.getD k (0, false)).1 := ⟨_, rfl⟩
          obtain ⟨v, hv⟩ : ∃ v, v = (U.getD k (0, false)).2 := ⟨_, rfl⟩
          rw [← hs] at p1 p3
          rw [← hv] at p2 p4
          clear hs hv hc2 hc3
          go_wp2
          go_quiet (fail)
          go_wp2
          go_roundw
          case rel => exact ⟨k + 1, by omega, by go_num, hE.trans (by (repeat (first | with_reducible assumption | with_reducible exact Ext.refl _ | with_reducible refine Ext.drew' ?_ | with_reducible refine Ext.drewN' ?_ _ | with_reducible refine Ext.alloc ?_ _ | (with_reducible refine Ext.setNew ?_ (by first | exact Nat.le_refl _ | (simp; done) | (simp; omega) | omega) _))))⟩
          case measure => simp [intOf]; omega
        · go_wp2_with fail
          go_loopw [8, 9] (fun u8 u9 wr => ∃ k : Nat, k ≤ fs.length ∧ u9 = .int .i64 k ∧ u8 = .int .i64 ((((fs.take k).filter (noTest c)).length : Nat) : Int) ∧ CircBox wr w1.heap.size c p ∧ Ext w5 wr) (fun _ i _ => fs.length - (intOf i).toNat)
          case atStart => exact ⟨0, Nat.zero_le _, rfl, rfl, y5.ext hE, hE⟩
          case round =>
            clear hE hlt hk
            obtain ⟨k2, hk2, rfl, rfl, hy, hE⟩ := hrel
            (obtain ⟨la, a0, a1, a2, a3⟩ := (id hy))
            by_cases hlt : k2 < fs.length
            · obtain ⟨V, hget, hsv⟩ := HMEM.out k2 hlt
              have hs := filter_snoc (noTest c) fs k2 (0, false) hlt
              have hat := filter_at (noTest c) fs k2 (0, false) hlt
              rw [← HU.out] at hat
              have hlen : ((fs.take k2).filter (noTest c)).length ≤ k2 := Nat.le_trans (List.length_filter_le _ _) (by rw [List.length_take]; omega)
              obtain ⟨b4, o4, hb4, hb4l, hc4⟩ := FaultsAt.get (RowAt.ext B4 hE) (by omega)
              subst hb4
              obtain ⟨p1, p2⟩ := hc4 k2 hlt
              have es : (((k2 / 2 : Nat) : Int) + 1) = 1 + (k2 : Int) / 2 := by omega
              have ev : (k2 % 2 == 1) = ((k2 : Int) % 2 == 1) := by
                rcases Nat.mod_two_eq_zero_or_one k2 with h | h
                · have h' : (k2 : Int) % 2 = 0 := by omega
                  rw [h, h']; rfl
                · have h' : (k2 : Int) % 2 = 1 := by omega
                  rw [h, h']; rfl
              rw [hget, es, ev] at p1 p2
              rw [hget, es, ev] at hs hat
              rw [es] at hsv
              have hD0 : findV c (1 + (k2 : Int) / 2) ((k2 : Int) % 2 == 1) = firstD (detV c (1 + (k2 : Int) / 2) ((k2 : Int) % 2 == 1)) (assigns c) := by
                unfold findV; rw [faultB_iff.2 ⟨V, by omega, hsv⟩]; rfl
              obtain ⟨D, hD⟩ : ∃ D, D = findV c (1 + (k2 : Int) / 2) ((k2 : Int) % 2 == 1) := ⟨_, rfl⟩
              have hnt : noTest c (1 + (k2 : Int) / 2, (k2 : Int) % 2 == 1) = decide (D < 0) := by unfold noTest; rw [hD, hD0]
              have HD := Lib.hid hD
              rw [hnt] at hs hat
              have HS := Lib.hid hs
              have HAT := Lib.hid hat
              obtain ⟨A, hA⟩ : ∃ A, A = ((fs.take k2).filter (noTest c)).length := ⟨_, rfl⟩
              rw [← hA] at hlen HAT
              have HAA := Lib.hid hA
              have hA' : ((fs.take k2).filter (noTest c)).length = A := hA.symm
              rw [hA']
              clear hs hat hget es ev hnt hD0 hD hA hA' hc4 V hsv
              go_wp2_with fail
              go_region_held3 ((fun w' => (∀ b o, b < wr.heap.size → w'.cell? ⟨b, o, none⟩ = wr.cell? ⟨b, o, none⟩) ∧ Ext wr w')) ((first | assumption | (with_reducible exact held_mk (Ext.drew wr)) | (with_reducible exact held_mk (((Ext.refl wr).alloc _).drew')) | (with_reducible exact held_mk ((Ext.drew wr).alloc _)))) (first | (go_simp; go_at_call 24; refine (implFindTest_c c p _ _ _ (hC.ext ((E5.trans hE).trans (Ext.drew _)))).mono ?_; rw [← HD.out]; rintro e w6 ⟨rfl, hE6⟩; have hK6 := held_mk ((Ext.drew wr).trans hE6)))
              have F6 := held_ext hK6
              have E6 := hE.trans F6
              have hy6 := hy.ext F6
              have p3 := ((ecell F6).1 b4 (o4 + k2 * 2) hb4l).trans p1
              have p4 := ((ecell F6).1 b4 (o4 + k2 * 2 + 1) hb4l).trans p2
              clear a0 a1 a2 a3 la hK6
              by_cases hneg : D < 0
              · obtain ⟨hx1, hx2⟩ := HAT.out (by simp; omega)
                obtain ⟨b2, o2, hb2, hb2l, hc2⟩ := FaultsAt.get (RowAt.ext B2 E6) (by omega)
                subst hb2
                obtain ⟨t1, t2⟩ := hc2 A hx1
                rw [hx2] at t1 t2
                clear hc2 hx2
                have hdd : decide (U.length ≤ A) = false := by simp; omega
                go_wp2
                go_quiet (fail)
                go_wp2
                go_roundw
                case rel =>
                  refine ⟨k2 + 1, by omega, by go_num, ?_, hy6.ext (by (repeat (first | with_reducible assumption | with_reducible exact Ext.refl _ | with_reducible refine Ext.drew' ?_ | with_reducible refine Ext.drewN' ?_ _ | with_reducible refine Ext.alloc ?_ _ | (with_reducible refine Ext.setNew ?_ (by first | exact Nat.le_refl _ | (simp; done) | (simp; omega) | omega) _)))), E6.trans (by (repeat (first | with_reducible assumption | with_reducible exact Ext.refl _ | with_reducible refine Ext.drew' ?_ | with_reducible refine Ext.drewN' ?_ _ | with_reducible refine Ext.alloc ?_ _ | (with_reducible refine Ext.setNew ?_ (by first | exact Nat.le_refl _ | (simp; done) | (simp; omega) | omega) _))))⟩
                  rw [HS.out, if_pos (by simp; omega), List.length_append, ← HAA.out]
                  simp
                case measure => simp [intOf]; omega
              · go_wp2
                go_roundw
                case rel =>
                  refine ⟨k2 + 1, by omega, by go_num, ?_, hy6.ext (by (repeat (first | with_reducible assumption | with_reducible exact Ext.refl _ | with_reducible refine Ext.drew' ?_ | with_reducible refine Ext.drewN' ?_ _ | with_reducible refine Ext.alloc ?_ _ | (with_reducible refine Ext.setNew ?_ (by first | exact Nat.le_refl _ | (simp; done) | (simp; omega) | omega) _)))), E6.trans (by (repeat (first | with_reducible assumption | with_reducible exact Ext.refl _ | with_reducible refine Ext.drew' ?_ | with_reducible refine Ext.drewN' ?_ _ | with_reducible refine Ext.alloc ?_ _ | (with_reducible refine Ext.setNew ?_ (by first | exact Nat.le_refl _ | (simp; done) | (simp; omega) | omega) _))))⟩
                  rw [HS.out, if_neg (by simp; omega), List.append_nil, ← HAA.out]
                case measure => simp [intOf]; omega
            · have hk3 : k2 = fs.length := by omega
              subst hk3
              rw [List.take_length, ← HU.out]
              go_wp2_with fail
              refine (alive_c _).mono ?_
              rintro e w9 ⟨rfl, hE9⟩
              go_wp2
              go_ret
              exact ⟨rfl, (E15.trans hE).trans hE9⟩
  · go_enter Try.func5, Try.ntmps5
    go_wp2
    go_ret
    exact ⟨rfl, Ext.refl _⟩
theorem fnUndetectable_lifted (os : Os) (started : os.Started) (H : Type) (enc : TypeId × Value → H) :
    ReturnsInHanded {} Try.checked os 5 .any (Rows.fnUndetectableSpec.pre6 enc Try.prog Try.f5 Rows.fnUndetectableRow.domain false) (Rows.fnUndetectableSpec.post enc Try.prog Try.f5 false true false false) := by
  refine returnsInHanded_of_change (C := Try.checked) own started (by kernel_rfl) Try.func5
    (ChangeSpec.witness6 (enc := enc) (C := Try.checked) false ⟨#[], #[.slice none 0 0], []⟩ 8 (by kernel_rfl) (by kernel_rfl) (by kernel_rfl) (by kernel_rfl)) ?_
  intro W base args ds gs before hval0 hW hcnd _
  have hval : ∀ (j : Nat) t v, Try.f5.params[j]? = some t → args[j]? = some v → Value.okWide Try.prog W .any base t v := hval0
  have hW' := hW
  obtain ⟨p, q, hA0, hV, rfl, hfz, hnd⟩ := hW
  have hA : DataW.TrodAll enc Try.prog W 0 (fun _ => true) true Try.f5.params.toList args.toList ds p := hA0
  rw [Try.params5] at hA hval
  obtain ⟨v0, vs0, d0, ds0, p0, q0, hargs, rfl, rfl, h0, r0⟩ := trodAll_cons hA
  obtain ⟨rfl, rfl, rfl⟩ := trodAll_nil r0
  obtain rfl : args = #[v0] := by cases args; simp_all
  obtain ⟨rfl, rfl⟩ := trodVars_none hV
  obtain ⟨a0, len0, cap0, rfl⟩ := okWide_slice Try.underlying38 (hval 0 38 v0 rfl rfl)
  have k0 := h0
  have lt0 : ∀ x ∈ p0, x.block < W.heap.size := by obtain ⟨m, hm⟩ := k0; exact DataW.trod_lt m _ _ _ hm
  obtain ⟨z0, w0⟩ : ∃ zs, IsRow .u8 W a0 len0 cap0 zs := by
    obtain ⟨fuel, hf⟩ := h0
    rcases open_ints Try.underlying38 Try.underlying5 (by kernel_rfl) hf with ⟨hcs, _⟩ | ⟨x, l, c, zs, hcs, _, hl, hm, hz, _, hcell, hwz⟩
    · simp [Value.cells] at hcs
      obtain ⟨rfl, rfl, rfl⟩ := hcs
      exact ⟨[], .inl ⟨rfl, rfl, rfl, rfl⟩⟩
    · simp [Value.cells] at hcs
      obtain ⟨rfl, rfl, rfl⟩ := hcs
      exact ⟨zs, .inr ⟨_, rfl, hl, hm, by simpa using hz, hcell, hwz⟩⟩
  clear hA0 hval0
  refine (fnUndetectable_walk a0 len0 cap0 z0 W w0).mono fun e W' ⟨he, bel⟩ => ?_
  subst he
  exact ⟨_, rfl, _, _, _, [], _, [], hW', trodAll_mk1 (shut_bool Try.underlying4 _), (trodAll_cons_mk (Below.trod laidOut (by kernel_rfl) (of_decide_eq_true (by kernel_rfl)) k0 bel lt0) trodAll_mk0), rfl, bel.frame _, fun h => by cases h⟩
theorem fnUndetectable_over : Rows.fnUndetectableRow.holds Try.pinned (OpenSpec.ofChange Rows.fnUndetectableSpec) :=
  OpenClaim.holds_of_wide 5 Try.f5 rfl rfl rfl rfl rfl rfl rfl ⟨rfl, rfl, rfl, rfl, rfl⟩ rfl rfl rfl rfl rfl (by kernel_rfl) Try.func5 (by kernel_rfl)
    (of_decide_eq_true (by kernel_rfl)) (by unfold Func.isWrapper; first | (rw [if_pos (by decide +kernel)]; kernel_rfl) | (rw [if_neg (by decide +kernel)]; exact ⟨rfl, rfl⟩))
    (fun os started H enc _ => fnUndetectable_lifted os started H enc)
theorem fnUndetectable_holds : Rows.FnUndetectableSaid := fnUndetectable_over
end Go.Proofs.Ytpkbkcnpfigbgaa
