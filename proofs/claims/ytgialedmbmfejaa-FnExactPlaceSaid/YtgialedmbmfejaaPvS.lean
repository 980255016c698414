/- Contract: which placements are valid, the reference's. -/
import Derived.Test.YtgialedmbmfejaaPvI
import Derived.Test.YtgialedmbmfejaaBSnk
import Derived.Test.YtgialedmbmfejaaSpec1
namespace Go.Proofs.Ytgialedmbmfejaa
open Go.RowKit
set_option maxRecDepth 100000
set_option linter.unusedVariables false
set_option linter.unusedSimpArgs false
set_option maxHeartbeats 2000000 in
theorem l7Has_c (a : Option Addr) (cap : Nat) (S : List Int) (v : Int) (n : Nat) (hn : S.length = n) (w : World) (hS : IntsAt w a S) (hl : n ≤ 1000000) :
    Calls Try.prog 101 #[.slice a n cap, .int .i64 v] w fun e w' => e = .returned (.bool (S.contains v)) ∧ Ext w w' := by
  subst hn
  have HM : Hid (∀ j, j < S.length → S.getD j 0 = v → S.contains v = true) := Lib.hid (fun j hj e => by
    have := getN_mem (d := 0) hj
    rw [e] at this
    simpa using this)
  obtain ⟨D, hD⟩ : ∃ D, D = S.contains v := ⟨_, rfl⟩
  rw [← hD] at HM ⊢
  have HD := Lib.hid hD
  clear hD
  go_enter Try.func101, Try.ntmps101
  go_wp2_with fail
  go_loopw [5] (fun u8 wr => ∃ j : Nat, j ≤ S.length ∧ u8 = .int .i64 j ∧ Hid (∀ i, i < j → S.getD i 0 ≠ v) ∧ Ext w wr) (fun u _ => S.length - (intOf u).toNat)
  case atStart => exact ⟨0, Nat.zero_le _, rfl, Lib.hid (fun i hi => absurd hi (Nat.not_lt_zero i)), Ext.refl _⟩
  case round =>
    obtain ⟨j, hj, rfl, HN, hE⟩ := hrel
    by_cases hlt : j < S.length
    · obtain ⟨b, o, rfl, hb, hc⟩ := (hS.ext hE).get (by omega)
      have q1 := hc j hlt
      have hm : S.getD j 0 = v → D = true := HM.out j hlt
      obtain ⟨z, hz⟩ : ∃ z, z = S.getD j 0 := ⟨_, rfl⟩
      rw [← hz] at q1 hm
      have HZ := Lib.hid hz
      have HMM := Lib.hid hm
      clear hc hz hm
      by_cases he : z = v
      · have hd := HMM.out he
        subst hd he
        clear HMM
        go_wp2_with fail
        go_ret
        exact ⟨rfl, hE⟩
      · have he2 : (z == v) = false := by simp [he]
        go_wp2_with fail
        go_roundw
        case rel => exact ⟨j + 1, by omega, by go_num, Lib.hid (fun i hi => by
          rcases Nat.lt_or_ge i j with h | h
          · exact HN.out i h
          · have : i = j := by omega
            subst this
            rw [← HZ.out]; exact he), hE⟩
        case measure => simp [intOf]; omega
    · have hd : D = false := by
        rw [HD.out, Bool.eq_false_iff]
        intro h
        have hm : v ∈ S := by simpa using h
        obtain ⟨i, hi, e⟩ := mem_getN (d := 0) hm
        exact HN.out i (by omega) e
      subst hd
      go_wp2_with fail
      go_ret
      exact ⟨rfl, hE⟩
set_option maxHeartbeats 4000000 in
theorem specPlacementValid_c (c : Circ) (p : Where3) (a : Option Addr) (cap : Nat) (ps : List Int) (w : World) (hc : CircAt w c p) (hp : IntsAt w a ps) (hl : ps.length ≤ 1048576) (hcap : ps.length ≤ cap) (hcm : cap ≤ maxLen) :
    Calls Try.prog 55 #[.agg #[.int .i64 c.inputs, .slice p.an c.next.length p.cn, .slice p.ag c.gates.length p.cg, .slice p.ao c.outs.length p.co], .slice a ps.length cap] w fun e w' => e = .returned (.bool (pvalV c ps)) ∧ Ext w w' := by
  have E0 : Ext w (w.alloc (.cells #[.int .i64 c.inputs, .slice p.an c.next.length p.cn, .slice p.ag c.gates.length p.cg, .slice p.ao c.outs.length p.co] 26)) := (Ext.refl w).alloc _
  have y := CircBox.made w c p 26
  obtain ⟨hn17, _⟩ := cells_sm c
  have HP1 := Lib.hid (pval_inv (c := c))
  have HP2 := Lib.hid (pval_len (c := c) (ps := ps))
  have HP3 := Lib.hid (pval_no (c := c) (ps := ps))
  have HP4 := Lib.hid (pval_yes (c := c) (ps := ps))
  obtain ⟨D, hD⟩ : ∃ D, D = pvalV c ps := ⟨_, rfl⟩
  rw [← hD] at HP2 HP3 HP4 ⊢
  have HD := Lib.hid hD
  clear hD
  (obtain ⟨lb, b0, b1, b2, b3⟩ := (id y))
  go_enter Try.func55, Try.ntmps55
  go_wp2_with fail
  refine (specCircuitValid_c c p _ (hc.ext E0)).mono ?_
  rintro e w1 ⟨rfl, hE1⟩
  clear b0 b1 b2 b3 lb
  cases hv : validB c
  · have hd : D = false := by rw [HD.out]; exact HP1.out hv ps
    subst hd
    clear HP1 HP2 HP3 HP4
    go_wp2
    go_ret
    exact ⟨rfl, E0.trans hE1⟩
  · have V := validB_iff.1 hv
    have hcv : cellsV c = cellsN c := by unfold cellsV; rw [hv]; rfl
    rw [hcv] at hn17 HP2 HP4
    obtain ⟨cs, hcs⟩ : ∃ cs, cs = cellsN c := ⟨_, rfl⟩
    have hcall := l6Cells_c c p w1 (hc.ext (E0.trans hE1)) V
    rw [← hcs] at hn17 HP2 HP4 hcall
    have y1 := y.ext hE1
    have E1 := E0.trans hE1
    have HV := Lib.hid hv
    clear hv y HP1 V hcv hcs
    (obtain ⟨lb, b0, b1, b2, b3⟩ := (id y1))
    go_wp2_with fail
    refine hcall.mono ?_
    rintro e w2 ⟨v, F, rfl, hN, _, hE2⟩
    obtain ⟨ca, cc, rfl, _⟩ := hN.sl
    have E2 := E1.trans hE2
    clear b0 b1 b2 b3 lb y1 hN hcall
    by_cases hlen : ps.length = cs.length
    · have hne : ((ps.length : Int) != (cs.length : Int)) = false := by rw [hlen]; exact bne_self_eq_false _
      have HLN := Lib.hid hlen
      have hl17 : ps.length ≤ 17 := by omega
      clear hlen HP2
      go_wp2_with fail
      go_loopw [5] (fun u22 wr => ∃ k : Nat, k ≤ ps.length ∧ u22 = .int .i64 k ∧ Hid (PlOk (ps.take k)) ∧ Ext w2 wr) (fun v _ => ps.length - (intOf v).toNat)
      case atStart => exact ⟨0, Nat.zero_le _, rfl, Lib.hid ⟨by simp, by simp⟩, Ext.refl _⟩
      case round =>
        obtain ⟨k, hk, rfl, HPO, hE⟩ := hrel
        obtain ⟨w3, rfl⟩ : ∃ z : World, z = wr := ⟨_, rfl⟩
        have E3 := E2.trans hE
        by_cases hlt : k < ps.length
        · have hpt : IntsAt w a (ps.take k) := by
            rcases hp with h | ⟨b, o, ha, hb, hcx⟩
            · subst h; exact .inl (by simp)
            · refine .inr ⟨b, o, ha, hb, fun j hj => ?_⟩
              rw [List.length_take] at hj
              rw [hcx j (by omega), List.getD_eq_getElem?_getD, List.getD_eq_getElem?_getD, List.getElem?_take_of_lt (by omega)]
          have hptl : (ps.take k).length = k := by rw [List.length_take]; omega
          have hpt3 := hpt.ext E3
          obtain ⟨b2, o2, rfl, hb2, hc2⟩ := (hp.ext E3).get (by omega)
          have q2 := hc2 k hlt
          have hts := plOk_take_succ hlt
          have hno := plOk_no hlt
          obtain ⟨z, hz⟩ : ∃ z, z = ps.getD k 0 := ⟨_, rfl⟩
          rw [← hz] at q2 hts hno
          have HTS := Lib.hid hts
          have HNO := Lib.hid hno
          have HPT := Lib.hid hpt3
          have HPL := Lib.hid hptl
          clear hc2 hz hts hno hpt hpt3 hptl
          by_cases h1 : 0 ≤ z ∧ z ≤ 24
          · obtain ⟨h1a, h1b⟩ := h1
            obtain ⟨B, hB⟩ : ∃ B, B = (ps.take k).contains z := ⟨_, rfl⟩
            have HB := Lib.hid hB
            have d1 : (decide (0 ≤ z) && decide (z ≤ 24)) = true := by simp [h1a, h1b]
            have hkc : (k : Int) ≤ (cap : Int) := by omega
            clear hB
            go_wp2_with fail
            (refine wp_regionT ((fun w' => (∀ b o, b < w3.heap.size → w'.cell? ⟨b, o, none⟩ = w3.cell? ⟨b, o, none⟩) ∧ Ext w3 w')) 15 (by kernel_rfl) ?_; have hS0 := held_mk (Ext.drew w3))
            ((refine wpAnyT_take 0 (v := ?_) rfl (by kernel_rfl) (fun _ _ _ h => h) (Or.inl ⟨by kernel_rfl, ?_⟩) (by assumption) ?_; rotate_left; (intro wS hSw; (try dsimp only at hSw); go_simp; (try with_reducible rfl)); (try simp only [Act.put, List.setIfInBounds_toArray, List.set_cons_zero, List.set_cons_succ])); (refine wpAnyT_take 1 (v := ?_) rfl (by kernel_rfl) (fun _ _ _ h => h) (Or.inl ⟨by kernel_rfl, ?_⟩) (by assumption) ?_; rotate_left; (intro wS hSw; (try dsimp only at hSw); go_simp; (try with_reducible rfl)); (try simp only [Act.put, List.setIfInBounds_toArray, List.set_cons_zero, List.set_cons_succ])); (refine wpAnyT_take 2 (v := ?_) rfl (by kernel_rfl) (fun _ _ _ h => h) (Or.inl ⟨by kernel_rfl, ?_⟩) (by assumption) ?_; rotate_left; (intro wS hSw; (try dsimp only at hSw); go_simp; (try with_reducible rfl)); (try simp only [Act.put, List.setIfInBounds_toArray, List.set_cons_zero, List.set_cons_succ])); (refine wpAnyT_take 3 (v := ?_) rfl (by kernel_rfl) (fun _ _ _ h => h) (Or.inl ⟨by kernel_rfl, ?_⟩) (by assumption) ?_; rotate_left; (intro wS hSw; (try dsimp only at hSw); go_simp; (try with_reducible rfl)); (try simp only [Act.put, List.setIfInBounds_toArray, List.set_cons_zero, List.set_cons_succ])))
            (refine wpAnyT_do 4 (by kernel_rfl) rfl (fun K hK => ?_))
            go_simp
            refine (l1In_c z 0 24 _).mono ?_
            rw [d1]
            rintro e w4 ⟨rfl, rfl⟩
            (refine hK _ _ hS0 ?_; clear hK K; (try simp only [Act.put, List.setIfInBounds_toArray, List.set_cons_zero, List.set_cons_succ]))
            ((refine wpAnyT_take 5 (v := ?_) rfl (by kernel_rfl) (fun _ _ _ h => h) (Or.inl ⟨by kernel_rfl, ?_⟩) (by assumption) ?_; rotate_left; (intro wS hSw; (try dsimp only at hSw); go_simp; (try with_reducible rfl)); (try simp only [Act.put, List.setIfInBounds_toArray, List.set_cons_zero, List.set_cons_succ])); (refine wpAnyT_take 6 (v := ?_) rfl (by kernel_rfl) (fun _ _ _ h => h) (Or.inl ⟨by kernel_rfl, ?_⟩) (by assumption) ?_; rotate_left; (intro wS hSw; (try dsimp only at hSw); go_simp; (try with_reducible rfl)); (try simp only [Act.put, List.setIfInBounds_toArray, List.set_cons_zero, List.set_cons_succ])); (refine wpAnyT_take 7 (v := ?_) rfl (by kernel_rfl) (fun _ _ _ h => h) (Or.inl ⟨by kernel_rfl, ?_⟩) (by assumption) ?_; rotate_left; (intro wS hSw; (try dsimp only at hSw); go_simp; (try with_reducible rfl)); (try simp only [Act.put, List.setIfInBounds_toArray, List.set_cons_zero, List.set_cons_succ])); (refine wpAnyT_take 8 (v := ?_) rfl (by kernel_rfl) (fun _ _ _ h => h) (Or.inl ⟨by kernel_rfl, ?_⟩) (by assumption) ?_; rotate_left; (intro wS hSw; (try dsimp only at hSw); go_simp; (try with_reducible rfl)); (try simp only [Act.put, List.setIfInBounds_toArray, List.set_cons_zero, List.set_cons_succ])); (refine wpAnyT_take 9 (v := ?_) rfl (by kernel_rfl) (fun _ _ _ h => h) (Or.inl ⟨by kernel_rfl, ?_⟩) (by assumption) ?_; rotate_left; (intro wS hSw; (try dsimp only at hSw); go_simp; (try with_reducible rfl)); (try simp only [Act.put, List.setIfInBounds_toArray, List.set_cons_zero, List.set_cons_succ])); (refine wpAnyT_take 10 (v := ?_) rfl (by kernel_rfl) (fun _ _ _ h => h) (Or.inl ⟨by kernel_rfl, ?_⟩) (by assumption) ?_; rotate_left; (intro wS hSw; (try dsimp only at hSw); go_simp; (try with_reducible rfl)); (try simp only [Act.put, List.setIfInBounds_toArray, List.set_cons_zero, List.set_cons_succ])); (refine wpAnyT_take 11 (v := ?_) rfl (by kernel_rfl) (fun _ _ _ h => h) (Or.inl ⟨by kernel_rfl, ?_⟩) (by assumption) ?_; rotate_left; (intro wS hSw; (try dsimp only at hSw); go_simp; (try with_reducible rfl)); (try simp only [Act.put, List.setIfInBounds_toArray, List.set_cons_zero, List.set_cons_succ])); (refine wpAnyT_take 12 (v := ?_) rfl (by kernel_rfl) (fun _ _ _ h => h) (Or.inl ⟨by kernel_rfl, ?_⟩) (by assumption) ?_; rotate_left; (intro wS hSw; (try dsimp only at hSw); go_simp; (try with_reducible rfl)); (try simp only [Act.put, List.setIfInBounds_toArray, List.set_cons_zero, List.set_cons_succ])); (refine wpAnyT_take 13 (v := ?_) rfl (by kernel_rfl) (fun _ _ _ h => h) (Or.inl ⟨by kernel_rfl, ?_⟩) (by assumption) ?_; rotate_left; (intro wS hSw; (try dsimp only at hSw); go_simp; (try with_reducible rfl)); (try simp only [Act.put, List.setIfInBounds_toArray, List.set_cons_zero, List.set_cons_succ])))
            (refine wpAnyT_do 14 (by kernel_rfl) rfl (fun K hK => ?_))
            go_simp
            refine (l7Has_c _ _ (ps.take k) z k HPL.out _ (HPT.out.ext (Ext.drew w3)) (by omega)).mono ?_
            rw [← HB.out]
            rintro e w5 ⟨rfl, hE5⟩
            have hS1 := held_mk ((Ext.drew w3).trans hE5)
            (refine hK _ _ hS1 ?_; clear hK K; (try simp only [Act.put, List.setIfInBounds_toArray, List.set_cons_zero, List.set_cons_succ]))
            (refine wpAnyT_last 15 (by kernel_rfl) rfl (by decide) (by kernel_rfl) (fun K hK => ?_))
            go_simp
            (refine hK _ _ ?_; clear hK K; (try simp only [Act.put, List.setIfInBounds_toArray, List.set_cons_zero, List.set_cons_succ]))
            have E5 : Ext w3 w5 := (Ext.drew w3).trans hE5
            cases B
            · have hnm : z ∉ ps.take k := by have := HB.out; simpa using this.symm
              have HPO2 := Lib.hid (HTS.out.2 ⟨HPO.out, by omega, hnm⟩)
              clear hnm HTS HNO
              go_wp2
              go_roundw
              case rel => exact ⟨k + 1, by omega, by go_num, HPO2, hE.trans E5⟩
              case measure => simp [intOf]; omega
            · have hm : z ∈ ps.take k := by have := HB.out; simpa using this.symm
              have hd : D = false := HP3.out (HNO.out (fun h => h.2 hm))
              subst hd
              clear HP3 HP4 hm HTS HNO
              go_wp2
              go_ret
              exact ⟨rfl, E3.trans E5⟩
          · have d1 : (decide (0 ≤ z) && decide (z ≤ 24)) = false := by
              rw [Bool.eq_false_iff]; simp; omega
            have hd : D = false := HP3.out (HNO.out (by omega))
            subst hd
            clear HP3 HP4
            go_wp2_with fail
            (refine wp_regionT ((fun w' => (∀ b o, b < w3.heap.size → w'.cell? ⟨b, o, none⟩ = w3.cell? ⟨b, o, none⟩) ∧ Ext w3 w')) 15 (by kernel_rfl) ?_; have hS0 := held_mk (Ext.drew w3))
            ((refine wpAnyT_take 0 (v := ?_) rfl (by kernel_rfl) (fun _ _ _ h => h) (Or.inl ⟨by kernel_rfl, ?_⟩) (by assumption) ?_; rotate_left; (intro wS hSw; (try dsimp only at hSw); go_simp; (try with_reducible rfl)); (try simp only [Act.put, List.setIfInBounds_toArray, List.set_cons_zero, List.set_cons_succ])); (refine wpAnyT_take 1 (v := ?_) rfl (by kernel_rfl) (fun _ _ _ h => h) (Or.inl ⟨by kernel_rfl, ?_⟩) (by assumption) ?_; rotate_left; (intro wS hSw; (try dsimp only at hSw); go_simp; (try with_reducible rfl)); (try simp only [Act.put, List.setIfInBounds_toArray, List.set_cons_zero, List.set_cons_succ])); (refine wpAnyT_take 2 (v := ?_) rfl (by kernel_rfl) (fun _ _ _ h => h) (Or.inl ⟨by kernel_rfl, ?_⟩) (by assumption) ?_; rotate_left; (intro wS hSw; (try dsimp only at hSw); go_simp; (try with_reducible rfl)); (try simp only [Act.put, List.setIfInBounds_toArray, List.set_cons_zero, List.set_cons_succ])); (refine wpAnyT_take 3 (v := ?_) rfl (by kernel_rfl) (fun _ _ _ h => h) (Or.inl ⟨by kernel_rfl, ?_⟩) (by assumption) ?_; rotate_left; (intro wS hSw; (try dsimp only at hSw); go_simp; (try with_reducible rfl)); (try simp only [Act.put, List.setIfInBounds_toArray, List.set_cons_zero, List.set_cons_succ])))
            (refine wpAnyT_do 4 (by kernel_rfl) rfl (fun K hK => ?_))
            go_simp
            refine (l1In_c z 0 24 _).mono ?_
            rw [d1]
            rintro e w4 ⟨rfl, rfl⟩
            (refine hK _ _ hS0 ?_; clear hK K; (try simp only [Act.put, List.setIfInBounds_toArray, List.set_cons_zero, List.set_cons_succ]))
            ((refine wpAnyT_take 5 (v := ?_) rfl (by kernel_rfl) (fun _ _ _ h => h) (Or.inl ⟨by kernel_rfl, ?_⟩) (by assumption) ?_; rotate_left; (intro wS hSw; (try dsimp only at hSw); go_simp; (try with_reducible rfl)); (try simp only [Act.put, List.setIfInBounds_toArray, List.set_cons_zero, List.set_cons_succ])); (refine wpAnyT_take 6 (v := ?_) rfl (by kernel_rfl) (fun _ _ _ h => h) (Or.inl ⟨by kernel_rfl, ?_⟩) (by assumption) ?_; rotate_left; (intro wS hSw; (try dsimp only at hSw); go_simp; (try with_reducible rfl)); (try simp only [Act.put, List.setIfInBounds_toArray, List.set_cons_zero, List.set_cons_succ])))
            ((refine wpAnyT_take 7 (v := undef) rfl (by kernel_rfl) (fun _ _ _ h => h) (Or.inr ⟨by kernel_rfl, rfl⟩) (by assumption) ?_; (try simp only [Act.put, List.setIfInBounds_toArray, List.set_cons_zero, List.set_cons_succ])); (refine wpAnyT_take 8 (v := undef) rfl (by kernel_rfl) (fun _ _ _ h => h) (Or.inr ⟨by kernel_rfl, rfl⟩) (by assumption) ?_; (try simp only [Act.put, List.setIfInBounds_toArray, List.set_cons_zero, List.set_cons_succ])); (refine wpAnyT_take 9 (v := undef) rfl (by kernel_rfl) (fun _ _ _ h => h) (Or.inr ⟨by kernel_rfl, rfl⟩) (by assumption) ?_; (try simp only [Act.put, List.setIfInBounds_toArray, List.set_cons_zero, List.set_cons_succ])); (refine wpAnyT_take 10 (v := undef) rfl (by kernel_rfl) (fun _ _ _ h => h) (Or.inr ⟨by kernel_rfl, rfl⟩) (by assumption) ?_; (try simp only [Act.put, List.setIfInBounds_toArray, List.set_cons_zero, List.set_cons_succ])); (refine wpAnyT_take 11 (v := undef) rfl (by kernel_rfl) (fun _ _ _ h => h) (Or.inr ⟨by kernel_rfl, rfl⟩) (by assumption) ?_; (try simp only [Act.put, List.setIfInBounds_toArray, List.set_cons_zero, List.set_cons_succ])); (refine wpAnyT_take 12 (v := undef) rfl (by kernel_rfl) (fun _ _ _ h => h) (Or.inr ⟨by kernel_rfl, rfl⟩) (by assumption) ?_; (try simp only [Act.put, List.setIfInBounds_toArray, List.set_cons_zero, List.set_cons_succ])); (refine wpAnyT_take 13 (v := undef) rfl (by kernel_rfl) (fun _ _ _ h => h) (Or.inr ⟨by kernel_rfl, rfl⟩) (by assumption) ?_; (try simp only [Act.put, List.setIfInBounds_toArray, List.set_cons_zero, List.set_cons_succ])); (refine wpAnyT_take 14 (v := undef) rfl (by kernel_rfl) (fun _ _ _ h => h) (Or.inr ⟨by kernel_rfl, rfl⟩) (by assumption) ?_; (try simp only [Act.put, List.setIfInBounds_toArray, List.set_cons_zero, List.set_cons_succ])))
            (refine wpAnyT_last 15 (by kernel_rfl) rfl (by decide) (by kernel_rfl) (fun K hK => ?_))
            go_simp
            (refine hK _ _ ?_; clear hK K; (try simp only [Act.put, List.setIfInBounds_toArray, List.set_cons_zero, List.set_cons_succ]))
            go_wp2
            go_ret
            exact ⟨rfl, E3.trans (Ext.drew w3)⟩
        · have hk2 : k = ps.length := by omega
          rw [hk2, List.take_length] at HPO
          have hd : D = true := HP4.out HV.out HLN.out HPO.out
          subst hd
          clear HP3 HP4
          go_wp2
          go_ret
          exact ⟨rfl, E3⟩
    · have hd : D = false := HP2.out hlen
      have hne : ((ps.length : Int) != (cs.length : Int)) = true := by simp; omega
      subst hd
      clear HP2 HP3 HP4
      go_wp2
      go_ret
      exact ⟨rfl, E2⟩
end Go.Proofs.Ytgialedmbmfejaa
