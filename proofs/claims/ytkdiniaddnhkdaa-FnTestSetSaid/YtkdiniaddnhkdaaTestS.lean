/- Contract: the reference's TestSet. -/
import Derived.Test.YtkdiniaddnhkdaaTestI
namespace Go.Proofs.Ytkdiniaddnhkdaa
open Go.RowKit
set_option maxRecDepth 100000
set_option linter.unusedVariables false
set_option linter.unusedSimpArgs false
theorem l12Detects_i (c : Circ) (p : Where3) (s : Int) (v : Bool) (x : Int) (h0 : 0 ≤ x) (hx : x ≤ 100000) (w : World) (hc : CircAt w c p) (V : c.Valid) (h1s : 1 ≤ s) (hsv : s < c.vars) :
    Calls Try.prog 83 #[.agg #[.int .i64 c.inputs, .slice p.an c.next.length p.cn, .slice p.ag c.gates.length p.cg, .slice p.ao c.outs.length p.co], .agg #[.int .i64 s, .bool v], .int .i64 x] w fun e w' => e = .returned (.bool (detV c s v x.toNat)) ∧ Ext w w' := by
  obtain ⟨n, rfl⟩ := Int.eq_ofNat_of_zero_le h0
  exact l12Detects_c c p s v n (by omega) w hc V h1s hsv
theorem seen_snoc (c : Circ) (f : Int × Bool) (S : List Int) (j : Nat) (hj : j < S.length) : seenV c f (S.take (j + 1)) = (seenV c f (S.take j) || detV c f.1 f.2 (S.getD j 0).toNat) := by
  unfold seenV
  rw [take_snocG S j 0 hj, List.any_append]
  simp
set_option maxHeartbeats 4000000 in
theorem specTestSet_c (c : Circ) (p : Where3) (w : World) (hc : CircAt w c p) :
    Calls Try.prog 24 #[.agg #[.int .i64 c.inputs, .slice p.an c.next.length p.cn, .slice p.ag c.gates.length p.cg, .slice p.ao c.outs.length p.co]] w (GiveI w (tsV c)) := by
  have y := (CircBox.made w c p 42).ext ((Ext.refl _).alloc (.cells #[] 3))
  have B0 := Blk.at (w.alloc (.cells #[.int .i64 c.inputs, .slice p.an c.next.length p.cn, .slice p.ag c.gates.length p.cg, .slice p.ao c.outs.length p.co] 42)) [] 3 (B := w.heap.size + 1) (by simp)
  have O0 : OwnInts ((w.alloc (.cells #[.int .i64 c.inputs, .slice p.an c.next.length p.cn, .slice p.ag c.gates.length p.cg, .slice p.ao c.outs.length p.co] 42)).alloc (.cells #[] 3)) (w.heap.size + 1) 3 (.slice (some ⟨w.heap.size + 1, 0, none⟩) 0 0) [] := B0.owns (n := 0) (size := 1) rfl (Nat.le_refl _) (by decide)
  obtain ⟨U, hU⟩ : ∃ U, U = tsV c := ⟨_, rfl⟩
  rw [← hU]
  have HU := Lib.hid hU
  clear hU
  cases hv : validB c
  · have HV := Lib.hid hv
    clear hv
    go_enter Try.func24, Try.ntmps24
    go_wp2_with fail
    refine (specCircuitValid_c c p _ (hc.ext (by (repeat (first | with_reducible assumption | with_reducible exact Ext.refl _ | with_reducible refine Ext.drew' ?_ | with_reducible refine Ext.drewN' ?_ _ | with_reducible refine Ext.alloc ?_ _ | (with_reducible refine Ext.setNew ?_ (by first | exact Nat.le_refl _ | (simp; done) | (simp; omega) | omega) _)))))).mono ?_
    rw [HV.out]
    rintro e w1 ⟨rfl, hE1⟩
    have E1 := Ext.trans (a := w) (by (repeat (first | with_reducible assumption | with_reducible exact Ext.refl _ | with_reducible refine Ext.drew' ?_ | with_reducible refine Ext.drewN' ?_ _ | with_reducible refine Ext.alloc ?_ _ | (with_reducible refine Ext.setNew ?_ (by first | exact Nat.le_refl _ | (simp; done) | (simp; omega) | omega) _)))) hE1
    go_wp2
    go_ret
    refine ⟨_, rfl, ?_, E1⟩
    have : U = [] := by rw [HU.out]; unfold tsV faultsV; rw [HV.out]; rfl
    rw [this]
    exact (O0.ext hE1).base_le (by omega)
  have V := validB_iff.1 hv
  have HV := Lib.hid hv
  clear hv
  have hvl := vars_le V
  have hfi := fun k hk => fault_in V k hk
  have hfl := faultsN_length (c.vars - 1).toNat
  have hok : ∀ k, k ≤ (faultsN (c.vars - 1).toNat).length → TsOk c ((faultsN (c.vars - 1).toNat).take k) (((faultsN (c.vars - 1).toNat).take k).foldl (tsStep c) []) := fun k hk => ts_take c _ k hk
  have hsn : ∀ k, k < (faultsN (c.vars - 1).toNat).length → ((faultsN (c.vars - 1).toNat).take (k + 1)).foldl (tsStep c) [] = tsStep c (((faultsN (c.vars - 1).toNat).take k).foldl (tsStep c) []) ((faultsN (c.vars - 1).toNat).getD k (0, false)) := fun k hk => ts_snoc c _ k hk
  obtain ⟨fs, hfs⟩ : ∃ fs, fs = faultsN (c.vars - 1).toNat := ⟨_, rfl⟩
  have hU2 : U = fs.foldl (tsStep c) [] := by rw [HU.out, hfs]; unfold tsV faultsV; rw [HV.out]; rfl
  rw [← hfs] at hfi hfl hok hsn
  have HFS := Lib.hid hfs
  have HFI := Lib.hid hfi
  have EU := Lib.hid hU2
  have HOK := Lib.hid hok
  have HSN := Lib.hid hsn
  have hsm : fs.length ≤ 1000 := by omega
  clear hfs hfi hU2 hfl hok hsn
  go_enter Try.func24, Try.ntmps24
  go_wp2_with fail
  refine (specCircuitValid_c c p _ (hc.ext (by (repeat (first | with_reducible assumption | with_reducible exact Ext.refl _ | with_reducible refine Ext.drew' ?_ | with_reducible refine Ext.drewN' ?_ _ | with_reducible refine Ext.alloc ?_ _ | (with_reducible refine Ext.setNew ?_ (by first | exact Nat.le_refl _ | (simp; done) | (simp; omega) | omega) _)))))).mono ?_
  rw [HV.out]
  rintro e w1 ⟨rfl, hE1⟩
  have E1 := Ext.trans (a := w) (by (repeat (first | with_reducible assumption | with_reducible exact Ext.refl _ | with_reducible refine Ext.drew' ?_ | with_reducible refine Ext.drewN' ?_ _ | with_reducible refine Ext.alloc ?_ _ | (with_reducible refine Ext.setNew ?_ (by first | exact Nat.le_refl _ | (simp; done) | (simp; omega) | omega) _)))) hE1
  replace y := y.ext hE1
  replace O0 := O0.ext hE1
  (obtain ⟨la, a0, a1, a2, a3⟩ := (id y))
  go_wp2_with fail
  refine (l12Faults_c c p _ (hc.ext E1) V).mono ?_
  rw [← HFS.out]
  rintro e w2 ⟨v2, rfl, hO2, hE2⟩
  have E2 := E1.trans hE2
  replace y := y.ext hE2
  replace O0 := O0.ext hE2
  obtain ⟨a2', c2, rfl, hA2⟩ := hO2.opened
  have hOb2 := fun k hk => hO2.lt' k hk
  have s1 := E1.size
  have s1b := hE1.size
  simp at s1b
  clear a0 a1 a2 a3 la
  go_wp2_with fail
  go_loopw [3, 5] (fun u3 u5 wr => ∃ k : Nat, k ≤ fs.length ∧ u5 = .int .i64 k ∧ OwnInts wr (w.heap.size + 1) 3 u3 ((fs.take k).foldl (tsStep c) []) ∧ (∀ q, u3.ownBlock = some q → q < w1.heap.size ∨ w2.heap.size ≤ q) ∧ OwnF wr w1.heap.size (.slice a2' fs.length c2) fs ∧ CircBox wr w.heap.size c p ∧ Ext w wr ∧ w2.heap.size ≤ wr.heap.size) (fun _ i _ => fs.length - (intOf i).toNat)
  case atStart => exact ⟨0, Nat.zero_le _, rfl, O0, fun q hq => .inl (by simp [Value.ownBlock] at hq; omega), hO2, y, E2, Nat.le_refl _⟩
  case round =>
    obtain ⟨k, hk, rfl, hO, hOq, hR, hy, hE, hsz⟩ := hrel
    have szE := hE.size
    by_cases hlt : k < fs.length
    · obtain ⟨h1s, hsv⟩ := HFI.out k hlt
      have hs := HSN.out k hlt
      have ok := HOK.out k hk
      obtain ⟨a4, c4, e4, hA⟩ := hR.opened
      have e4a : a2' = a4 := by cases e4; rfl
      rw [← e4a] at hA
      obtain ⟨b1, o1, hba, hb1, hcc⟩ := FaultsAt.get hA (by omega)
      subst hba
      clear e4 e4a
      obtain ⟨q1, q2⟩ := hcc k hlt
      obtain ⟨s, hs1⟩ : ∃ s, s = (fs.getD k (0, false)).1 := ⟨_, rfl⟩
      obtain ⟨v, hv1⟩ : ∃ v, v = (fs.getD k (0, false)).2 := ⟨_, rfl⟩
      have hpair : fs.getD k (0, false) = (s, v) := by rw [hs1, hv1]
      rw [hpair] at hs
      rw [← hs1] at q1 h1s hsv
      rw [← hv1] at q2
      obtain ⟨S, hS⟩ : ∃ S, S = (fs.take k).foldl (tsStep c) [] := ⟨_, rfl⟩
      rw [← hS] at hO hs ok
      have hal := assigns_le V
      have hSl : S.length ≤ k := by have := ok.len; rw [List.length_take] at this; omega
      have hrng : ∀ x ∈ S, 0 ≤ x ∧ x ≤ 100000 := fun x hx => by have := ok.rng x hx; omega
      have hst : tsStep c S (s, v) = if seenV c (s, v) S then S else if 0 ≤ fst_ c (s, v) then S ++ [fst_ c (s, v)] else S := rfl
      rw [hst] at hs
      obtain ⟨D, hD⟩ : ∃ D, D = fst_ c (s, v) := ⟨_, rfl⟩
      have hDl := fst_lt c (s, v)
      rw [← hD] at hs hDl
      have HDD : Hid (D = firstD (detV c s v) (assigns c)) := Lib.hid hD
      have HS := Lib.hid hs
      have HRNG := Lib.hid hrng
      have hOb := fun k hk => (hO.lo k hk).1
      obtain ⟨sa, sc, rfl, hSA, _⟩ := hO.opened
      obtain ⟨w3, rfl⟩ : ∃ x : World, x = wr := ⟨_, rfl⟩
      clear hs hs1 hv1 hpair hS hcc hD hst ok hrng
      go_wp2_with fail
      go_loopw [6, 7] (fun u6 u7 wr => ∃ (j : Nat) (dk : Bool), j ≤ S.length ∧ u7 = .int .i64 j ∧ u6 = .bool dk ∧ Hid (dk = seenV c (s, v) (S.take j)) ∧ Ext w3 wr) (fun _ i _ => S.length - (intOf i).toNat)
      case atStart => exact ⟨0, false, Nat.zero_le _, rfl, rfl, Lib.hid rfl, Ext.refl _⟩
      case round =>
        obtain ⟨j, dk, hj, rfl, rfl, hdk, hE3⟩ := hrel
        by_cases hlt2 : j < S.length
        · obtain ⟨b5, o5, rfl, hb5, hcx⟩ := (hSA.ext hE3).get (by omega)
          have q5 := hcx j hlt2
          have hm : S.getD j 0 ∈ S := by rw [List.getD_eq_getElem?_getD, List.getElem?_eq_getElem hlt2]; exact List.getElem_mem hlt2
          obtain ⟨x0, x1⟩ := HRNG.out _ hm
          have hsn := seen_snoc c (s, v) S j hlt2
          dsimp only at hsn
          obtain ⟨x, hxx⟩ : ∃ x, x = S.getD j 0 := ⟨_, rfl⟩
          rw [← hxx] at q5 x0 x1 hsn
          rw [← hdk.out] at hsn
          have HSN2 := Lib.hid hsn
          have hy3 := hy.ext hE3
          have p1 := ((ecell hE3).1 b1 (o1 + k * 2) hb1).trans q1
          have p2 := ((ecell hE3).1 b1 (o1 + k * 2 + 1) hb1).trans q2
          have hb13 := Nat.lt_of_lt_of_le hb1 hE3.size
          (obtain ⟨la, a0, a1, a2, a3⟩ := (id hy3))
          obtain ⟨w4, rfl⟩ : ∃ x : World, x = wr := ⟨_, rfl⟩
          clear hcx hm hxx hsn hdk
          cases dk
          · go_wp2_with fail
            (refine wp_regionT ((fun w' => (∀ b o, b < w4.heap.size → w'.cell? ⟨b, o, none⟩ = w4.cell? ⟨b, o, none⟩) ∧ Ext w4 w')) 13 (by kernel_rfl) ?_; have hS0 := held_mk (Ext.drew w4))
            ((refine wpAnyT_take 0 (v := ?_) rfl (by kernel_rfl) (fun _ _ _ h => h) (Or.inl ⟨by kernel_rfl, ?_⟩) (by assumption) ?_; rotate_left; (intro wS hSw; (try dsimp only at hSw); go_simp; (try with_reducible rfl)); (try simp only [Act.put, List.setIfInBounds_toArray, List.set_cons_zero, List.set_cons_succ])); (refine wpAnyT_take 1 (v := ?_) rfl (by kernel_rfl) (fun _ _ _ h => h) (Or.inl ⟨by kernel_rfl, ?_⟩) (by assumption) ?_; rotate_left; (intro wS hSw; (try dsimp only at hSw); go_simp; (try with_reducible rfl)); (try simp only [Act.put, List.setIfInBounds_toArray, List.set_cons_zero, List.set_cons_succ])); (refine wpAnyT_take 2 (v := ?_) rfl (by kernel_rfl) (fun _ _ _ h => h) (Or.inl ⟨by kernel_rfl, ?_⟩) (by assumption) ?_; rotate_left; (intro wS hSw; (try dsimp only at hSw); go_simp; (try with_reducible rfl)); (try simp only [Act.put, List.setIfInBounds_toArray, List.set_cons_zero, List.set_cons_succ])); (refine wpAnyT_take 3 (v := ?_) rfl (by kernel_rfl) (fun _ _ _ h => h) (Or.inl ⟨by kernel_rfl, ?_⟩) (by assumption) ?_; rotate_left; (intro wS hSw; (try dsimp only at hSw); go_simp; (try with_reducible rfl)); (try simp only [Act.put, List.setIfInBounds_toArray, List.set_cons_zero, List.set_cons_succ])); (refine wpAnyT_take 4 (v := ?_) rfl (by kernel_rfl) (fun _ _ _ h => h) (Or.inl ⟨by kernel_rfl, ?_⟩) (by assumption) ?_; rotate_left; (intro wS hSw; (try dsimp only at hSw); go_simp; (try with_reducible rfl)); (try simp only [Act.put, List.setIfInBounds_toArray, List.set_cons_zero, List.set_cons_succ])); (refine wpAnyT_take 5 (v := ?_) rfl (by kernel_rfl) (fun _ _ _ h => h) (Or.inl ⟨by kernel_rfl, ?_⟩) (by assumption) ?_; rotate_left; (intro wS hSw; (try dsimp only at hSw); go_simp; (try with_reducible rfl)); (try simp only [Act.put, List.setIfInBounds_toArray, List.set_cons_zero, List.set_cons_succ])); (refine wpAnyT_take 6 (v := ?_) rfl (by kernel_rfl) (fun _ _ _ h => h) (Or.inl ⟨by kernel_rfl, ?_⟩) (by assumption) ?_; rotate_left; (intro wS hSw; (try dsimp only at hSw); go_simp; (try with_reducible rfl)); (try simp only [Act.put, List.setIfInBounds_toArray, List.set_cons_zero, List.set_cons_succ])); (refine wpAnyT_take 7 (v := ?_) rfl (by kernel_rfl) (fun _ _ _ h => h) (Or.inl ⟨by kernel_rfl, ?_⟩) (by assumption) ?_; rotate_left; (intro wS hSw; (try dsimp only at hSw); go_simp; (try with_reducible rfl)); (try simp only [Act.put, List.setIfInBounds_toArray, List.set_cons_zero, List.set_cons_succ])); (refine wpAnyT_take 8 (v := ?_) rfl (by kernel_rfl) (fun _ _ _ h => h) (Or.inl ⟨by kernel_rfl, ?_⟩) (by assumption) ?_; rotate_left; (intro wS hSw; (try dsimp only at hSw); go_simp; (try with_reducible rfl)); (try simp only [Act.put, List.setIfInBounds_toArray, List.set_cons_zero, List.set_cons_succ])); (refine wpAnyT_take 9 (v := ?_) rfl (by kernel_rfl) (fun _ _ _ h => h) (Or.inl ⟨by kernel_rfl, ?_⟩) (by assumption) ?_; rotate_left; (intro wS hSw; (try dsimp only at hSw); go_simp; (try with_reducible rfl)); (try simp only [Act.put, List.setIfInBounds_toArray, List.set_cons_zero, List.set_cons_succ])); (refine wpAnyT_take 10 (v := ?_) rfl (by kernel_rfl) (fun _ _ _ h => h) (Or.inl ⟨by kernel_rfl, ?_⟩) (by assumption) ?_; rotate_left; (intro wS hSw; (try dsimp only at hSw); go_simp; (try with_reducible rfl)); (try simp only [Act.put, List.setIfInBounds_toArray, List.set_cons_zero, List.set_cons_succ])))
            (refine wpAnyT_do 11 (by kernel_rfl) rfl (fun K hK => ?_))
            go_simp
            refine (l12Detects_i c p s v x x0 x1 _ ((hc.ext (hE.trans hE3)).ext (Ext.drew w4)) V h1s hsv).mono ?_
            rintro e w5 ⟨rfl, hE5⟩
            have hS5 := held_mk ((Ext.drew w4).trans hE5)
            (refine hK _ _ hS5 ?_; clear hK K; (try simp only [Act.put, List.setIfInBounds_toArray, List.set_cons_zero, List.set_cons_succ]))
            ((refine wpAnyT_take 12 (v := ?_) rfl (by kernel_rfl) (fun _ _ _ h => h) (Or.inl ⟨by kernel_rfl, ?_⟩) (by assumption) ?_; rotate_left; (intro wS hSw; (try dsimp only at hSw); go_simp; (try with_reducible rfl)); (try simp only [Act.put, List.setIfInBounds_toArray, List.set_cons_zero, List.set_cons_succ])))
            (refine wpAnyT_last 13 (by kernel_rfl) rfl (by decide) (by kernel_rfl) (fun K hK => ?_))
            go_simp
            (refine hK _ _ ?_; clear hK K; (try simp only [Act.put, List.setIfInBounds_toArray, List.set_cons_zero, List.set_cons_succ]))
            go_wp2_with fail
            go_roundw
            case rel => exact ⟨j + 1, detV c s v x.toNat, by omega, by go_num, rfl, Lib.hid (by rw [HSN2.out]; rfl), hE3.trans (held_ext hS5)⟩
            case measure => simp [intOf]; omega
          · go_wp2_with fail
            (refine wp_regionT ((fun w' => (∀ b o, b < w4.heap.size → w'.cell? ⟨b, o, none⟩ = w4.cell? ⟨b, o, none⟩) ∧ Ext w4 w')) 13 (by kernel_rfl) ?_; have hS0 := held_mk (Ext.drew w4))
            ((refine wpAnyT_take 0 (v := ?_) rfl (by kernel_rfl) (fun _ _ _ h => h) (Or.inl ⟨by kernel_rfl, ?_⟩) (by assumption) ?_; rotate_left; (intro wS hSw; (try dsimp only at hSw); go_simp; (try with_reducible rfl)); (try simp only [Act.put, List.setIfInBounds_toArray, List.set_cons_zero, List.set_cons_succ])); (refine wpAnyT_take 1 (v := ?_) rfl (by kernel_rfl) (fun _ _ _ h => h) (Or.inl ⟨by kernel_rfl, ?_⟩) (by assumption) ?_; rotate_left; (intro wS hSw; (try dsimp only at hSw); go_simp; (try with_reducible rfl)); (try simp only [Act.put, List.setIfInBounds_toArray, List.set_cons_zero, List.set_cons_succ])))
            ((refine wpAnyT_take 2 (v := undef) rfl (by kernel_rfl) (fun _ _ _ h => h) (Or.inr ⟨by kernel_rfl, rfl⟩) (by assumption) ?_; (try simp only [Act.put, List.setIfInBounds_toArray, List.set_cons_zero, List.set_cons_succ])); (refine wpAnyT_take 3 (v := undef) rfl (by kernel_rfl) (fun _ _ _ h => h) (Or.inr ⟨by kernel_rfl, rfl⟩) (by assumption) ?_; (try simp only [Act.put, List.setIfInBounds_toArray, List.set_cons_zero, List.set_cons_succ])); (refine wpAnyT_take 4 (v := undef) rfl (by kernel_rfl) (fun _ _ _ h => h) (Or.inr ⟨by kernel_rfl, rfl⟩) (by assumption) ?_; (try simp only [Act.put, List.setIfInBounds_toArray, List.set_cons_zero, List.set_cons_succ])); (refine wpAnyT_take 5 (v := undef) rfl (by kernel_rfl) (fun _ _ _ h => h) (Or.inr ⟨by kernel_rfl, rfl⟩) (by assumption) ?_; (try simp only [Act.put, List.setIfInBounds_toArray, List.set_cons_zero, List.set_cons_succ])); (refine wpAnyT_take 6 (v := undef) rfl (by kernel_rfl) (fun _ _ _ h => h) (Or.inr ⟨by kernel_rfl, rfl⟩) (by assumption) ?_; (try simp only [Act.put, List.setIfInBounds_toArray, List.set_cons_zero, List.set_cons_succ])); (refine wpAnyT_take 7 (v := undef) rfl (by kernel_rfl) (fun _ _ _ h => h) (Or.inr ⟨by kernel_rfl, rfl⟩) (by assumption) ?_; (try simp only [Act.put, List.setIfInBounds_toArray, List.set_cons_zero, List.set_cons_succ])); (refine wpAnyT_take 8 (v := undef) rfl (by kernel_rfl) (fun _ _ _ h => h) (Or.inr ⟨by kernel_rfl, rfl⟩) (by assumption) ?_; (try simp only [Act.put, List.setIfInBounds_toArray, List.set_cons_zero, List.set_cons_succ])); (refine wpAnyT_take 9 (v := undef) rfl (by kernel_rfl) (fun _ _ _ h => h) (Or.inr ⟨by kernel_rfl, rfl⟩) (by assumption) ?_; (try simp only [Act.put, List.setIfInBounds_toArray, List.set_cons_zero, List.set_cons_succ])); (refine wpAnyT_take 10 (v := undef) rfl (by kernel_rfl) (fun _ _ _ h => h) (Or.inr ⟨by kernel_rfl, rfl⟩) (by assumption) ?_; (try simp only [Act.put, List.setIfInBounds_toArray, List.set_cons_zero, List.set_cons_succ])); (refine wpAnyT_take 11 (v := undef) rfl (by kernel_rfl) (fun _ _ _ h => h) (Or.inr ⟨by kernel_rfl, rfl⟩) (by assumption) ?_; (try simp only [Act.put, List.setIfInBounds_toArray, List.set_cons_zero, List.set_cons_succ])))
            ((refine wpAnyT_take 12 (v := ?_) rfl (by kernel_rfl) (fun _ _ _ h => h) (Or.inl ⟨by kernel_rfl, ?_⟩) (by assumption) ?_; rotate_left; (intro wS hSw; (try dsimp only at hSw); go_simp; (try with_reducible rfl)); (try simp only [Act.put, List.setIfInBounds_toArray, List.set_cons_zero, List.set_cons_succ])))
            (refine wpAnyT_last 13 (by kernel_rfl) rfl (by decide) (by kernel_rfl) (fun K hK => ?_))
            go_simp
            (refine hK _ _ ?_; clear hK K; (try simp only [Act.put, List.setIfInBounds_toArray, List.set_cons_zero, List.set_cons_succ]))
            go_wp2_with fail
            go_roundw
            case rel => exact ⟨j + 1, true, by omega, by go_num, rfl, Lib.hid (by rw [HSN2.out]; rfl), hE3.trans (Ext.drew w4)⟩
            case measure => simp [intOf]; omega
        · have hdS : Hid (dk = seenV c (s, v) S) := Lib.hid (by rw [hdk.out, List.take_of_length_le (by omega)])
          obtain ⟨w4, rfl⟩ : ∃ x : World, x = wr := ⟨_, rfl⟩
          have hy3 := hy.ext hE3
          have hO3 := hO.ext hE3
          have hR3 := hR.ext hE3
          have p1 := ((ecell hE3).1 b1 (o1 + k * 2) hb1).trans q1
          have p2 := ((ecell hE3).1 b1 (o1 + k * 2 + 1) hb1).trans q2
          have hb13 := Nat.lt_of_lt_of_le hb1 hE3.size
          have hE4 := hE.trans hE3
          have sz3 := hE3.size
          clear hdk q1 q2
          (obtain ⟨la, a0, a1, a2, a3⟩ := (id hy3))
          cases dk
          · go_wp2_with fail
            go_region_held3 ((fun w' => (∀ b o, b < w4.heap.size → w'.cell? ⟨b, o, none⟩ = w4.cell? ⟨b, o, none⟩) ∧ Ext w4 w')) ((first | assumption | (with_reducible exact held_mk (Ext.drew w4)) | (with_reducible exact held_mk (((Ext.refl w4).alloc _).drew')) | (with_reducible exact held_mk ((Ext.drew w4).alloc _)))) (first | (go_simp; go_at_call 84; refine (l12Find_c c p s v _ (hc.ext (hE4.trans (Ext.drew _))) V h1s hsv).mono ?_; rw [← HDD.out]; rintro e w5 ⟨rfl, hE5⟩; have hK3 := held_mk ((Ext.drew w4).trans hE5)))
            have F3 := held_ext hK3
            have hO5 := hO3.ext F3
            have hR5 := hR3.ext F3
            have sz5 := F3.size
            clear a0 a1 a2 a3 la hK3 p1 p2
            by_cases hneg : 0 ≤ D
            · go_wp2_with (at_builtin; refine wpList_app tyInts (ownsRow_ext hO5 (by (repeat (first | with_reducible assumption | with_reducible exact Ext.refl _ | with_reducible refine Ext.drew' ?_ | with_reducible refine Ext.drewN' ?_ _ | with_reducible refine Ext.alloc ?_ _ | (with_reducible refine Ext.setNew ?_ (by first | exact Nat.le_refl _ | (simp; done) | (simp; omega) | omega) _))))) (RowAt.new _ _ _) rfl (by simp [Value.oneCell']) (by omega) (by simp; omega) rfl rfl rfl rfl ?_; intro v3 w6 o3 g3 m3)
              go_roundw
              case rel =>
                have F4 := hE4.trans F3
                refine ⟨k + 1, by omega, by go_num, ?_, ?_, ?_, ?_, ext_grown (w1 := World.alloc _ _) (by (repeat (first | with_reducible assumption | with_reducible exact Ext.refl _ | with_reducible refine Ext.drew' ?_ | with_reducible refine Ext.drewN' ?_ _ | with_reducible refine Ext.alloc ?_ _ | (with_reducible refine Ext.setNew ?_ (by first | exact Nat.le_refl _ | (simp; done) | (simp; omega) | omega) _)))) g3 (by intro k hk; have := hOb _ hk; omega), by have := g3.size; simp at this; omega⟩
                · rw [HS.out, ← hdS.out, if_neg (by simp), if_pos (by omega)]
                  exact OwnInts.app rfl rfl o3
                · intro q hq
                  rcases m3 with h | ⟨k', h, hk'⟩
                  · exact hOq q (h.symm.trans hq)
                  · have : k' = q := Option.some.inj (h.symm.trans hq)
                    simp at hk'
                    exact .inr (by omega)
                · exact ownsRow_gr (ownsRow_ext hR5 (by (repeat (first | with_reducible assumption | with_reducible exact Ext.refl _ | with_reducible refine Ext.drew' ?_ | with_reducible refine Ext.drewN' ?_ _ | with_reducible refine Ext.alloc ?_ _ | (with_reducible refine Ext.setNew ?_ (by first | exact Nat.le_refl _ | (simp; done) | (simp; omega) | omega) _))))) g3 (own_ne' (fun q h1 h2 => by have q1 := hOb2 q h1; have q2 := hOq q h2; omega))
                · exact ((hy3.ext F3).ext (by (repeat (first | with_reducible assumption | with_reducible exact Ext.refl _ | with_reducible refine Ext.drew' ?_ | with_reducible refine Ext.drewN' ?_ _ | with_reducible refine Ext.alloc ?_ _ | (with_reducible refine Ext.setNew ?_ (by first | exact Nat.le_refl _ | (simp; done) | (simp; omega) | omega) _))))).grn g3 (by intro h; have := hOb _ h; omega)
              case measure => simp [intOf]; omega
            · go_wp2
              go_roundw
              case rel =>
                refine ⟨k + 1, by omega, by go_num, ?_, hOq, hR5, hy3.ext F3, hE4.trans F3, by omega⟩
                rw [HS.out, ← hdS.out, if_neg (by simp), if_neg (by omega)]
                exact hO5
              case measure => simp [intOf]; omega
          · go_wp2
            go_roundw
            case rel =>
              refine ⟨k + 1, by omega, by go_num, ?_, hOq, hR3, hy3, hE4, by omega⟩
              rw [HS.out, ← hdS.out, if_pos rfl]
              exact hO3
            case measure => simp [intOf]; omega
    · have hk2 : k = fs.length := by omega
      subst hk2
      rw [List.take_length, ← EU.out] at hO
      go_wp2
      go_ret
      exact ⟨_, rfl, hO.base_le (by omega), hE⟩
end Go.Proofs.Ytkdiniaddnhkdaa
