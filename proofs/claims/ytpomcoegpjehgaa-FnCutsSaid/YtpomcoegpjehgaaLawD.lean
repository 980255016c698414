/- Contract: the laws' test whether leaves determine a variable; the reference's cuts. -/
import Derived.Test.YtpomcoegpjehgaaLawE
import Derived.Test.YtpomcoegpjehgaaExInt
import Derived.Test.YtpomcoegpjehgaaBCut
import Derived.Test.YtpomcoegpjehgaaRegion2
namespace Go.Proofs.Ytpomcoegpjehgaa
open Go.RowKit
set_option maxRecDepth 100000
set_option linter.unusedVariables false
set_option linter.unusedSimpArgs false
theorem specCuts_k (c : Circ) (p : Where3) (w : World) (hc : CircAt w c p) :
    Calls Try.prog 17 #[.agg #[.int .i64 c.inputs, .slice p.an c.next.length p.cn, .slice p.ag c.gates.length p.cg, .slice p.ao c.outs.length p.co]] w (GiveIII w (cutsV c)) := by
  have E0 : Ext w (w.alloc (.cells #[.int .i64 c.inputs, .slice p.an c.next.length p.cn, .slice p.ag c.gates.length p.cg, .slice p.ao c.outs.length p.co] 26)) := (Ext.refl w).alloc _
  have y := CircBox.made w c p 26
  cases hv : validB c
  · have HU : Hid (cutsV c = []) := Lib.hid (by unfold cutsV; rw [hv]; rfl)
    (obtain ⟨lb, b0, b1, b2, b3⟩ := (id y))
    go_enter Try.func17, Try.ntmps17
    go_wp2_with fail
    refine (specCircuitValid_c c p _ (hc.ext E0)).mono ?_
    rw [hv]
    rintro e w1 ⟨rfl, hE1⟩
    have E1 := E0.trans hE1
    go_wp2_with fail
    go_ret
    rw [HU.out]
    exact ⟨_, [w1.heap.size], rfl, Nst.made0 w1 rfl, fun g hg => by have := E1.size; simp at hg; omega, E1.alloc _⟩
  · have V := validB_iff.1 hv
    have HU : Hid (cutsV c = cutsN c) := Lib.hid (by unfold cutsV; rw [hv]; rfl)
    (obtain ⟨lb, b0, b1, b2, b3⟩ := (id y))
    go_enter Try.func17, Try.ntmps17
    go_wp2_with fail
    refine (specCircuitValid_c c p _ (hc.ext E0)).mono ?_
    rw [hv]
    rintro e w1 ⟨rfl, hE1⟩
    have E1 := E0.trans hE1
    have y1 := y.ext hE1
    clear lb b0 b1 b2 b3
    (obtain ⟨lb, b0, b1, b2, b3⟩ := (id y1))
    go_wp2_with fail
    refine (l5Cuts_c c p _ (hc.ext E1) V).mono ?_
    rintro e w2 ⟨v2, F2, rfl, hN2, hF2, hE2⟩
    go_wp2_with fail
    go_ret
    rw [HU.out]
    exact ⟨v2, F2, rfl, hN2, fun g hg => by have := hF2 g hg; have := E1.size; omega, E1.trans hE2⟩
theorem Gr.setCellB (w : World) (B i : Nat) (u : Value) : w.grownBy (w.setCell ⟨B, i, none⟩ u) (some B) := gr_setOwn (Gr.refl w _) i u
/-- What a variable's value is, over the leaves' values. -/
def seenV (c : Circ) (S : List Int) (v i : Nat) : Int := if coneB c S i v then 2 else 1
set_option maxHeartbeats 8000000 in
theorem determined_c (c : Circ) (p : Where3) (V : c.Valid) (v : Nat) (hv : (v : Int) < c.vars) (a : Option Addr) (cap : Nat) (S : List Int) (w : World) (hC : CircAt w c p) (hI : IntsAt w a S) (hl : S.length ≤ 3) (ha : Asc S) (hz : ∀ z ∈ S, 0 < z ∧ z < c.vars) (hcov : Cov c S v) :
    Calls Try.prog 21 #[.agg #[.int .i64 c.inputs, .slice p.an c.next.length p.cn, .slice p.ag c.gates.length p.cg, .slice p.ao c.outs.length p.co], .int .i64 v, .slice a S.length cap] w fun e w' => e = .returned (.bool true) ∧ Ext w w' := by
  have E0 : Ext w (w.alloc (.cells #[.int .i64 c.inputs, .slice p.an c.next.length p.cn, .slice p.ag c.gates.length p.cg, .slice p.ao c.outs.length p.co] 26)) := (Ext.refl w).alloc _
  have y := CircBox.made w c p 26
  obtain ⟨n, hn⟩ : ∃ n : Nat, c.vars = (n : Int) := ⟨c.vars.toNat, by omega⟩
  have hn22 := vars_le V
  rw [hn] at hn22 hv hz
  obtain ⟨hn22, _⟩ := hn22
  have i0 := V.i0
  have i4 := V.i4
  have ln := V.ln
  have al := assigns_le V
  have hw := shl_wrap V
  have HVL := Lib.hid (allV_len V)
  have HEV := Lib.hid (allV_ev V)
  have HAL := Lib.hid (asg_len V)
  have HCA := Lib.hid (fun x => cone_at V (asg_len V x).2.2.2 (asg_len V x).2.2.1 ha (fun z hzz => (hz z hzz).1) hcov (by rw [hn]; exact hv))
  have HN := Lib.hid hn
  have HA := Lib.hid ha
  have HZ := Lib.hid hz
  obtain ⟨N, hN⟩ : ∃ N, N = 2 ^ S.length := ⟨_, rfl⟩
  have hN8 : N ≤ 8 := by rw [hN]; exact Nat.pow_le_pow_right (by decide) hl
  have hsh : (1 : Int) * 2 ^ S.length = (N : Int) := by rw [hN, Int.one_mul]; norm_cast
  have HNN := Lib.hid hN
  have hnv : v < n := by omega
  obtain ⟨W1, hW1⟩ : ∃ W, W = w.alloc (.cells #[.int .i64 c.inputs, .slice p.an c.next.length p.cn, .slice p.ag c.gates.length p.cg, .slice p.ao c.outs.length p.co] 26) := ⟨_, rfl⟩
  rw [← hW1] at E0 y
  have sW : W1.heap.size = w.heap.size + 1 := by rw [hW1]; simp
  have HSW := Lib.hid sW
  have hm := run_make_row' (P := Try.prog) 23 3 (.int .i64 0) 8 Try.underlying23 intInfo2 rfl .i64 .i64 N (by omega) (by omega) W1
  have L0 : Blk (W1.alloc (.cells (madeCells #[.int .i64 0] N) 3)) W1.heap.size 3 ((List.replicate N (0 : Int)).map (Value.int .i64)) := by
    rw [zeros_cells, List.map_replicate]
    exact Blk.new W1 _ _
  have E1 : Ext w (W1.alloc (.cells (madeCells #[.int .i64 0] N) 3)) := E0.alloc _
  have hbw : w.heap.size ≤ W1.heap.size := by omega
  have y1 := y.ext ((Ext.refl W1).alloc (.cells (madeCells #[.int .i64 0] N) 3))
  have HC := Lib.hid hC
  have HI := Lib.hid hI
  clear hN hv hn ha hz sW y hC hI hcov V
  go_enter Try.func21, Try.ntmps21
  go_upto_region 1 with fail
  rw [← hW1]
  clear hW1
  go_wp2_with fail
  clear hm
  obtain ⟨W2, hW2⟩ : ∃ W, W = W1.alloc (.cells (madeCells #[.int .i64 0] N) 3) := ⟨_, rfl⟩
  rw [← hW2] at L0 E1 y1
  rw [← hW2]
  obtain ⟨B, hB⟩ : ∃ B, B = W1.heap.size := ⟨_, rfl⟩
  rw [← hB] at L0 hbw ⊢
  have HSB : Hid (B = w.heap.size + 1) := Lib.hid (by rw [hB]; exact HSW.out)
  clear hW2 hB
  have HY1 := Lib.hid y1
  clear y1
  go_loopw [8] (fun u wr => ∃ k : Nat, 1 ≤ k ∧ (k ≤ S.length ∨ k = 1) ∧ u = .int .i64 k ∧ Ext W2 wr) (fun u _ => S.length - (intOf u).toNat)
  case atStart => exact ⟨1, Nat.le_refl _, .inr rfl, rfl, Ext.refl _⟩
  case round =>
    obtain ⟨k, hk1, hk2, rfl, hE⟩ := hrel
    obtain ⟨w3, rfl⟩ : ∃ z : World, z = wr := ⟨_, rfl⟩
    by_cases hlt : k < S.length
    · obtain ⟨b5, o5, rfl, hb5, hc5⟩ := (HI.out.ext (E1.trans hE)).get (by omega)
      obtain ⟨j, rfl⟩ : ∃ j, k = j + 1 := ⟨k - 1, by omega⟩
      have q1 := hc5 j (by omega)
      have q2 := hc5 (j + 1) hlt
      have hij := List.pairwise_iff_getElem.1 HA.out j (j + 1) (by omega) hlt (by omega)
      have e1 : S.getD j 0 = S[j] := by rw [List.getD_eq_getElem?_getD, List.getElem?_eq_getElem (by omega)]; rfl
      have e2 : S.getD (j + 1) 0 = S[j + 1] := by rw [List.getD_eq_getElem?_getD, List.getElem?_eq_getElem hlt]; rfl
      rw [e1] at q1
      rw [e2] at q2
      obtain ⟨s, hs⟩ : ∃ s, s = S[j] := ⟨_, rfl⟩
      obtain ⟨t, ht⟩ : ∃ t, t = S[j + 1] := ⟨_, rfl⟩
      rw [← hs] at q1 hij
      rw [← ht] at q2 hij
      have hwj : IntKind.i64.wrap (((j + 1 : Nat) : Int) - 1) = (j : Int) := by rw [IntWalk.i64_in _ (by omega)]; omega
      have hj1 : (((j + 1 : Nat) : Int) - 1) = (j : Int) := by omega
      have hge : decide (t ≤ s) = false := by simp; omega
      clear hc5 hs ht e1 e2
      go_wp2_with fail
      go_quiet (fail)
      go_wp2
      go_roundw
      case rel => exact ⟨j + 1 + 1, by omega, .inl (by omega), by go_num, hE.trans (by (repeat (first | with_reducible assumption | with_reducible exact Ext.refl _ | with_reducible refine Ext.drew' ?_ | with_reducible refine Ext.drewN' ?_ _ | with_reducible refine Ext.alloc ?_ _ | (with_reducible refine Ext.setNew ?_ (by first | exact Nat.le_refl _ | (simp; done) | (simp; omega) | omega) _))))⟩
      case measure => simp [intOf]; omega
    · have L3 := L0.ext hE
      have E3 := E1.trans hE
      have HY3 := Lib.hid (HY1.out.ext hE)
      have hw6 : IntKind.i64.wrap (c.inputs + (c.next.length : Int)) = c.inputs + (c.next.length : Int) := IntWalk.i64_in _ (by omega)
      have hw7 : 0 ≤ c.inputs + (c.next.length : Int) ∧ c.inputs + (c.next.length : Int) ≤ 64 := by omega
      obtain ⟨hw70, hw71⟩ := hw7
      have hbox : w.heap.size < B := by have := HSB.out; omega
      obtain ⟨T, hT⟩ : ∃ T, T = assigns c := ⟨_, rfl⟩
      rw [← hT] at al hw
      clear hT L0 HY1 hE
      go_wp2_with fail
      go_loopw [9] (fun u wr => ∃ (k : Nat) (sn : List Int), k ≤ T ∧ u = .int .i64 k ∧ sn.length = N ∧ Blk wr B 3 (sn.map (Value.int .i64)) ∧ Hid (∀ i, i < N → sn.getD i 0 = 0 ∨ sn.getD i 0 = seenV c S v i) ∧ CircBox wr w.heap.size c p ∧ Ext w wr) (fun u _ => T - (intOf u).toNat)
      case atStart => exact ⟨0, List.replicate N 0, Nat.zero_le _, rfl, by simp, L3, Lib.hid (fun i hi => .inl (by simp [List.getD_eq_getElem?_getD, hi])), HY3.out, E3⟩
      case round =>
        clear L3 HY3 E3 E1 hlt hk1 hk2
        obtain ⟨k, sn, hk, rfl, hsn, hBk, HSN, hy, hE⟩ := hrel
        obtain ⟨w9, rfl⟩ : ∃ z : World, z = wr := ⟨_, rfl⟩
        have hY := hy
        (obtain ⟨ly, y0, y1, y2, y3⟩ := (id hy))
        by_cases hlt : k < T
        · have HD1 := Lib.hid (bits_div k c.inputs.toNat)
          have hle : k / 2 ^ c.inputs.toNat ≤ 100000000 := Nat.le_trans (Nat.div_le_self _ _) (by omega)
          have EI : Hid (inB c k = bitsN k c.inputs.toNat) := Lib.hid rfl
          have ET : Hid (stB c k = bitsN (k / 2 ^ c.inputs.toNat) c.next.length) := Lib.hid rfl
          obtain ⟨ls3, li4⟩ := And.intro (HAL.out k).1 (HAL.out k).2.1
          have hvl := HVL.out k
          rw [HN.out] at hvl
          have hev := HEV.out k
          have hca := HCA.out k
          change coneB c S (atN (allV c k) S S.length) v = (allV c k).getD v false at hca
          obtain ⟨vs, hvs⟩ : ∃ vs, vs = allV c k := ⟨_, rfl⟩
          rw [← hvs] at hvl hev hca
          have HEVK := Lib.hid hev
          have HVLK : Hid (vs.length = n) := Lib.hid (by omega)
          have HCK := Lib.hid hca
          generalize inB c k = I at *
          generalize stB c k = Sx at *
          have HSL := Lib.hid hsn
          clear hvs hvl hev hy hca hsn
          go_wp2_with fail
          (refine wp_regionT ((fun w' => (∀ b o, b < w9.heap.size → w'.cell? ⟨b, o, none⟩ = w9.cell? ⟨b, o, none⟩) ∧ Ext w9 w')) 14 (by kernel_rfl) ?_; have hS0 := held_mk (Ext.drew w9))
          ((refine wpAnyT_take 0 (v := ?_) rfl (by kernel_rfl) (fun _ _ _ h => h) (Or.inl ⟨by kernel_rfl, ?_⟩) (by assumption) ?_; rotate_left; (intro wS hSw; (try dsimp only at hSw); go_simp; (try with_reducible rfl)); (try simp only [Act.put, List.setIfInBounds_toArray, List.set_cons_zero, List.set_cons_succ])); (refine wpAnyT_take 1 (v := ?_) rfl (by kernel_rfl) (fun _ _ _ h => h) (Or.inl ⟨by kernel_rfl, ?_⟩) (by assumption) ?_; rotate_left; (intro wS hSw; (try dsimp only at hSw); go_simp; (try with_reducible rfl)); (try simp only [Act.put, List.setIfInBounds_toArray, List.set_cons_zero, List.set_cons_succ])); (refine wpAnyT_take 2 (v := ?_) rfl (by kernel_rfl) (fun _ _ _ h => h) (Or.inl ⟨by kernel_rfl, ?_⟩) (by assumption) ?_; rotate_left; (intro wS hSw; (try dsimp only at hSw); go_simp; (try with_reducible rfl)); (try simp only [Act.put, List.setIfInBounds_toArray, List.set_cons_zero, List.set_cons_succ])); (refine wpAnyT_take 3 (v := ?_) rfl (by kernel_rfl) (fun _ _ _ h => h) (Or.inl ⟨by kernel_rfl, ?_⟩) (by assumption) ?_; rotate_left; (intro wS hSw; (try dsimp only at hSw); go_simp; (try with_reducible rfl)); (try simp only [Act.put, List.setIfInBounds_toArray, List.set_cons_zero, List.set_cons_succ])); (refine wpAnyT_take 4 (v := ?_) rfl (by kernel_rfl) (fun _ _ _ h => h) (Or.inl ⟨by kernel_rfl, ?_⟩) (by assumption) ?_; rotate_left; (intro wS hSw; (try dsimp only at hSw); go_simp; (try with_reducible rfl)); (try simp only [Act.put, List.setIfInBounds_toArray, List.set_cons_zero, List.set_cons_succ])); (refine wpAnyT_take 5 (v := ?_) rfl (by kernel_rfl) (fun _ _ _ h => h) (Or.inl ⟨by kernel_rfl, ?_⟩) (by assumption) ?_; rotate_left; (intro wS hSw; (try dsimp only at hSw); go_simp; (try with_reducible rfl)); (try simp only [Act.put, List.setIfInBounds_toArray, List.set_cons_zero, List.set_cons_succ])); (refine wpAnyT_take 6 (v := ?_) rfl (by kernel_rfl) (fun _ _ _ h => h) (Or.inl ⟨by kernel_rfl, ?_⟩) (by assumption) ?_; rotate_left; (intro wS hSw; (try dsimp only at hSw); go_simp; (try with_reducible rfl)); (try simp only [Act.put, List.setIfInBounds_toArray, List.set_cons_zero, List.set_cons_succ])); (refine wpAnyT_take 7 (v := ?_) rfl (by kernel_rfl) (fun _ _ _ h => h) (Or.inl ⟨by kernel_rfl, ?_⟩) (by assumption) ?_; rotate_left; (intro wS hSw; (try dsimp only at hSw); go_simp; (try with_reducible rfl)); (try simp only [Act.put, List.setIfInBounds_toArray, List.set_cons_zero, List.set_cons_succ])); (refine wpAnyT_take 9 (v := ?_) rfl (by kernel_rfl) (fun _ _ _ h => h) (Or.inl ⟨by kernel_rfl, ?_⟩) (by assumption) ?_; rotate_left; (intro wS hSw; (try dsimp only at hSw); go_simp; (try with_reducible rfl)); (try simp only [Act.put, List.setIfInBounds_toArray, List.set_cons_zero, List.set_cons_succ])); (refine wpAnyT_take 10 (v := ?_) rfl (by kernel_rfl) (fun _ _ _ h => h) (Or.inl ⟨by kernel_rfl, ?_⟩) (by assumption) ?_; rotate_left; (intro wS hSw; (try dsimp only at hSw); go_simp; (try with_reducible rfl)); (try simp only [Act.put, List.setIfInBounds_toArray, List.set_cons_zero, List.set_cons_succ])); (refine wpAnyT_take 11 (v := ?_) rfl (by kernel_rfl) (fun _ _ _ h => h) (Or.inl ⟨by kernel_rfl, ?_⟩) (by assumption) ?_; rotate_left; (intro wS hSw; (try dsimp only at hSw); go_simp; (try with_reducible rfl)); (try simp only [Act.put, List.setIfInBounds_toArray, List.set_cons_zero, List.set_cons_succ])))
          (refine wpAnyT_do 8 (by kernel_rfl) rfl (fun K hK => ?_))
          go_simp
          refine (lawBits_e _ _ (k / 2 ^ c.inputs.toNat) c.next.length HD1.out rfl hle (by omega) _).mono ?_
          rw [← ET.out]
          rintro e wa ⟨va, rfl, hOa, hEa⟩
          obtain ⟨ra9, rc9, rfl, hBT⟩ := hOa.opened
          have hSa := held_mk ((Ext.drew w9).trans hEa)
          (refine hK _ _ hSa ?_; clear hK K; (try simp only [Act.put, List.setIfInBounds_toArray, List.set_cons_zero, List.set_cons_succ]))
          (refine wpAnyT_do 12 (by kernel_rfl) rfl (fun K hK => ?_))
          go_simp
          refine (lawBits_e _ _ k c.inputs.toNat rfl (by omega) (by omega) (by omega) _).mono ?_
          rw [← EI.out]
          rintro e wb ⟨vb, rfl, hOb, hEb⟩
          obtain ⟨rb9, rd9, rfl, hBI⟩ := hOb.opened
          have hBT := hBT.ext hEb
          have hSb := held_mk ((held_ext hSa).trans hEb)
          (refine hK _ _ hSb ?_; clear hK K; (try simp only [Act.put, List.setIfInBounds_toArray, List.set_cons_zero, List.set_cons_succ]))
          (refine wpAnyT_do 13 (by kernel_rfl) rfl (fun K hK => ?_))
          go_simp
          refine (implEvalVars_c c p _ _ _ _ Sx I _ (HC.out.ext (hE.trans (held_ext hSb))) hBT hBI (by omega) (by omega)).mono ?_
          rw [HEVK.out]
          rintro e wc ⟨vc9, rfl, hOc, hEc⟩
          obtain ⟨rv, rvc, rfl, hBV⟩ := hOc.opened
          have hSc := held_mk ((held_ext hSb).trans hEc)
          (refine hK _ _ hSc ?_; clear hK K; (try simp only [Act.put, List.setIfInBounds_toArray, List.set_cons_zero, List.set_cons_succ]))
          (refine wpAnyT_last 14 (by kernel_rfl) rfl (by decide) (by kernel_rfl) (fun K hK => ?_))
          go_simp
          (refine hK _ _ ?_; clear hK K; (try simp only [Act.put, List.setIfInBounds_toArray, List.set_cons_zero, List.set_cons_succ]))
          have Xc := held_ext hSc
          have Ec := hE.trans Xc
          have hBc := hBk.ext Xc
          have HYC := Lib.hid (hY.ext Xc)
          have hvn := HVLK.out
          obtain ⟨bV, oV, rfl, hbV, hcV⟩ := hBV.get (by omega)
          have HCV := Lib.hid hcV
          have hvni : (vs.length : Int) = (n : Int) := by omega
          have HVN := Lib.hid hvn
          have hI9 := HI.out.ext Ec
          have HI9 := Lib.hid hI9
          have HBC := Lib.hid hBc
          have fz := fun i => hBc.frozen i
          have hBl := hBc.lt
          clear hSa hSb hSc hEa hEb hEc hBT hBI hBV hOa hOb hOc hS0 y0 y1 y2 y3 ly hY hcV hvn hI9 hBk hBc
          go_wp2_with fail
          go_loop [11, 12] (fun u11 u12 => ∃ j : Nat, j ≤ S.length ∧ u12 = .int .i64 j ∧ u11 = .int .i64 (atN vs S j)) (fun _ u => S.length - (intOf u).toNat)
          case atStart => exact ⟨0, Nat.zero_le _, rfl, rfl⟩
          case round =>
            obtain ⟨j, hj, rfl, rfl⟩ := hrel
            have hal := atN_lt vs S j
            have hpk : 2 ^ j ≤ 2 ^ 3 := Nat.pow_le_pow_right (by decide) (by omega)
            by_cases hlt3 : j < S.length
            · obtain ⟨b5, o5, rfl, hb5, hc5⟩ := HI9.out.get (by omega)
              have q1 := hc5 j hlt3
              obtain ⟨z0, z1⟩ := HZ.out _ (getN_mem (d := 0) hlt3)
              have hsu := atN_succ vs S j
              obtain ⟨z, hz⟩ : ∃ z, z = S.getD j 0 := ⟨_, rfl⟩
              rw [← hz] at q1 z0 z1 hsu
              have z00 : 0 ≤ z := by omega
              have q2 := HCV.out z.toNat (by have := HVN.out; omega)
              have hsk : (1 : Int) * 2 ^ j = ((2 ^ j : Nat) : Int) := by rw [Int.one_mul]; norm_cast
              obtain ⟨bz, hbz⟩ : ∃ bz, bz = vs.getD z.toNat false := ⟨_, rfl⟩
              rw [← hbz] at q2 hsu
              obtain ⟨A, hA⟩ : ∃ A, A = atN vs S j := ⟨_, rfl⟩
              rw [← hA] at hal hsu ⊢
              obtain ⟨P, hP⟩ : ∃ P, P = 2 ^ j := ⟨_, rfl⟩
              rw [← hP] at hal hpk hsk hsu
              have HSU := Lib.hid hsu
              clear hc5 hz hbz hA hP hsu
              cases bz
              · go_wp2_with fail
                go_round
                case rel => exact ⟨j + 1, by omega, by go_num, by rw [HSU.out]; simp⟩
                case measure => simp [intOf]; omega
              · go_wp2_with fail
                go_round
                case rel => exact ⟨j + 1, by omega, by go_num, by rw [HSU.out]; simp⟩
                case measure => simp [intOf]; omega
            · have hj2 : j = S.length := by omega
              have hck := HCK.out
              rw [← hj2] at hck
              have hAN : atN vs S j < N := by rw [HNN.out, ← hj2]; exact hal
              have hse := HSN.out _ hAN
              have q3 := HCV.out v (by have := HVN.out; omega)
              have hsl := HSL.out
              obtain ⟨A, hA⟩ : ∃ A, A = atN vs S j := ⟨_, rfl⟩
              rw [← hA] at hal hck hAN hse ⊢
              unfold seenV at hse
              rw [hck] at hse
              have q4 := HBC.out.cell (i := A) (u := .int .i64 (sn.getD A 0)) (by rw [List.getElem?_map, List.getD_eq_getElem?_getD, List.getElem?_eq_getElem (by omega)]; rfl)
              obtain ⟨bz, hbz⟩ : ∃ bz, bz = vs.getD v false := ⟨_, rfl⟩
              rw [← hbz] at q3 hse hck
              obtain ⟨sv, hsv⟩ : ∃ sv, sv = sn.getD A 0 := ⟨_, rfl⟩
              rw [← hsv] at q4 hse
              have hset : ∀ x : Int, (∀ i, i < N → (sn.set A x).getD i 0 = if i = A then x else sn.getD i 0) := by
                intro x i hi
                rw [List.getD_eq_getElem?_getD, List.getElem?_set, List.getD_eq_getElem?_getD]
                by_cases h : A = i
                · subst h; rw [if_pos rfl, if_pos rfl, if_pos (by omega)]; rfl
                · rw [if_neg h, if_neg (fun e => h e.symm)]
              have HSET := Lib.hid hset
              have HCKK := Lib.hid hck
              have hAi : (A : Int) < (N : Int) := by omega
              have HFIN : Hid (∀ x : Int, x = (if bz then 2 else 1) → ∀ i, i < N → (sn.set A x).getD i 0 = 0 ∨ (sn.set A x).getD i 0 = seenV c S v i) := Lib.hid (by
                intro x hx i hi
                rw [hset x i hi]
                by_cases h : i = A
                · subst h
                  rw [if_pos rfl]
                  right
                  unfold seenV
                  rw [hck, hx]
                · rw [if_neg h]; exact HSN.out i hi)
              have HSL2 := Lib.hid hsl
              clear hA hbz hj2 hsv hset hck hsl
              have hneB : w.heap.size ≠ B := by omega
              cases bz
              · have hse2 : sv = 0 ∨ sv = 1 := by simpa using hse
                rcases hse2 with rfl | rfl
                all_goals
                  clear hse
                  go_wp2_with fail
                  go_roundw
                  case rel =>
                    refine ⟨k + 1, sn.set A 1, by omega, by go_num, by rw [List.length_set]; exact HSL2.out, ?_, Lib.hid (HFIN.out 1 rfl), ?_, Ext.setNew Ec (by show w.heap.size ≤ B; omega) _⟩
                    · rw [List.map_set]; exact HBC.out.set A _
                    · exact HYC.out.grn (r := some B) (Gr.setCellB wc B A _) (fun e => hneB (Option.some.inj e).symm)
                  case measure => simp [intOf]; omega
              · have hse2 : sv = 0 ∨ sv = 2 := by simpa using hse
                rcases hse2 with rfl | rfl
                all_goals
                  clear hse
                  go_wp2_with fail
                  go_roundw
                  case rel =>
                    refine ⟨k + 1, sn.set A 2, by omega, by go_num, by rw [List.length_set]; exact HSL2.out, ?_, Lib.hid (HFIN.out 2 rfl), ?_, Ext.setNew Ec (by show w.heap.size ≤ B; omega) _⟩
                    · rw [List.map_set]; exact HBC.out.set A _
                    · exact HYC.out.grn (r := some B) (Gr.setCellB wc B A _) (fun e => hneB (Option.some.inj e).symm)
                  case measure => simp [intOf]; omega
        · go_wp2_with fail
          go_ret
          exact ⟨rfl, hE⟩
end Go.Proofs.Ytpomcoegpjehgaa
