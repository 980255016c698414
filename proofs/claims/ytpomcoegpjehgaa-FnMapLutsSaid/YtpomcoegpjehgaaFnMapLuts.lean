/- The law FnMapLuts: the lookup tables compute their variables, and cover the circuit. No condition. -/
import Derived.Test.YtpomcoegpjehgaaBytes
import Derived.Test.YtpomcoegpjehgaaBLut
import Derived.Test.YtpomcoegpjehgaaLawE
import Derived.Test.YtpomcoegpjehgaaLawH
import Derived.Test.YtpomcoegpjehgaaMdL0
import Derived.Test.YtpomcoegpjehgaaSameC
import Derived.Test.YtpomcoegpjehgaaBCel
namespace Go.Proofs.Ytpomcoegpjehgaa
open Go.ChangeShapes Go.WideShapes Go.ChangeAt Go.RowKit
set_option maxRecDepth 100000
set_option linter.unusedVariables false
set_option linter.unusedSimpArgs false
set_option maxHeartbeats 60000000 in
theorem fnMapLuts_walk (a0 : Option Addr) (len0 cap0 : Nat) (z0 : List Int) (w : World) (w0 : IsRow .u8 w a0 len0 cap0 z0) :
    Calls Try.prog 7 #[.slice a0 len0 cap0] w fun e w' => e = .returned (.bool true) ∧ Below w.heap.size w w' := by
  obtain ⟨bs, rfl, hB, hlc, hcm⟩ := bytes_of_row w0
  by_cases hl : bs.length ≤ 1048576
  · go_enter Try.func7, Try.ntmps7
    go_wp2_with fail
    refine (DrawMapLuts_c a0 cap0 bs _ hB hl hlc hcm).mono ?_
    rintro e w1 ⟨c, p, rfl, hC, hd, hE, hcap⟩
    clear hd hcap
    go_wp2_with fail
    (have y := CircBox.made w1 c p 26; have Ey : Ext w1 (w1.alloc (.cells #[.int .i64 c.inputs, .slice p.an c.next.length p.cn, .slice p.ag c.gates.length p.cg, .slice p.ao c.outs.length p.co] 26)) := (Ext.refl w1).alloc _; have hC := hC.ext Ey)
    generalize w1.alloc (.cells #[.int .i64 c.inputs, .slice p.an c.next.length p.cn, .slice p.ag c.gates.length p.cg, .slice p.ao c.outs.length p.co] 26) = W1 at *
    have E1 := Ext.trans hE Ey
    clear hE Ey
    have T1 := Lib.hid (implMapLuts_c c p)
    have T2 := Lib.hid (specMapLuts_c c p)
    have hll : (lutV c).length ≤ 14 := by
      unfold lutV
      cases hv : validB c
      · simp
      · have := lutK_count c c.vars.toNat c.gates.length
        have := (validB_iff.1 hv).lg
        simp only [if_true]
        unfold lutN; omega
    have hl3 : ∀ j, j < (lutV c).length → ((lutV c).getD j lut0).lv.length ≤ 3 := by
      intro j hj
      have hm := getN_mem (d := lut0) hj
      unfold lutV at hm ⊢
      cases hv : validB c
      · rw [hv] at hm; simp at hm
      · rw [hv] at hm
        simp only [if_true] at hm ⊢
        have V := validB_iff.1 hv
        obtain ⟨k, hk, _, e2, _⟩ := (lutList V).el _ hm
        rw [e2]
        exact (bestN_cut V hk).len
    obtain ⟨L, hL⟩ : ∃ L, L = lutV c := ⟨_, rfl⟩
    rw [← hL] at T1 T2 hll hl3
    have HL := Lib.hid hL
    have HL3 := Lib.hid hl3
    clear hL hl3
    refine (T1.out _ hC).mono ?_
    rintro e w2 ⟨lv, FL, rfl, hNL, hFL, hE2⟩
    obtain ⟨la, lc, rfl, _⟩ := hNL.sl
    have hC := hC.ext hE2
    have y := y.ext hE2
    have E2 := E1.trans hE2
    clear hE2 E1 T1
    (obtain ⟨ly, y0, y1, y2, y3⟩ := (id y))
    go_wp2_with fail
    refine (T2.out _ hC).mono ?_
    rintro e w3 ⟨rv, FR, rfl, hNR, hFR, hE3⟩
    obtain ⟨ra, rc, rfl, _⟩ := hNR.sl
    have HC3 := Lib.hid (hC.ext hE3)
    have HY3 := Lib.hid (y.ext hE3)
    have HNL := Lib.hid (hNL.ext goodLut hE3)
    have HNR := Lib.hid hNR
    have E3 := E2.trans hE3
    have hne0 : ((L.length : Int) != (L.length : Int)) = false := bne_self_eq_false _
    clear hE3 E2 T2 y0 y1 y2 y3 ly hC y hNL hNR hFL hFR
    go_wp2_with fail
    clear hne0
    go_loopw [6] (fun u wr => ∃ i : Nat, i ≤ L.length ∧ u = .int .i64 i ∧ Ext w3 wr) (fun u _ => L.length - (intOf u).toNat)
    case atStart => exact ⟨0, Nat.zero_le _, rfl, Ext.refl _⟩
    case round =>
      obtain ⟨i, hi, rfl, hE⟩ := hrel
      obtain ⟨w4, rfl⟩ : ∃ z : World, z = wr := ⟨_, rfl⟩
      by_cases hlt : i < L.length
      · obtain ⟨gl, rfl, hgl, _, hcs⟩ := Nst.getN goodLut (HNL.out.ext goodLut hE) (by omega)
        obtain ⟨cs1, F1, ⟨v, rfl, o1, rfl⟩, q, _⟩ := hcs i lut0 hlt
        obtain ⟨gr, rfl, hgr, _, hcr⟩ := Nst.getN goodLut (HNR.out.ext goodLut hE) (by omega)
        obtain ⟨cs2, F2, ⟨v2, rfl, o2, rfl⟩, q2, _⟩ := hcr i lut0 hlt
        have r0 := q 0 _ (by omega) rfl
        have r1 := q 1 _ (by omega) rfl
        have r2 := q 2 _ (by omega) rfl
        have s0 := q2 0 _ (by omega) rfl
        have s1 := q2 1 _ (by omega) rfl
        have s2 := q2 2 _ (by omega) rfl
        rw [Nat.add_zero] at r0 s0
        have h3 := HL3.out i hlt
        obtain ⟨x, hx⟩ : ∃ x, x = L.getD i lut0 := ⟨_, rfl⟩
        rw [← hx] at r0 r2 s0 s2 o1 o2 h3
        obtain ⟨va, vc, rfl, hI1, _⟩ := o1.opened
        obtain ⟨va2, vc2, rfl, hI2, _⟩ := o2.opened
        have hne1 : (x.var != x.var) = false := bne_self_eq_false _
        have hne2 : (x.tb != x.tb) = false := bne_self_eq_false _
        clear hx q q2 hcs hcr o1 o2
        go_wp2_with fail
        (refine wp_regionT ((fun w' => (∀ b o, b < w4.heap.size → w'.cell? ⟨b, o, none⟩ = w4.cell? ⟨b, o, none⟩) ∧ Ext w4 w')) 37 (by kernel_rfl) ?_; have hS0 := held_mk (Ext.drew w4))
        ((refine wpAnyT_take 0 (v := ?_) rfl (by kernel_rfl) (fun _ _ _ h => h) (Or.inl ⟨by kernel_rfl, ?_⟩) (by assumption) ?_; rotate_left; (intro wS hSw; (try dsimp only at hSw); go_simp; (try with_reducible rfl)); (try simp only [Act.put, List.setIfInBounds_toArray, List.set_cons_zero, List.set_cons_succ])); (refine wpAnyT_take 1 (v := ?_) rfl (by kernel_rfl) (fun _ _ _ h => h) (Or.inl ⟨by kernel_rfl, ?_⟩) (by assumption) ?_; rotate_left; (intro wS hSw; (try dsimp only at hSw); go_simp; (try with_reducible rfl)); (try simp only [Act.put, List.setIfInBounds_toArray, List.set_cons_zero, List.set_cons_succ])); (refine wpAnyT_take 2 (v := ?_) rfl (by kernel_rfl) (fun _ _ _ h => h) (Or.inl ⟨by kernel_rfl, ?_⟩) (by assumption) ?_; rotate_left; (intro wS hSw; (try dsimp only at hSw); go_simp; (try with_reducible rfl)); (try simp only [Act.put, List.setIfInBounds_toArray, List.set_cons_zero, List.set_cons_succ])); (refine wpAnyT_take 3 (v := ?_) rfl (by kernel_rfl) (fun _ _ _ h => h) (Or.inl ⟨by kernel_rfl, ?_⟩) (by assumption) ?_; rotate_left; (intro wS hSw; (try dsimp only at hSw); go_simp; (try with_reducible rfl)); (try simp only [Act.put, List.setIfInBounds_toArray, List.set_cons_zero, List.set_cons_succ])); (refine wpAnyT_take 4 (v := ?_) rfl (by kernel_rfl) (fun _ _ _ h => h) (Or.inl ⟨by kernel_rfl, ?_⟩) (by assumption) ?_; rotate_left; (intro wS hSw; (try dsimp only at hSw); go_simp; (try with_reducible rfl)); (try simp only [Act.put, List.setIfInBounds_toArray, List.set_cons_zero, List.set_cons_succ])); (refine wpAnyT_take 5 (v := ?_) rfl (by kernel_rfl) (fun _ _ _ h => h) (Or.inl ⟨by kernel_rfl, ?_⟩) (by assumption) ?_; rotate_left; (intro wS hSw; (try dsimp only at hSw); go_simp; (try with_reducible rfl)); (try simp only [Act.put, List.setIfInBounds_toArray, List.set_cons_zero, List.set_cons_succ])); (refine wpAnyT_take 6 (v := ?_) rfl (by kernel_rfl) (fun _ _ _ h => h) (Or.inl ⟨by kernel_rfl, ?_⟩) (by assumption) ?_; rotate_left; (intro wS hSw; (try dsimp only at hSw); go_simp; (try with_reducible rfl)); (try simp only [Act.put, List.setIfInBounds_toArray, List.set_cons_zero, List.set_cons_succ])); (refine wpAnyT_take 7 (v := ?_) rfl (by kernel_rfl) (fun _ _ _ h => h) (Or.inl ⟨by kernel_rfl, ?_⟩) (by assumption) ?_; rotate_left; (intro wS hSw; (try dsimp only at hSw); go_simp; (try with_reducible rfl)); (try simp only [Act.put, List.setIfInBounds_toArray, List.set_cons_zero, List.set_cons_succ])); (refine wpAnyT_take 8 (v := ?_) rfl (by kernel_rfl) (fun _ _ _ h => h) (Or.inl ⟨by kernel_rfl, ?_⟩) (by assumption) ?_; rotate_left; (intro wS hSw; (try dsimp only at hSw); go_simp; (try with_reducible rfl)); (try simp only [Act.put, List.setIfInBounds_toArray, List.set_cons_zero, List.set_cons_succ])); (refine wpAnyT_take 9 (v := ?_) rfl (by kernel_rfl) (fun _ _ _ h => h) (Or.inl ⟨by kernel_rfl, ?_⟩) (by assumption) ?_; rotate_left; (intro wS hSw; (try dsimp only at hSw); go_simp; (try with_reducible rfl)); (try simp only [Act.put, List.setIfInBounds_toArray, List.set_cons_zero, List.set_cons_succ])); (refine wpAnyT_take 10 (v := ?_) rfl (by kernel_rfl) (fun _ _ _ h => h) (Or.inl ⟨by kernel_rfl, ?_⟩) (by assumption) ?_; rotate_left; (intro wS hSw; (try dsimp only at hSw); go_simp; (try with_reducible rfl)); (try simp only [Act.put, List.setIfInBounds_toArray, List.set_cons_zero, List.set_cons_succ])); (refine wpAnyT_take 11 (v := ?_) rfl (by kernel_rfl) (fun _ _ _ h => h) (Or.inl ⟨by kernel_rfl, ?_⟩) (by assumption) ?_; rotate_left; (intro wS hSw; (try dsimp only at hSw); go_simp; (try with_reducible rfl)); (try simp only [Act.put, List.setIfInBounds_toArray, List.set_cons_zero, List.set_cons_succ])); (refine wpAnyT_take 12 (v := ?_) rfl (by kernel_rfl) (fun _ _ _ h => h) (Or.inl ⟨by kernel_rfl, ?_⟩) (by assumption) ?_; rotate_left; (intro wS hSw; (try dsimp only at hSw); go_simp; (try with_reducible rfl)); (try simp only [Act.put, List.setIfInBounds_toArray, List.set_cons_zero, List.set_cons_succ])); (refine wpAnyT_take 13 (v := ?_) rfl (by kernel_rfl) (fun _ _ _ h => h) (Or.inl ⟨by kernel_rfl, ?_⟩) (by assumption) ?_; rotate_left; (intro wS hSw; (try dsimp only at hSw); go_simp; (try with_reducible rfl)); (try simp only [Act.put, List.setIfInBounds_toArray, List.set_cons_zero, List.set_cons_succ])); (refine wpAnyT_take 14 (v := ?_) rfl (by kernel_rfl) (fun _ _ _ h => h) (Or.inl ⟨by kernel_rfl, ?_⟩) (by assumption) ?_; rotate_left; (intro wS hSw; (try dsimp only at hSw); go_simp; (try with_reducible rfl)); (try simp only [Act.put, List.setIfInBounds_toArray, List.set_cons_zero, List.set_cons_succ])); (refine wpAnyT_take 15 (v := ?_) rfl (by kernel_rfl) (fun _ _ _ h => h) (Or.inl ⟨by kernel_rfl, ?_⟩) (by assumption) ?_; rotate_left; (intro wS hSw; (try dsimp only at hSw); go_simp; (try with_reducible rfl)); (try simp only [Act.put, List.setIfInBounds_toArray, List.set_cons_zero, List.set_cons_succ])); (refine wpAnyT_take 16 (v := ?_) rfl (by kernel_rfl) (fun _ _ _ h => h) (Or.inl ⟨by kernel_rfl, ?_⟩) (by assumption) ?_; rotate_left; (intro wS hSw; (try dsimp only at hSw); go_simp; (try with_reducible rfl)); (try simp only [Act.put, List.setIfInBounds_toArray, List.set_cons_zero, List.set_cons_succ])); (refine wpAnyT_take 17 (v := ?_) rfl (by kernel_rfl) (fun _ _ _ h => h) (Or.inl ⟨by kernel_rfl, ?_⟩) (by assumption) ?_; rotate_left; (intro wS hSw; (try dsimp only at hSw); go_simp; (try with_reducible rfl)); (try simp only [Act.put, List.setIfInBounds_toArray, List.set_cons_zero, List.set_cons_succ])); (refine wpAnyT_take 18 (v := ?_) rfl (by kernel_rfl) (fun _ _ _ h => h) (Or.inl ⟨by kernel_rfl, ?_⟩) (by assumption) ?_; rotate_left; (intro wS hSw; (try dsimp only at hSw); go_simp; (try with_reducible rfl)); (try simp only [Act.put, List.setIfInBounds_toArray, List.set_cons_zero, List.set_cons_succ])); (refine wpAnyT_take 19 (v := ?_) rfl (by kernel_rfl) (fun _ _ _ h => h) (Or.inl ⟨by kernel_rfl, ?_⟩) (by assumption) ?_; rotate_left; (intro wS hSw; (try dsimp only at hSw); go_simp; (try with_reducible rfl)); (try simp only [Act.put, List.setIfInBounds_toArray, List.set_cons_zero, List.set_cons_succ])); (refine wpAnyT_take 20 (v := ?_) rfl (by kernel_rfl) (fun _ _ _ h => h) (Or.inl ⟨by kernel_rfl, ?_⟩) (by assumption) ?_; rotate_left; (intro wS hSw; (try dsimp only at hSw); go_simp; (try with_reducible rfl)); (try simp only [Act.put, List.setIfInBounds_toArray, List.set_cons_zero, List.set_cons_succ])); (refine wpAnyT_take 21 (v := ?_) rfl (by kernel_rfl) (fun _ _ _ h => h) (Or.inl ⟨by kernel_rfl, ?_⟩) (by assumption) ?_; rotate_left; (intro wS hSw; (try dsimp only at hSw); go_simp; (try with_reducible rfl)); (try simp only [Act.put, List.setIfInBounds_toArray, List.set_cons_zero, List.set_cons_succ])); (refine wpAnyT_take 22 (v := ?_) rfl (by kernel_rfl) (fun _ _ _ h => h) (Or.inl ⟨by kernel_rfl, ?_⟩) (by assumption) ?_; rotate_left; (intro wS hSw; (try dsimp only at hSw); go_simp; (try with_reducible rfl)); (try simp only [Act.put, List.setIfInBounds_toArray, List.set_cons_zero, List.set_cons_succ])); (refine wpAnyT_take 23 (v := ?_) rfl (by kernel_rfl) (fun _ _ _ h => h) (Or.inl ⟨by kernel_rfl, ?_⟩) (by assumption) ?_; rotate_left; (intro wS hSw; (try dsimp only at hSw); go_simp; (try with_reducible rfl)); (try simp only [Act.put, List.setIfInBounds_toArray, List.set_cons_zero, List.set_cons_succ])); (refine wpAnyT_take 24 (v := ?_) rfl (by kernel_rfl) (fun _ _ _ h => h) (Or.inl ⟨by kernel_rfl, ?_⟩) (by assumption) ?_; rotate_left; (intro wS hSw; (try dsimp only at hSw); go_simp; (try with_reducible rfl)); (try simp only [Act.put, List.setIfInBounds_toArray, List.set_cons_zero, List.set_cons_succ])); (refine wpAnyT_take 25 (v := ?_) rfl (by kernel_rfl) (fun _ _ _ h => h) (Or.inl ⟨by kernel_rfl, ?_⟩) (by assumption) ?_; rotate_left; (intro wS hSw; (try dsimp only at hSw); go_simp; (try with_reducible rfl)); (try simp only [Act.put, List.setIfInBounds_toArray, List.set_cons_zero, List.set_cons_succ])); (refine wpAnyT_take 26 (v := ?_) rfl (by kernel_rfl) (fun _ _ _ h => h) (Or.inl ⟨by kernel_rfl, ?_⟩) (by assumption) ?_; rotate_left; (intro wS hSw; (try dsimp only at hSw); go_simp; (try with_reducible rfl)); (try simp only [Act.put, List.setIfInBounds_toArray, List.set_cons_zero, List.set_cons_succ])); (refine wpAnyT_take 27 (v := ?_) rfl (by kernel_rfl) (fun _ _ _ h => h) (Or.inl ⟨by kernel_rfl, ?_⟩) (by assumption) ?_; rotate_left; (intro wS hSw; (try dsimp only at hSw); go_simp; (try with_reducible rfl)); (try simp only [Act.put, List.setIfInBounds_toArray, List.set_cons_zero, List.set_cons_succ])); (refine wpAnyT_take 28 (v := ?_) rfl (by kernel_rfl) (fun _ _ _ h => h) (Or.inl ⟨by kernel_rfl, ?_⟩) (by assumption) ?_; rotate_left; (intro wS hSw; (try dsimp only at hSw); go_simp; (try with_reducible rfl)); (try simp only [Act.put, List.setIfInBounds_toArray, List.set_cons_zero, List.set_cons_succ])); (refine wpAnyT_take 29 (v := ?_) rfl (by kernel_rfl) (fun _ _ _ h => h) (Or.inl ⟨by kernel_rfl, ?_⟩) (by assumption) ?_; rotate_left; (intro wS hSw; (try dsimp only at hSw); go_simp; (try with_reducible rfl)); (try simp only [Act.put, List.setIfInBounds_toArray, List.set_cons_zero, List.set_cons_succ])); (refine wpAnyT_take 30 (v := ?_) rfl (by kernel_rfl) (fun _ _ _ h => h) (Or.inl ⟨by kernel_rfl, ?_⟩) (by assumption) ?_; rotate_left; (intro wS hSw; (try dsimp only at hSw); go_simp; (try with_reducible rfl)); (try simp only [Act.put, List.setIfInBounds_toArray, List.set_cons_zero, List.set_cons_succ])); (refine wpAnyT_take 31 (v := ?_) rfl (by kernel_rfl) (fun _ _ _ h => h) (Or.inl ⟨by kernel_rfl, ?_⟩) (by assumption) ?_; rotate_left; (intro wS hSw; (try dsimp only at hSw); go_simp; (try with_reducible rfl)); (try simp only [Act.put, List.setIfInBounds_toArray, List.set_cons_zero, List.set_cons_succ])); (refine wpAnyT_take 32 (v := ?_) rfl (by kernel_rfl) (fun _ _ _ h => h) (Or.inl ⟨by kernel_rfl, ?_⟩) (by assumption) ?_; rotate_left; (intro wS hSw; (try dsimp only at hSw); go_simp; (try with_reducible rfl)); (try simp only [Act.put, List.setIfInBounds_toArray, List.set_cons_zero, List.set_cons_succ])); (refine wpAnyT_take 33 (v := ?_) rfl (by kernel_rfl) (fun _ _ _ h => h) (Or.inl ⟨by kernel_rfl, ?_⟩) (by assumption) ?_; rotate_left; (intro wS hSw; (try dsimp only at hSw); go_simp; (try with_reducible rfl)); (try simp only [Act.put, List.setIfInBounds_toArray, List.set_cons_zero, List.set_cons_succ])); (refine wpAnyT_take 34 (v := ?_) rfl (by kernel_rfl) (fun _ _ _ h => h) (Or.inl ⟨by kernel_rfl, ?_⟩) (by assumption) ?_; rotate_left; (intro wS hSw; (try dsimp only at hSw); go_simp; (try with_reducible rfl)); (try simp only [Act.put, List.setIfInBounds_toArray, List.set_cons_zero, List.set_cons_succ])))
        (refine wpAnyT_do 35 (by kernel_rfl) rfl (fun K hK => ?_))
        go_simp
        refine (sameInts_c va va2 vc vc2 x.lv _ (hI1.ext (Ext.drew w4)) (hI2.ext (Ext.drew w4)) (by omega)).mono ?_
        rintro e w5 ⟨rfl, hE5⟩
        have hS5 := held_mk ((Ext.drew w4).trans hE5)
        (refine hK _ _ hS5 ?_; clear hK K; (try simp only [Act.put, List.setIfInBounds_toArray, List.set_cons_zero, List.set_cons_succ]))
        ((refine wpAnyT_take 36 (v := ?_) rfl (by kernel_rfl) (fun _ _ _ h => h) (Or.inl ⟨by kernel_rfl, ?_⟩) (by assumption) ?_; rotate_left; (intro wS hSw; (try dsimp only at hSw); go_simp; (try with_reducible rfl)); (try simp only [Act.put, List.setIfInBounds_toArray, List.set_cons_zero, List.set_cons_succ])))
        (refine wpAnyT_last 37 (by kernel_rfl) rfl (by decide) (by kernel_rfl) (fun K hK => ?_))
        go_simp
        (refine hK _ _ ?_; clear hK K; (try simp only [Act.put, List.setIfInBounds_toArray, List.set_cons_zero, List.set_cons_succ]))
        go_wp2_with fail
        go_roundw
        case rel => exact ⟨i + 1, by omega, by go_num, hE.trans (held_ext hS5)⟩
        case measure => simp [intOf]; omega
      · have y4 := HY3.out.ext hE
        have E4 := E3.trans hE
        (obtain ⟨ly, y0, y1, y2, y3⟩ := (id y4))
        go_wp2_with fail
        refine (specCircuitValid_c c p _ (HC3.out.ext hE)).mono ?_
        rintro e w5 ⟨rfl, hE5⟩
        have E5 := E4.trans hE5
        have F5 := hE.trans hE5
        clear y0 y1 y2 y3 ly y4 hE5 E4 hE hlt
        cases hv : validB c
        · have hd : L = [] := by rw [HL.out]; unfold lutV; rw [hv]; rfl
          subst hd
          clear hv
          go_wp2_with fail
          refine (alive_c _).mono ?_
          rintro e w6 ⟨rfl, hE6⟩
          go_wp2
          go_ret
          exact ⟨rfl, E5.trans hE6⟩
        · have V := validB_iff.1 hv
          have KK := lutList V
          have hlv : L = lutN c := by rw [HL.out]; unfold lutV; rw [hv]; rfl
          rw [← hlv] at KK
          have i0 := V.i0
          have i4 := V.i4
          have ln := V.ln
          have lg := V.lg
          have lo := V.lo
          obtain ⟨f, hf⟩ : ∃ f : Nat, c.first = (f : Int) := ⟨c.first.toNat, by unfold Circ.first; omega⟩
          obtain ⟨n, hn⟩ : ∃ n : Nat, c.vars = (n : Int) := ⟨c.vars.toNat, by unfold Circ.vars Circ.first; omega⟩
          have hff : 1 + c.inputs + (c.next.length : Int) = (f : Int) := by rw [← hf]; rfl
          have hf8 : f ≤ 8 ∧ n ≤ 22 := by unfold Circ.vars at hn; unfold Circ.first at hf hn; omega
          obtain ⟨hf8, hn22⟩ := hf8
          have hel : ∀ i, i < L.length → 0 ≤ (L.getD i lut0).var ∧ (L.getD i lut0).var < (n : Int) ∧ ∀ z ∈ (L.getD i lut0).lv, 0 ≤ z ∧ z < (n : Int) ∧ ((f : Int) ≤ z → ((L.take i).map LutT.var).contains z = true) := by
            intro i hi
            have hm := getN_mem (d := lut0) hi
            obtain ⟨k, hk, e1, _, _⟩ := KK.el _ hm
            have hlf := KK.leaf _ hm
            have hvv : c.vars = c.first + c.gates.length := rfl
            refine ⟨by omega, by omega, fun z hz => ?_⟩
            obtain ⟨z1, z2, z3⟩ := hlf z hz
            refine ⟨by omega, by omega, fun hz4 => ?_⟩
            rw [List.contains_iff_mem]
            exact asc_before KK.asc hi (z3 (by omega)) z2
          have HEL := Lib.hid hel
          have hrt : ∀ i, i < (c.outs ++ c.next).length → 0 ≤ (c.outs ++ c.next).getD i 0 ∧ (c.outs ++ c.next).getD i 0 < 2 * (n : Int) ∧ ((f : Int) ≤ (c.outs ++ c.next).getD i 0 / 2 → (L.map LutT.var).contains ((c.outs ++ c.next).getD i 0 / 2) = true) := by
            intro i hi
            have hr := root_ok V (xs := c.outs ++ c.next) (fun x hx => by simp only [List.mem_append] at hx ⊢; exact hx.symm) i hi
            rw [hn] at hr
            refine ⟨hr.1, hr.2, fun h => ?_⟩
            rw [List.contains_iff_mem]
            refine KK.root _ ?_ (by omega)
            have := getN_mem (d := (0 : Int)) hi
            simp only [List.mem_append] at this ⊢
            exact this.symm
          have HRT := Lib.hid hrt
          have HAT := Lib.hid (fun (x i : Nat) (hi : i < L.length) => lut_at V KK (getN_mem (d := lut0) hi) x)
          have HVL := Lib.hid (allV_len V)
          have HEV := Lib.hid (allV_ev V)
          have HAL := Lib.hid (asg_len V)
          have al := assigns_le V
          have hw := shl_wrap V
          have HXL : Hid ((c.outs ++ c.next).length = c.outs.length + c.next.length) := Lib.hid (by simp)
          have HN := Lib.hid hn
          have HC5 := Lib.hid (HC3.out.ext F5)
          have HY5 := Lib.hid (HY3.out.ext F5)
          have HN5 := Lib.hid (HNL.out.ext goodLut F5)
          have hwf1 : IntKind.i64.wrap (1 + c.inputs) = 1 + c.inputs := IntWalk.i64_in _ (by omega)
          have hwf : IntKind.i64.wrap (1 + c.inputs + (c.next.length : Int)) = (f : Int) := by rw [hff]; exact IntWalk.i64_in _ (by omega)

          have O0 : OwnInts (w5.alloc (.cells #[] 3)) w5.heap.size 3 (.slice (some ⟨w5.heap.size, 0, none⟩) 0 0) ((L.take 0).map LutT.var) := (Blk.at w5 [] 3 rfl).owns (n := 0) (size := 1) rfl (Nat.le_refl _) (by decide)
          have EA := (Ext.refl w5).alloc (.cells #[] 3)
          have hy5 := HY5.out
          clear hv V KK hlv hn hf hff hel hrt HC3 HY3 HNL HNR F5
          (obtain ⟨ly, y0, y1, y2, y3⟩ := (id hy5))
          go_wp2_with fail
          clear y0 y1 y2 y3 ly hy5
          go_loopw [8, 9] (fun u8 u9 wr => ∃ i : Nat, i ≤ L.length ∧ u9 = .int .i64 i ∧ OwnInts wr w5.heap.size 3 u8 ((L.take i).map LutT.var) ∧ Ext w5 wr) (fun _ u _ => L.length - (intOf u).toNat)
          case atStart => exact ⟨0, Nat.zero_le _, rfl, O0, EA⟩
          case round =>
            clear O0 EA hi
            obtain ⟨i, hi, rfl, hO, hE⟩ := hrel
            obtain ⟨w6, rfl⟩ : ∃ z : World, z = wr := ⟨_, rfl⟩
            obtain ⟨S, hS⟩ : ∃ S, S = (L.take i).map LutT.var := ⟨_, rfl⟩
            have hSl : S.length ≤ 14 := by rw [hS, List.length_map, List.length_take]; omega
            rw [← hS] at hO
            have HS := Lib.hid hS
            clear hS
            by_cases hlt : i < L.length
            · obtain ⟨v0, v1, v2⟩ := HEL.out i hlt
              rw [← HS.out] at v2
              have h3 := HL3.out i hlt
              have htk := take_snocD L i lut0 hlt
              obtain ⟨x, hx⟩ : ∃ x, x = L.getD i lut0 := ⟨_, rfl⟩
              rw [← hx] at v0 v1 v2 h3 htk
              have HX := Lib.hid hx
              have HV2 := Lib.hid v2
              have HTK := Lib.hid htk
              have HO := Lib.hid hO
              obtain ⟨ha, hc, rfl, hHI, _⟩ := hO.opened
              have HHI := Lib.hid hHI
              clear hx v2 htk hHI hO
              go_wp2_with fail
              go_loopw [10] (fun u wr => ∃ k : Nat, k ≤ x.lv.length ∧ u = .int .i64 k ∧ Ext w6 wr) (fun u _ => x.lv.length - (intOf u).toNat)
              case atStart => exact ⟨0, Nat.zero_le _, rfl, Ext.refl _⟩
              case round =>
                obtain ⟨k, hk, rfl, hE6⟩ := hrel
                obtain ⟨w7, rfl⟩ : ∃ z : World, z = wr := ⟨_, rfl⟩
                obtain ⟨gl, ela, hgl, _, hcs⟩ := Nst.getN goodLut (HN5.out.ext goodLut (hE.trans hE6)) (by omega)
                subst ela
                obtain ⟨cs1, F1, ⟨v, rfl, o1, rfl⟩, q, _⟩ := hcs i lut0 hlt
                have r0 := q 0 _ (by omega) rfl
                have r1 := q 1 _ (by omega) rfl
                rw [Nat.add_zero] at r0
                rw [← HX.out] at r0 o1
                obtain ⟨va, vc, rfl, hI1, _⟩ := o1.opened
                clear q hcs o1
                by_cases hlt2 : k < x.lv.length
                · obtain ⟨b5, o5, rfl, hb5, hc5⟩ := hI1.get (by omega)
                  have q1 := hc5 k hlt2
                  obtain ⟨z0, z1, z2⟩ := HV2.out _ (getN_mem (d := 0) hlt2)
                  obtain ⟨z, hz⟩ : ∃ z, z = x.lv.getD k 0 := ⟨_, rfl⟩
                  rw [← hz] at q1 z0 z1 z2
                  have HZ2 := Lib.hid z2
                  clear hc5 hz z2 hI1
                  by_cases hge : (f : Int) ≤ z
                  · have hcn := HZ2.out hge
                    have HCN := Lib.hid hcn
                    have hdg : decide ((f : Int) ≤ z) = true := by simp [hge]
                    clear hcn
                    go_wp2_with fail
                    refine (lawContains_c ha hc S z _ (HHI.out.ext hE6) (by omega)).mono ?_
                    rw [HCN.out]
                    rintro e w8 ⟨rfl, hE8⟩
                    go_wp2_with fail
                    go_roundw
                    case rel => exact ⟨k + 1, by omega, by go_num, hE6.trans hE8⟩
                    case measure => simp [intOf]; omega
                  · have hdg : decide ((f : Int) ≤ z) = false := by simp; omega
                    go_wp2_with fail
                    go_roundw
                    case rel => exact ⟨k + 1, by omega, by go_num, hE6⟩
                    case measure => simp [intOf]; omega
                · have hO7 : OwnInts w7 w5.heap.size 3 (.slice ha S.length hc) S := ownsRow_ext HO.out hE6
                  have hsz := (hE.trans hE6).size
                  clear hI1
                  go_wp2_with (at_builtin; refine wpList_app tyInts (ownsRow_ext hO7 (by (repeat (first | with_reducible assumption | with_reducible exact Ext.refl _ | with_reducible refine Ext.drew' ?_ | with_reducible refine Ext.drewN' ?_ _ | with_reducible refine Ext.alloc ?_ _ | (with_reducible refine Ext.setNew ?_ (by first | exact Nat.le_refl _ | (simp; done) | (simp; omega) | omega) _))))) (rowNew _ _ _ (by simp)) rfl (by simp [Value.oneCell']) (by omega) (by simp; omega) rfl rfl rfl rfl ?_; intro v9 w9 o9 g9 m9)
                  have E9 : Ext w5 w9 := ext_grown (w1 := _) (Ext.trans (hE.trans hE6) (by (repeat (first | with_reducible assumption | with_reducible exact Ext.refl _ | with_reducible refine Ext.drew' ?_ | with_reducible refine Ext.drewN' ?_ _ | with_reducible refine Ext.alloc ?_ _ | (with_reducible refine Ext.setNew ?_ (by first | exact Nat.le_refl _ | (simp; done) | (simp; omega) | omega) _))))) g9 (fun q hq => (own_lo hO7 q hq).1)
                  have O9 : OwnInts w9 w5.heap.size 3 v9 (S ++ [x.var]) := own_app (xs := S) (ys := [x.var]) rfl rfl o9
                  go_roundw
                  case rel => exact ⟨i + 1, by omega, by go_num, by rw [HTK.out, List.map_append, ← HS.out]; exact O9, E9⟩
                  case measure => simp [intOf]; omega
            · have hi2 : i = L.length := by omega
              have hS2 : S = L.map LutT.var := by rw [HS.out, hi2, List.take_length]
              obtain ⟨ha, hc, rfl, hHI, _⟩ := hO.opened
              have HRT2 : Hid (∀ i, i < (c.outs ++ c.next).length → 0 ≤ (c.outs ++ c.next).getD i 0 ∧ (c.outs ++ c.next).getD i 0 < 2 * (n : Int) ∧ ((f : Int) ≤ (c.outs ++ c.next).getD i 0 / 2 → S.contains ((c.outs ++ c.next).getD i 0 / 2) = true)) := Lib.hid (by rw [hS2]; exact HRT.out)
              have hy := HY5.out.ext hE
              have hnx : RowAt w6 p.an (c.next.map (Value.int .i64)) := (HC5.out.ext hE).nx.row
              have hou : RowAt w6 p.ao (c.outs.map (Value.int .i64)) := (HC5.out.ext hE).ou.row
              have OD1 := (Blk.at (World.drew w6) [] 3 rfl).owns (base := w6.heap.size) (size := 1) (n := 0) rfl (Nat.le_refl _) (by decide)
              have A1 := (Ext.drew w6).alloc (.cells #[] 3)
              have HY8 := Lib.hid hy
              have HHI := Lib.hid hHI
              (obtain ⟨ly, y0, y1, y2, y3⟩ := (id hy))
              clear hS2 hi2 hO HRT HS hHI
              go_upto_region 26 with fail
              go_cut [11] (fun s11 wx => ∃ xa xc, s11 = .slice xa (c.outs ++ c.next).length xc ∧ IntsAt wx xa (c.outs ++ c.next) ∧ Ext w6 wx)
              case first =>
                (refine wp_regionT ((fun w' => (∀ b o, b < w6.heap.size → w'.cell? ⟨b, o, none⟩ = w6.cell? ⟨b, o, none⟩) ∧ Ext w6 w')) 7 (by kernel_rfl) ?_; have hS0 := held_mk (Ext.drew w6))
                ((refine wpAnyT_take 1 (v := ?_) rfl (by kernel_rfl) (fun _ _ _ h => h) (Or.inl ⟨by kernel_rfl, ?_⟩) (by assumption) ?_; rotate_left; (intro wS hSw; (try dsimp only at hSw); go_simp; (try with_reducible rfl)); (try simp only [Act.put, List.setIfInBounds_toArray, List.set_cons_zero, List.set_cons_succ])); (refine wpAnyT_take 2 (v := ?_) rfl (by kernel_rfl) (fun _ _ _ h => h) (Or.inl ⟨by kernel_rfl, ?_⟩) (by assumption) ?_; rotate_left; (intro wS hSw; (try dsimp only at hSw); go_simp; (try with_reducible rfl)); (try simp only [Act.put, List.setIfInBounds_toArray, List.set_cons_zero, List.set_cons_succ])); (refine wpAnyT_take 4 (v := ?_) rfl (by kernel_rfl) (fun _ _ _ h => h) (Or.inl ⟨by kernel_rfl, ?_⟩) (by assumption) ?_; rotate_left; (intro wS hSw; (try dsimp only at hSw); go_simp; (try with_reducible rfl)); (try simp only [Act.put, List.setIfInBounds_toArray, List.set_cons_zero, List.set_cons_succ])); (refine wpAnyT_take 5 (v := ?_) rfl (by kernel_rfl) (fun _ _ _ h => h) (Or.inl ⟨by kernel_rfl, ?_⟩) (by assumption) ?_; rotate_left; (intro wS hSw; (try dsimp only at hSw); go_simp; (try with_reducible rfl)); (try simp only [Act.put, List.setIfInBounds_toArray, List.set_cons_zero, List.set_cons_succ])))
                (refine wpAnyT_do 0 (by kernel_rfl) rfl (fun K hK => ?_))
                go_simp
                have hS1 := held_mk A1
                (refine hK _ _ hS1 ?_; clear hK K; (try simp only [Act.put, List.setIfInBounds_toArray, List.set_cons_zero, List.set_cons_succ]))
                (refine wpAnyT_do 3 (by kernel_rfl) rfl (fun K hK => ?_))
                refine step_app tyInts OD1 (hou.ext A1) (by simp) (oneCell_ints _) (by omega) (by simp) rfl rfl rfl rfl ?_
                intro v3 w9 o3 g3 m3
                have E3 := ext_grown A1 g3 (by intro k hk; simp [Value.ownBlock] at hk; omega)
                simp only [Nat.zero_add, List.nil_append] at o3
                obtain ⟨a3, c3, rfl, _, _, _, ob3⟩ := ownsRow_row o3
                have hS2 := held_mk E3
                (refine hK _ _ hS2 ?_; clear hK K; (try simp only [Act.put, List.setIfInBounds_toArray, List.set_cons_zero, List.set_cons_succ]))
                (refine wpAnyT_do 6 (by kernel_rfl) rfl (fun K hK => ?_))
                refine step_app tyInts o3 (hnx.ext E3) (by simp) (oneCell_ints _) (by omega) (by have := E3.size; omega) rfl rfl rfl rfl ?_
                intro v4 w10 o4 g4 m4
                have E4 := ext_grown E3 g4 (by intro k hk; have := (o3.lt _ hk).1; omega)
                have hS4 := held_mk E4
                (refine hK _ _ hS4 ?_; clear hK K; (try simp only [Act.put, List.setIfInBounds_toArray, List.set_cons_zero, List.set_cons_succ]))
                (refine wpAnyT_last 7 (by kernel_rfl) rfl (by decide) (by kernel_rfl) (fun K hK => ?_))
                go_simp
                (refine hK _ _ ?_; clear hK K; (try simp only [Act.put, List.setIfInBounds_toArray, List.set_cons_zero, List.set_cons_succ]))
                go_wp2_with fail
                go_meet
                rw [← List.map_append] at o4
                obtain ⟨a4, c4, rfl, r4, _, _, b4⟩ := ownsRow_row o4
                exact ⟨a4, c4, by rw [HXL.out], intsAt_of_row r4, E4⟩
              obtain ⟨xa, xc, rfl, hX, hE9⟩ := hcut
              obtain ⟨w7, rfl⟩ : ∃ z : World, z = wc := ⟨_, rfl⟩
              obtain ⟨xs, hxs⟩ : ∃ xs, xs = c.outs ++ c.next := ⟨_, rfl⟩
              rw [← hxs] at hX HXL HRT2
              have hx6 : xs.length ≤ 6 := by rw [HXL.out]; omega
              rw [← hxs]
              have F7 := hE.trans hE9
              have HHI7 := Lib.hid (HHI.out.ext hE9)
              have HXX := Lib.hid hX
              clear hxs y0 y1 y2 y3 ly OD1 A1 hnx hou HY8 hX hE hE9 HHI hlt
              go_wp2_with fail
              go_loopw [12] (fun u wr => ∃ k : Nat, k ≤ xs.length ∧ u = .int .i64 k ∧ Ext w7 wr) (fun u _ => xs.length - (intOf u).toNat)
              case atStart => exact ⟨0, Nat.zero_le _, rfl, Ext.refl _⟩
              case round =>
                obtain ⟨k, hk, rfl, hE⟩ := hrel
                obtain ⟨w8, rfl⟩ : ∃ z : World, z = wr := ⟨_, rfl⟩
                by_cases hlt : k < xs.length
                · obtain ⟨b5, o5, rfl, hb5, hc5⟩ := (HXX.out.ext hE).get (by omega)
                  have q1 := hc5 k hlt
                  obtain ⟨i1, i2, i3⟩ := HRT2.out k hlt
                  obtain ⟨x, hx⟩ : ∃ x, x = xs.getD k 0 := ⟨_, rfl⟩
                  rw [← hx] at q1 i1 i2 i3
                  have HI3 := Lib.hid i3
                  have hta : IntKind.i64.wrap (x.tdiv 2) = x / 2 := by rw [Int.tdiv_eq_ediv_of_nonneg i1]; exact IntWalk.i64_in _ (by omega)
                  clear hc5 hx i3
                  by_cases hge : (f : Int) ≤ x / 2
                  · have HCN := Lib.hid (HI3.out hge)
                    have hdg : decide ((f : Int) ≤ x / 2) = true := by simp [hge]
                    go_wp2_with fail
                    refine (lawContains_c ha hc S (x / 2) _ (HHI7.out.ext hE) (by omega)).mono ?_
                    rw [HCN.out]
                    rintro e w9 ⟨rfl, hE9⟩
                    go_wp2_with fail
                    go_roundw
                    case rel => exact ⟨k + 1, by omega, by go_num, hE.trans hE9⟩
                    case measure => simp [intOf]; omega
                  · have hdg : decide ((f : Int) ≤ x / 2) = false := by simp; omega
                    go_wp2_with fail
                    go_roundw
                    case rel => exact ⟨k + 1, by omega, by go_num, hE⟩
                    case measure => simp [intOf]; omega
                · have F8 := F7.trans hE
                  have HY9 := Lib.hid (HY5.out.ext F8)
                  have HC9 := Lib.hid (HC5.out.ext F8)
                  have HN9 := Lib.hid (HN5.out.ext goodLut F8)
                  have E9 := E5.trans F8
                  have hw6 : IntKind.i64.wrap (c.inputs + (c.next.length : Int)) = c.inputs + (c.next.length : Int) := IntWalk.i64_in _ (by omega)
                  have hw7 : 0 ≤ c.inputs + (c.next.length : Int) ∧ c.inputs + (c.next.length : Int) ≤ 64 := by omega
                  obtain ⟨hw70, hw71⟩ := hw7
                  obtain ⟨T, hT⟩ : ∃ T, T = assigns c := ⟨_, rfl⟩
                  rw [← hT] at al hw
                  clear hT HRT2 HHI7 HXX HN5 HC5 HY5 F7 F8 hE HXL
                  go_wp2_with fail
                  go_loopw [13] (fun u wr => ∃ k : Nat, k ≤ T ∧ u = .int .i64 k ∧ Ext w8 wr) (fun u _ => T - (intOf u).toNat)
                  case atStart => exact ⟨0, Nat.zero_le _, rfl, Ext.refl _⟩
                  case round =>
                    obtain ⟨k, hk, rfl, hE⟩ := hrel
                    obtain ⟨w9, rfl⟩ : ∃ z : World, z = wr := ⟨_, rfl⟩
                    have hy := HY9.out.ext hE
                    have hY := hy
                    (obtain ⟨ly, y0, y1, y2, y3⟩ := (id hy))
                    by_cases hlt : k < T
                    · have HD1 := Lib.hid (bits_div k c.inputs.toNat)
                      have hle : k / 2 ^ c.inputs.toNat ≤ 100000000 := Nat.le_trans (Nat.div_le_self _ _) (by omega)
                      have EI : Hid (inB c k = bitsN k c.inputs.toNat) := Lib.hid rfl
                      have ET : Hid (stB c k = bitsN (k / 2 ^ c.inputs.toNat) c.next.length) := Lib.hid rfl
                      obtain ⟨ls3, li4⟩ := And.intro (HAL.out k).1 (HAL.out k).2.1
                      have hvl := HVL.out k
                      rw [HN.out] at hvl
                      have hev := HEV.out k
                      have HATK := Lib.hid (fun i hi => HAT.out k i hi)
                      obtain ⟨vs, hvs⟩ : ∃ vs, vs = allV c k := ⟨_, rfl⟩
                      rw [← hvs] at hvl hev HATK
                      have HEVK := Lib.hid hev
                      have HVLK : Hid (vs.length = n) := Lib.hid (by omega)
                      generalize inB c k = I at *
                      generalize stB c k = Sx at *
                      clear hvs hvl hev hy
                      go_wp2_with fail
                      (refine wp_regionT ((fun w' => (∀ b o, b < w9.heap.size → w'.cell? ⟨b, o, none⟩ = w9.cell? ⟨b, o, none⟩) ∧ Ext w9 w')) 14 (by kernel_rfl) ?_; have hS0 := held_mk (Ext.drew w9))
                      ((refine wpAnyT_take 0 (v := ?_) rfl (by kernel_rfl) (fun _ _ _ h => h) (Or.inl ⟨by kernel_rfl, ?_⟩) (by assumption) ?_; rotate_left; (intro wS hSw; (try dsimp only at hSw); go_simp; (try with_reducible rfl)); (try simp only [Act.put, List.setIfInBounds_toArray, List.set_cons_zero, List.set_cons_succ])); (refine wpAnyT_take 1 (v := ?_) rfl (by kernel_rfl) (fun _ _ _ h => h) (Or.inl ⟨by kernel_rfl, ?_⟩) (by assumption) ?_; rotate_left; (intro wS hSw; (try dsimp only at hSw); go_simp; (try with_reducible rfl)); (try simp only [Act.put, List.setIfInBounds_toArray, List.set_cons_zero, List.set_cons_succ])); (refine wpAnyT_take 2 (v := ?_) rfl (by kernel_rfl) (fun _ _ _ h => h) (Or.inl ⟨by kernel_rfl, ?_⟩) (by assumption) ?_; rotate_left; (intro wS hSw; (try dsimp only at hSw); go_simp; (try with_reducible rfl)); (try simp only [Act.put, List.setIfInBounds_toArray, List.set_cons_zero, List.set_cons_succ])); (refine wpAnyT_take 3 (v := ?_) rfl (by kernel_rfl) (fun _ _ _ h => h) (Or.inl ⟨by kernel_rfl, ?_⟩) (by assumption) ?_; rotate_left; (intro wS hSw; (try dsimp only at hSw); go_simp; (try with_reducible rfl)); (try simp only [Act.put, List.setIfInBounds_toArray, List.set_cons_zero, List.set_cons_succ])); (refine wpAnyT_take 4 (v := ?_) rfl (by kernel_rfl) (fun _ _ _ h => h) (Or.inl ⟨by kernel_rfl, ?_⟩) (by assumption) ?_; rotate_left; (intro wS hSw; (try dsimp only at hSw); go_simp; (try with_reducible rfl)); (try simp only [Act.put, List.setIfInBounds_toArray, List.set_cons_zero, List.set_cons_succ])); (refine wpAnyT_take 5 (v := ?_) rfl (by kernel_rfl) (fun _ _ _ h => h) (Or.inl ⟨by kernel_rfl, ?_⟩) (by assumption) ?_; rotate_left; (intro wS hSw; (try dsimp only at hSw); go_simp; (try with_reducible rfl)); (try simp only [Act.put, List.setIfInBounds_toArray, List.set_cons_zero, List.set_cons_succ])); (refine wpAnyT_take 6 (v := ?_) rfl (by kernel_rfl) (fun _ _ _ h => h) (Or.inl ⟨by kernel_rfl, ?_⟩) (by assumption) ?_; rotate_left; (intro wS hSw; (try dsimp only at hSw); go_simp; (try with_reducible rfl)); (try simp only [Act.put, List.setIfInBounds_toArray, List.set_cons_zero, List.set_cons_succ])); (refine wpAnyT_take 7 (v := ?_) rfl (by kernel_rfl) (fun _ _ _ h => h) (Or.inl ⟨by kernel_rfl, ?_⟩) (by assumption) ?_; rotate_left; (intro wS hSw; (try dsimp only at hSw); go_simp; (try with_reducible rfl)); (try simp only [Act.put, List.setIfInBounds_toArray, List.set_cons_zero, List.set_cons_succ])); (refine wpAnyT_take 9 (v := ?_) rfl (by kernel_rfl) (fun _ _ _ h => h) (Or.inl ⟨by kernel_rfl, ?_⟩) (by assumption) ?_; rotate_left; (intro wS hSw; (try dsimp only at hSw); go_simp; (try with_reducible rfl)); (try simp only [Act.put, List.setIfInBounds_toArray, List.set_cons_zero, List.set_cons_succ])); (refine wpAnyT_take 10 (v := ?_) rfl (by kernel_rfl) (fun _ _ _ h => h) (Or.inl ⟨by kernel_rfl, ?_⟩) (by assumption) ?_; rotate_left; (intro wS hSw; (try dsimp only at hSw); go_simp; (try with_reducible rfl)); (try simp only [Act.put, List.setIfInBounds_toArray, List.set_cons_zero, List.set_cons_succ])); (refine wpAnyT_take 11 (v := ?_) rfl (by kernel_rfl) (fun _ _ _ h => h) (Or.inl ⟨by kernel_rfl, ?_⟩) (by assumption) ?_; rotate_left; (intro wS hSw; (try dsimp only at hSw); go_simp; (try with_reducible rfl)); (try simp only [Act.put, List.setIfInBounds_toArray, List.set_cons_zero, List.set_cons_succ])))
                      (refine wpAnyT_do 8 (by kernel_rfl) rfl (fun K hK => ?_))
                      go_simp
                      refine (lawBits_e _ _ (k / 2 ^ c.inputs.toNat) c.next.length HD1.out rfl hle (by omega) _).mono ?_
                      rw [← ET.out]
                      rintro e wa ⟨va, rfl, hOa, hEa⟩
                      obtain ⟨ra9, rc9, rfl, hBT⟩ := hOa.opened
                      have hSa := held_mk ((Ext.drew w9).trans hEa)
                      (refine hK _ _ hSa ?_; clear hK K; (try simp only [Act.put, List.setIfInBounds_toArray, List.set_cons_zero, List.set_cons_succ]))
                      (refine wpAnyT_do 12 (by kernel_rfl) rfl (fun K hK => ?_))
                      go_simp
                      refine (lawBits_e _ _ k c.inputs.toNat rfl (by omega) (by omega) (by omega) _).mono ?_
                      rw [← EI.out]
                      rintro e wb ⟨vb, rfl, hOb, hEb⟩
                      obtain ⟨rb9, rd9, rfl, hBI⟩ := hOb.opened
                      have hBT := hBT.ext hEb
                      have hSb := held_mk ((held_ext hSa).trans hEb)
                      (refine hK _ _ hSb ?_; clear hK K; (try simp only [Act.put, List.setIfInBounds_toArray, List.set_cons_zero, List.set_cons_succ]))
                      (refine wpAnyT_do 13 (by kernel_rfl) rfl (fun K hK => ?_))
                      go_simp
                      refine (implEvalVars_c c p _ _ _ _ Sx I _ (HC9.out.ext (hE.trans (held_ext hSb))) hBT hBI (by omega) (by omega)).mono ?_
                      rw [HEVK.out]
                      rintro e wc ⟨vc9, rfl, hOc, hEc⟩
                      obtain ⟨rv, rvc, rfl, hBV⟩ := hOc.opened
                      have hSc := held_mk ((held_ext hSb).trans hEc)
                      (refine hK _ _ hSc ?_; clear hK K; (try simp only [Act.put, List.setIfInBounds_toArray, List.set_cons_zero, List.set_cons_succ]))
                      (refine wpAnyT_last 14 (by kernel_rfl) rfl (by decide) (by kernel_rfl) (fun K hK => ?_))
                      go_simp
                      (refine hK _ _ ?_; clear hK K; (try simp only [Act.put, List.setIfInBounds_toArray, List.set_cons_zero, List.set_cons_succ]))
                      have Ec := hE.trans (held_ext hSc)
                      have HBV := Lib.hid hBV
                      clear hSa hSb hSc hEa hEb hEc hBT hBI hBV hOa hOb hOc hS0 y0 y1 y2 y3 ly hY
                      go_wp2_with fail
                      go_loopw [15] (fun u wr => ∃ i : Nat, i ≤ L.length ∧ u = .int .i64 i ∧ Ext wc wr) (fun u _ => L.length - (intOf u).toNat)
                      case atStart => exact ⟨0, Nat.zero_le _, rfl, Ext.refl _⟩
                      case round =>
                        obtain ⟨i, hi, rfl, hEi⟩ := hrel
                        obtain ⟨wd, rfl⟩ : ∃ z : World, z = wr := ⟨_, rfl⟩
                        by_cases hlt2 : i < L.length
                        · obtain ⟨gl, ela, hgl, _, hcs⟩ := Nst.getN goodLut (HN9.out.ext goodLut (Ec.trans hEi)) (by omega)
                          subst ela
                          obtain ⟨cs1, F1, ⟨v, rfl, o1, rfl⟩, q, _⟩ := hcs i lut0 hlt2
                          have r0 := q 0 _ (by omega) rfl
                          have r1 := q 1 _ (by omega) rfl
                          have r2 := q 2 _ (by omega) rfl
                          rw [Nat.add_zero] at r0
                          obtain ⟨v0, v1, v2⟩ := HEL.out i hlt2
                          obtain ⟨tb, htb, htb2, hbit⟩ := HATK.out i hlt2
                          have h3 := HL3.out i hlt2
                          obtain ⟨x, hx⟩ : ∃ x, x = L.getD i lut0 := ⟨_, rfl⟩
                          rw [← hx] at r0 r2 o1 v0 v1 v2 htb hbit h3
                          rw [htb] at r2
                          obtain ⟨va, vc, rfl, hI1, _⟩ := o1.opened
                          obtain ⟨u, hu⟩ : ∃ u : Nat, x.var = (u : Int) := ⟨x.var.toNat, by omega⟩
                          rw [hu] at r0 v1
                          rw [hu, Int.toNat_natCast] at hbit
                          have HBIT := Lib.hid hbit
                          have HV2 := Lib.hid v2
                          have HI1 := Lib.hid hI1
                          have hBVd := HBV.out.ext hEi
                          have HBVD := Lib.hid hBVd
                          have hvn := HVLK.out
                          obtain ⟨bV, oV, rfl, hbV, hcV⟩ := hBVd.get (by omega)
                          have HCV := Lib.hid hcV
                          clear hx q hcs o1 htb hbit v2 hI1 hu v0 hBVd hcV
                          have hvni : (vs.length : Int) = (n : Int) := by omega
                          have HVN := Lib.hid hvn
                          clear hvn
                          go_wp2_with fail
                          go_loop [16, 17] (fun u16 u17 => ∃ j : Nat, j ≤ x.lv.length ∧ u17 = .int .i64 j ∧ u16 = .int .i64 (atN vs x.lv j)) (fun _ u => x.lv.length - (intOf u).toNat)
                          case atStart => exact ⟨0, Nat.zero_le _, rfl, rfl⟩
                          case round =>
                            obtain ⟨j, hj, rfl, rfl⟩ := hrel
                            have hal := atN_lt vs x.lv j
                            have hpk : 2 ^ j ≤ 2 ^ 3 := Nat.pow_le_pow_right (by decide) (by omega)
                            by_cases hlt3 : j < x.lv.length
                            · obtain ⟨b5, o5, rfl, hb5, hc5⟩ := HI1.out.get (by omega)
                              have q1 := hc5 j hlt3
                              obtain ⟨z0, z1, _⟩ := HV2.out _ (getN_mem (d := 0) hlt3)
                              have hsu := atN_succ vs x.lv j
                              obtain ⟨z, hz⟩ : ∃ z, z = x.lv.getD j 0 := ⟨_, rfl⟩
                              rw [← hz] at q1 z0 z1 hsu
                              have q2 := HCV.out z.toNat (by have := HVN.out; omega)
                              have hsk : (1 : Int) * 2 ^ j = ((2 ^ j : Nat) : Int) := by rw [Int.one_mul]; norm_cast
                              obtain ⟨bz, hbz⟩ : ∃ bz, bz = vs.getD z.toNat false := ⟨_, rfl⟩
                              rw [← hbz] at q2 hsu
                              obtain ⟨A, hA⟩ : ∃ A, A = atN vs x.lv j := ⟨_, rfl⟩
                              rw [← hA] at hal hsu ⊢
                              obtain ⟨P, hP⟩ : ∃ P, P = 2 ^ j := ⟨_, rfl⟩
                              rw [← hP] at hal hpk hsk hsu
                              have HSU := Lib.hid hsu
                              clear hc5 hz hbz hA hP hsu
                              cases bz
                              · go_wp2_with fail
                                go_round
                                case rel => exact ⟨j + 1, by omega, by go_num, by rw [HSU.out]; simp⟩
                                case measure => simp [intOf]; omega
                              · go_wp2_with fail
                                go_round
                                case rel => exact ⟨j + 1, by omega, by go_num, by rw [HSU.out]; simp⟩
                                case measure => simp [intOf]; omega
                            · have hj2 : j = x.lv.length := by omega
                              have hbit := HBIT.out
                              rw [← hj2] at hbit
                              have q3 := HCV.out u (by have := HVN.out; omega)
                              obtain ⟨A, hA⟩ : ∃ A, A = atN vs x.lv j := ⟨_, rfl⟩
                              rw [← hA] at hal hbit ⊢
                              have hbn := bit_nonneg tb A
                              have hble := bit_le tb A
                              have hbm := bit_eq2 tb A
                              rw [hbit] at hbm
                              obtain ⟨bz, hbz⟩ : ∃ bz, bz = vs.getD u false := ⟨_, rfl⟩
                              rw [← hbz] at q3 hbm
                              clear hA hbz hbit hj2
                              go_wp2_with fail
                              go_quiet (fail)
                              go_wp2
                              go_roundw
                              case rel => exact ⟨i + 1, by omega, by go_num, hEi.trans (by (repeat (first | with_reducible assumption | with_reducible exact Ext.refl _ | with_reducible refine Ext.drew' ?_ | with_reducible refine Ext.drewN' ?_ _ | with_reducible refine Ext.alloc ?_ _ | (with_reducible refine Ext.setNew ?_ (by first | exact Nat.le_refl _ | (simp; done) | (simp; omega) | omega) _))))⟩
                              case measure => simp [intOf]; omega
                        · go_wp2_with fail
                          go_roundw
                          case rel => exact ⟨k + 1, by omega, by go_num, Ec.trans hEi⟩
                          case measure => simp [intOf]; omega
                    · go_wp2_with fail
                      go_ret
                      exact ⟨rfl, E9.trans hE⟩
  · go_enter Try.func7, Try.ntmps7
    go_wp2
    go_ret
    exact ⟨rfl, Ext.refl _⟩
theorem fnMapLuts_lifted (os : Os) (started : os.Started) (H : Type) (enc : TypeId × Value → H) :
    ReturnsInHanded {} Try.checked os 7 .any (Rows.fnMapLutsSpec.pre6 enc Try.prog Try.f7 Rows.fnMapLutsRow.domain false) (Rows.fnMapLutsSpec.post enc Try.prog Try.f7 false true false false) := by
  refine returnsInHanded_of_change (C := Try.checked) own started (by kernel_rfl) Try.func7
    (ChangeSpec.witness6 (enc := enc) (C := Try.checked) false ⟨#[], #[.slice none 0 0], []⟩ 8 (by kernel_rfl) (by kernel_rfl) (by kernel_rfl) (by kernel_rfl)) ?_
  intro W base args ds gs before hval0 hW hcnd _
  have hval : ∀ (j : Nat) t v, Try.f7.params[j]? = some t → args[j]? = some v → Value.okWide Try.prog W .any base t v := hval0
  have hW' := hW
  obtain ⟨p, q, hA0, hV, rfl, hfz, hnd⟩ := hW
  have hA : DataW.TrodAll enc Try.prog W 0 (fun _ => true) true Try.f7.params.toList args.toList ds p := hA0
  rw [Try.params7] at hA hval
  obtain ⟨v0, vs0, d0, ds0, p0, q0, hargs, rfl, rfl, h0, r0⟩ := trodAll_cons hA
  obtain ⟨rfl, rfl, rfl⟩ := trodAll_nil r0
  obtain rfl : args = #[v0] := by cases args; simp_all
  obtain ⟨rfl, rfl⟩ := trodVars_none hV
  obtain ⟨a0, len0, cap0, rfl⟩ := okWide_slice Try.underlying22 (hval 0 22 v0 rfl rfl)
  have k0 := h0
  have lt0 : ∀ x ∈ p0, x.block < W.heap.size := by obtain ⟨m, hm⟩ := k0; exact DataW.trod_lt m _ _ _ hm
  obtain ⟨z0, w0⟩ : ∃ zs, IsRow .u8 W a0 len0 cap0 zs := by
    obtain ⟨fuel, hf⟩ := h0
    rcases open_ints Try.underlying22 Try.underlying5 (by kernel_rfl) hf with ⟨hcs, _⟩ | ⟨x, l, c, zs, hcs, _, hl, hm, hz, _, hcell, hwz⟩
    · simp [Value.cells] at hcs
      obtain ⟨rfl, rfl, rfl⟩ := hcs
      exact ⟨[], .inl ⟨rfl, rfl, rfl, rfl⟩⟩
    · simp [Value.cells] at hcs
      obtain ⟨rfl, rfl, rfl⟩ := hcs
      exact ⟨zs, .inr ⟨_, rfl, hl, hm, by simpa using hz, hcell, hwz⟩⟩
  clear hA0 hval0
  refine (fnMapLuts_walk a0 len0 cap0 z0 W w0).mono fun e W' ⟨he, bel⟩ => ?_
  subst he
  exact ⟨_, rfl, _, _, _, [], _, [], hW', trodAll_mk1 (shut_bool Try.underlying4 _), (trodAll_cons_mk (Below.trod laidOut (by kernel_rfl) (of_decide_eq_true (by kernel_rfl)) k0 bel lt0) trodAll_mk0), rfl, bel.frame _, fun h => by cases h⟩
theorem fnMapLuts_over : Rows.fnMapLutsRow.holds Try.pinned (OpenSpec.ofChange Rows.fnMapLutsSpec) :=
  OpenClaim.holds_of_wide 7 Try.f7 rfl rfl rfl rfl rfl rfl rfl ⟨rfl, rfl, rfl, rfl, rfl⟩ rfl rfl rfl rfl rfl (by kernel_rfl) Try.func7 (by kernel_rfl)
    (of_decide_eq_true (by kernel_rfl)) (by unfold Func.isWrapper; first | (rw [if_pos (by decide +kernel)]; kernel_rfl) | (rw [if_neg (by decide +kernel)]; exact ⟨rfl, rfl⟩))
    (fun os started H enc _ => fnMapLuts_lifted os started H enc)
theorem fnMapLuts_holds : Rows.FnMapLutsSaid := fnMapLuts_over
end Go.Proofs.Ytpomcoegpjehgaa
