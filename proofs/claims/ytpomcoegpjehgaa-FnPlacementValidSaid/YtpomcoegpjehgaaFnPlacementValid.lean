/- The law FnPlacementValid: a valid placement backwards is valid; one with a tile twice or outside is not. No condition. -/
import Derived.Test.YtpomcoegpjehgaaBytes
import Derived.Test.YtpomcoegpjehgaaDrawPv
import Derived.Test.YtpomcoegpjehgaaPvI
import Derived.Test.YtpomcoegpjehgaaPvS
namespace Go.Proofs.Ytpomcoegpjehgaa
open Go.ChangeShapes Go.WideShapes Go.ChangeAt Go.RowKit
set_option maxRecDepth 100000
set_option linter.unusedVariables false
set_option linter.unusedSimpArgs false
theorem plOk_rev {ps : List Int} (h : PlOk ps) : PlOk ps.reverse := ⟨fun x hx => h.1 x (List.mem_reverse.1 hx), List.pairwise_reverse.2 (h.2.imp (fun h e => h e.symm))⟩
theorem pval_rev {c : Circ} {ps : List Int} (h : pvalV c ps = true) : pvalV c ps.reverse = true := by
  obtain ⟨h1, h2, h3⟩ := pval_iff.1 h
  exact pval_iff.2 ⟨h1, by rw [List.length_reverse]; exact h2, plOk_rev h3⟩
theorem pval_out {c : Circ} {ps : List Int} (h : 0 < ps.length) : pvalV c (ps.set 0 25) = false := by
  refine pval_no (fun h2 => ?_)
  have := h2.1 25 (by
    refine List.mem_iff_getElem.2 ⟨0, by simpa using h, by simp⟩)
  omega
theorem pval_twice {c : Circ} {ps : List Int} (h : pvalV c ps = true) (h0 : 0 < ps.length) : pvalV c (ps.set (ps.length - 1) (ps.getD 0 0)) = decide (ps.length = 1) := by
  by_cases h1 : ps.length = 1
  · have e : ps.set (ps.length - 1) (ps.getD 0 0) = ps := by
      match ps, h1 with
      | [x], _ => rfl
    rw [e, h, decide_eq_true h1]
  · rw [decide_eq_false h1]
    refine pval_no (fun h2 => ?_)
    have hn := h2.2
    have := List.pairwise_iff_getElem.1 hn 0 (ps.length - 1) (by simpa using h0) (by simp; omega) (by omega)
    refine this ?_
    simp only [List.getElem_set]
    rw [if_neg (by omega)]
    simp [List.getD_eq_getElem?_getD, h0]
/-- The last j elements, backwards. -/
def backK (ps : List Int) (j : Nat) : List Int := (ps.reverse).take j
theorem backK_succ {ps : List Int} {j : Nat} (h : j < ps.length) : backK ps (j + 1) = backK ps j ++ [ps.getD (ps.length - 1 - j) 0] := by
  unfold backK
  rw [take_snocD ps.reverse j 0 (by rw [List.length_reverse]; exact h)]
  congr 2
  rw [List.getD_eq_getElem?_getD, List.getD_eq_getElem?_getD, List.getElem?_reverse h]
theorem backK_len {ps : List Int} {j : Nat} (h : j ≤ ps.length) : (backK ps j).length = j := by unfold backK; rw [List.length_take, List.length_reverse]; omega
theorem backK_all (ps : List Int) : backK ps ps.length = ps.reverse := by unfold backK; rw [List.take_of_length_le (by rw [List.length_reverse]; exact Nat.le_refl _)]
set_option maxHeartbeats 8000000 in
theorem fnPlacementValid_walk (a0 : Option Addr) (len0 cap0 : Nat) (z0 : List Int) (w : World) (w0 : IsRow .u8 w a0 len0 cap0 z0) :
    Calls Try.prog 8 #[.slice a0 len0 cap0] w fun e w' => e = .returned (.bool true) ∧ Below w.heap.size w w' := by
  obtain ⟨bs, rfl, hB, hlc, hcm⟩ := bytes_of_row w0
  by_cases hl : bs.length ≤ 1048576
  · go_enter Try.func8, Try.ntmps8
    go_wp2_with fail
    refine (DrawPlacementValid_c a0 cap0 bs _ hB hl hlc hcm).mono ?_
    rintro e w1 ⟨c, p, a, cap, ps, rfl, hC, hI, hx, hpc, hpm, hE⟩
    go_wp2_with fail
    (have y := CircBox.made w1 c p 26; have Ey : Ext w1 (w1.alloc (.cells #[.int .i64 c.inputs, .slice p.an c.next.length p.cn, .slice p.ag c.gates.length p.cg, .slice p.ao c.outs.length p.co] 26)) := (Ext.refl w1).alloc _; have hC := hC.ext Ey)
    have hI := hI.ext Ey
    generalize w1.alloc (.cells #[.int .i64 c.inputs, .slice p.an c.next.length p.cn, .slice p.ag c.gates.length p.cg, .slice p.ao c.outs.length p.co] 26) = W1 at *
    have E1 := Ext.trans hE Ey
    clear hE Ey
    have T1 := Lib.hid (fun a cap ps => implPlacementValid_c c p a cap ps)
    have T2 := Lib.hid (specPlacementValid_c c p a cap ps)
    have HREV := Lib.hid (pval_rev (c := c) (ps := ps))
    have HOUT := Lib.hid (pval_out (c := c) (ps := ps))
    have HTW := Lib.hid (pval_twice (c := c) (ps := ps))
    have T1a := Lib.hid (T1.out a cap ps)
    obtain ⟨D, hD⟩ : ∃ D, D = pvalV c ps := ⟨_, rfl⟩
    rw [← hD] at T1a T2 HREV HTW
    clear hD
    refine (T1a.out _ hC hI (by omega)).mono ?_
    rintro e w2 ⟨rfl, hE2⟩
    have hC := hC.ext hE2
    have hI := hI.ext hE2
    have y := y.ext hE2
    have E2 := E1.trans hE2
    clear hE2 E1 T1a
    (obtain ⟨ly, y0, y1, y2, y3⟩ := (id y))
    have hne : (D != D) = false := by cases D <;> rfl
    go_wp2_with fail
    refine (T2.out _ hC hI (by omega) hpc hpm).mono ?_
    rintro e w3 ⟨rfl, hE3⟩
    have hC := hC.ext hE3
    have hI := hI.ext hE3
    have y := y.ext hE3
    have E3 := E2.trans hE3
    clear hE3 E2 T2 y0 y1 y2 y3 ly
    cases D
    · go_wp2_with fail
      refine (alive_c _).mono ?_
      rintro e w5 ⟨rfl, hE5⟩
      go_wp2
      go_ret
      exact ⟨rfl, E3.trans hE5⟩
    · by_cases hz : ps.length = 0
      · have hbz : ((ps.length : Int) == 0) = true := by rw [hz]; rfl
        have HZ := Lib.hid hz
        clear hz
        go_wp2_with fail
        refine (alive_c _).mono ?_
        rintro e w5 ⟨rfl, hE5⟩
        go_wp2
        go_ret
        exact ⟨rfl, E3.trans hE5⟩
      · have hbz : ((ps.length : Int) == 0) = false := by rw [beq_eq_false_iff_ne]; omega
        have h0 : 0 < ps.length := by omega
        have hrev := HREV.out rfl
        have hout := HOUT.out h0
        have htw := HTW.out rfl h0
        have HRV := Lib.hid hrev
        have HOT := Lib.hid hout
        have HTT := Lib.hid htw
        have O0 : OwnInts (w3.alloc (.cells #[] 3)) w3.heap.size 3 (.slice (some ⟨w3.heap.size, 0, none⟩) 0 0) (backK ps 0) := (Blk.at w3 [] 3 rfl).owns (n := 0) (size := 1) rfl (Nat.le_refl _) (by decide)
        have EA := (Ext.refl w3).alloc (.cells #[] 3)
        have HI3 := Lib.hid hI
        have HC3 := Lib.hid hC
        have HY3 := Lib.hid y
        clear hrev hout htw HREV HOUT HTW hne hI hC y hz
        go_wp2_with fail
        go_loopw [6, 7] (fun u6 u7 wr => ∃ j : Nat, j ≤ ps.length ∧ u7 = .int .i64 ((ps.length : Int) - 1 - j) ∧ OwnInts wr w3.heap.size 3 u6 (backK ps j) ∧ Ext w3 wr) (fun _ u _ => (intOf u + 1).toNat)
        case atStart => exact ⟨0, Nat.zero_le _, by go_num, O0, EA⟩
        case round =>
          clear O0 EA
          obtain ⟨j, hj, rfl, hO, hE⟩ := hrel
          obtain ⟨w4, rfl⟩ : ∃ z : World, z = wr := ⟨_, rfl⟩
          by_cases hlt : j < ps.length
          · obtain ⟨b5, o5, rfl, hb5, hc5⟩ := (HI3.out.ext hE).get (by omega)
            have hm : ∃ m : Nat, (ps.length : Int) - 1 - j = (m : Int) ∧ m < ps.length ∧ m = ps.length - 1 - j := ⟨ps.length - 1 - j, by omega, by omega, rfl⟩
            obtain ⟨m, hm1, hm2, hm3⟩ := hm
            have q1 := hc5 m hm2
            have hbs := backK_succ (ps := ps) (j := j) hlt
            have hbl := backK_len (ps := ps) (j := j) hj
            rw [← hm3] at hbs
            obtain ⟨z, hzz⟩ : ∃ z, z = ps.getD m 0 := ⟨_, rfl⟩
            rw [← hzz] at q1 hbs
            rw [hm1]
            have HBS := Lib.hid hbs
            have HM1 := Lib.hid hm1
            have HM3 := Lib.hid hm3
            obtain ⟨S, hS⟩ : ∃ S, S = backK ps j := ⟨_, rfl⟩
            rw [← hS] at hO HBS hbl
            have hsl : S.length ≤ 18 := by omega
            have hsz := hE.size
            clear hc5 hzz hbs hm1 hm3 hbl hS
            go_wp2_with (at_builtin; refine wpList_app tyInts (ownsRow_ext hO (by (repeat (first | with_reducible assumption | with_reducible exact Ext.refl _ | with_reducible refine Ext.drew' ?_ | with_reducible refine Ext.drewN' ?_ _ | with_reducible refine Ext.alloc ?_ _ | (with_reducible refine Ext.setNew ?_ (by first | exact Nat.le_refl _ | (simp; done) | (simp; omega) | omega) _))))) (rowNew _ _ _ (by simp)) rfl (by simp [Value.oneCell']) (by omega) (by simp; omega) rfl rfl rfl rfl ?_; intro v9 w9 o9 g9 m9)
            have E9 : Ext w3 w9 := ext_grown (w1 := _) (Ext.trans hE (by (repeat (first | with_reducible assumption | with_reducible exact Ext.refl _ | with_reducible refine Ext.drew' ?_ | with_reducible refine Ext.drewN' ?_ _ | with_reducible refine Ext.alloc ?_ _ | (with_reducible refine Ext.setNew ?_ (by first | exact Nat.le_refl _ | (simp; done) | (simp; omega) | omega) _))))) g9 (fun q hq => (own_lo hO q hq).1)
            have O9 : OwnInts w9 w3.heap.size 3 v9 (S ++ [z]) := own_app (xs := S) (ys := [z]) rfl rfl o9
            go_roundw
            case rel => exact ⟨j + 1, by omega, by (have := HM1.out; congr 1; omega), by rw [HBS.out]; exact O9, E9⟩
            case measure => first | (simp [intOf]; done) | (simp [intOf]; omega)
          · have hj2 : j = ps.length := by omega
            subst hj2
            have hng : ¬ (0 : Int) ≤ (ps.length : Int) - 1 - ps.length := by omega
            rw [backK_all] at hO
            obtain ⟨ba, bc, rfl, hBI, _⟩ := hO.opened
            have HBI := Lib.hid hBI
            have hI4 := HI3.out.ext hE
            have hr4 := hI4.row
            have hrl : ps.reverse.length = ps.length := List.length_reverse
            have HRL := Lib.hid hrl
            have OD := (Blk.at w4 [] 3 rfl).owns (base := w4.heap.size) (size := 1) (n := 0) rfl (Nat.le_refl _) (by decide)
            have hr4a := hr4.ext ((Ext.refl w4).alloc (.cells #[] 3))
            clear hO hBI hI4 hrl
            go_upto_region 15 with (at_builtin; refine wpList_app tyInts OD hr4a (by rw [List.length_map, Nat.mul_one]) (oneCell_ints ps) (by omega) (by simp) rfl rfl rfl rfl ?_; intro v9 w9 o9 g9 m9)
            have O9 : OwnInts w9 w4.heap.size 3 v9 ps := by
              have h := o9
              rw [Nat.zero_add, List.nil_append] at h
              exact h
            have E9 : Ext w4 w9 := ext_grown ((Ext.refl w4).alloc _) g9 (fun q hq => by cases hq; exact Nat.le_refl _)
            obtain ⟨va, vc, rfl, _, _⟩ := O9.opened
            obtain ⟨g8, rfl, hg8, hl8⟩ := ownsRow_block O9 h0
            have O9s := ownsRow_setAt O9 0 (by rw [List.length_map]; exact h0) (.int .i64 25)
            have c8 : w9.cell? ⟨g8, 0, none⟩ = some (.int .i64 (ps.getD 0 0)) := ownsRow_cell O9 (j := 0) (by rw [List.getElem?_map, List.getD_eq_getElem?_getD, List.getElem?_eq_getElem h0]; rfl)
            have f8 := fun i => ownsRow_frozen O9 i
            have h0i : (0 : Int) < (ps.length : Int) := by omega
            clear o9 g9 m9 O9 OD hr4a
            go_upto_region 16 with fail
            obtain ⟨w10, hw10⟩ : ∃ z, z = w9.setCell ⟨g8, 0, none⟩ (.int .i64 25) := ⟨_, rfl⟩
            rw [← hw10] at O9s
            rw [← hw10]
            have E10 : Ext w4 w10 := by rw [hw10]; exact Ext.setNew E9 hg8 _
            have HO10 : Hid (OwnInts w10 w4.heap.size 3 (.slice (some ⟨g8, 0, none⟩) ps.length vc) (ps.set 0 25)) := Lib.hid (by unfold OwnInts; rw [List.length_set, List.map_set]; exact O9s)
            have hr10 := (HI3.out.ext (hE.trans E10)).row
            have OD2 := (Blk.at w10 [] 3 rfl).owns (base := w10.heap.size) (size := 1) (n := 0) rfl (Nat.le_refl _) (by decide)
            have hr10a := hr10.ext ((Ext.refl w10).alloc (.cells #[] 3))
            clear hw10 O9s c8 f8 E9 hr4
            go_upto_region 17 with (at_builtin; refine wpList_app tyInts OD2 hr10a (by rw [List.length_map, Nat.mul_one]) (oneCell_ints ps) (by omega) (by simp) rfl rfl rfl rfl ?_; intro v11 w11 o11 g11 m11)
            have O11 : OwnInts w11 w10.heap.size 3 v11 ps := by
              have h := o11
              rw [Nat.zero_add, List.nil_append] at h
              exact h
            have E11 : Ext w10 w11 := ext_grown ((Ext.refl w10).alloc _) g11 (fun q hq => by cases hq; exact Nat.le_refl _)
            obtain ⟨va2, vc2, rfl, _, _⟩ := O11.opened
            obtain ⟨g9, rfl, hg9, hl9⟩ := ownsRow_block O11 h0
            obtain ⟨x0, hx0⟩ : ∃ x, x = ps.getD 0 0 := ⟨_, rfl⟩
            obtain ⟨m, hm⟩ : ∃ m, m = ps.length - 1 := ⟨_, rfl⟩
            have hml : m < ps.length := by omega
            have O11s := ownsRow_setAt O11 m (by rw [List.length_map]; exact hml) (.int .i64 x0)
            have c9 : w11.cell? ⟨g9, m, none⟩ = some (.int .i64 (ps.getD m 0)) := ownsRow_cell O11 (j := m) (by rw [List.getElem?_map, List.getD_eq_getElem?_getD, List.getElem?_eq_getElem hml]; rfl)
            have f9 := fun i => ownsRow_frozen O11 i
            obtain ⟨b5, o5, rfl, hb5, hc5⟩ := (HI3.out.ext ((hE.trans E10).trans E11)).get h0
            have q0 := hc5 0 h0
            rw [← hx0] at q0
            rw [Nat.add_zero] at q0
            have hwm : IntKind.i64.wrap ((ps.length : Int) - 1) = (m : Int) := by rw [IntWalk.i64_in _ (by omega)]; omega
            have hwm2 : (ps.length : Int) - 1 = (m : Int) := by omega
            have hmi : (m : Int) < (ps.length : Int) := by omega
            have HX0 := Lib.hid hx0
            have HM := Lib.hid hm
            clear o11 g11 m11 O11 OD2 hr10a hr10 hc5 hx0 hm hlt hng hj
            go_upto_region 18 with fail
            obtain ⟨w12, hw12⟩ : ∃ z, z = w11.setCell ⟨g9, m, none⟩ (.int .i64 x0) := ⟨_, rfl⟩
            rw [← hw12] at O11s
            rw [← hw12]
            have E12 : Ext w10 w12 := by rw [hw12]; exact Ext.setNew E11 hg9 _
            have HO12 : Hid (OwnInts w12 w10.heap.size 3 (.slice (some ⟨g9, 0, none⟩) ps.length vc2) (ps.set m x0)) := Lib.hid (by unfold OwnInts; rw [List.length_set, List.map_set]; exact O11s)
            have EE := hE.trans (E10.trans E12)
            have y12 := HY3.out.ext EE
            have C12 := HC3.out.ext EE
            have HB12 := HBI.out.ext (E10.trans E12)
            have T1b := T1.out (some ⟨g8, 0, none⟩) vc (ps.set 0 25)
            have T1c := T1.out (some ⟨g9, 0, none⟩) vc2 (ps.set m x0)
            rw [List.length_set] at T1b T1c
            have T1r := T1.out ba bc ps.reverse
            rw [List.length_reverse] at T1r
            have HTR := Lib.hid T1r
            have hi8 : IntsAt w12 (some ⟨g8, 0, none⟩) (ps.set 0 25) := by
              have hx8 : RowAt w12 (some ⟨g8, 0, none⟩) ((ps.set 0 25).map (Value.int .i64)) := ownsRow_at (n := ps.length) (c := vc) (by have h := ownsRow_ext HO10.out E12; rw [List.length_set] at h; exact h)
              exact intsAt_of_row hx8
            have hi9 : IntsAt w12 (some ⟨g9, 0, none⟩) (ps.set m x0) := by
              have hx9 : RowAt w12 (some ⟨g9, 0, none⟩) ((ps.set m x0).map (Value.int .i64)) := ownsRow_at (n := ps.length) (c := vc2) (by have h := HO12.out; unfold OwnInts at h; rw [List.length_set] at h; exact h)
              exact intsAt_of_row hx9
            have htt : pvalV c (ps.set m x0) = decide (ps.length = 1) := by rw [HM.out, HX0.out]; exact HTT.out
            have hfin : (decide (ps.length = 1) == ((ps.length : Int) == 1)) = true := by
              by_cases h1 : ps.length = 1
              · rw [h1]; rfl
              · rw [decide_eq_false h1]
                have : ((ps.length : Int) == 1) = false := by rw [beq_eq_false_iff_ne]; omega
                rw [this]; rfl
            have HTB := Lib.hid T1b
            have HTC := Lib.hid T1c
            have HT3 := Lib.hid htt
            have h18 : ps.length ≤ 1048576 := by omega
            obtain ⟨B1, hB1⟩ : ∃ B, B = decide (ps.length = 1) := ⟨_, rfl⟩
            rw [← hB1] at hfin HT3
            clear hw12 O11s c9 f9 E11 q0 hwm hwm2 T1b T1c T1r htt hB1
            (obtain ⟨ly, y0, y1, y2, y3⟩ := (id y12))
            go_wp2_with fail
            refine (HTR.out _ C12 HB12 (by omega)).mono ?_
            rw [HRV.out]
            rintro e w13 ⟨rfl, hE13⟩
            have C13 := C12.ext hE13
            have y13 := y12.ext hE13
            have i8 := hi8.ext hE13
            have i9 := hi9.ext hE13
            clear y0 y1 y2 y3 ly hi8 hi9 y12 C12 HB12
            (obtain ⟨ly, y0, y1, y2, y3⟩ := (id y13))
            go_wp2_with fail
            refine (HTB.out _ C13 i8 (by omega)).mono ?_
            rw [HOT.out]
            rintro e w14 ⟨rfl, hE14⟩
            have C14 := C13.ext hE14
            have y14 := y13.ext hE14
            have i9 := i9.ext hE14
            clear y0 y1 y2 y3 ly y13 C13 i8
            (obtain ⟨ly, y0, y1, y2, y3⟩ := (id y14))
            go_wp2_with fail
            refine (HTC.out _ C14 i9 (by omega)).mono ?_
            rw [HT3.out]
            rintro e w15 ⟨rfl, hE15⟩
            go_wp2_with fail
            go_ret
            exact ⟨by first | rfl | (rw [hfin]) | simp [hfin], (((E3.trans EE).trans hE13).trans hE14).trans hE15⟩
  · go_enter Try.func8, Try.ntmps8
    go_wp2
    go_ret
    exact ⟨rfl, Ext.refl _⟩
theorem fnPlacementValid_lifted (os : Os) (started : os.Started) (H : Type) (enc : TypeId × Value → H) :
    ReturnsInHanded {} Try.checked os 8 .any (Rows.fnPlacementValidSpec.pre6 enc Try.prog Try.f8 Rows.fnPlacementValidRow.domain false) (Rows.fnPlacementValidSpec.post enc Try.prog Try.f8 false true false false) := by
  refine returnsInHanded_of_change (C := Try.checked) own started (by kernel_rfl) Try.func8
    (ChangeSpec.witness6 (enc := enc) (C := Try.checked) false ⟨#[], #[.slice none 0 0], []⟩ 8 (by kernel_rfl) (by kernel_rfl) (by kernel_rfl) (by kernel_rfl)) ?_
  intro W base args ds gs before hval0 hW hcnd _
  have hval : ∀ (j : Nat) t v, Try.f8.params[j]? = some t → args[j]? = some v → Value.okWide Try.prog W .any base t v := hval0
  have hW' := hW
  obtain ⟨p, q, hA0, hV, rfl, hfz, hnd⟩ := hW
  have hA : DataW.TrodAll enc Try.prog W 0 (fun _ => true) true Try.f8.params.toList args.toList ds p := hA0
  rw [Try.params8] at hA hval
  obtain ⟨v0, vs0, d0, ds0, p0, q0, hargs, rfl, rfl, h0, r0⟩ := trodAll_cons hA
  obtain ⟨rfl, rfl, rfl⟩ := trodAll_nil r0
  obtain rfl : args = #[v0] := by cases args; simp_all
  obtain ⟨rfl, rfl⟩ := trodVars_none hV
  obtain ⟨a0, len0, cap0, rfl⟩ := okWide_slice Try.underlying22 (hval 0 22 v0 rfl rfl)
  have k0 := h0
  have lt0 : ∀ x ∈ p0, x.block < W.heap.size := by obtain ⟨m, hm⟩ := k0; exact DataW.trod_lt m _ _ _ hm
  obtain ⟨z0, w0⟩ : ∃ zs, IsRow .u8 W a0 len0 cap0 zs := by
    obtain ⟨fuel, hf⟩ := h0
    rcases open_ints Try.underlying22 Try.underlying5 (by kernel_rfl) hf with ⟨hcs, _⟩ | ⟨x, l, c, zs, hcs, _, hl, hm, hz, _, hcell, hwz⟩
    · simp [Value.cells] at hcs
      obtain ⟨rfl, rfl, rfl⟩ := hcs
      exact ⟨[], .inl ⟨rfl, rfl, rfl, rfl⟩⟩
    · simp [Value.cells] at hcs
      obtain ⟨rfl, rfl, rfl⟩ := hcs
      exact ⟨zs, .inr ⟨_, rfl, hl, hm, by simpa using hz, hcell, hwz⟩⟩
  clear hA0 hval0
  refine (fnPlacementValid_walk a0 len0 cap0 z0 W w0).mono fun e W' ⟨he, bel⟩ => ?_
  subst he
  exact ⟨_, rfl, _, _, _, [], _, [], hW', trodAll_mk1 (shut_bool Try.underlying4 _), (trodAll_cons_mk (Below.trod laidOut (by kernel_rfl) (of_decide_eq_true (by kernel_rfl)) k0 bel lt0) trodAll_mk0), rfl, bel.frame _, fun h => by cases h⟩
theorem fnPlacementValid_over : Rows.fnPlacementValidRow.holds Try.pinned (OpenSpec.ofChange Rows.fnPlacementValidSpec) :=
  OpenClaim.holds_of_wide 8 Try.f8 rfl rfl rfl rfl rfl rfl rfl ⟨rfl, rfl, rfl, rfl, rfl⟩ rfl rfl rfl rfl rfl (by kernel_rfl) Try.func8 (by kernel_rfl)
    (of_decide_eq_true (by kernel_rfl)) (by unfold Func.isWrapper; first | (rw [if_pos (by decide +kernel)]; kernel_rfl) | (rw [if_neg (by decide +kernel)]; exact ⟨rfl, rfl⟩))
    (fun os started H enc _ => fnPlacementValid_lifted os started H enc)
theorem fnPlacementValid_holds : Rows.FnPlacementValidSaid := fnPlacementValid_over
end Go.Proofs.Ytpomcoegpjehgaa
