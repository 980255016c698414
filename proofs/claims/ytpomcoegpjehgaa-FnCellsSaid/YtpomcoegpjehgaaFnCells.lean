/- The law FnCells: every latch and every lookup table is one cell, and the latches' cells compute their next-state functions. No condition. -/
import Derived.Test.YtpomcoegpjehgaaBytes
import Derived.Test.YtpomcoegpjehgaaBLut
import Derived.Test.YtpomcoegpjehgaaBCel
import Derived.Test.YtpomcoegpjehgaaLawE
import Derived.Test.YtpomcoegpjehgaaLawH
import Derived.Test.YtpomcoegpjehgaaLawC
import Derived.Test.YtpomcoegpjehgaaMdL0
import Derived.Test.YtpomcoegpjehgaaSameC
import Derived.Test.YtpomcoegpjehgaaStep
namespace Go.Proofs.Ytpomcoegpjehgaa
open Go.ChangeShapes Go.WideShapes Go.ChangeAt Go.RowKit
set_option maxRecDepth 100000
set_option linter.unusedVariables false
set_option linter.unusedSimpArgs false
theorem stepOpenedE {w : World} {b N : Nat} {v1 v2 : Value} {x : List Bool × List Bool} (h : RepStep w b N v1 v2 x) : ∃ a1 c1 a2 c2, v1 = .slice a1 x.1.length c1 ∧ BoolsAt w a1 x.1 ∧ v2 = .slice a2 x.2.length c2 ∧ BoolsAt w a2 x.2 := by
  obtain ⟨⟨m, h1, h2, h3, h4, h5, h6⟩, s1, s2⟩ := h
  obtain ⟨a1, c1, e1, r1⟩ := h1.opened
  obtain ⟨a2, c2, e2, r2⟩ := h3.opened
  exact ⟨a1, c1, a2, c2, e1, r1, e2, r2⟩
theorem step_next {c : Circ} (V : c.Valid) (x : Nat) : (stepV c (stB c x) (inB c x)).2 = litsV (allV c x) c.next := by rw [stepV_ok (asg_ok V x)]; rfl
theorem litsV_get {vs : List Bool} {ls : List Int} {i : Nat} (h : i < ls.length) : (litsV vs ls).getD i false = litV vs (ls.getD i 0) := by
  unfold litsV
  rw [List.getD_eq_getElem?_getD, List.getElem?_map, List.getD_eq_getElem?_getD, List.getElem?_eq_getElem h]; rfl
set_option maxHeartbeats 8000000 in
theorem fnCells_walk (a0 : Option Addr) (len0 cap0 : Nat) (z0 : List Int) (w : World) (w0 : IsRow .u8 w a0 len0 cap0 z0) :
    Calls Try.prog 11 #[.slice a0 len0 cap0] w fun e w' => e = .returned (.bool true) ∧ Below w.heap.size w w' := by
  obtain ⟨bs, rfl, hB, hlc, hcm⟩ := bytes_of_row w0
  have hfd : ∀ (w : World) (a1 a2 : Option Addr) (n1 c1 n2 c2 : Nat), (Instr.field 69 (.agg #[.slice a1 n1 c1, .slice a2 n2 c2]) 1).run Try.prog w = .ok (.slice a2 n2 c2) w := fun _ _ _ _ _ _ _ => by kernel_rfl
  by_cases hl : bs.length ≤ 1048576
  · go_enter Try.func11, Try.ntmps11
    go_wp2_with fail
    refine (DrawCells_c a0 cap0 bs _ hB hl hlc hcm).mono ?_
    rintro e w1 ⟨c, p, rfl, hC, hd, hE, hcap⟩
    clear hd hcap
    go_wp2_with fail
    (have y := CircBox.made w1 c p 26; have Ey : Ext w1 (w1.alloc (.cells #[.int .i64 c.inputs, .slice p.an c.next.length p.cn, .slice p.ag c.gates.length p.cg, .slice p.ao c.outs.length p.co] 26)) := (Ext.refl w1).alloc _; have hC := hC.ext Ey)
    generalize w1.alloc (.cells #[.int .i64 c.inputs, .slice p.an c.next.length p.cn, .slice p.ag c.gates.length p.cg, .slice p.ao c.outs.length p.co] 26) = W1 at *
    have E1 := Ext.trans hE Ey
    clear hE Ey
    have T1 := Lib.hid (implCells_c c p)
    have T2 := Lib.hid (specCells_c c p)
    obtain ⟨hc17, hc3⟩ := cells_sm c
    obtain ⟨cs, hcs⟩ : ∃ cs, cs = cellsV c := ⟨_, rfl⟩
    rw [← hcs] at T1 T2 hc17 hc3
    have HCS := Lib.hid hcs
    have HC3 := Lib.hid hc3
    clear hcs hc3
    refine (T1.out _ hC).mono ?_
    rintro e w2 ⟨v2, FA, rfl, hNA, _, hE2⟩
    obtain ⟨ca, cc, rfl, _⟩ := hNA.sl
    have hC := hC.ext hE2
    have y := y.ext hE2
    have E2 := E1.trans hE2
    clear hE2 E1 T1
    (obtain ⟨ly, y0, y1, y2, y3⟩ := (id y))
    go_wp2_with fail
    refine (T2.out _ hC).mono ?_
    rintro e w3 ⟨v3, FB, rfl, hNB, _, hE3⟩
    obtain ⟨ra, rc, rfl, _⟩ := hNB.sl
    have hC := hC.ext hE3
    have y := y.ext hE3
    have hNA := hNA.ext goodCell hE3
    have E3 := E2.trans hE3
    clear hE3 E2 T2 y0 y1 y2 y3 ly
    go_wp2_with fail
    refine (sameCells_c ca ra cc rc cs FA FB _ hNA hNB hc17 HC3.out).mono ?_
    rintro e w4 ⟨rfl, hE4⟩
    have hC := hC.ext hE4
    have y := y.ext hE4
    have hNA := hNA.ext goodCell hE4
    have E4 := E3.trans hE4
    clear hE4 E3 hNB
    (obtain ⟨ly, y0, y1, y2, y3⟩ := (id y))
    go_wp2_with fail
    refine (specCircuitValid_c c p _ hC).mono ?_
    rintro e w5 ⟨rfl, hE5⟩
    have hC := hC.ext hE5
    have y := y.ext hE5
    have hNA := hNA.ext goodCell hE5
    have E5 := E4.trans hE5
    clear hE5 E4 y0 y1 y2 y3 ly
    cases hv : validB c
    · have hd : cs = [] := by rw [HCS.out]; unfold cellsV; rw [hv]; rfl
      subst hd
      clear hv
      go_wp2_with fail
      refine (alive_c _).mono ?_
      rintro e w6 ⟨rfl, hE6⟩
      go_wp2
      go_ret
      exact ⟨rfl, E5.trans hE6⟩
    · have V := validB_iff.1 hv
      have hcn : cs = cellsN c := by rw [HCS.out]; unfold cellsV; rw [hv]; rfl
      have hlv : lutV c = lutN c := by unfold lutV; rw [hv]; rfl
      have T3 := Lib.hid (implMapLuts_c c p)
      rw [hlv] at T3
      have i0 := V.i0
      have i4 := V.i4
      have ln := V.ln
      have lg := V.lg
      obtain ⟨n, hn⟩ : ∃ n : Nat, c.vars = (n : Int) := ⟨c.vars.toNat, by unfold Circ.vars Circ.first; omega⟩
      have hn22 : n ≤ 22 := by unfold Circ.vars Circ.first at hn; omega
      have hll : (lutN c).length ≤ 14 := by have := lutK_count c c.vars.toNat c.gates.length; unfold lutN; omega
      have hnew := fun i (hi : i < (cellsN c).length) => nets_new V hi
      have hlow := fun i (hi : i < c.next.length) => cellsN_low c hi
      have hhigh := fun j (hj : j < (lutN c).length) => cellsN_high c hj
      have hclen := cellsN_len c
      have hlat := fun i (hi : i < c.next.length) (x : Nat) => latch_at V hi x
      rw [hn] at hlat
      have HVL := Lib.hid (allV_len V)
      have HEV := Lib.hid (allV_ev V)
      have HAL := Lib.hid (asg_len V)
      have HSX := Lib.hid (step_next V)
      have al := assigns_le V
      have hw := shl_wrap V
      obtain ⟨L, hL⟩ : ∃ L, L = lutN c := ⟨_, rfl⟩
      rw [← hcn] at hnew hlow hhigh hclen
      rw [← hL] at T3 hll hhigh hclen
      have HNEW := Lib.hid hnew
      have HLOW := Lib.hid hlow
      have HHIGH := Lib.hid hhigh
      have HLAT := Lib.hid hlat
      have HN := Lib.hid hn
      have hlr : ∀ i, i < c.next.length → (latchCell c i).rg = true := fun i hi => (hlat i hi 0).choose_spec.2.2.2.1
      have HLR := Lib.hid hlr
      have hce : ((cs.length : Int) != (c.next.length : Int) + (L.length : Int)) = false := by rw [hclen]; simp
      have hwc : IntKind.i64.wrap ((c.next.length : Int) + (L.length : Int)) = (c.next.length : Int) + (L.length : Int) := IntWalk.i64_in _ (by omega)
      have HCE := Lib.hid hclen
      clear hL hcn hlv hnew hlow hhigh hlat hn hclen hlr V hv HCS
      (obtain ⟨ly, y0, y1, y2, y3⟩ := (id y))
      go_wp2_with fail
      refine (T3.out _ hC).mono ?_
      rintro e w6 ⟨lv, FL, rfl, hNL, _, hE6⟩
      obtain ⟨la, lc, rfl, _⟩ := hNL.sl
      have HC6 := Lib.hid (hC.ext hE6)
      have HY6 := Lib.hid (y.ext hE6)
      have HA6 := Lib.hid (hNA.ext goodCell hE6)
      have HL6 := Lib.hid hNL
      have E6 := E5.trans hE6
      have y6 := y.ext hE6
      have O0 : OwnInts (w6.alloc (.cells #[] 3)) w6.heap.size 3 (.slice (some ⟨w6.heap.size, 0, none⟩) 0 0) ((cs.take 0).map CellT.net) := (Blk.at w6 [] 3 rfl).owns (n := 0) (size := 1) rfl (Nat.le_refl _) (by decide)
      have EA := (Ext.refl w6).alloc (.cells #[] 3)
      clear y0 y1 y2 y3 ly hC y hNA hE6 E5 hNL T3
      (obtain ⟨ly, y0, y1, y2, y3⟩ := (id y6))
      go_wp2_with fail
      clear y0 y1 y2 y3 ly hce hwc y6
      go_loopw [6, 7] (fun u6 u7 wr => ∃ i : Nat, i ≤ cs.length ∧ u7 = .int .i64 i ∧ OwnInts wr w6.heap.size 3 u6 ((cs.take i).map CellT.net) ∧ Ext w6 wr) (fun _ u _ => cs.length - (intOf u).toNat)
      case atStart => exact ⟨0, Nat.zero_le _, rfl, O0, EA⟩
      case round =>
        clear O0 EA
        obtain ⟨i, hi, rfl, hO, hE⟩ := hrel
        obtain ⟨w7, rfl⟩ : ∃ z : World, z = wr := ⟨_, rfl⟩
        have hy := HY6.out.ext hE
        have HY7 := Lib.hid hy
        by_cases hlt : i < cs.length
        · obtain ⟨S, hS⟩ : ∃ S, S = (cs.take i).map CellT.net := ⟨_, rfl⟩
          have hSl : S.length ≤ 17 := by rw [hS, List.length_map, List.length_take]; omega
          have hnw := HNEW.out i hlt
          have htk := take_snocD cs i cell0 hlt
          have hx3 := HC3.out _ (getN_mem (d := cell0) hlt)
          have hlo := fun h => HLOW.out i h
          have hhi := fun (h : c.next.length ≤ i) => HHIGH.out (i - c.next.length) (by have := HCE.out; omega)
          rw [← hS] at hO hnw
          obtain ⟨gl, rfl, hgl, _, hcc⟩ := Nst.getN goodCell (HA6.out.ext goodCell hE) (by omega)
          obtain ⟨cs1, F1, ⟨v, rfl, o1, rfl⟩, q, _⟩ := hcc i cell0 hlt
          have r0 := q 0 _ (by omega) rfl
          have r1 := q 1 _ (by omega) rfl
          have r3 := q 3 _ (by omega) rfl
          rw [Nat.add_zero] at r0
          obtain ⟨x, hx⟩ : ∃ x, x = cs.getD i cell0 := ⟨_, rfl⟩
          rw [← hx] at r0 r3 o1 hnw htk hx3 hlo
          have hhi2 : ∀ h : c.next.length ≤ i, x = lutCell (L.getD (i - c.next.length) lut0) := fun h => by
            rw [hx, ← hhi h]; congr 1; omega
          obtain ⟨va, vc, rfl, hI1, _⟩ := o1.opened
          have HNW := Lib.hid hnw
          have HTK := Lib.hid htk
          have HLO := Lib.hid hlo
          have HHI := Lib.hid hhi2
          have HS := Lib.hid hS
          have HO := Lib.hid hO
          obtain ⟨sa, sc, rfl, hSI, _⟩ := hO.opened
          clear hx q hcc o1 hnw htk hlo hhi hhi2 hS hO
          by_cases hil : i < c.next.length
          · have hrg : x.rg = true := by rw [HLO.out hil]; exact HLR.out i hil
            rw [hrg] at r3
            have hd1 : decide ((i : Int) < (c.next.length : Int)) = true := by simp [hil]
            have hd2 : decide ((c.next.length : Int) ≤ (i : Int)) = false := by simp; omega
            have hd3 : decide (c.next.length ≤ i) = false := by simp; omega
            have hd4 : decide (i < c.next.length) = true := by simp [hil]
            clear hrg
            (obtain ⟨ly, y0, y1, y2, y3⟩ := (id hy))
            go_wp2_with fail
            (refine wp_regionT ((fun w' => (∀ b o, b < w7.heap.size → w'.cell? ⟨b, o, none⟩ = w7.cell? ⟨b, o, none⟩) ∧ Ext w7 w')) 19 (by kernel_rfl) ?_; have hS0 := held_mk (Ext.drew w7))
            ((refine wpAnyT_take 0 (v := ?_) rfl (by kernel_rfl) (fun _ _ _ h => h) (Or.inl ⟨by kernel_rfl, ?_⟩) (by assumption) ?_; rotate_left; (intro wS hSw; (try dsimp only at hSw); go_simp; (try with_reducible rfl)); (try simp only [Act.put, List.setIfInBounds_toArray, List.set_cons_zero, List.set_cons_succ])); (refine wpAnyT_take 1 (v := ?_) rfl (by kernel_rfl) (fun _ _ _ h => h) (Or.inl ⟨by kernel_rfl, ?_⟩) (by assumption) ?_; rotate_left; (intro wS hSw; (try dsimp only at hSw); go_simp; (try with_reducible rfl)); (try simp only [Act.put, List.setIfInBounds_toArray, List.set_cons_zero, List.set_cons_succ])); (refine wpAnyT_take 2 (v := ?_) rfl (by kernel_rfl) (fun _ _ _ h => h) (Or.inl ⟨by kernel_rfl, ?_⟩) (by assumption) ?_; rotate_left; (intro wS hSw; (try dsimp only at hSw); go_simp; (try with_reducible rfl)); (try simp only [Act.put, List.setIfInBounds_toArray, List.set_cons_zero, List.set_cons_succ])); (refine wpAnyT_take 3 (v := ?_) rfl (by kernel_rfl) (fun _ _ _ h => h) (Or.inl ⟨by kernel_rfl, ?_⟩) (by assumption) ?_; rotate_left; (intro wS hSw; (try dsimp only at hSw); go_simp; (try with_reducible rfl)); (try simp only [Act.put, List.setIfInBounds_toArray, List.set_cons_zero, List.set_cons_succ])); (refine wpAnyT_take 4 (v := ?_) rfl (by kernel_rfl) (fun _ _ _ h => h) (Or.inl ⟨by kernel_rfl, ?_⟩) (by assumption) ?_; rotate_left; (intro wS hSw; (try dsimp only at hSw); go_simp; (try with_reducible rfl)); (try simp only [Act.put, List.setIfInBounds_toArray, List.set_cons_zero, List.set_cons_succ])); (refine wpAnyT_take 5 (v := ?_) rfl (by kernel_rfl) (fun _ _ _ h => h) (Or.inl ⟨by kernel_rfl, ?_⟩) (by assumption) ?_; rotate_left; (intro wS hSw; (try dsimp only at hSw); go_simp; (try with_reducible rfl)); (try simp only [Act.put, List.setIfInBounds_toArray, List.set_cons_zero, List.set_cons_succ])))
            (refine wpAnyT_do 6 (by kernel_rfl) rfl (fun K hK => ?_))
            go_simp
            refine (lawContains_c sa sc S x.net _ (hSI.ext (Ext.drew w7)) (by omega)).mono ?_
            rw [HNW.out]
            rintro e w8 ⟨rfl, hE8⟩
            have hS8 := held_mk ((Ext.drew w7).trans hE8)
            (refine hK _ _ hS8 ?_; clear hK K; (try simp only [Act.put, List.setIfInBounds_toArray, List.set_cons_zero, List.set_cons_succ]))
            ((refine wpAnyT_take 7 (v := ?_) rfl (by kernel_rfl) (fun _ _ _ h => h) (Or.inl ⟨by kernel_rfl, ?_⟩) (by assumption) ?_; rotate_left; (intro wS hSw; (try dsimp only at hSw); go_simp; (try with_reducible rfl)); (try simp only [Act.put, List.setIfInBounds_toArray, List.set_cons_zero, List.set_cons_succ])); (refine wpAnyT_take 8 (v := ?_) rfl (by kernel_rfl) (fun _ _ _ h => h) (Or.inl ⟨by kernel_rfl, ?_⟩) (by assumption) ?_; rotate_left; (intro wS hSw; (try dsimp only at hSw); go_simp; (try with_reducible rfl)); (try simp only [Act.put, List.setIfInBounds_toArray, List.set_cons_zero, List.set_cons_succ])); (refine wpAnyT_take 9 (v := ?_) rfl (by kernel_rfl) (fun _ _ _ h => h) (Or.inl ⟨by kernel_rfl, ?_⟩) (by assumption) ?_; rotate_left; (intro wS hSw; (try dsimp only at hSw); go_simp; (try with_reducible rfl)); (try simp only [Act.put, List.setIfInBounds_toArray, List.set_cons_zero, List.set_cons_succ])); (refine wpAnyT_take 10 (v := ?_) rfl (by kernel_rfl) (fun _ _ _ h => h) (Or.inl ⟨by kernel_rfl, ?_⟩) (by assumption) ?_; rotate_left; (intro wS hSw; (try dsimp only at hSw); go_simp; (try with_reducible rfl)); (try simp only [Act.put, List.setIfInBounds_toArray, List.set_cons_zero, List.set_cons_succ])); (refine wpAnyT_take 11 (v := ?_) rfl (by kernel_rfl) (fun _ _ _ h => h) (Or.inl ⟨by kernel_rfl, ?_⟩) (by assumption) ?_; rotate_left; (intro wS hSw; (try dsimp only at hSw); go_simp; (try with_reducible rfl)); (try simp only [Act.put, List.setIfInBounds_toArray, List.set_cons_zero, List.set_cons_succ])); (refine wpAnyT_take 12 (v := ?_) rfl (by kernel_rfl) (fun _ _ _ h => h) (Or.inl ⟨by kernel_rfl, ?_⟩) (by assumption) ?_; rotate_left; (intro wS hSw; (try dsimp only at hSw); go_simp; (try with_reducible rfl)); (try simp only [Act.put, List.setIfInBounds_toArray, List.set_cons_zero, List.set_cons_succ])); (refine wpAnyT_take 13 (v := ?_) rfl (by kernel_rfl) (fun _ _ _ h => h) (Or.inl ⟨by kernel_rfl, ?_⟩) (by assumption) ?_; rotate_left; (intro wS hSw; (try dsimp only at hSw); go_simp; (try with_reducible rfl)); (try simp only [Act.put, List.setIfInBounds_toArray, List.set_cons_zero, List.set_cons_succ])); (refine wpAnyT_take 14 (v := ?_) rfl (by kernel_rfl) (fun _ _ _ h => h) (Or.inl ⟨by kernel_rfl, ?_⟩) (by assumption) ?_; rotate_left; (intro wS hSw; (try dsimp only at hSw); go_simp; (try with_reducible rfl)); (try simp only [Act.put, List.setIfInBounds_toArray, List.set_cons_zero, List.set_cons_succ])); (refine wpAnyT_take 15 (v := ?_) rfl (by kernel_rfl) (fun _ _ _ h => h) (Or.inl ⟨by kernel_rfl, ?_⟩) (by assumption) ?_; rotate_left; (intro wS hSw; (try dsimp only at hSw); go_simp; (try with_reducible rfl)); (try simp only [Act.put, List.setIfInBounds_toArray, List.set_cons_zero, List.set_cons_succ])); (refine wpAnyT_take 16 (v := ?_) rfl (by kernel_rfl) (fun _ _ _ h => h) (Or.inl ⟨by kernel_rfl, ?_⟩) (by assumption) ?_; rotate_left; (intro wS hSw; (try dsimp only at hSw); go_simp; (try with_reducible rfl)); (try simp only [Act.put, List.setIfInBounds_toArray, List.set_cons_zero, List.set_cons_succ])); (refine wpAnyT_take 17 (v := ?_) rfl (by kernel_rfl) (fun _ _ _ h => h) (Or.inl ⟨by kernel_rfl, ?_⟩) (by assumption) ?_; rotate_left; (intro wS hSw; (try dsimp only at hSw); go_simp; (try with_reducible rfl)); (try simp only [Act.put, List.setIfInBounds_toArray, List.set_cons_zero, List.set_cons_succ])); (refine wpAnyT_take 18 (v := ?_) rfl (by kernel_rfl) (fun _ _ _ h => h) (Or.inl ⟨by kernel_rfl, ?_⟩) (by assumption) ?_; rotate_left; (intro wS hSw; (try dsimp only at hSw); go_simp; (try with_reducible rfl)); (try simp only [Act.put, List.setIfInBounds_toArray, List.set_cons_zero, List.set_cons_succ])))
            (refine wpAnyT_last 19 (by kernel_rfl) rfl (by decide) (by kernel_rfl) (fun K hK => ?_))
            go_simp
            (refine hK _ _ ?_; clear hK K; (try simp only [Act.put, List.setIfInBounds_toArray, List.set_cons_zero, List.set_cons_succ]))
            have X8 := held_ext hS8
            have hO8 : OwnInts w8 w6.heap.size 3 (.slice sa S.length sc) S := ownsRow_ext HO.out X8
            have r0' := ((ecell X8).1 _ _ hgl).trans r0
            have hgl8 : gl < w8.heap.size := Nat.lt_of_lt_of_le hgl X8.size
            have y8 := HY7.out.ext X8
            have hsz := (hE.trans X8).size
            clear hS0 hS8 hE8 r0 r1 r3 y0 y1 y2 y3 ly hSI hI1
            go_wp2_with (at_builtin; refine wpList_app tyInts (ownsRow_ext hO8 (by (repeat (first | with_reducible assumption | with_reducible exact Ext.refl _ | with_reducible refine Ext.drew' ?_ | with_reducible refine Ext.drewN' ?_ _ | with_reducible refine Ext.alloc ?_ _ | (with_reducible refine Ext.setNew ?_ (by first | exact Nat.le_refl _ | (simp; done) | (simp; omega) | omega) _))))) (rowNew _ _ _ (by simp)) rfl (by simp [Value.oneCell']) (by omega) (by simp; omega) rfl rfl rfl rfl ?_; intro v9 w9 o9 g9 m9)
            have E9 : Ext w6 w9 := ext_grown (w1 := _) (Ext.trans (hE.trans X8) (by (repeat (first | with_reducible assumption | with_reducible exact Ext.refl _ | with_reducible refine Ext.drew' ?_ | with_reducible refine Ext.drewN' ?_ _ | with_reducible refine Ext.alloc ?_ _ | (with_reducible refine Ext.setNew ?_ (by first | exact Nat.le_refl _ | (simp; done) | (simp; omega) | omega) _))))) g9 (fun q hq => (own_lo hO8 q hq).1)
            have O9 : OwnInts w9 w6.heap.size 3 v9 (S ++ [x.net]) := own_app (xs := S) (ys := [x.net]) rfl rfl o9
            have y9 := HY6.out.ext E9
            (obtain ⟨ly, y0, y1, y2, y3⟩ := (id y9))
            clear o9 g9 m9
            go_wp2_with fail
            (refine wp_regionT ((fun w' => (∀ b o, b < w9.heap.size → w'.cell? ⟨b, o, none⟩ = w9.cell? ⟨b, o, none⟩) ∧ Ext w9 w')) 39 (by kernel_rfl) ?_; have hS0 := held_mk (Ext.drew w9))
            ((refine wpAnyT_take 0 (v := ?_) rfl (by kernel_rfl) (fun _ _ _ h => h) (Or.inl ⟨by kernel_rfl, ?_⟩) (by assumption) ?_; rotate_left; (intro wS hSw; (try dsimp only at hSw); go_simp; (try with_reducible rfl)); (try simp only [Act.put, List.setIfInBounds_toArray, List.set_cons_zero, List.set_cons_succ])); (refine wpAnyT_take 1 (v := ?_) rfl (by kernel_rfl) (fun _ _ _ h => h) (Or.inl ⟨by kernel_rfl, ?_⟩) (by assumption) ?_; rotate_left; (intro wS hSw; (try dsimp only at hSw); go_simp; (try with_reducible rfl)); (try simp only [Act.put, List.setIfInBounds_toArray, List.set_cons_zero, List.set_cons_succ])); (refine wpAnyT_take 2 (v := ?_) rfl (by kernel_rfl) (fun _ _ _ h => h) (Or.inl ⟨by kernel_rfl, ?_⟩) (by assumption) ?_; rotate_left; (intro wS hSw; (try dsimp only at hSw); go_simp; (try with_reducible rfl)); (try simp only [Act.put, List.setIfInBounds_toArray, List.set_cons_zero, List.set_cons_succ])); (refine wpAnyT_take 3 (v := ?_) rfl (by kernel_rfl) (fun _ _ _ h => h) (Or.inl ⟨by kernel_rfl, ?_⟩) (by assumption) ?_; rotate_left; (intro wS hSw; (try dsimp only at hSw); go_simp; (try with_reducible rfl)); (try simp only [Act.put, List.setIfInBounds_toArray, List.set_cons_zero, List.set_cons_succ])); (refine wpAnyT_take 4 (v := ?_) rfl (by kernel_rfl) (fun _ _ _ h => h) (Or.inl ⟨by kernel_rfl, ?_⟩) (by assumption) ?_; rotate_left; (intro wS hSw; (try dsimp only at hSw); go_simp; (try with_reducible rfl)); (try simp only [Act.put, List.setIfInBounds_toArray, List.set_cons_zero, List.set_cons_succ])); (refine wpAnyT_take 5 (v := ?_) rfl (by kernel_rfl) (fun _ _ _ h => h) (Or.inl ⟨by kernel_rfl, ?_⟩) (by assumption) ?_; rotate_left; (intro wS hSw; (try dsimp only at hSw); go_simp; (try with_reducible rfl)); (try simp only [Act.put, List.setIfInBounds_toArray, List.set_cons_zero, List.set_cons_succ])))
            ((refine wpAnyT_take 6 (v := undef) rfl (by kernel_rfl) (fun _ _ _ h => h) (Or.inr ⟨by kernel_rfl, rfl⟩) (by assumption) ?_; (try simp only [Act.put, List.setIfInBounds_toArray, List.set_cons_zero, List.set_cons_succ])); (refine wpAnyT_take 7 (v := undef) rfl (by kernel_rfl) (fun _ _ _ h => h) (Or.inr ⟨by kernel_rfl, rfl⟩) (by assumption) ?_; (try simp only [Act.put, List.setIfInBounds_toArray, List.set_cons_zero, List.set_cons_succ])); (refine wpAnyT_take 8 (v := undef) rfl (by kernel_rfl) (fun _ _ _ h => h) (Or.inr ⟨by kernel_rfl, rfl⟩) (by assumption) ?_; (try simp only [Act.put, List.setIfInBounds_toArray, List.set_cons_zero, List.set_cons_succ])); (refine wpAnyT_take 9 (v := undef) rfl (by kernel_rfl) (fun _ _ _ h => h) (Or.inr ⟨by kernel_rfl, rfl⟩) (by assumption) ?_; (try simp only [Act.put, List.setIfInBounds_toArray, List.set_cons_zero, List.set_cons_succ])); (refine wpAnyT_take 10 (v := undef) rfl (by kernel_rfl) (fun _ _ _ h => h) (Or.inr ⟨by kernel_rfl, rfl⟩) (by assumption) ?_; (try simp only [Act.put, List.setIfInBounds_toArray, List.set_cons_zero, List.set_cons_succ])); (refine wpAnyT_take 11 (v := undef) rfl (by kernel_rfl) (fun _ _ _ h => h) (Or.inr ⟨by kernel_rfl, rfl⟩) (by assumption) ?_; (try simp only [Act.put, List.setIfInBounds_toArray, List.set_cons_zero, List.set_cons_succ])); (refine wpAnyT_take 12 (v := undef) rfl (by kernel_rfl) (fun _ _ _ h => h) (Or.inr ⟨by kernel_rfl, rfl⟩) (by assumption) ?_; (try simp only [Act.put, List.setIfInBounds_toArray, List.set_cons_zero, List.set_cons_succ])); (refine wpAnyT_take 13 (v := undef) rfl (by kernel_rfl) (fun _ _ _ h => h) (Or.inr ⟨by kernel_rfl, rfl⟩) (by assumption) ?_; (try simp only [Act.put, List.setIfInBounds_toArray, List.set_cons_zero, List.set_cons_succ])); (refine wpAnyT_take 14 (v := undef) rfl (by kernel_rfl) (fun _ _ _ h => h) (Or.inr ⟨by kernel_rfl, rfl⟩) (by assumption) ?_; (try simp only [Act.put, List.setIfInBounds_toArray, List.set_cons_zero, List.set_cons_succ])); (refine wpAnyT_take 15 (v := undef) rfl (by kernel_rfl) (fun _ _ _ h => h) (Or.inr ⟨by kernel_rfl, rfl⟩) (by assumption) ?_; (try simp only [Act.put, List.setIfInBounds_toArray, List.set_cons_zero, List.set_cons_succ])); (refine wpAnyT_take 16 (v := undef) rfl (by kernel_rfl) (fun _ _ _ h => h) (Or.inr ⟨by kernel_rfl, rfl⟩) (by assumption) ?_; (try simp only [Act.put, List.setIfInBounds_toArray, List.set_cons_zero, List.set_cons_succ])); (refine wpAnyT_take 17 (v := undef) rfl (by kernel_rfl) (fun _ _ _ h => h) (Or.inr ⟨by kernel_rfl, rfl⟩) (by assumption) ?_; (try simp only [Act.put, List.setIfInBounds_toArray, List.set_cons_zero, List.set_cons_succ])); (refine wpAnyT_take 18 (v := undef) rfl (by kernel_rfl) (fun _ _ _ h => h) (Or.inr ⟨by kernel_rfl, rfl⟩) (by assumption) ?_; (try simp only [Act.put, List.setIfInBounds_toArray, List.set_cons_zero, List.set_cons_succ])); (refine wpAnyT_take 19 (v := undef) rfl (by kernel_rfl) (fun _ _ _ h => h) (Or.inr ⟨by kernel_rfl, rfl⟩) (by assumption) ?_; (try simp only [Act.put, List.setIfInBounds_toArray, List.set_cons_zero, List.set_cons_succ])); (refine wpAnyT_take 20 (v := undef) rfl (by kernel_rfl) (fun _ _ _ h => h) (Or.inr ⟨by kernel_rfl, rfl⟩) (by assumption) ?_; (try simp only [Act.put, List.setIfInBounds_toArray, List.set_cons_zero, List.set_cons_succ])); (refine wpAnyT_take 21 (v := undef) rfl (by kernel_rfl) (fun _ _ _ h => h) (Or.inr ⟨by kernel_rfl, rfl⟩) (by assumption) ?_; (try simp only [Act.put, List.setIfInBounds_toArray, List.set_cons_zero, List.set_cons_succ])); (refine wpAnyT_take 22 (v := undef) rfl (by kernel_rfl) (fun _ _ _ h => h) (Or.inr ⟨by kernel_rfl, rfl⟩) (by assumption) ?_; (try simp only [Act.put, List.setIfInBounds_toArray, List.set_cons_zero, List.set_cons_succ])); (refine wpAnyT_take 23 (v := undef) rfl (by kernel_rfl) (fun _ _ _ h => h) (Or.inr ⟨by kernel_rfl, rfl⟩) (by assumption) ?_; (try simp only [Act.put, List.setIfInBounds_toArray, List.set_cons_zero, List.set_cons_succ])); (refine wpAnyT_take 24 (v := undef) rfl (by kernel_rfl) (fun _ _ _ h => h) (Or.inr ⟨by kernel_rfl, rfl⟩) (by assumption) ?_; (try simp only [Act.put, List.setIfInBounds_toArray, List.set_cons_zero, List.set_cons_succ])); (refine wpAnyT_take 25 (v := undef) rfl (by kernel_rfl) (fun _ _ _ h => h) (Or.inr ⟨by kernel_rfl, rfl⟩) (by assumption) ?_; (try simp only [Act.put, List.setIfInBounds_toArray, List.set_cons_zero, List.set_cons_succ])); (refine wpAnyT_take 26 (v := undef) rfl (by kernel_rfl) (fun _ _ _ h => h) (Or.inr ⟨by kernel_rfl, rfl⟩) (by assumption) ?_; (try simp only [Act.put, List.setIfInBounds_toArray, List.set_cons_zero, List.set_cons_succ])); (refine wpAnyT_take 27 (v := undef) rfl (by kernel_rfl) (fun _ _ _ h => h) (Or.inr ⟨by kernel_rfl, rfl⟩) (by assumption) ?_; (try simp only [Act.put, List.setIfInBounds_toArray, List.set_cons_zero, List.set_cons_succ])); (refine wpAnyT_take 28 (v := undef) rfl (by kernel_rfl) (fun _ _ _ h => h) (Or.inr ⟨by kernel_rfl, rfl⟩) (by assumption) ?_; (try simp only [Act.put, List.setIfInBounds_toArray, List.set_cons_zero, List.set_cons_succ])); (refine wpAnyT_take 29 (v := undef) rfl (by kernel_rfl) (fun _ _ _ h => h) (Or.inr ⟨by kernel_rfl, rfl⟩) (by assumption) ?_; (try simp only [Act.put, List.setIfInBounds_toArray, List.set_cons_zero, List.set_cons_succ])); (refine wpAnyT_take 30 (v := undef) rfl (by kernel_rfl) (fun _ _ _ h => h) (Or.inr ⟨by kernel_rfl, rfl⟩) (by assumption) ?_; (try simp only [Act.put, List.setIfInBounds_toArray, List.set_cons_zero, List.set_cons_succ])); (refine wpAnyT_take 31 (v := undef) rfl (by kernel_rfl) (fun _ _ _ h => h) (Or.inr ⟨by kernel_rfl, rfl⟩) (by assumption) ?_; (try simp only [Act.put, List.setIfInBounds_toArray, List.set_cons_zero, List.set_cons_succ])); (refine wpAnyT_take 32 (v := undef) rfl (by kernel_rfl) (fun _ _ _ h => h) (Or.inr ⟨by kernel_rfl, rfl⟩) (by assumption) ?_; (try simp only [Act.put, List.setIfInBounds_toArray, List.set_cons_zero, List.set_cons_succ])); (refine wpAnyT_take 33 (v := undef) rfl (by kernel_rfl) (fun _ _ _ h => h) (Or.inr ⟨by kernel_rfl, rfl⟩) (by assumption) ?_; (try simp only [Act.put, List.setIfInBounds_toArray, List.set_cons_zero, List.set_cons_succ])); (refine wpAnyT_take 34 (v := undef) rfl (by kernel_rfl) (fun _ _ _ h => h) (Or.inr ⟨by kernel_rfl, rfl⟩) (by assumption) ?_; (try simp only [Act.put, List.setIfInBounds_toArray, List.set_cons_zero, List.set_cons_succ])); (refine wpAnyT_take 35 (v := undef) rfl (by kernel_rfl) (fun _ _ _ h => h) (Or.inr ⟨by kernel_rfl, rfl⟩) (by assumption) ?_; (try simp only [Act.put, List.setIfInBounds_toArray, List.set_cons_zero, List.set_cons_succ])); (refine wpAnyT_take 36 (v := undef) rfl (by kernel_rfl) (fun _ _ _ h => h) (Or.inr ⟨by kernel_rfl, rfl⟩) (by assumption) ?_; (try simp only [Act.put, List.setIfInBounds_toArray, List.set_cons_zero, List.set_cons_succ])); (refine wpAnyT_take 37 (v := undef) rfl (by kernel_rfl) (fun _ _ _ h => h) (Or.inr ⟨by kernel_rfl, rfl⟩) (by assumption) ?_; (try simp only [Act.put, List.setIfInBounds_toArray, List.set_cons_zero, List.set_cons_succ])); (refine wpAnyT_take 38 (v := undef) rfl (by kernel_rfl) (fun _ _ _ h => h) (Or.inr ⟨by kernel_rfl, rfl⟩) (by assumption) ?_; (try simp only [Act.put, List.setIfInBounds_toArray, List.set_cons_zero, List.set_cons_succ])))
            (refine wpAnyT_last 39 (by kernel_rfl) rfl (by decide) (by kernel_rfl) (fun K hK => ?_))
            go_simp
            (refine hK _ _ ?_; clear hK K; (try simp only [Act.put, List.setIfInBounds_toArray, List.set_cons_zero, List.set_cons_succ]))
            go_wp2_with fail
            go_roundw
            case rel => exact ⟨i + 1, by omega, by go_num, by rw [HTK.out, List.map_append, ← HS.out]; exact ownsRow_ext O9 (Ext.drew w9), E9.trans (Ext.drew w9)⟩
            case measure => simp [intOf]; omega
          · obtain ⟨j, hj⟩ : ∃ j, i = c.next.length + j := ⟨i - c.next.length, by omega⟩
            have hij : i - c.next.length = j := by omega
            have hjl : j < L.length := by have := HCE.out; omega
            have hxl := HHI.out (by omega)
            rw [hij] at hxl
            have hd1 : decide ((i : Int) < (c.next.length : Int)) = false := by simp; omega
            have hd2 : decide ((c.next.length : Int) ≤ (i : Int)) = true := by simp; omega
            have hd3 : decide (c.next.length ≤ i) = true := by simp; omega
            have hd4 : decide (i < c.next.length) = false := by simp; omega
            have hrg : x.rg = false := by rw [hxl]; rfl
            rw [hrg] at r3
            have hwj : IntKind.i64.wrap ((i : Int) - (c.next.length : Int)) = (j : Int) := by rw [IntWalk.i64_in _ (by omega)]; omega
            have hwj2 : (i : Int) - (c.next.length : Int) = (j : Int) := by omega
            have hwj3 : IntKind.i64.wrap (j : Int) = (j : Int) := IntWalk.i64_in _ (by omega)
            have HXL := Lib.hid hxl
            have HJ := Lib.hid hj
            have HII := Lib.hid hI1
            clear hrg hij hxl hj
            (obtain ⟨ly, y0, y1, y2, y3⟩ := (id hy))
            go_wp2_with fail
            (refine wp_regionT ((fun w' => (∀ b o, b < w7.heap.size → w'.cell? ⟨b, o, none⟩ = w7.cell? ⟨b, o, none⟩) ∧ Ext w7 w')) 19 (by kernel_rfl) ?_; have hS0 := held_mk (Ext.drew w7))
            ((refine wpAnyT_take 0 (v := ?_) rfl (by kernel_rfl) (fun _ _ _ h => h) (Or.inl ⟨by kernel_rfl, ?_⟩) (by assumption) ?_; rotate_left; (intro wS hSw; (try dsimp only at hSw); go_simp; (try with_reducible rfl)); (try simp only [Act.put, List.setIfInBounds_toArray, List.set_cons_zero, List.set_cons_succ])); (refine wpAnyT_take 1 (v := ?_) rfl (by kernel_rfl) (fun _ _ _ h => h) (Or.inl ⟨by kernel_rfl, ?_⟩) (by assumption) ?_; rotate_left; (intro wS hSw; (try dsimp only at hSw); go_simp; (try with_reducible rfl)); (try simp only [Act.put, List.setIfInBounds_toArray, List.set_cons_zero, List.set_cons_succ])); (refine wpAnyT_take 2 (v := ?_) rfl (by kernel_rfl) (fun _ _ _ h => h) (Or.inl ⟨by kernel_rfl, ?_⟩) (by assumption) ?_; rotate_left; (intro wS hSw; (try dsimp only at hSw); go_simp; (try with_reducible rfl)); (try simp only [Act.put, List.setIfInBounds_toArray, List.set_cons_zero, List.set_cons_succ])); (refine wpAnyT_take 3 (v := ?_) rfl (by kernel_rfl) (fun _ _ _ h => h) (Or.inl ⟨by kernel_rfl, ?_⟩) (by assumption) ?_; rotate_left; (intro wS hSw; (try dsimp only at hSw); go_simp; (try with_reducible rfl)); (try simp only [Act.put, List.setIfInBounds_toArray, List.set_cons_zero, List.set_cons_succ])); (refine wpAnyT_take 4 (v := ?_) rfl (by kernel_rfl) (fun _ _ _ h => h) (Or.inl ⟨by kernel_rfl, ?_⟩) (by assumption) ?_; rotate_left; (intro wS hSw; (try dsimp only at hSw); go_simp; (try with_reducible rfl)); (try simp only [Act.put, List.setIfInBounds_toArray, List.set_cons_zero, List.set_cons_succ])); (refine wpAnyT_take 5 (v := ?_) rfl (by kernel_rfl) (fun _ _ _ h => h) (Or.inl ⟨by kernel_rfl, ?_⟩) (by assumption) ?_; rotate_left; (intro wS hSw; (try dsimp only at hSw); go_simp; (try with_reducible rfl)); (try simp only [Act.put, List.setIfInBounds_toArray, List.set_cons_zero, List.set_cons_succ])))
            (refine wpAnyT_do 6 (by kernel_rfl) rfl (fun K hK => ?_))
            go_simp
            refine (lawContains_c sa sc S x.net _ (hSI.ext (Ext.drew w7)) (by omega)).mono ?_
            rw [HNW.out]
            rintro e w8 ⟨rfl, hE8⟩
            have hS8 := held_mk ((Ext.drew w7).trans hE8)
            (refine hK _ _ hS8 ?_; clear hK K; (try simp only [Act.put, List.setIfInBounds_toArray, List.set_cons_zero, List.set_cons_succ]))
            ((refine wpAnyT_take 7 (v := ?_) rfl (by kernel_rfl) (fun _ _ _ h => h) (Or.inl ⟨by kernel_rfl, ?_⟩) (by assumption) ?_; rotate_left; (intro wS hSw; (try dsimp only at hSw); go_simp; (try with_reducible rfl)); (try simp only [Act.put, List.setIfInBounds_toArray, List.set_cons_zero, List.set_cons_succ])); (refine wpAnyT_take 8 (v := ?_) rfl (by kernel_rfl) (fun _ _ _ h => h) (Or.inl ⟨by kernel_rfl, ?_⟩) (by assumption) ?_; rotate_left; (intro wS hSw; (try dsimp only at hSw); go_simp; (try with_reducible rfl)); (try simp only [Act.put, List.setIfInBounds_toArray, List.set_cons_zero, List.set_cons_succ])); (refine wpAnyT_take 9 (v := ?_) rfl (by kernel_rfl) (fun _ _ _ h => h) (Or.inl ⟨by kernel_rfl, ?_⟩) (by assumption) ?_; rotate_left; (intro wS hSw; (try dsimp only at hSw); go_simp; (try with_reducible rfl)); (try simp only [Act.put, List.setIfInBounds_toArray, List.set_cons_zero, List.set_cons_succ])); (refine wpAnyT_take 10 (v := ?_) rfl (by kernel_rfl) (fun _ _ _ h => h) (Or.inl ⟨by kernel_rfl, ?_⟩) (by assumption) ?_; rotate_left; (intro wS hSw; (try dsimp only at hSw); go_simp; (try with_reducible rfl)); (try simp only [Act.put, List.setIfInBounds_toArray, List.set_cons_zero, List.set_cons_succ])); (refine wpAnyT_take 11 (v := ?_) rfl (by kernel_rfl) (fun _ _ _ h => h) (Or.inl ⟨by kernel_rfl, ?_⟩) (by assumption) ?_; rotate_left; (intro wS hSw; (try dsimp only at hSw); go_simp; (try with_reducible rfl)); (try simp only [Act.put, List.setIfInBounds_toArray, List.set_cons_zero, List.set_cons_succ])); (refine wpAnyT_take 12 (v := ?_) rfl (by kernel_rfl) (fun _ _ _ h => h) (Or.inl ⟨by kernel_rfl, ?_⟩) (by assumption) ?_; rotate_left; (intro wS hSw; (try dsimp only at hSw); go_simp; (try with_reducible rfl)); (try simp only [Act.put, List.setIfInBounds_toArray, List.set_cons_zero, List.set_cons_succ])); (refine wpAnyT_take 13 (v := ?_) rfl (by kernel_rfl) (fun _ _ _ h => h) (Or.inl ⟨by kernel_rfl, ?_⟩) (by assumption) ?_; rotate_left; (intro wS hSw; (try dsimp only at hSw); go_simp; (try with_reducible rfl)); (try simp only [Act.put, List.setIfInBounds_toArray, List.set_cons_zero, List.set_cons_succ])); (refine wpAnyT_take 14 (v := ?_) rfl (by kernel_rfl) (fun _ _ _ h => h) (Or.inl ⟨by kernel_rfl, ?_⟩) (by assumption) ?_; rotate_left; (intro wS hSw; (try dsimp only at hSw); go_simp; (try with_reducible rfl)); (try simp only [Act.put, List.setIfInBounds_toArray, List.set_cons_zero, List.set_cons_succ])); (refine wpAnyT_take 15 (v := ?_) rfl (by kernel_rfl) (fun _ _ _ h => h) (Or.inl ⟨by kernel_rfl, ?_⟩) (by assumption) ?_; rotate_left; (intro wS hSw; (try dsimp only at hSw); go_simp; (try with_reducible rfl)); (try simp only [Act.put, List.setIfInBounds_toArray, List.set_cons_zero, List.set_cons_succ])); (refine wpAnyT_take 16 (v := ?_) rfl (by kernel_rfl) (fun _ _ _ h => h) (Or.inl ⟨by kernel_rfl, ?_⟩) (by assumption) ?_; rotate_left; (intro wS hSw; (try dsimp only at hSw); go_simp; (try with_reducible rfl)); (try simp only [Act.put, List.setIfInBounds_toArray, List.set_cons_zero, List.set_cons_succ])); (refine wpAnyT_take 17 (v := ?_) rfl (by kernel_rfl) (fun _ _ _ h => h) (Or.inl ⟨by kernel_rfl, ?_⟩) (by assumption) ?_; rotate_left; (intro wS hSw; (try dsimp only at hSw); go_simp; (try with_reducible rfl)); (try simp only [Act.put, List.setIfInBounds_toArray, List.set_cons_zero, List.set_cons_succ])); (refine wpAnyT_take 18 (v := ?_) rfl (by kernel_rfl) (fun _ _ _ h => h) (Or.inl ⟨by kernel_rfl, ?_⟩) (by assumption) ?_; rotate_left; (intro wS hSw; (try dsimp only at hSw); go_simp; (try with_reducible rfl)); (try simp only [Act.put, List.setIfInBounds_toArray, List.set_cons_zero, List.set_cons_succ])))
            (refine wpAnyT_last 19 (by kernel_rfl) rfl (by decide) (by kernel_rfl) (fun K hK => ?_))
            go_simp
            (refine hK _ _ ?_; clear hK K; (try simp only [Act.put, List.setIfInBounds_toArray, List.set_cons_zero, List.set_cons_succ]))
            have X8 := held_ext hS8
            have hO8 : OwnInts w8 w6.heap.size 3 (.slice sa S.length sc) S := ownsRow_ext HO.out X8
            have r0' := ((ecell X8).1 _ _ hgl).trans r0
            have hgl8 : gl < w8.heap.size := Nat.lt_of_lt_of_le hgl X8.size
            have hsz := (hE.trans X8).size
            clear hS0 hS8 hE8 r0 r1 r3 y0 y1 y2 y3 ly hSI hI1
            go_wp2_with (at_builtin; refine wpList_app tyInts (ownsRow_ext hO8 (by (repeat (first | with_reducible assumption | with_reducible exact Ext.refl _ | with_reducible refine Ext.drew' ?_ | with_reducible refine Ext.drewN' ?_ _ | with_reducible refine Ext.alloc ?_ _ | (with_reducible refine Ext.setNew ?_ (by first | exact Nat.le_refl _ | (simp; done) | (simp; omega) | omega) _))))) (rowNew _ _ _ (by simp)) rfl (by simp [Value.oneCell']) (by omega) (by simp; omega) rfl rfl rfl rfl ?_; intro v9 w9 o9 g9 m9)
            have E9 : Ext w6 w9 := ext_grown (w1 := _) (Ext.trans (hE.trans X8) (by (repeat (first | with_reducible assumption | with_reducible exact Ext.refl _ | with_reducible refine Ext.drew' ?_ | with_reducible refine Ext.drewN' ?_ _ | with_reducible refine Ext.alloc ?_ _ | (with_reducible refine Ext.setNew ?_ (by first | exact Nat.le_refl _ | (simp; done) | (simp; omega) | omega) _))))) g9 (fun q hq => (own_lo hO8 q hq).1)
            have O9 : OwnInts w9 w6.heap.size 3 v9 (S ++ [x.net]) := own_app (xs := S) (ys := [x.net]) rfl rfl o9
            have y9 := HY6.out.ext E9
            obtain ⟨gl2, ela2, hgl2, _, hcc2⟩ := Nst.getN goodCell (HA6.out.ext goodCell E9) (by omega)
            cases ela2
            obtain ⟨cs2, F2, ⟨v2', rfl, o2, rfl⟩, q2, _⟩ := hcc2 i cell0 hlt
            obtain ⟨gm, rfl, hgm, _, hcm2⟩ := Nst.getN goodLut (HL6.out.ext goodLut E9) (by omega)
            obtain ⟨cs3, F3, ⟨v3', rfl, o3, rfl⟩, q3, _⟩ := hcm2 j lut0 hjl
            have t0 := q2 0 _ (by omega) rfl
            have t1 := q2 1 _ (by omega) rfl
            have m0 := q3 0 _ (by omega) rfl
            have m1 := q3 1 _ (by omega) rfl
            rw [Nat.add_zero] at t0 m0
            have hxx : cs.getD i cell0 = lutCell (L.getD j lut0) := by
              have := HHIGH.out j hjl
              rw [← HJ.out] at this
              exact this
            rw [hxx] at t0 o2
            have hm3 : (L.getD j lut0).lv.length ≤ 3 := by rw [HXL.out] at hx3; exact hx3
            obtain ⟨l, hl2⟩ : ∃ l, l = L.getD j lut0 := ⟨_, rfl⟩
            rw [← hl2] at t0 m0 o2 o3 hm3
            change w9.cell? _ = some (.int .i64 l.var) at t0
            change OwnInts w9 0 3 v2' l.lv at o2
            obtain ⟨ua, uc, rfl, hU1, _⟩ := o2.opened
            obtain ⟨ub, ud, rfl, hU2, _⟩ := o3.opened
            have hnv : (l.var != l.var) = false := bne_self_eq_false _
            (obtain ⟨ly, y0, y1, y2, y3⟩ := (id y9))
            clear o9 g9 m9 hcc2 hcm2 q2 q3 hl2 hxx o2 o3
            go_wp2_with fail
            (refine wp_regionT ((fun w' => (∀ b o, b < w9.heap.size → w'.cell? ⟨b, o, none⟩ = w9.cell? ⟨b, o, none⟩) ∧ Ext w9 w')) 39 (by kernel_rfl) ?_; have hS0 := held_mk (Ext.drew w9))
            ((refine wpAnyT_take 0 (v := ?_) rfl (by kernel_rfl) (fun _ _ _ h => h) (Or.inl ⟨by kernel_rfl, ?_⟩) (by assumption) ?_; rotate_left; (intro wS hSw; (try dsimp only at hSw); go_simp; (try with_reducible rfl)); (try simp only [Act.put, List.setIfInBounds_toArray, List.set_cons_zero, List.set_cons_succ])); (refine wpAnyT_take 1 (v := ?_) rfl (by kernel_rfl) (fun _ _ _ h => h) (Or.inl ⟨by kernel_rfl, ?_⟩) (by assumption) ?_; rotate_left; (intro wS hSw; (try dsimp only at hSw); go_simp; (try with_reducible rfl)); (try simp only [Act.put, List.setIfInBounds_toArray, List.set_cons_zero, List.set_cons_succ])); (refine wpAnyT_take 2 (v := ?_) rfl (by kernel_rfl) (fun _ _ _ h => h) (Or.inl ⟨by kernel_rfl, ?_⟩) (by assumption) ?_; rotate_left; (intro wS hSw; (try dsimp only at hSw); go_simp; (try with_reducible rfl)); (try simp only [Act.put, List.setIfInBounds_toArray, List.set_cons_zero, List.set_cons_succ])); (refine wpAnyT_take 3 (v := ?_) rfl (by kernel_rfl) (fun _ _ _ h => h) (Or.inl ⟨by kernel_rfl, ?_⟩) (by assumption) ?_; rotate_left; (intro wS hSw; (try dsimp only at hSw); go_simp; (try with_reducible rfl)); (try simp only [Act.put, List.setIfInBounds_toArray, List.set_cons_zero, List.set_cons_succ])); (refine wpAnyT_take 4 (v := ?_) rfl (by kernel_rfl) (fun _ _ _ h => h) (Or.inl ⟨by kernel_rfl, ?_⟩) (by assumption) ?_; rotate_left; (intro wS hSw; (try dsimp only at hSw); go_simp; (try with_reducible rfl)); (try simp only [Act.put, List.setIfInBounds_toArray, List.set_cons_zero, List.set_cons_succ])); (refine wpAnyT_take 5 (v := ?_) rfl (by kernel_rfl) (fun _ _ _ h => h) (Or.inl ⟨by kernel_rfl, ?_⟩) (by assumption) ?_; rotate_left; (intro wS hSw; (try dsimp only at hSw); go_simp; (try with_reducible rfl)); (try simp only [Act.put, List.setIfInBounds_toArray, List.set_cons_zero, List.set_cons_succ])); (refine wpAnyT_take 6 (v := ?_) rfl (by kernel_rfl) (fun _ _ _ h => h) (Or.inl ⟨by kernel_rfl, ?_⟩) (by assumption) ?_; rotate_left; (intro wS hSw; (try dsimp only at hSw); go_simp; (try with_reducible rfl)); (try simp only [Act.put, List.setIfInBounds_toArray, List.set_cons_zero, List.set_cons_succ])); (refine wpAnyT_take 7 (v := ?_) rfl (by kernel_rfl) (fun _ _ _ h => h) (Or.inl ⟨by kernel_rfl, ?_⟩) (by assumption) ?_; rotate_left; (intro wS hSw; (try dsimp only at hSw); go_simp; (try with_reducible rfl)); (try simp only [Act.put, List.setIfInBounds_toArray, List.set_cons_zero, List.set_cons_succ])); (refine wpAnyT_take 8 (v := ?_) rfl (by kernel_rfl) (fun _ _ _ h => h) (Or.inl ⟨by kernel_rfl, ?_⟩) (by assumption) ?_; rotate_left; (intro wS hSw; (try dsimp only at hSw); go_simp; (try with_reducible rfl)); (try simp only [Act.put, List.setIfInBounds_toArray, List.set_cons_zero, List.set_cons_succ])); (refine wpAnyT_take 9 (v := ?_) rfl (by kernel_rfl) (fun _ _ _ h => h) (Or.inl ⟨by kernel_rfl, ?_⟩) (by assumption) ?_; rotate_left; (intro wS hSw; (try dsimp only at hSw); go_simp; (try with_reducible rfl)); (try simp only [Act.put, List.setIfInBounds_toArray, List.set_cons_zero, List.set_cons_succ])); (refine wpAnyT_take 10 (v := ?_) rfl (by kernel_rfl) (fun _ _ _ h => h) (Or.inl ⟨by kernel_rfl, ?_⟩) (by assumption) ?_; rotate_left; (intro wS hSw; (try dsimp only at hSw); go_simp; (try with_reducible rfl)); (try simp only [Act.put, List.setIfInBounds_toArray, List.set_cons_zero, List.set_cons_succ])); (refine wpAnyT_take 11 (v := ?_) rfl (by kernel_rfl) (fun _ _ _ h => h) (Or.inl ⟨by kernel_rfl, ?_⟩) (by assumption) ?_; rotate_left; (intro wS hSw; (try dsimp only at hSw); go_simp; (try with_reducible rfl)); (try simp only [Act.put, List.setIfInBounds_toArray, List.set_cons_zero, List.set_cons_succ])); (refine wpAnyT_take 12 (v := ?_) rfl (by kernel_rfl) (fun _ _ _ h => h) (Or.inl ⟨by kernel_rfl, ?_⟩) (by assumption) ?_; rotate_left; (intro wS hSw; (try dsimp only at hSw); go_simp; (try with_reducible rfl)); (try simp only [Act.put, List.setIfInBounds_toArray, List.set_cons_zero, List.set_cons_succ])); (refine wpAnyT_take 13 (v := ?_) rfl (by kernel_rfl) (fun _ _ _ h => h) (Or.inl ⟨by kernel_rfl, ?_⟩) (by assumption) ?_; rotate_left; (intro wS hSw; (try dsimp only at hSw); go_simp; (try with_reducible rfl)); (try simp only [Act.put, List.setIfInBounds_toArray, List.set_cons_zero, List.set_cons_succ])); (refine wpAnyT_take 14 (v := ?_) rfl (by kernel_rfl) (fun _ _ _ h => h) (Or.inl ⟨by kernel_rfl, ?_⟩) (by assumption) ?_; rotate_left; (intro wS hSw; (try dsimp only at hSw); go_simp; (try with_reducible rfl)); (try simp only [Act.put, List.setIfInBounds_toArray, List.set_cons_zero, List.set_cons_succ])); (refine wpAnyT_take 15 (v := ?_) rfl (by kernel_rfl) (fun _ _ _ h => h) (Or.inl ⟨by kernel_rfl, ?_⟩) (by assumption) ?_; rotate_left; (intro wS hSw; (try dsimp only at hSw); go_simp; (try with_reducible rfl)); (try simp only [Act.put, List.setIfInBounds_toArray, List.set_cons_zero, List.set_cons_succ])); (refine wpAnyT_take 16 (v := ?_) rfl (by kernel_rfl) (fun _ _ _ h => h) (Or.inl ⟨by kernel_rfl, ?_⟩) (by assumption) ?_; rotate_left; (intro wS hSw; (try dsimp only at hSw); go_simp; (try with_reducible rfl)); (try simp only [Act.put, List.setIfInBounds_toArray, List.set_cons_zero, List.set_cons_succ])); (refine wpAnyT_take 17 (v := ?_) rfl (by kernel_rfl) (fun _ _ _ h => h) (Or.inl ⟨by kernel_rfl, ?_⟩) (by assumption) ?_; rotate_left; (intro wS hSw; (try dsimp only at hSw); go_simp; (try with_reducible rfl)); (try simp only [Act.put, List.setIfInBounds_toArray, List.set_cons_zero, List.set_cons_succ])); (refine wpAnyT_take 18 (v := ?_) rfl (by kernel_rfl) (fun _ _ _ h => h) (Or.inl ⟨by kernel_rfl, ?_⟩) (by assumption) ?_; rotate_left; (intro wS hSw; (try dsimp only at hSw); go_simp; (try with_reducible rfl)); (try simp only [Act.put, List.setIfInBounds_toArray, List.set_cons_zero, List.set_cons_succ])); (refine wpAnyT_take 19 (v := ?_) rfl (by kernel_rfl) (fun _ _ _ h => h) (Or.inl ⟨by kernel_rfl, ?_⟩) (by assumption) ?_; rotate_left; (intro wS hSw; (try dsimp only at hSw); go_simp; (try with_reducible rfl)); (try simp only [Act.put, List.setIfInBounds_toArray, List.set_cons_zero, List.set_cons_succ])); (refine wpAnyT_take 20 (v := ?_) rfl (by kernel_rfl) (fun _ _ _ h => h) (Or.inl ⟨by kernel_rfl, ?_⟩) (by assumption) ?_; rotate_left; (intro wS hSw; (try dsimp only at hSw); go_simp; (try with_reducible rfl)); (try simp only [Act.put, List.setIfInBounds_toArray, List.set_cons_zero, List.set_cons_succ])); (refine wpAnyT_take 21 (v := ?_) rfl (by kernel_rfl) (fun _ _ _ h => h) (Or.inl ⟨by kernel_rfl, ?_⟩) (by assumption) ?_; rotate_left; (intro wS hSw; (try dsimp only at hSw); go_simp; (try with_reducible rfl)); (try simp only [Act.put, List.setIfInBounds_toArray, List.set_cons_zero, List.set_cons_succ])); (refine wpAnyT_take 22 (v := ?_) rfl (by kernel_rfl) (fun _ _ _ h => h) (Or.inl ⟨by kernel_rfl, ?_⟩) (by assumption) ?_; rotate_left; (intro wS hSw; (try dsimp only at hSw); go_simp; (try with_reducible rfl)); (try simp only [Act.put, List.setIfInBounds_toArray, List.set_cons_zero, List.set_cons_succ])); (refine wpAnyT_take 23 (v := ?_) rfl (by kernel_rfl) (fun _ _ _ h => h) (Or.inl ⟨by kernel_rfl, ?_⟩) (by assumption) ?_; rotate_left; (intro wS hSw; (try dsimp only at hSw); go_simp; (try with_reducible rfl)); (try simp only [Act.put, List.setIfInBounds_toArray, List.set_cons_zero, List.set_cons_succ])); (refine wpAnyT_take 24 (v := ?_) rfl (by kernel_rfl) (fun _ _ _ h => h) (Or.inl ⟨by kernel_rfl, ?_⟩) (by assumption) ?_; rotate_left; (intro wS hSw; (try dsimp only at hSw); go_simp; (try with_reducible rfl)); (try simp only [Act.put, List.setIfInBounds_toArray, List.set_cons_zero, List.set_cons_succ])); (refine wpAnyT_take 25 (v := ?_) rfl (by kernel_rfl) (fun _ _ _ h => h) (Or.inl ⟨by kernel_rfl, ?_⟩) (by assumption) ?_; rotate_left; (intro wS hSw; (try dsimp only at hSw); go_simp; (try with_reducible rfl)); (try simp only [Act.put, List.setIfInBounds_toArray, List.set_cons_zero, List.set_cons_succ])); (refine wpAnyT_take 26 (v := ?_) rfl (by kernel_rfl) (fun _ _ _ h => h) (Or.inl ⟨by kernel_rfl, ?_⟩) (by assumption) ?_; rotate_left; (intro wS hSw; (try dsimp only at hSw); go_simp; (try with_reducible rfl)); (try simp only [Act.put, List.setIfInBounds_toArray, List.set_cons_zero, List.set_cons_succ])); (refine wpAnyT_take 27 (v := ?_) rfl (by kernel_rfl) (fun _ _ _ h => h) (Or.inl ⟨by kernel_rfl, ?_⟩) (by assumption) ?_; rotate_left; (intro wS hSw; (try dsimp only at hSw); go_simp; (try with_reducible rfl)); (try simp only [Act.put, List.setIfInBounds_toArray, List.set_cons_zero, List.set_cons_succ])); (refine wpAnyT_take 28 (v := ?_) rfl (by kernel_rfl) (fun _ _ _ h => h) (Or.inl ⟨by kernel_rfl, ?_⟩) (by assumption) ?_; rotate_left; (intro wS hSw; (try dsimp only at hSw); go_simp; (try with_reducible rfl)); (try simp only [Act.put, List.setIfInBounds_toArray, List.set_cons_zero, List.set_cons_succ])); (refine wpAnyT_take 29 (v := ?_) rfl (by kernel_rfl) (fun _ _ _ h => h) (Or.inl ⟨by kernel_rfl, ?_⟩) (by assumption) ?_; rotate_left; (intro wS hSw; (try dsimp only at hSw); go_simp; (try with_reducible rfl)); (try simp only [Act.put, List.setIfInBounds_toArray, List.set_cons_zero, List.set_cons_succ])); (refine wpAnyT_take 30 (v := ?_) rfl (by kernel_rfl) (fun _ _ _ h => h) (Or.inl ⟨by kernel_rfl, ?_⟩) (by assumption) ?_; rotate_left; (intro wS hSw; (try dsimp only at hSw); go_simp; (try with_reducible rfl)); (try simp only [Act.put, List.setIfInBounds_toArray, List.set_cons_zero, List.set_cons_succ])); (refine wpAnyT_take 31 (v := ?_) rfl (by kernel_rfl) (fun _ _ _ h => h) (Or.inl ⟨by kernel_rfl, ?_⟩) (by assumption) ?_; rotate_left; (intro wS hSw; (try dsimp only at hSw); go_simp; (try with_reducible rfl)); (try simp only [Act.put, List.setIfInBounds_toArray, List.set_cons_zero, List.set_cons_succ])); (refine wpAnyT_take 32 (v := ?_) rfl (by kernel_rfl) (fun _ _ _ h => h) (Or.inl ⟨by kernel_rfl, ?_⟩) (by assumption) ?_; rotate_left; (intro wS hSw; (try dsimp only at hSw); go_simp; (try with_reducible rfl)); (try simp only [Act.put, List.setIfInBounds_toArray, List.set_cons_zero, List.set_cons_succ])); (refine wpAnyT_take 33 (v := ?_) rfl (by kernel_rfl) (fun _ _ _ h => h) (Or.inl ⟨by kernel_rfl, ?_⟩) (by assumption) ?_; rotate_left; (intro wS hSw; (try dsimp only at hSw); go_simp; (try with_reducible rfl)); (try simp only [Act.put, List.setIfInBounds_toArray, List.set_cons_zero, List.set_cons_succ])); (refine wpAnyT_take 34 (v := ?_) rfl (by kernel_rfl) (fun _ _ _ h => h) (Or.inl ⟨by kernel_rfl, ?_⟩) (by assumption) ?_; rotate_left; (intro wS hSw; (try dsimp only at hSw); go_simp; (try with_reducible rfl)); (try simp only [Act.put, List.setIfInBounds_toArray, List.set_cons_zero, List.set_cons_succ])); (refine wpAnyT_take 35 (v := ?_) rfl (by kernel_rfl) (fun _ _ _ h => h) (Or.inl ⟨by kernel_rfl, ?_⟩) (by assumption) ?_; rotate_left; (intro wS hSw; (try dsimp only at hSw); go_simp; (try with_reducible rfl)); (try simp only [Act.put, List.setIfInBounds_toArray, List.set_cons_zero, List.set_cons_succ])))
            (refine wpAnyT_do 36 (by kernel_rfl) rfl (fun K hK => ?_))
            go_simp
            refine (sameInts_c ua ub uc ud l.lv _ (hU1.ext (Ext.drew w9)) (hU2.ext (Ext.drew w9)) (by omega)).mono ?_
            rintro e w10 ⟨rfl, hE10⟩
            have hS10 := held_mk ((Ext.drew w9).trans hE10)
            (refine hK _ _ hS10 ?_; clear hK K; (try simp only [Act.put, List.setIfInBounds_toArray, List.set_cons_zero, List.set_cons_succ]))
            ((refine wpAnyT_take 37 (v := ?_) rfl (by kernel_rfl) (fun _ _ _ h => h) (Or.inl ⟨by kernel_rfl, ?_⟩) (by assumption) ?_; rotate_left; (intro wS hSw; (try dsimp only at hSw); go_simp; (try with_reducible rfl)); (try simp only [Act.put, List.setIfInBounds_toArray, List.set_cons_zero, List.set_cons_succ])); (refine wpAnyT_take 38 (v := ?_) rfl (by kernel_rfl) (fun _ _ _ h => h) (Or.inl ⟨by kernel_rfl, ?_⟩) (by assumption) ?_; rotate_left; (intro wS hSw; (try dsimp only at hSw); go_simp; (try with_reducible rfl)); (try simp only [Act.put, List.setIfInBounds_toArray, List.set_cons_zero, List.set_cons_succ])))
            (refine wpAnyT_last 39 (by kernel_rfl) rfl (by decide) (by kernel_rfl) (fun K hK => ?_))
            go_simp
            (refine hK _ _ ?_; clear hK K; (try simp only [Act.put, List.setIfInBounds_toArray, List.set_cons_zero, List.set_cons_succ]))
            go_wp2_with fail
            go_roundw
            case rel => exact ⟨i + 1, by omega, by go_num, by rw [HTK.out, List.map_append, ← HS.out]; exact ownsRow_ext O9 (held_ext hS10), E9.trans (held_ext hS10)⟩
            case measure => simp [intOf]; omega
        · have HY9 := Lib.hid hy
          have HC9 := Lib.hid (HC6.out.ext hE)
          have HN9 := Lib.hid (HA6.out.ext goodCell hE)
          have E9 := E6.trans hE
          have hw6 : IntKind.i64.wrap (c.inputs + (c.next.length : Int)) = c.inputs + (c.next.length : Int) := IntWalk.i64_in _ (by omega)
          have hw7 : 0 ≤ c.inputs + (c.next.length : Int) ∧ c.inputs + (c.next.length : Int) ≤ 64 := by omega
          obtain ⟨hw70, hw71⟩ := hw7
          obtain ⟨T, hT⟩ : ∃ T, T = assigns c := ⟨_, rfl⟩
          rw [← hT] at al hw
          clear hT hO HL6 HHIGH HNEW HY7 hE hy
          go_wp2_with fail
          go_loopw [8] (fun u wr => ∃ k : Nat, k ≤ T ∧ u = .int .i64 k ∧ Ext w7 wr) (fun u _ => T - (intOf u).toNat)
          case atStart => exact ⟨0, Nat.zero_le _, rfl, Ext.refl _⟩
          case round =>
            obtain ⟨k, hk, rfl, hE⟩ := hrel
            obtain ⟨w9, rfl⟩ : ∃ z : World, z = wr := ⟨_, rfl⟩
            have hy := HY9.out.ext hE
            have hY := hy
            (obtain ⟨ly, y0, y1, y2, y3⟩ := (id hy))
            by_cases hlt : k < T
            · have HD1 := Lib.hid (bits_div k c.inputs.toNat)
              have hle : k / 2 ^ c.inputs.toNat ≤ 100000000 := Nat.le_trans (Nat.div_le_self _ _) (by omega)
              have EI : Hid (inB c k = bitsN k c.inputs.toNat) := Lib.hid rfl
              have ET : Hid (stB c k = bitsN (k / 2 ^ c.inputs.toNat) c.next.length) := Lib.hid rfl
              obtain ⟨ls3, li4⟩ := And.intro (HAL.out k).1 (HAL.out k).2.1
              have hvl := HVL.out k
              rw [HN.out] at hvl
              have hev := HEV.out k
              have hsx := HSX.out k
              have HATK := Lib.hid (fun i hi => HLAT.out i hi k)
              obtain ⟨vs, hvs⟩ : ∃ vs, vs = allV c k := ⟨_, rfl⟩
              rw [← hvs] at hvl hev HATK hsx
              have HEVK := Lib.hid hev
              have HVLK : Hid (vs.length = n) := Lib.hid (by omega)
              have HSXK := Lib.hid hsx
              generalize inB c k = I at *
              generalize stB c k = Sx at *
              clear hvs hvl hev hsx hy
              go_wp2_with fail
              (refine wp_regionT ((fun w' => (∀ b o, b < w9.heap.size → w'.cell? ⟨b, o, none⟩ = w9.cell? ⟨b, o, none⟩) ∧ Ext w9 w')) 8 (by kernel_rfl) ?_; have hS0 := held_mk (Ext.drew w9))
              ((refine wpAnyT_take 0 (v := ?_) rfl (by kernel_rfl) (fun _ _ _ h => h) (Or.inl ⟨by kernel_rfl, ?_⟩) (by assumption) ?_; rotate_left; (intro wS hSw; (try dsimp only at hSw); go_simp; (try with_reducible rfl)); (try simp only [Act.put, List.setIfInBounds_toArray, List.set_cons_zero, List.set_cons_succ])); (refine wpAnyT_take 1 (v := ?_) rfl (by kernel_rfl) (fun _ _ _ h => h) (Or.inl ⟨by kernel_rfl, ?_⟩) (by assumption) ?_; rotate_left; (intro wS hSw; (try dsimp only at hSw); go_simp; (try with_reducible rfl)); (try simp only [Act.put, List.setIfInBounds_toArray, List.set_cons_zero, List.set_cons_succ])); (refine wpAnyT_take 2 (v := ?_) rfl (by kernel_rfl) (fun _ _ _ h => h) (Or.inl ⟨by kernel_rfl, ?_⟩) (by assumption) ?_; rotate_left; (intro wS hSw; (try dsimp only at hSw); go_simp; (try with_reducible rfl)); (try simp only [Act.put, List.setIfInBounds_toArray, List.set_cons_zero, List.set_cons_succ])); (refine wpAnyT_take 3 (v := ?_) rfl (by kernel_rfl) (fun _ _ _ h => h) (Or.inl ⟨by kernel_rfl, ?_⟩) (by assumption) ?_; rotate_left; (intro wS hSw; (try dsimp only at hSw); go_simp; (try with_reducible rfl)); (try simp only [Act.put, List.setIfInBounds_toArray, List.set_cons_zero, List.set_cons_succ])); (refine wpAnyT_take 4 (v := ?_) rfl (by kernel_rfl) (fun _ _ _ h => h) (Or.inl ⟨by kernel_rfl, ?_⟩) (by assumption) ?_; rotate_left; (intro wS hSw; (try dsimp only at hSw); go_simp; (try with_reducible rfl)); (try simp only [Act.put, List.setIfInBounds_toArray, List.set_cons_zero, List.set_cons_succ])); (refine wpAnyT_take 5 (v := ?_) rfl (by kernel_rfl) (fun _ _ _ h => h) (Or.inl ⟨by kernel_rfl, ?_⟩) (by assumption) ?_; rotate_left; (intro wS hSw; (try dsimp only at hSw); go_simp; (try with_reducible rfl)); (try simp only [Act.put, List.setIfInBounds_toArray, List.set_cons_zero, List.set_cons_succ])); (refine wpAnyT_take 6 (v := ?_) rfl (by kernel_rfl) (fun _ _ _ h => h) (Or.inl ⟨by kernel_rfl, ?_⟩) (by assumption) ?_; rotate_left; (intro wS hSw; (try dsimp only at hSw); go_simp; (try with_reducible rfl)); (try simp only [Act.put, List.setIfInBounds_toArray, List.set_cons_zero, List.set_cons_succ])))
              (refine wpAnyT_do 7 (by kernel_rfl) rfl (fun K hK => ?_))
              go_simp
              refine (lawBits_e _ _ (k / 2 ^ c.inputs.toNat) c.next.length HD1.out rfl hle (by omega) _).mono ?_
              rw [← ET.out]
              rintro e wa ⟨va, rfl, hOa, hEa⟩
              obtain ⟨ra9, rc9, rfl, hBT⟩ := hOa.opened
              have hSa := held_mk ((Ext.drew w9).trans hEa)
              (refine hK _ _ hSa ?_; clear hK K; (try simp only [Act.put, List.setIfInBounds_toArray, List.set_cons_zero, List.set_cons_succ]))
              (refine wpAnyT_last 8 (by kernel_rfl) rfl (by decide) (by kernel_rfl) (fun K hK => ?_))
              go_simp
              (refine hK _ _ ?_; clear hK K; (try simp only [Act.put, List.setIfInBounds_toArray, List.set_cons_zero, List.set_cons_succ]))
              have Fa := held_ext hSa
              have hya := hY.ext Fa
              clear hSa hS0 hEa hOa y0 y1 y2 y3 ly
              (obtain ⟨ly, y0, y1, y2, y3⟩ := (id hya))
              go_wp2_with fail
              (refine wp_regionT ((fun w' => (∀ b o, b < wa.heap.size → w'.cell? ⟨b, o, none⟩ = wa.cell? ⟨b, o, none⟩) ∧ Ext wa w')) 7 (by kernel_rfl) ?_; have hS0 := held_mk (Ext.drew wa))
              ((refine wpAnyT_take 0 (v := ?_) rfl (by kernel_rfl) (fun _ _ _ h => h) (Or.inl ⟨by kernel_rfl, ?_⟩) (by assumption) ?_; rotate_left; (intro wS hSw; (try dsimp only at hSw); go_simp; (try with_reducible rfl)); (try simp only [Act.put, List.setIfInBounds_toArray, List.set_cons_zero, List.set_cons_succ])); (refine wpAnyT_take 1 (v := ?_) rfl (by kernel_rfl) (fun _ _ _ h => h) (Or.inl ⟨by kernel_rfl, ?_⟩) (by assumption) ?_; rotate_left; (intro wS hSw; (try dsimp only at hSw); go_simp; (try with_reducible rfl)); (try simp only [Act.put, List.setIfInBounds_toArray, List.set_cons_zero, List.set_cons_succ])); (refine wpAnyT_take 2 (v := ?_) rfl (by kernel_rfl) (fun _ _ _ h => h) (Or.inl ⟨by kernel_rfl, ?_⟩) (by assumption) ?_; rotate_left; (intro wS hSw; (try dsimp only at hSw); go_simp; (try with_reducible rfl)); (try simp only [Act.put, List.setIfInBounds_toArray, List.set_cons_zero, List.set_cons_succ])); (refine wpAnyT_take 3 (v := ?_) rfl (by kernel_rfl) (fun _ _ _ h => h) (Or.inl ⟨by kernel_rfl, ?_⟩) (by assumption) ?_; rotate_left; (intro wS hSw; (try dsimp only at hSw); go_simp; (try with_reducible rfl)); (try simp only [Act.put, List.setIfInBounds_toArray, List.set_cons_zero, List.set_cons_succ])); (refine wpAnyT_take 4 (v := ?_) rfl (by kernel_rfl) (fun _ _ _ h => h) (Or.inl ⟨by kernel_rfl, ?_⟩) (by assumption) ?_; rotate_left; (intro wS hSw; (try dsimp only at hSw); go_simp; (try with_reducible rfl)); (try simp only [Act.put, List.setIfInBounds_toArray, List.set_cons_zero, List.set_cons_succ])))
              (refine wpAnyT_do 5 (by kernel_rfl) rfl (fun K hK => ?_))
              go_simp
              refine (lawBits_e _ _ k c.inputs.toNat rfl (by omega) (by omega) (by omega) _).mono ?_
              rw [← EI.out]
              rintro e wb ⟨vb, rfl, hOb, hEb⟩
              obtain ⟨rb9, rd9, rfl, hBI⟩ := hOb.opened
              have hSb := held_mk ((Ext.drew wa).trans hEb)
              (refine hK _ _ hSb ?_; clear hK K; (try simp only [Act.put, List.setIfInBounds_toArray, List.set_cons_zero, List.set_cons_succ]))
              (refine wpAnyT_do 6 (by kernel_rfl) rfl (fun K hK => ?_))
              go_simp
              refine (implEvalVars_c c p _ _ _ _ Sx I _ (HC9.out.ext ((hE.trans Fa).trans (held_ext hSb))) (hBT.ext (held_ext hSb)) hBI (by omega) (by omega)).mono ?_
              rw [HEVK.out]
              rintro e wc ⟨vc9, rfl, hOc, hEc⟩
              obtain ⟨rv, rvc, rfl, hBV⟩ := hOc.opened
              have hSc := held_mk ((held_ext hSb).trans hEc)
              (refine hK _ _ hSc ?_; clear hK K; (try simp only [Act.put, List.setIfInBounds_toArray, List.set_cons_zero, List.set_cons_succ]))
              (refine wpAnyT_last 7 (by kernel_rfl) rfl (by decide) (by kernel_rfl) (fun K hK => ?_))
              go_simp
              (refine hK _ _ ?_; clear hK K; (try simp only [Act.put, List.setIfInBounds_toArray, List.set_cons_zero, List.set_cons_succ]))
              have Fc := held_ext hSc
              have Ec := (hE.trans Fa).trans Fc
              have hyc := HY9.out.ext Ec
              have hBTc := hBT.ext Fc
              clear hSb hSc hS0 hEb hEc hOb hOc y0 y1 y2 y3 ly hya hBI
              (obtain ⟨ly, y0, y1, y2, y3⟩ := (id hyc))
              go_wp2_with fail
              (refine wp_regionT ((fun w' => (∀ b o, b < wc.heap.size → w'.cell? ⟨b, o, none⟩ = wc.cell? ⟨b, o, none⟩) ∧ Ext wc w')) 8 (by kernel_rfl) ?_; have hS0 := held_mk (Ext.drew wc))
              ((refine wpAnyT_take 0 (v := ?_) rfl (by kernel_rfl) (fun _ _ _ h => h) (Or.inl ⟨by kernel_rfl, ?_⟩) (by assumption) ?_; rotate_left; (intro wS hSw; (try dsimp only at hSw); go_simp; (try with_reducible rfl)); (try simp only [Act.put, List.setIfInBounds_toArray, List.set_cons_zero, List.set_cons_succ])); (refine wpAnyT_take 1 (v := ?_) rfl (by kernel_rfl) (fun _ _ _ h => h) (Or.inl ⟨by kernel_rfl, ?_⟩) (by assumption) ?_; rotate_left; (intro wS hSw; (try dsimp only at hSw); go_simp; (try with_reducible rfl)); (try simp only [Act.put, List.setIfInBounds_toArray, List.set_cons_zero, List.set_cons_succ])); (refine wpAnyT_take 2 (v := ?_) rfl (by kernel_rfl) (fun _ _ _ h => h) (Or.inl ⟨by kernel_rfl, ?_⟩) (by assumption) ?_; rotate_left; (intro wS hSw; (try dsimp only at hSw); go_simp; (try with_reducible rfl)); (try simp only [Act.put, List.setIfInBounds_toArray, List.set_cons_zero, List.set_cons_succ])); (refine wpAnyT_take 3 (v := ?_) rfl (by kernel_rfl) (fun _ _ _ h => h) (Or.inl ⟨by kernel_rfl, ?_⟩) (by assumption) ?_; rotate_left; (intro wS hSw; (try dsimp only at hSw); go_simp; (try with_reducible rfl)); (try simp only [Act.put, List.setIfInBounds_toArray, List.set_cons_zero, List.set_cons_succ])); (refine wpAnyT_take 4 (v := ?_) rfl (by kernel_rfl) (fun _ _ _ h => h) (Or.inl ⟨by kernel_rfl, ?_⟩) (by assumption) ?_; rotate_left; (intro wS hSw; (try dsimp only at hSw); go_simp; (try with_reducible rfl)); (try simp only [Act.put, List.setIfInBounds_toArray, List.set_cons_zero, List.set_cons_succ])))
              (refine wpAnyT_do 5 (by kernel_rfl) rfl (fun K hK => ?_))
              go_simp
              refine (lawBits_e _ _ k c.inputs.toNat rfl (by omega) (by omega) (by omega) _).mono ?_
              rw [← EI.out]
              rintro e wd ⟨vd, rfl, hOd, hEd⟩
              obtain ⟨re9, rf9, rfl, hBI⟩ := hOd.opened
              have hSd := held_mk ((Ext.drew wc).trans hEd)
              (refine hK _ _ hSd ?_; clear hK K; (try simp only [Act.put, List.setIfInBounds_toArray, List.set_cons_zero, List.set_cons_succ]))
              (refine wpAnyT_do 6 (by kernel_rfl) rfl (fun K hK => ?_))
              go_simp
              refine (implStep_c c p _ _ _ _ Sx I _ (HC9.out.ext (Ec.trans (held_ext hSd))) (hBTc.ext (held_ext hSd)) hBI (by omega) (by omega)).mono ?_
              rintro e we ⟨v1', v2', rfl, hR, hEe⟩
              obtain ⟨xa, xc, xb, xd, rfl, hXA, rfl, hXB⟩ := stepOpenedE hR
              have hSe := held_mk ((held_ext hSd).trans hEe)
              rw [HSXK.out] at hXB
              (refine hK _ _ hSe ?_; clear hK K; (try simp only [Act.put, List.setIfInBounds_toArray, List.set_cons_zero, List.set_cons_succ]))
              ((refine wpAnyT_take 7 (v := ?_) rfl (by kernel_rfl) (fun _ _ _ h => h) (Or.inl ⟨by kernel_rfl, ?_⟩) (by assumption) ?_; rotate_left; (intro wS hSw; (try dsimp only at hSw); go_simp; (try with_reducible rfl)); (try simp only [Act.put, List.setIfInBounds_toArray, List.set_cons_zero, List.set_cons_succ])))
              (refine wpAnyT_last 8 (by kernel_rfl) rfl (by decide) (by kernel_rfl) (fun K hK => ?_))
              go_simp
              (refine hK _ _ ?_; clear hK K; (try simp only [Act.put, List.setIfInBounds_toArray, List.set_cons_zero, List.set_cons_succ]))
              have Ee := Ec.trans (held_ext hSe)
              have HBV := Lib.hid (hBV.ext (held_ext hSe))
              have HBX := Lib.hid hXB
              clear hSd hSe hS0 hEd hEe hOd hR hXA hXB hBI hBT hBTc hBV y0 y1 y2 y3 ly hyc hY
              have hye := HY9.out.ext Ee
              go_wp2_with fail
              go_loopw [12] (fun u wr => ∃ i : Nat, i ≤ c.next.length ∧ u = .int .i64 i ∧ Ext we wr) (fun u _ => c.next.length - (intOf u).toNat)
              case atStart => exact ⟨0, Nat.zero_le _, rfl, Ext.refl _⟩
              case round =>
                obtain ⟨i, hi2, rfl, hEi⟩ := hrel
                obtain ⟨wf, rfl⟩ : ∃ z : World, z = wr := ⟨_, rfl⟩
                have hyf := hye.ext hEi
                (obtain ⟨ly, y0, y1, y2, y3⟩ := (id hyf))
                by_cases hlt2 : i < c.next.length
                · have hics : i < cs.length := by have := HCE.out; omega
                  obtain ⟨gl, ela, hgl, _, hcs⟩ := Nst.getN goodCell (HN9.out.ext goodCell (Ee.trans hEi)) (by omega)
                  subst ela
                  obtain ⟨cs1, F1, ⟨v, rfl, o1, rfl⟩, q, _⟩ := hcs i cell0 hics
                  have r0 := q 0 _ (by omega) rfl
                  have r1 := q 1 _ (by omega) rfl
                  have r2 := q 2 _ (by omega) rfl
                  rw [Nat.add_zero] at r0
                  have hx3 := HC3.out _ (getN_mem (d := cell0) hics)
                  rw [HLOW.out i hlt2] at r0 r2 o1 hx3
                  obtain ⟨tb, htb, htb2, hnet, _, hzs, hbit⟩ := HATK.out i hlt2
                  have hlx := litsV_length vs c.next
                  have hlg := litsV_get (vs := vs) hlt2
                  obtain ⟨x, hx⟩ : ∃ x, x = latchCell c i := ⟨_, rfl⟩
                  rw [← hx] at r0 r2 o1 htb hbit hx3 hnet hzs
                  rw [htb] at r2
                  rw [hnet] at r0
                  obtain ⟨va, vc, rfl, hI1, _⟩ := o1.opened
                  obtain ⟨X, hX⟩ : ∃ X, X = litsV vs c.next := ⟨_, rfl⟩
                  have hBXd := HBX.out.ext hEi
                  rw [← hX] at hBXd hlx hlg
                  have hxi : (i : Int) < ((stepV c Sx I).2.length : Int) := by rw [HSXK.out, litsV_length]; omega
                  obtain ⟨bX, oX, rfl, hbX, hcX⟩ := hBXd.get (by omega)
                  have qX := hcX i (by omega)
                  rw [hlg] at qX
                  obtain ⟨bz, hbz⟩ : ∃ bz, bz = litV vs (c.next.getD i 0) := ⟨_, rfl⟩
                  rw [← hbz] at qX hbit
                  have HBIT := Lib.hid hbit
                  have HV2 := Lib.hid hzs
                  have HI1 := Lib.hid hI1
                  have hBVd := HBV.out.ext hEi
                  have hvn := HVLK.out
                  have HX1 := Lib.hid hlx
                  have HCV : Hid (vs = [] ∨ ∃ bV oV, rv = some ⟨bV, oV, none⟩ ∧ bV < wf.heap.size ∧ ∀ j, j < vs.length → wf.cell? ⟨bV, oV + j, none⟩ = some (.bool (vs.getD j false))) := Lib.hid hBVd
                  have hvni : (vs.length : Int) = (n : Int) := by omega
                  have HVN := Lib.hid hvn
                  clear hx q hcs o1 htb hbit hzs hI1 hBXd hcX hlg hbz hX hBVd hvn hlx hnet
                  go_wp2_with fail
                  go_loop [13, 14] (fun u13 u14 => ∃ j : Nat, j ≤ x.ins.length ∧ u14 = .int .i64 j ∧ u13 = .int .i64 (atN vs x.ins j)) (fun _ u => x.ins.length - (intOf u).toNat)
                  case atStart => exact ⟨0, Nat.zero_le _, rfl, rfl⟩
                  case round =>
                    obtain ⟨j, hj, rfl, rfl⟩ := hrel
                    have hal := atN_lt vs x.ins j
                    have hpk : 2 ^ j ≤ 2 ^ 3 := Nat.pow_le_pow_right (by decide) (by omega)
                    by_cases hlt3 : j < x.ins.length
                    · obtain ⟨b5, o5, rfl, hb5, hc5⟩ := HI1.out.get (by omega)
                      have q1 := hc5 j hlt3
                      obtain ⟨z0, z1⟩ := HV2.out _ (getN_mem (d := 0) hlt3)
                      have hsu := atN_succ vs x.ins j
                      obtain ⟨z, hz⟩ : ∃ z, z = x.ins.getD j 0 := ⟨_, rfl⟩
                      rw [← hz] at q1 z0 z1 hsu
                      obtain ⟨bV, oV, rfl, hbV, hcV⟩ := (HCV.out).resolve_left (fun e => by have := HVN.out; rw [e] at this; simp at this; omega)
                      have q2 := hcV z.toNat (by have := HVN.out; omega)
                      have hsk : (1 : Int) * 2 ^ j = ((2 ^ j : Nat) : Int) := by rw [Int.one_mul]; norm_cast
                      obtain ⟨bz, hbz⟩ : ∃ bz, bz = vs.getD z.toNat false := ⟨_, rfl⟩
                      rw [← hbz] at q2 hsu
                      obtain ⟨A, hA⟩ : ∃ A, A = atN vs x.ins j := ⟨_, rfl⟩
                      rw [← hA] at hal hsu ⊢
                      obtain ⟨P, hP⟩ : ∃ P, P = 2 ^ j := ⟨_, rfl⟩
                      rw [← hP] at hal hpk hsk hsu
                      have HSU := Lib.hid hsu
                      clear hc5 hz hbz hA hP hsu hcV
                      cases bz
                      · go_wp2_with fail
                        go_round
                        case rel => exact ⟨j + 1, by omega, by go_num, by rw [HSU.out]; simp⟩
                        case measure => simp [intOf]; omega
                      · go_wp2_with fail
                        go_round
                        case rel => exact ⟨j + 1, by omega, by go_num, by rw [HSU.out]; simp⟩
                        case measure => simp [intOf]; omega
                    · have hj2 : j = x.ins.length := by omega
                      have hbit := HBIT.out
                      rw [← hj2] at hbit
                      obtain ⟨A, hA⟩ : ∃ A, A = atN vs x.ins j := ⟨_, rfl⟩
                      rw [← hA] at hal hbit ⊢
                      have hbq := bit_eq tb A
                      rw [hbit] at hbq
                      have hbn := bit_nonneg tb A
                      have hble := bit_le tb A
                      have hbb : (bz != bz) = false := by cases bz <;> rfl
                      have hnn : (c.inputs + 1 + (i : Int) != c.inputs + 1 + (i : Int)) = false := bne_self_eq_false _
                      have hwn1 : IntKind.i64.wrap (c.inputs + 1) = c.inputs + 1 := IntWalk.i64_in _ (by omega)
                      have hwn2 : IntKind.i64.wrap (c.inputs + 1 + (i : Int)) = c.inputs + 1 + (i : Int) := IntWalk.i64_in _ (by omega)
                      clear hA hbit hj2
                      go_wp2_with fail
                      go_quiet (fail)
                      go_wp2
                      go_roundw
                      case rel => exact ⟨i + 1, by omega, by go_num, hEi.trans (by (repeat (first | with_reducible assumption | with_reducible exact Ext.refl _ | with_reducible refine Ext.drew' ?_ | with_reducible refine Ext.drewN' ?_ _ | with_reducible refine Ext.alloc ?_ _ | (with_reducible refine Ext.setNew ?_ (by first | exact Nat.le_refl _ | (simp; done) | (simp; omega) | omega) _))))⟩
                      case measure => simp [intOf]; omega
                · go_wp2_with fail
                  go_roundw
                  case rel => exact ⟨k + 1, by omega, by go_num, Ee.trans hEi⟩
                  case measure => simp [intOf]; omega
            · go_wp2_with fail
              go_ret
              exact ⟨rfl, E9.trans hE⟩
  · go_enter Try.func11, Try.ntmps11
    go_wp2
    go_ret
    exact ⟨rfl, Ext.refl _⟩
theorem fnCells_lifted (os : Os) (started : os.Started) (H : Type) (enc : TypeId × Value → H) :
    ReturnsInHanded {} Try.checked os 11 .any (Rows.fnCellsSpec.pre6 enc Try.prog Try.f11 Rows.fnCellsRow.domain false) (Rows.fnCellsSpec.post enc Try.prog Try.f11 false true false false) := by
  refine returnsInHanded_of_change (C := Try.checked) own started (by kernel_rfl) Try.func11
    (ChangeSpec.witness6 (enc := enc) (C := Try.checked) false ⟨#[], #[.slice none 0 0], []⟩ 8 (by kernel_rfl) (by kernel_rfl) (by kernel_rfl) (by kernel_rfl)) ?_
  intro W base args ds gs before hval0 hW hcnd _
  have hval : ∀ (j : Nat) t v, Try.f11.params[j]? = some t → args[j]? = some v → Value.okWide Try.prog W .any base t v := hval0
  have hW' := hW
  obtain ⟨p, q, hA0, hV, rfl, hfz, hnd⟩ := hW
  have hA : DataW.TrodAll enc Try.prog W 0 (fun _ => true) true Try.f11.params.toList args.toList ds p := hA0
  rw [Try.params11] at hA hval
  obtain ⟨v0, vs0, d0, ds0, p0, q0, hargs, rfl, rfl, h0, r0⟩ := trodAll_cons hA
  obtain ⟨rfl, rfl, rfl⟩ := trodAll_nil r0
  obtain rfl : args = #[v0] := by cases args; simp_all
  obtain ⟨rfl, rfl⟩ := trodVars_none hV
  obtain ⟨a0, len0, cap0, rfl⟩ := okWide_slice Try.underlying22 (hval 0 22 v0 rfl rfl)
  have k0 := h0
  have lt0 : ∀ x ∈ p0, x.block < W.heap.size := by obtain ⟨m, hm⟩ := k0; exact DataW.trod_lt m _ _ _ hm
  obtain ⟨z0, w0⟩ : ∃ zs, IsRow .u8 W a0 len0 cap0 zs := by
    obtain ⟨fuel, hf⟩ := h0
    rcases open_ints Try.underlying22 Try.underlying5 (by kernel_rfl) hf with ⟨hcs, _⟩ | ⟨x, l, c, zs, hcs, _, hl, hm, hz, _, hcell, hwz⟩
    · simp [Value.cells] at hcs
      obtain ⟨rfl, rfl, rfl⟩ := hcs
      exact ⟨[], .inl ⟨rfl, rfl, rfl, rfl⟩⟩
    · simp [Value.cells] at hcs
      obtain ⟨rfl, rfl, rfl⟩ := hcs
      exact ⟨zs, .inr ⟨_, rfl, hl, hm, by simpa using hz, hcell, hwz⟩⟩
  clear hA0 hval0
  refine (fnCells_walk a0 len0 cap0 z0 W w0).mono fun e W' ⟨he, bel⟩ => ?_
  subst he
  exact ⟨_, rfl, _, _, _, [], _, [], hW', trodAll_mk1 (shut_bool Try.underlying4 _), (trodAll_cons_mk (Below.trod laidOut (by kernel_rfl) (of_decide_eq_true (by kernel_rfl)) k0 bel lt0) trodAll_mk0), rfl, bel.frame _, fun h => by cases h⟩
theorem fnCells_over : Rows.fnCellsRow.holds Try.pinned (OpenSpec.ofChange Rows.fnCellsSpec) :=
  OpenClaim.holds_of_wide 11 Try.f11 rfl rfl rfl rfl rfl rfl rfl ⟨rfl, rfl, rfl, rfl, rfl⟩ rfl rfl rfl rfl rfl (by kernel_rfl) Try.func11 (by kernel_rfl)
    (of_decide_eq_true (by kernel_rfl)) (by unfold Func.isWrapper; first | (rw [if_pos (by decide +kernel)]; kernel_rfl) | (rw [if_neg (by decide +kernel)]; exact ⟨rfl, rfl⟩))
    (fun os started H enc _ => fnCells_lifted os started H enc)
theorem fnCells_holds : Rows.FnCellsSaid := fnCells_over
end Go.Proofs.Ytpomcoegpjehgaa
