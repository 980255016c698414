/- The law FnStep: outputs and next state are literals of the evaluated variables. -/
import Derived.Test.YtlkfhcigpkfhnaaBytes
import Derived.Test.YtlkfhcigpkfhnaaDrawEv
import Derived.Test.YtlkfhcigpkfhnaaStep
import Derived.Test.YtlkfhcigpkfhnaaDiff
namespace Go.Proofs.Ytlkfhcigpkfhnaa
open Go.ChangeShapes Go.WideShapes Go.ChangeAt Go.RowKit
set_option maxRecDepth 100000
set_option linter.unusedVariables false
set_option linter.unusedSimpArgs false
theorem litV_read {vs : List Bool} {l : Int} {y : Bool} (h0 : 0 ≤ l) (h : y = vs.getD (l / 2).toNat false) : litV vs l = (y != (l % 2 == 1)) := by unfold litV; rw [h]
theorem DrawStep_c (a : Option Addr) (c : Nat) (bs : List Int) (w : World) (hB : BytesAt w a bs) (hl : bs.length ≤ 1048576) (hc : bs.length ≤ c) (hcm : c ≤ maxLen) :
    Calls Try.prog 22 #[.slice a bs.length c] w (DrawnEv w) := by
  have b0 := Blk.at w [.int .i64 0, .slice none 0 0, .slice none 0 0, .slice none 0 0] 26 rfl
  go_enter Try.func22, Try.ntmps22
  go_wp2_with fail
  refine (DrawEvalVars_c a c bs _ (hB.ext (by (repeat (first | with_reducible assumption | with_reducible exact Ext.refl _ | with_reducible refine Ext.drew' ?_ | with_reducible refine Ext.drewN' ?_ _ | with_reducible refine Ext.alloc ?_ _ | (with_reducible refine Ext.setNew ?_ (by first | exact Nat.le_refl _ | (simp; done) | (simp; omega) | omega) _))))) hl hc hcm).mono ?_
  rintro e w1 ⟨d, p, sa, sc, ia, ic, st, ins, rfl, hC, hd, hs, hi, l1, l2, hE1, hF, hg1, hg2⟩
  have EW := Ext.trans (a := w) (by (repeat (first | with_reducible assumption | with_reducible exact Ext.refl _ | with_reducible refine Ext.drew' ?_ | with_reducible refine Ext.drewN' ?_ _ | with_reducible refine Ext.alloc ?_ _ | (with_reducible refine Ext.setNew ?_ (by first | exact Nat.le_refl _ | (simp; done) | (simp; omega) | omega) _)))) hE1
  have b1 := b0.ext hE1
  have bl := b1.lt
  have b10 := b1.cell (i := 0) rfl
  have b11 := b1.cell (i := 1) rfl
  have b12 := b1.cell (i := 2) rfl
  have b13 := b1.cell (i := 3) rfl
  have b1f := fun i => b1.frozen i
  have rF := (((b1.set 0 (.int .i64 d.inputs)).set 1 (.slice p.an d.next.length p.cn)).set 2 (.slice p.ag d.gates.length p.cg)).set 3 (.slice p.ao d.outs.length p.co)
  have rf0 := rF.cell (i := 0) rfl
  have rf1 := rF.cell (i := 1) rfl
  have rf2 := rF.cell (i := 2) rfl
  have rf3 := rF.cell (i := 3) rfl
  have hFs : FromB (w.heap.size + 1) p := by simpa using hF
  replace hF := hFs
  simp at hg1 hg2
  have k1 : ∀ x, p.an = some x → w.heap.size ≠ x.block := fun x hx => by have := hF.1 x hx; omega
  have k2 : ∀ x, p.ag = some x → w.heap.size ≠ x.block := fun x hx => by have := hF.2.1 x hx; omega
  have k3 : ∀ x, p.ao = some x → w.heap.size ≠ x.block := fun x hx => by have := hF.2.2 x hx; omega
  have g1 : ∀ x, sa = some x → w.heap.size ≠ x.block := fun x hx => by have := hg1 x hx; omega
  have g2 : ∀ x, ia = some x → w.heap.size ≠ x.block := fun x hx => by have := hg2 x hx; omega
  have HC := Lib.hid ((((hC.set k1 k2 k3 0 (.int .i64 d.inputs)).set k1 k2 k3 1 (.slice p.an d.next.length p.cn)).set k1 k2 k3 2 (.slice p.ag d.gates.length p.cg)).set k1 k2 k3 3 (.slice p.ao d.outs.length p.co))
  have HS := Lib.hid ((((hs.set g1 0 (.int .i64 d.inputs)).set g1 1 (.slice p.an d.next.length p.cn)).set g1 2 (.slice p.ag d.gates.length p.cg)).set g1 3 (.slice p.ao d.outs.length p.co))
  have HI := Lib.hid ((((hi.set g2 0 (.int .i64 d.inputs)).set g2 1 (.slice p.an d.next.length p.cn)).set g2 2 (.slice p.ag d.gates.length p.cg)).set g2 3 (.slice p.ao d.outs.length p.co))
  have F1 := fun x hx => hF.1 x hx
  clear hC hs hi k1 k2 k3 g1 g2
  go_wp2
  refine bodyPost_ret (v := .tuple #[.agg #[.int .i64 d.inputs, .slice p.an d.next.length p.cn, .slice p.ag d.gates.length p.cg, .slice p.ao d.outs.length p.co], .slice sa st.length sc, .slice ia ins.length ic]) (by simp [results, Try.results22, go_sem, rf0, rf1, rf2, rf3]) rfl ?_
  exact ⟨d, p, _, _, _, _, st, ins, rfl, HC.out, hd, HS.out, HI.out, l1, l2, Ext.setNew (Ext.setNew (Ext.setNew (Ext.setNew EW (by simp) _) (by simp) _) (by simp) _) (by simp) _,
    ⟨fun x hx => by have := hF.1 x hx; omega, fun x hx => by have := hF.2.1 x hx; omega, fun x hx => by have := hF.2.2 x hx; omega⟩, fun x hx => by have := hg1 x hx; omega, fun x hx => by have := hg2 x hx; omega⟩
theorem stepV_len {c : Circ} {st ins : List Bool} (h : EvOk c st ins) : (stepV c st ins).1.length = c.outs.length ∧ (stepV c st ins).2.length = c.next.length := by
  rw [stepV_ok h]; simp [litsV]
theorem stepV_get {c : Circ} {st ins : List Bool} (h : EvOk c st ins) (k : Nat) : (k < c.outs.length → (stepV c st ins).1.getD k false = litV (valsOf ins st c.gates) (c.outs.getD k 0)) ∧ (k < c.next.length → (stepV c st ins).2.getD k false = litV (valsOf ins st c.gates) (c.next.getD k 0)) := by
  rw [stepV_ok h]
  constructor
  · intro hk; simp [litsV, List.getD_eq_getElem?_getD, hk]
  · intro hk; simp [litsV, List.getD_eq_getElem?_getD, hk]
set_option maxHeartbeats 8000000 in
theorem fnStep_walk (a0 : Option Addr) (len0 cap0 : Nat) (z0 : List Int) (w : World) (w0 : IsRow .u8 w a0 len0 cap0 z0) :
    Calls Try.prog 4 #[.slice a0 len0 cap0] w fun e w' => e = .returned (.bool true) ∧ Below w.heap.size w w' := by
  obtain ⟨bs, rfl, hB, hlc, hcm⟩ := bytes_of_row w0
  by_cases hl : bs.length ≤ 1048576
  · go_enter Try.func4, Try.ntmps4
    go_wp2_with fail
    refine (DrawStep_c a0 cap0 bs _ hB hl hlc hcm).mono ?_
    rintro e w1 ⟨c, p, sa, sc, ia, ic, st, ins, rfl, hC, hd, hs, hi, l1, l2, hE1, _, _, _⟩
    have ln := hd.ln
    have lo := hd.lo
    clear hd
    have HK := Lib.hid (stepV_get (c := c) (st := st) (ins := ins))
    have HLN := Lib.hid (stepV_len (c := c) (st := st) (ins := ins))
    have HNO := Lib.hid (stepV_no (c := c) (st := st) (ins := ins))
    obtain ⟨X, hX⟩ : ∃ X, X = stepV c st ins := ⟨_, rfl⟩
    rw [← hX] at HK HLN HNO
    have HX := Lib.hid hX
    clear hX
    have y := CircBox.made w1 c p 26
    go_wp2_with fail
    refine (implStep_c c p _ _ _ _ st ins _ (hC.ext (by (repeat (first | with_reducible assumption | with_reducible exact Ext.refl _ | with_reducible refine Ext.drew' ?_ | with_reducible refine Ext.drewN' ?_ _ | with_reducible refine Ext.alloc ?_ _ | (with_reducible refine Ext.setNew ?_ (by first | exact Nat.le_refl _ | (simp; done) | (simp; omega) | omega) _))))) (hs.ext (by (repeat (first | with_reducible assumption | with_reducible exact Ext.refl _ | with_reducible refine Ext.drew' ?_ | with_reducible refine Ext.drewN' ?_ _ | with_reducible refine Ext.alloc ?_ _ | (with_reducible refine Ext.setNew ?_ (by first | exact Nat.le_refl _ | (simp; done) | (simp; omega) | omega) _))))) (hi.ext (by (repeat (first | with_reducible assumption | with_reducible exact Ext.refl _ | with_reducible refine Ext.drew' ?_ | with_reducible refine Ext.drewN' ?_ _ | with_reducible refine Ext.alloc ?_ _ | (with_reducible refine Ext.setNew ?_ (by first | exact Nat.le_refl _ | (simp; done) | (simp; omega) | omega) _))))) (by omega) (by omega)).mono ?_
    rw [← HX.out]
    rintro e w2 ⟨v1, v2, rfl, hR, hE2⟩
    obtain ⟨ra, rc, rb, rd, rfl, hRA, rfl, hRB⟩ := hR.opened
    have E2 := Ext.trans (a := w1) (by (repeat (first | with_reducible assumption | with_reducible exact Ext.refl _ | with_reducible refine Ext.drew' ?_ | with_reducible refine Ext.drewN' ?_ _ | with_reducible refine Ext.alloc ?_ _ | (with_reducible refine Ext.setNew ?_ (by first | exact Nat.le_refl _ | (simp; done) | (simp; omega) | omega) _)))) hE2
    replace y := y.ext hE2
    have z2 := Blk.at w2 [.slice ra X.1.length rc, .slice rb X.2.length rd] 39 rfl
    have s1 := hR.small1
    have s2 := hR.small2
    (obtain ⟨la, a0, a1, a2, a3⟩ := (id y))
    go_wp2_with fail
    refine (specStep_c c p _ _ _ _ st ins _ ((hC.ext E2).ext (by (repeat (first | with_reducible assumption | with_reducible exact Ext.refl _ | with_reducible refine Ext.drew' ?_ | with_reducible refine Ext.drewN' ?_ _ | with_reducible refine Ext.alloc ?_ _ | (with_reducible refine Ext.setNew ?_ (by first | exact Nat.le_refl _ | (simp; done) | (simp; omega) | omega) _))))) ((hs.ext E2).ext (by (repeat (first | with_reducible assumption | with_reducible exact Ext.refl _ | with_reducible refine Ext.drew' ?_ | with_reducible refine Ext.drewN' ?_ _ | with_reducible refine Ext.alloc ?_ _ | (with_reducible refine Ext.setNew ?_ (by first | exact Nat.le_refl _ | (simp; done) | (simp; omega) | omega) _))))) ((hi.ext E2).ext (by (repeat (first | with_reducible assumption | with_reducible exact Ext.refl _ | with_reducible refine Ext.drew' ?_ | with_reducible refine Ext.drewN' ?_ _ | with_reducible refine Ext.alloc ?_ _ | (with_reducible refine Ext.setNew ?_ (by first | exact Nat.le_refl _ | (simp; done) | (simp; omega) | omega) _))))) (by omega) (by omega)).mono ?_
    rw [← HX.out]
    rintro e w3 ⟨v3, v4, rfl, hT, hE3⟩
    obtain ⟨ta, tc, tb, td, rfl, hTA, rfl, hTB⟩ := hT.opened
    have F3 := Ext.trans (a := w2) (by (repeat (first | with_reducible assumption | with_reducible exact Ext.refl _ | with_reducible refine Ext.drew' ?_ | with_reducible refine Ext.drewN' ?_ _ | with_reducible refine Ext.alloc ?_ _ | (with_reducible refine Ext.setNew ?_ (by first | exact Nat.le_refl _ | (simp; done) | (simp; omega) | omega) _)))) hE3
    have E3 := E2.trans F3
    replace y := y.ext F3
    have z3 := z2.ext hE3
    have u3 := Blk.at w3 [.slice ta X.1.length tc, .slice tb X.2.length td] 39 rfl
    have z30 := z3.cell (i := 0) rfl
    have z31 := z3.cell (i := 1) rfl
    have z3l := z3.lt
    have q1 : (X.1 == X.1) = true := by simp
    have q2 : (X.2 == X.2) = true := by simp
    have Q1 := Lib.hid q1
    have Q2 := Lib.hid q2
    clear q1 q2 a0 a1 a2 a3 la
    go_wp2_with fail
    refine (sameBools_c _ _ _ _ _ _ X.1 X.1 rfl rfl _ ((hRA.ext F3).ext (by (repeat (first | with_reducible assumption | with_reducible exact Ext.refl _ | with_reducible refine Ext.drew' ?_ | with_reducible refine Ext.drewN' ?_ _ | with_reducible refine Ext.alloc ?_ _ | (with_reducible refine Ext.setNew ?_ (by first | exact Nat.le_refl _ | (simp; done) | (simp; omega) | omega) _))))) (hTA.ext (by (repeat (first | with_reducible assumption | with_reducible exact Ext.refl _ | with_reducible refine Ext.drew' ?_ | with_reducible refine Ext.drewN' ?_ _ | with_reducible refine Ext.alloc ?_ _ | (with_reducible refine Ext.setNew ?_ (by first | exact Nat.le_refl _ | (simp; done) | (simp; omega) | omega) _))))) s1 s1).mono ?_
    rw [Q1.out]
    rintro e w4 ⟨rfl, hE4⟩
    have F4 := Ext.trans (a := w3) (by (repeat (first | with_reducible assumption | with_reducible exact Ext.refl _ | with_reducible refine Ext.drew' ?_ | with_reducible refine Ext.drewN' ?_ _ | with_reducible refine Ext.alloc ?_ _ | (with_reducible refine Ext.setNew ?_ (by first | exact Nat.le_refl _ | (simp; done) | (simp; omega) | omega) _)))) hE4
    have z4 := z3.ext F4
    have u4 := u3.ext hE4
    have z40 := z4.cell (i := 0) rfl
    have z41 := z4.cell (i := 1) rfl
    have u41 := u4.cell (i := 1) rfl
    clear z30 z31
    go_wp2_with fail
    refine (sameBools_c _ _ _ _ _ _ X.2 X.2 rfl rfl _ ((hRB.ext F3).ext F4) (hTB.ext F4) s2 s2).mono ?_
    rw [Q2.out]
    rintro e w5 ⟨rfl, hE5⟩
    have F5 := (F3.trans F4).trans hE5
    have E5 := E2.trans F5
    replace y := y.ext (F4.trans hE5)
    have z5 := z4.ext hE5
    clear z40 z41 u41 u4 u3 z2 z3 z4 F3 E3 F4
    have z50 := z5.cell (i := 0) rfl
    have z51 := z5.cell (i := 1) rfl
    (obtain ⟨la, a0, a1, a2, a3⟩ := (id y))
    have EW5 := hE1.trans E5
    by_cases ok : EvOk c st ins
    · have hlens := HLN.out ok
      have hget := HK.out ok
      have V := ok.V
      have hvl := vals_len ok
      have v22 := ev_len ok
      have vl1 := (vars_le V).2
      have OK := Lib.hid ok
      have LIT := Lib.hid V.rs
      have LO : Hid (LitsOk c.outs c.vars) := Lib.hid (litsOk_append.1 V.rs).2
      have LN : Hid (LitsOk c.next c.vars) := Lib.hid (litsOk_append.1 V.rs).1
      obtain ⟨vs, hvs⟩ : ∃ vs, vs = valsOf ins st c.gates := ⟨_, rfl⟩
      rw [← hvs] at hget hvl v22
      have HVS := Lib.hid hvs
      have HGET := Lib.hid hget
      obtain ⟨hl1, hl2⟩ := hlens
      rw [hl1] at z50
      rw [hl2] at z51
      have hRA5 : BoolsAt w5 ra X.1 := hRA.ext F5
      have hRB5 : BoolsAt w5 rb X.2 := hRB.ext F5
      have HL1 := Lib.hid hl1
      have HL2 := Lib.hid hl2
      have HVL := Lib.hid hvl
      have vpos : 1 ≤ vs.length := by omega
      clear hvs hget ok hl1 hl2 hvl
      go_wp2_with fail
      refine (implEvalVars_ok c p _ _ _ _ st ins _ (hC.ext E5) (hs.ext E5) (hi.ext E5) OK.out).mono ?_
      rw [← HVS.out]
      rintro e w6 ⟨B6, rfl, hB6, hV6, hE6⟩
      have y6 := y.ext hE6
      have z6 := z5.ext hE6
      clear a0 a1 a2 a3 la z50 z51
      have z60 := z6.cell (i := 0) rfl
      have z61 := z6.cell (i := 1) rfl
      (obtain ⟨la, a0, a1, a2, a3⟩ := (id y6))
      go_wp2_with fail
      go_loopw [9] (fun u wr => ∃ k : Nat, k ≤ c.outs.length ∧ u = .int .i64 k ∧ Ext w6 wr) (fun i _ => c.outs.length - (intOf i).toNat)
      case atStart => exact ⟨0, Nat.zero_le _, rfl, Ext.refl _⟩
      case round =>
        obtain ⟨k, hk, rfl, hE⟩ := hrel
        have hE7 : Ext w6 wr := hE
        have y7 := y6.ext hE7
        have z7 := z6.ext hE7
        clear a0 a1 a2 a3 la z60 z61
        (obtain ⟨la, a0, a1, a2, a3⟩ := (id y7))
        have z60 := z7.cell (i := 0) rfl
        have z61 := z7.cell (i := 1) rfl
        rw [HL1.out] at z60
        rw [HL2.out] at z61
        by_cases hlt : k < c.outs.length
        · obtain ⟨ob, oo, hao, hob, hcc⟩ := (((hC.ext E5).ext hE6).ext hE7).ou.get (by omega)
          rw [hao] at a3
          have q1 := hcc k hlt
          obtain ⟨l0, l1⟩ := lit_ok LO.out k hlt
          rw [← HVL.out] at l1
          have hg := (HGET.out k).1 hlt
          obtain ⟨b7, o7, hra, hb7, hc7⟩ := ((hRA5.ext hE6).ext hE7).get (by rw [HL1.out]; omega)
          have q2 := hc7 k (by rw [HL1.out]; omega)
          rw [hg] at q2
          rw [hra] at z60
          obtain ⟨l, hll⟩ : ∃ l, l = c.outs.getD k 0 := ⟨_, rfl⟩
          rw [← hll] at q1 l0 l1 q2
          have q3 := (hV6.ext hE7).cell (i := (l / 2).toNat) (u := .bool (vs.getD (l / 2).toNat false)) (by rw [List.getElem?_map, List.getD_eq_getElem?_getD, List.getElem?_eq_getElem (by omega)]; rfl)
          have htd : IntKind.i64.wrap (l.tdiv 2) = l / 2 := by rw [Int.tdiv_eq_ediv_of_nonneg l0]; exact IntWalk.i64_in _ (by omega)
          have l2 : 0 ≤ l / 2 ∧ l / 2 < (vs.length : Int) := by omega
          obtain ⟨par, hpar⟩ : ∃ par, (l.tmod 2 == 1) = par := ⟨_, rfl⟩
          have hp2 : (l % 2 == 1) = par := by rw [← hpar, Int.tmod_eq_emod_of_nonneg l0]
          obtain ⟨yv, hyv⟩ : ∃ yv, yv = vs.getD (l / 2).toNat false := ⟨_, rfl⟩
          rw [litV_read l0 hyv, hp2] at q2
          rw [← hyv] at q3
          clear hcc hc7 hll hg hpar hyv
          cases yv <;> cases par
          all_goals
            go_wp2
            go_quiet (fail)
            go_wp2
            go_roundw
            case rel => exact ⟨k + 1, by omega, by go_num, hE.trans (by (repeat (first | with_reducible assumption | with_reducible exact Ext.refl _ | with_reducible refine Ext.drew' ?_ | with_reducible refine Ext.drewN' ?_ _ | with_reducible refine Ext.alloc ?_ _ | (with_reducible refine Ext.setNew ?_ (by first | exact Nat.le_refl _ | (simp; done) | (simp; omega) | omega) _))))⟩
            case measure => simp [intOf]; omega
        · go_wp2_with fail
          obtain ⟨wq, hwq⟩ : ∃ wq, wq = wr := ⟨_, rfl⟩
          have hE6b : Ext w6 wq := by rw [hwq]; exact hE7
          rw [← hwq]
          have y6q := y6.ext hE6b
          have z6q := z6.ext hE6b
          clear a0 a1 a2 a3 la z60 z61
          have z60 := z6q.cell (i := 0) rfl
          have z61 := z6q.cell (i := 1) rfl
          (obtain ⟨la, a0, a1, a2, a3⟩ := (id y6q))
          clear hwq y7 z7 hE hE7
          go_loopw [10] (fun u wr => ∃ k : Nat, k ≤ c.next.length ∧ u = .int .i64 k ∧ Ext wq wr) (fun i _ => c.next.length - (intOf i).toNat)
          case atStart => exact ⟨0, Nat.zero_le _, rfl, Ext.refl _⟩
          case round =>
            obtain ⟨k, hk, rfl, hE⟩ := hrel
            have hE7 : Ext w6 wr := hE6b.trans hE
            have y7 := y6.ext hE7
            have z7 := z6.ext hE7
            clear a0 a1 a2 a3 la z60 z61
            (obtain ⟨la, a0, a1, a2, a3⟩ := (id y7))
            have z60 := z7.cell (i := 0) rfl
            have z61 := z7.cell (i := 1) rfl
            rw [HL1.out] at z60
            rw [HL2.out] at z61
            by_cases hlt : k < c.next.length
            · obtain ⟨ob, oo, hao, hob, hcc⟩ := (((hC.ext E5).ext hE6).ext hE7).nx.get (by omega)
              rw [hao] at a1
              have q1 := hcc k hlt
              obtain ⟨l0, l1⟩ := lit_ok LN.out k hlt
              rw [← HVL.out] at l1
              have hg := (HGET.out k).2 hlt
              obtain ⟨b7, o7, hra, hb7, hc7⟩ := ((hRB5.ext hE6).ext hE7).get (by rw [HL2.out]; omega)
              have q2 := hc7 k (by rw [HL2.out]; omega)
              rw [hg] at q2
              rw [hra] at z61
              obtain ⟨l, hll⟩ : ∃ l, l = c.next.getD k 0 := ⟨_, rfl⟩
              rw [← hll] at q1 l0 l1 q2
              have q3 := (hV6.ext hE7).cell (i := (l / 2).toNat) (u := .bool (vs.getD (l / 2).toNat false)) (by rw [List.getElem?_map, List.getD_eq_getElem?_getD, List.getElem?_eq_getElem (by omega)]; rfl)
              have htd : IntKind.i64.wrap (l.tdiv 2) = l / 2 := by rw [Int.tdiv_eq_ediv_of_nonneg l0]; exact IntWalk.i64_in _ (by omega)
              have l2 : 0 ≤ l / 2 ∧ l / 2 < (vs.length : Int) := by omega
              obtain ⟨par, hpar⟩ : ∃ par, (l.tmod 2 == 1) = par := ⟨_, rfl⟩
              have hp2 : (l % 2 == 1) = par := by rw [← hpar, Int.tmod_eq_emod_of_nonneg l0]
              obtain ⟨yv, hyv⟩ : ∃ yv, yv = vs.getD (l / 2).toNat false := ⟨_, rfl⟩
              rw [litV_read l0 hyv, hp2] at q2
              rw [← hyv] at q3
              clear hcc hc7 hll hg hpar hyv
              cases yv <;> cases par
              all_goals
                go_wp2
                go_quiet (fail)
                go_wp2
                go_roundw
                case rel => exact ⟨k + 1, by omega, by go_num, hE.trans (by (repeat (first | with_reducible assumption | with_reducible exact Ext.refl _ | with_reducible refine Ext.drew' ?_ | with_reducible refine Ext.drewN' ?_ _ | with_reducible refine Ext.alloc ?_ _ | (with_reducible refine Ext.setNew ?_ (by first | exact Nat.le_refl _ | (simp; done) | (simp; omega) | omega) _))))⟩
                case measure => simp [intOf]; omega
            · go_wp2_with fail
              go_wp2
              go_ret
              exact ⟨rfl, ((EW5.trans hE6).trans hE7)⟩
    · have hno := HNO.out ok
      have OK := Lib.hid ok
      have x1 : X.1.length = 0 := by rw [hno]; rfl
      have x2 : X.2.length = 0 := by rw [hno]; rfl
      have X1 := Lib.hid x1
      have X2 := Lib.hid x2
      clear z50 z51 ok hno x1 x2
      go_wp2_with fail
      refine (implEvalVars_no c p _ _ _ _ st ins _ (hC.ext E5) (by omega) (by omega) OK.out).mono ?_
      rintro e w6 ⟨rfl, hE6⟩
      have z6 := z5.ext hE6
      have z60 := z6.cell (i := 0) rfl
      have z61 := z6.cell (i := 1) rfl
      rw [X1.out] at z60
      rw [X2.out] at z61
      go_wp2_with fail
      refine (alive_c _).mono ?_
      rintro e w7 ⟨rfl, hE7⟩
      go_wp2
      go_ret
      exact ⟨rfl, (EW5.trans hE6).trans hE7⟩
  · go_enter Try.func4, Try.ntmps4
    go_wp2
    go_ret
    exact ⟨rfl, Ext.refl _⟩
theorem fnStep_lifted (os : Os) (started : os.Started) (H : Type) (enc : TypeId × Value → H) :
    ReturnsInHanded {} Try.checked os 4 .any (Rows.fnStepSpec.pre6 enc Try.prog Try.f4 Rows.fnStepRow.domain false) (Rows.fnStepSpec.post enc Try.prog Try.f4 false true false false) := by
  refine returnsInHanded_of_change (C := Try.checked) own started (by kernel_rfl) Try.func4
    (ChangeSpec.witness6 (enc := enc) (C := Try.checked) false ⟨#[], #[.slice none 0 0], []⟩ 8 (by kernel_rfl) (by kernel_rfl) (by kernel_rfl) (by kernel_rfl)) ?_
  intro W base args ds gs before hval0 hW hcnd _
  have hval : ∀ (j : Nat) t v, Try.f4.params[j]? = some t → args[j]? = some v → Value.okWide Try.prog W .any base t v := hval0
  have hW' := hW
  obtain ⟨p, q, hA0, hV, rfl, hfz, hnd⟩ := hW
  have hA : DataW.TrodAll enc Try.prog W 0 (fun _ => true) true Try.f4.params.toList args.toList ds p := hA0
  rw [Try.params4] at hA hval
  obtain ⟨v0, vs0, d0, ds0, p0, q0, hargs, rfl, rfl, h0, r0⟩ := trodAll_cons hA
  obtain ⟨rfl, rfl, rfl⟩ := trodAll_nil r0
  obtain rfl : args = #[v0] := by cases args; simp_all
  obtain ⟨rfl, rfl⟩ := trodVars_none hV
  obtain ⟨a0, len0, cap0, rfl⟩ := okWide_slice Try.underlying22 (hval 0 22 v0 rfl rfl)
  have k0 := h0
  have lt0 : ∀ x ∈ p0, x.block < W.heap.size := by obtain ⟨m, hm⟩ := k0; exact DataW.trod_lt m _ _ _ hm
  obtain ⟨z0, w0⟩ : ∃ zs, IsRow .u8 W a0 len0 cap0 zs := by
    obtain ⟨fuel, hf⟩ := h0
    rcases open_ints Try.underlying22 Try.underlying5 (by kernel_rfl) hf with ⟨hcs, _⟩ | ⟨x, l, c, zs, hcs, _, hl, hm, hz, _, hcell, hwz⟩
    · simp [Value.cells] at hcs
      obtain ⟨rfl, rfl, rfl⟩ := hcs
      exact ⟨[], .inl ⟨rfl, rfl, rfl, rfl⟩⟩
    · simp [Value.cells] at hcs
      obtain ⟨rfl, rfl, rfl⟩ := hcs
      exact ⟨zs, .inr ⟨_, rfl, hl, hm, by simpa using hz, hcell, hwz⟩⟩
  clear hA0 hval0
  refine (fnStep_walk a0 len0 cap0 z0 W w0).mono fun e W' ⟨he, bel⟩ => ?_
  subst he
  exact ⟨_, rfl, _, _, _, [], _, [], hW', trodAll_mk1 (shut_bool Try.underlying4 _), (trodAll_cons_mk (Below.trod laidOut (by kernel_rfl) (of_decide_eq_true (by kernel_rfl)) k0 bel lt0) trodAll_mk0), rfl, bel.frame _, fun h => by cases h⟩
theorem fnStep_over : Rows.fnStepRow.holds Try.pinned (OpenSpec.ofChange Rows.fnStepSpec) :=
  OpenClaim.holds_of_wide 4 Try.f4 rfl rfl rfl rfl rfl rfl rfl ⟨rfl, rfl, rfl, rfl, rfl⟩ rfl rfl rfl rfl rfl (by kernel_rfl) Try.func4 (by kernel_rfl)
    (of_decide_eq_true (by kernel_rfl)) (by unfold Func.isWrapper; first | (rw [if_pos (by decide +kernel)]; kernel_rfl) | (rw [if_neg (by decide +kernel)]; exact ⟨rfl, rfl⟩))
    (fun os started H enc _ => fnStep_lifted os started H enc)
theorem fnStep_holds : Rows.FnStepSaid := fnStep_over
end Go.Proofs.Ytlkfhcigpkfhnaa
