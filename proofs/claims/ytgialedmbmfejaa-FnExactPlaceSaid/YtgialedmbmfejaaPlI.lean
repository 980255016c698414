/- Contracts: the program's placer. -/
import Derived.Test.YtgialedmbmfejaaPlS
import Derived.Test.YtgialedmbmfejaaWlI
namespace Go.Proofs.Ytgialedmbmfejaa
open Go.RowKit
set_option maxRecDepth 100000
set_option linter.unusedVariables false
set_option linter.unusedSimpArgs false
set_option maxHeartbeats 8000000 in
theorem exchanged_c (a : Option Addr) (cap n : Nat) (place : List Int) (hn : place.length = n) (i : Nat) (t : Nat) (w : World) (hp : IntsAt w a place) (hi : i < n) (hl : n ≤ 100) (ht : t ≤ 100) :
    Calls Try.prog 65 #[.slice a n cap, .int .i64 i, .int .i64 t] w (GiveNL w (tryV place i t)) := by
  have OD : w.ownsRow w.heap.size 3 1 (.slice none 0 0) 0 [] := ownsRow_nil
  have hr := hp.row
  have HTA := Lib.hid (tr_all place i t)
  have HOS : Hid (∀ j, j < place.length → (over (trF place i t) place j).set j (trF place i t j) = over (trF place i t) place (j + 1)) := Lib.hid (fun j hj => over_set (trF place i t) place j hj)
  have HSA : Hid (∀ j, j < place.length → trF place i t j = place.getD j 0 → over (trF place i t) place (j + 1) = over (trF place i t) place j) := Lib.hid (fun j hj e => over_same hj e)
  have HOG : Hid (∀ j, j < place.length → (over (trF place i t) place j)[j]? = some (place.getD j 0)) := Lib.hid (fun j hj => over_get hj)
  have HTF : Hid (∀ j, trF place i t j = if place.getD j 0 = (t : Int) then place.getD i 0 else place.getD j 0) := Lib.hid (fun j => rfl)
  have HOL : Hid (∀ j, j ≤ place.length → (over (trF place i t) place j).length = n) := Lib.hid (fun j hj => by rw [over_length _ _ _ hj, hn])
  have HN := Lib.hid hn
  have hin : (i : Int) < (n : Int) := by omega
  go_enter Try.func65, Try.ntmps65
  go_wp2_with (at_builtin; refine wpList_app tyInts OD hr (by rw [List.length_map, Nat.mul_one, hn]) (oneCell_ints place) (by first | omega | (simp; done) | (simp; omega)) (by first | omega | (simp; done) | (simp; omega)) rfl rfl rfl rfl ?_; intro v9 w9 o9 g9 m9)
  have O9 : OwnInts w9 w.heap.size 3 v9 place := by
    have h := o9
    rw [Nat.zero_add, List.nil_append] at h
    unfold OwnInts
    rw [hn]; exact h
  have E9 : Ext w w9 := ext_grown (Ext.refl w) g9 (fun q hq => by cases hq)
  have hi2 : i < place.length := by omega
  have hl2 : place.length ≤ 100 := by omega
  have hii : (i : Int) < (place.length : Int) := by omega
  obtain ⟨va, vc, rfl, _, _⟩ := own_sl O9
  obtain ⟨g, rfl, hg, hgl⟩ := ownsRow_block O9 (by omega)
  have O0 : w9.ownsRow w.heap.size 3 1 (.slice (some ⟨g, 0, none⟩) place.length vc) place.length ((over (trF place i t) place 0).map (Value.int .i64)) := by rw [over_zero]; exact O9
  clear o9 g9 m9 OD hr hn O9
  go_simp
  go_wp2_with fail
  go_loopw [13] (fun u8 wr => ∃ k : Nat, k ≤ place.length ∧ u8 = .int .i64 k ∧ wr.ownsRow w.heap.size 3 1 (.slice (some ⟨g, 0, none⟩) place.length vc) place.length ((over (trF place i t) place k).map (Value.int .i64)) ∧ Ext w wr) (fun v _ => place.length - (intOf v).toNat)
  case atStart => exact ⟨0, Nat.zero_le _, rfl, O0, E9⟩
  case round =>
    clear O0 E9
    obtain ⟨k, hk, rfl, hO, hE⟩ := hrel
    obtain ⟨w2, rfl⟩ : ∃ z : World, z = wr := ⟨_, rfl⟩
    have hf := fun j => ownsRow_frozen hO j
    have hgb := (World.ownsRow.lt hO g rfl).2
    by_cases hlt : k < place.length
    · have q1 : w2.cell? ⟨g, k, none⟩ = some (.int .i64 (place.getD k 0)) := ownsRow_cell hO (j := k) (by rw [List.getElem?_map, HOG.out k hlt]; rfl)
      obtain ⟨b5, o5, rfl, hb5, hc5⟩ := (hp.ext hE).get (by omega)
      have q5 := hc5 i hi2
      have h1 := HOS.out k hlt
      have h2 := HSA.out k hlt
      have h3 := HTF.out k
      have h4 := HOL.out k hk
      have h5 := HN.out
      obtain ⟨x, hx⟩ : ∃ x, x = place.getD k 0 := ⟨_, rfl⟩
      obtain ⟨z, hz⟩ : ∃ z, z = place.getD i 0 := ⟨_, rfl⟩
      rw [← hx] at q1 h2 h3
      rw [← hz] at q5 h3
      by_cases he : x = (t : Int)
      · rw [if_pos he] at h3
        rw [h3] at h1
        have O2 := ownsRow_setAt hO k (by rw [List.length_map]; omega) (.int .i64 z)
        rw [← List.map_set, h1] at O2
        have HO2 := Lib.hid O2
        have he2 : (x == (t : Int)) = true := by simp [he]
        clear hc5 hx hz h1 h2 h3 h4 h5 O2 he hO
        go_wp2_with fail
        go_roundw
        case rel => exact ⟨k + 1, by omega, by go_num, HO2.out, Ext.setNew hE hg _⟩
        case measure => simp [intOf]; omega
      · rw [if_neg he] at h3
        have h6 := h2 h3
        have HO2 : Hid (w2.ownsRow w.heap.size 3 1 (.slice (some ⟨g, 0, none⟩) place.length vc) place.length ((over (trF place i t) place (k + 1)).map (Value.int .i64))) := Lib.hid (by rw [h6]; exact hO)
        have he2 : (x == (t : Int)) = false := by simp [he]
        clear hc5 hx hz h1 h2 h3 h4 h5 h6 he hO
        go_wp2_with fail
        go_roundw
        case rel => exact ⟨k + 1, by omega, by go_num, HO2.out, hE⟩
        case measure => simp [intOf]; omega
    · have hk2 : k = place.length := by omega
      have h4 := HOL.out k hk
      have h5 := HN.out
      rw [hk2] at hO h4
      have O2 := ownsRow_setAt hO i (by rw [List.length_map]; omega) (.int .i64 (t : Int))
      rw [← List.map_set, HTA.out] at O2
      have HO2 := Lib.hid O2
      have q1 : ∃ u, w2.cell? ⟨g, i, none⟩ = some (.int .i64 u) := by
        have hi3 : i < (over (trF place i t) place place.length).length := by omega
        exact ⟨_, ownsRow_cell hO (j := i) (by rw [List.getElem?_map, List.getElem?_eq_getElem hi3]; rfl)⟩
      obtain ⟨u, q1⟩ := q1
      clear h4 h5 O2 hk2 hO
      go_wp2_with fail
      go_ret
      exact ⟨_, rfl, by unfold OwnInts; rw [tryV_length]; exact HO2.out, Ext.setNew hE hg _⟩
set_option maxHeartbeats 8000000 in
theorem cost_c (B : Nat) (na : Option Addr) (nc : Nat) (NS : List NetT) (F : List Nat) (a : Option Addr) (cap n : Nat) (ps : List Int) (hn : ps.length = n) (w : World) (hB : Blk w B 87 [.slice na NS.length nc]) (hN : NstN w (.slice na NS.length nc) NS F) (hp : IntsAt w a ps) (hl : n ≤ 17) (hn30 : NS.length ≤ 30) (hno : ∀ x ∈ NS, NetOk ps x) :
    Calls Try.prog 62 #[.slice a n cap, .pointer (some ⟨B, 0, none⟩)] w fun e w' => e = .returned (.int .i64 (sumN NS ps)) ∧ Ext w w' := by
  subst hn
  have HB := Lib.hid (sumN_bound NS (fun x hx => (hno x hx).len))
  have HNO := Lib.hid hno
  have hl17 : ps.length ≤ 17 := hl
  obtain ⟨D, hD⟩ : ∃ D, D = sumN NS ps := ⟨_, rfl⟩
  rw [← hD]
  have HD := Lib.hid hD
  have HN := Lib.hid hN
  have x0 := hB.cell (i := 0) rfl
  have xl := hB.lt
  clear hno hD hN
  go_enter Try.func62, Try.ntmps62
  go_wp2_with fail
  go_loopw [4, 9] (fun u5 u14 wr => ∃ i : Nat, i ≤ NS.length ∧ u14 = .int .i64 i ∧ u5 = .int .i64 (sumN (NS.take i) ps) ∧ Ext w wr) (fun _ v _ => NS.length - (intOf v).toNat)
  case atStart => exact ⟨0, Nat.zero_le _, rfl, rfl, Ext.refl _⟩
  case round =>
    clear x0 xl
    obtain ⟨i, hi, rfl, rfl, hE⟩ := hrel
    obtain ⟨w3, rfl⟩ : ∃ z : World, z = wr := ⟨_, rfl⟩
    have E13 := hE
    by_cases hlt : i < NS.length
    · obtain ⟨g, rfl, hg, _, hcells⟩ := Nst.getN goodNet (HN.out.ext goodNet hE) (by omega)
      obtain ⟨ds, F1, ⟨v1, v2, rfl, o1, o2, rfl⟩, qq, _⟩ := hcells i net0 hlt
      have r0 := qq 0 _ (by omega) rfl
      have r1 := qq 1 _ (by omega) rfl
      have r2 := qq 2 _ (by omega) rfl
      have r3 := qq 3 _ (by omega) rfl
      have r4 := qq 4 _ (by omega) rfl
      rw [Nat.add_zero] at r0
      have hK := HNO.out _ (getN_mem (d := net0) hlt)
      have hsn : sumN (NS.take (i + 1)) ps = sumN (NS.take i) ps + lenN (NS.getD i net0) ps := by rw [take_snocD NS i net0 hlt, sumN_snoc]
      have hbd := HB.out i
      obtain ⟨x, hx⟩ : ∃ x, x = NS.getD i net0 := ⟨_, rfl⟩
      rw [← hx] at r0 r1 r2 o1 o2 hK hsn
      obtain ⟨sa, sc, rfl, hI1, _⟩ := o1.opened
      obtain ⟨qa, qc, rfl, hI2, _⟩ := o2.opened
      have hlen := hK.len
      obtain ⟨S, hS⟩ : ∃ S, S = sumN (NS.take i) ps := ⟨_, rfl⟩
      rw [← hS] at hsn hbd ⊢
      have hcl := fun W h1 h2 h3 => length_c x sa qa sc qc a cap ps W h1 h2 h3 hK.c0 hK.c1 hK.sk hK.l1 hK.l2 (by omega) hK.inF
      obtain ⟨d, hd⟩ : ∃ d, d = lenN x ps := ⟨_, rfl⟩
      rw [← hd] at hsn hlen hcl
      have HCL := Lib.hid hcl
      have HSN := Lib.hid hsn
      have HI1 := Lib.hid hI1
      have HI2 := Lib.hid hI2
      have HP3 := Lib.hid (hp.ext E13)
      obtain ⟨d0, d1⟩ := hlen
      obtain ⟨t0, t1⟩ := hbd
      obtain ⟨xn, xc, xt, xs, xp⟩ := x
      dsimp only at r0 r1 r2 r3 r4 HCL HI1 HI2
      clear hx hS hd hK hcl hsn hI1 hI2 o1 o2 qq hcells
      go_wp2_with fail
      refine (HCL.out _ (HI1.out.ext (by (repeat (first | with_reducible assumption | with_reducible exact Ext.refl _ | with_reducible refine Ext.drew' ?_ | with_reducible refine Ext.drewN' ?_ _ | with_reducible refine Ext.alloc ?_ _ | (with_reducible refine Ext.setNew ?_ (by first | exact Nat.le_refl _ | (simp; done) | (simp; omega) | omega) _))))) (HI2.out.ext (by (repeat (first | with_reducible assumption | with_reducible exact Ext.refl _ | with_reducible refine Ext.drew' ?_ | with_reducible refine Ext.drewN' ?_ _ | with_reducible refine Ext.alloc ?_ _ | (with_reducible refine Ext.setNew ?_ (by first | exact Nat.le_refl _ | (simp; done) | (simp; omega) | omega) _))))) (HP3.out.ext (by (repeat (first | with_reducible assumption | with_reducible exact Ext.refl _ | with_reducible refine Ext.drew' ?_ | with_reducible refine Ext.drewN' ?_ _ | with_reducible refine Ext.alloc ?_ _ | (with_reducible refine Ext.setNew ?_ (by first | exact Nat.le_refl _ | (simp; done) | (simp; omega) | omega) _)))))).mono ?_
      rintro e w4 ⟨rfl, hE4⟩
      have E4 : Ext w3 w4 := Ext.trans (by (repeat (first | with_reducible assumption | with_reducible exact Ext.refl _ | with_reducible refine Ext.drew' ?_ | with_reducible refine Ext.drewN' ?_ _ | with_reducible refine Ext.alloc ?_ _ | (with_reducible refine Ext.setNew ?_ (by first | exact Nat.le_refl _ | (simp; done) | (simp; omega) | omega) _)))) hE4
      clear r0 r1 r2 r3 r4 hE4
      go_wp2_with fail
      go_roundw
      case rel => exact ⟨i + 1, by omega, by go_num, by rw [HSN.out], hE.trans E4⟩
      case measure => simp [intOf]; omega
    · have hi2 : i = NS.length := by omega
      rw [hi2, List.take_length, ← HD.out]
      go_wp2_with fail
      go_ret
      exact ⟨rfl, hE⟩
set_option maxHeartbeats 16000000 in
theorem implPlace_c (c : Circ) (p : Where3) (w : World) (hc : CircAt w c p) :
    Calls Try.prog 14 #[.agg #[.int .i64 c.inputs, .slice p.an c.next.length p.cn, .slice p.ag c.gates.length p.cg, .slice p.ao c.outs.length p.co]] w (GiveNL w (placeV c)) := by
  have E0 : Ext w (w.alloc (.cells #[.int .i64 c.inputs, .slice p.an c.next.length p.cn, .slice p.ag c.gates.length p.cg, .slice p.ao c.outs.length p.co] 26)) := (Ext.refl w).alloc _
  have y := CircBox.made w c p 26
  have HW : Hid (placeV c = if validB c then (plK c (cellsN c) 3).1 else []) := Lib.hid rfl
  obtain ⟨D, hD⟩ : ∃ D, D = placeV c := ⟨_, rfl⟩
  rw [← hD] at HW ⊢
  clear hD
  (obtain ⟨lb, b0, b1, b2, b3⟩ := (id y))
  go_enter Try.func14, Try.ntmps14
  go_wp2_with fail
  refine (implCircuitValid_c c p _ (hc.ext E0)).mono ?_
  rintro e w1 ⟨rfl, hE1⟩
  clear b0 b1 b2 b3 lb
  have y1 := y.ext hE1
  have E1 := E0.trans hE1
  cases hv : validB c
  · have hd : D = [] := by rw [HW.out, hv]; rfl
    subst hd
    go_wp2_with fail
    go_ret
    exact ⟨_, rfl, ownsRow_nil, E1⟩
  · have V := validB_iff.1 hv
    have hd : D = (plK c (cellsN c) 3).1 := by rw [HW.out, hv]; rfl
    have hcv : cellsV c = cellsN c := by unfold cellsV; rw [hv]; rfl
    have hsm := cells_sm c
    rw [hcv] at hsm
    have hl := hsm.1
    have hlg := V.lg
    have hln := V.ln
    have hi4 := V.i4
    have hv1 : c.vars = c.first + c.gates.length := rfl
    have hf1 : c.first = 1 + c.inputs + c.next.length := rfl
    have hv30 : (c.vars - 1).toNat ≤ 30 := by omega
    have HNO := Lib.hid (fun place (h1 : InF place) (h2 : place.length = (cellsN c).length) => nets_ok V h1 h2 (k := (c.vars - 1).toNat) (by omega))
    have HSC : Hid (∀ place, sumN (netsK c (cellsN c) (c.vars - 1).toNat) place = costV c (cellsN c) place) := Lib.hid (fun place => sum_cost V place _)
    have hnl := netsK_le c (cellsN c) (c.vars - 1).toNat
    have hcall := netsOf_c w.heap.size c p w1 y1 (hc.ext E1) V
    have hcC := implCells_c c p
    rw [hcv] at hcC
    obtain ⟨NS, hNS⟩ : ∃ NS, NS = netsK c (cellsN c) (c.vars - 1).toNat := ⟨_, rfl⟩
    rw [← hNS] at HNO HSC hnl hcall
    have hn30 : NS.length ≤ 30 := by omega
    obtain ⟨cs, hcs⟩ : ∃ cs, cs = cellsN c := ⟨_, rfl⟩
    rw [← hcs] at hl hd HNO HSC hcC
    have HCC := Lib.hid hcC
    have HIN := Lib.hid (plK_inv (c := c) (cs := cs) (by omega))
    have HK0 := Lib.hid (fun k => plK_zero c cs k)
    have HK1 := Lib.hid (plK_succ c cs)
    obtain ⟨pk, hpk⟩ : ∃ pk, pk = plK c cs := ⟨_, rfl⟩
    rw [← hpk] at HIN HK0 HK1 hd
    obtain ⟨m, hm⟩ : ∃ m, m = costV c cs ((List.range cs.length).map (fun (i : Nat) => (i : Int))) := ⟨_, rfl⟩
    rw [← hm] at HIN
    have HD := Lib.hid hd
    clear HW V hd hcv hsm hlg hln hi4 hv1 hf1 hv30 hnl hcC hNS hcs hpk hm hv
    go_wp2_with fail
    refine hcall.mono ?_
    rintro e w2 ⟨v, F, rfl, hN, _, hE2⟩
    obtain ⟨na, nc, rfl, _⟩ := hN.sl
    have E12 := E1.trans hE2
    have EN := (Ext.refl w2).alloc (.cells #[.slice na NS.length nc] 87)
    have BN := Blk.at w2 [.slice na NS.length nc] 87 rfl
    have HN3 := hN.ext goodNet EN
    have y2 := (y1.ext hE2).ext EN
    have C2 := (hc.ext E12).ext EN
    clear hcall hN y1
    (obtain ⟨lb, b0, b1, b2, b3⟩ := (id y2))
    go_wp2_with fail
    obtain ⟨w3, hw3⟩ : ∃ x : World, x = w2.alloc (.cells #[.slice na NS.length nc] 87) := ⟨_, rfl⟩
    rw [← hw3] at EN BN HN3 y2 C2
    rw [← hw3]
    have s3 : w.heap.size ≤ w3.heap.size := (E12.trans EN).size
    have HLC : Hid (∀ W pa pc place, Ext w3 W → IntsAt W pa place → place.length = cs.length → InF place → Calls Try.prog 62 #[.slice pa cs.length pc, .pointer (some ⟨w2.heap.size, 0, none⟩)] W fun e w' => e = .returned (.int .i64 (costV c cs place)) ∧ Ext W w') := Lib.hid (fun W pa pc place hX h1 h2 h3 => by
      have := cost_c w2.heap.size na nc NS F pa pc cs.length place h2 W (BN.ext hX) (HN3.ext goodNet hX) h1 hl hn30 (HNO.out place h3 h2)
      rw [HSC.out] at this
      exact this)
    clear hw3 b0 b1 b2 b3 lb y2 HNO HSC BN HN3
    refine (HCC.out w3 C2).mono ?_
    rintro e w4 ⟨v, F2, rfl, hN4, _, hE4⟩
    obtain ⟨ca, cc, rfl, _⟩ := hN4.sl
    clear hN4 HCC
    go_wp2_with fail
    go_loopw [5, 20] (fun u5 u6 wr => ∃ k : Nat, k ≤ cs.length ∧ u6 = .int .i64 k ∧ OwnInts wr w3.heap.size 3 u5 (rangeI k) ∧ Ext w3 wr) (fun _ v _ => cs.length - (intOf v).toNat)
    case atStart => exact ⟨0, Nat.zero_le _, rfl, ownsRow_nil, hE4⟩
    case round =>
      obtain ⟨k, hk, rfl, hO, hE⟩ := hrel
      obtain ⟨w5, rfl⟩ : ∃ z : World, z = wr := ⟨_, rfl⟩
      have hrs := rangeI_succ k
      have hrl := rangeI_length k
      by_cases hlt : k < cs.length
      · obtain ⟨S, hS⟩ : ∃ S, S = rangeI k := ⟨_, rfl⟩
        rw [← hS] at hO hrs hrl
        have hSl : S.length ≤ 17 := by omega
        have HRS := Lib.hid hrs
        have hsz := hE.size
        clear hS hrl hrs
        go_wp2_with (at_builtin; refine wpList_app tyInts (ownsRow_ext hO (by (repeat (first | with_reducible assumption | with_reducible exact Ext.refl _ | with_reducible refine Ext.drew' ?_ | with_reducible refine Ext.drewN' ?_ _ | with_reducible refine Ext.alloc ?_ _ | (with_reducible refine Ext.setNew ?_ (by first | exact Nat.le_refl _ | (simp; done) | (simp; omega) | omega) _))))) (rowNew _ _ _ (by simp)) rfl (by simp [Value.oneCell']) (by omega) (by simp; omega) rfl rfl rfl rfl ?_; intro v9 w9 o9 g9 m9)
        have E9 : Ext w3 w9 := ext_grown (w1 := _) (Ext.trans hE (by (repeat (first | with_reducible assumption | with_reducible exact Ext.refl _ | with_reducible refine Ext.drew' ?_ | with_reducible refine Ext.drewN' ?_ _ | with_reducible refine Ext.alloc ?_ _ | (with_reducible refine Ext.setNew ?_ (by first | exact Nat.le_refl _ | (simp; done) | (simp; omega) | omega) _))))) g9 (fun q hq => (own_lo hO q hq).1)
        have O9 : OwnInts w9 w3.heap.size 3 v9 (S ++ [(k : Int)]) := own_app (xs := S) (ys := [(k : Int)]) rfl rfl o9
        go_roundw
        case rel => exact ⟨k + 1, by omega, by go_num, by rw [HRS.out]; exact O9, E9⟩
        case measure => simp [intOf]; omega
      · have hk2 : k = cs.length := by omega
        have hnn : ¬ ((k : Int) < (cs.length : Int)) := by omega
        rw [hk2] at hO
        obtain ⟨pa, pc, rfl⟩ := own_len hO (n := cs.length) (rangeI_length _)
        have hr0 := HK0.out 0 rfl
        have hI0 := HIN.out 0
        rw [← hr0.1] at hO
        have hcall := HLC.out w5 pa pc (pk 0).1 hE (own_at hO) hI0.len hI0.ok.1
        rw [← hI0.cost] at hcall
        clear hrs hrl hk2 hr0 hI0
        go_wp2_with fail
        refine hcall.mono ?_
        rintro e w6 ⟨rfl, hE6⟩
        have O3 := ownsRow_ext hO hE6
        have E3 := hE.trans hE6
        clear hcall hO hE hE6 hlt hnn
        go_wp2_with fail
        go_loopw [5, 7, 31] (fun u5 u7 u8 wr => ∃ (k : Nat) (pa : Option Addr) (pc : Nat), k ≤ 3 ∧ u8 = .int .i64 k ∧ u5 = .slice pa cs.length pc ∧ u7 = .int .i64 (pk k).2 ∧ OwnInts wr w3.heap.size 3 (.slice pa cs.length pc) (pk k).1 ∧ Ext w3 wr) (fun _ _ v _ => 3 - (intOf v).toNat)
        case atStart => exact ⟨0, pa, pc, Nat.zero_le _, rfl, rfl, rfl, O3, E3⟩
        case round =>
          clear O3 E3
          obtain ⟨k, pa, pc, hk, rfl, rfl, rfl, hO, hE⟩ := hrel
          by_cases hlt : k < 3
          · have hk3i : (k : Int) < 3 := by omega
            have hI0 := HIN.out k
            have hks := HK1.out k
            obtain ⟨s0, hs0⟩ : ∃ s, s = pk k := ⟨_, rfl⟩
            rw [← hs0] at hI0 hks hO ⊢
            have HI0 := Lib.hid hI0
            have HKS := Lib.hid hks
            clear hs0 hI0 hks
            go_wp2_with fail
            go_loopw [5, 7, 35] (fun u5 u7 u9 wr => ∃ (j : Nat) (pa : Option Addr) (pc : Nat), j ≤ cs.length ∧ u9 = .int .i64 j ∧ u5 = .slice pa cs.length pc ∧ u7 = .int .i64 (plSweep c cs j s0).2 ∧ OwnInts wr w3.heap.size 3 (.slice pa cs.length pc) (plSweep c cs j s0).1 ∧ Ext w3 wr) (fun _ _ v _ => cs.length - (intOf v).toNat)
            case atStart => exact ⟨0, pa, pc, Nat.zero_le _, rfl, rfl, rfl, hO, hE⟩
            case round =>
              clear hO hE
              obtain ⟨j, pa, pc, hj, rfl, rfl, rfl, hO, hE⟩ := hrel
              by_cases hlt2 : j < cs.length
              · have hj3i : (j : Int) < (cs.length : Int) := by omega
                have hI1 := plSweep_inv HI0.out hj
                have hks := plSweep_succ c cs j s0
                obtain ⟨s1, hs1⟩ : ∃ s, s = plSweep c cs j s0 := ⟨_, rfl⟩
                rw [← hs1] at hI1 hks hO ⊢
                have HI1 := Lib.hid hI1
                have HKS2 := Lib.hid hks
                clear hs1 hI1 hks
                go_wp2_with fail
                go_loopw [5, 7, 38] (fun u5 u7 u10 wr => ∃ (t : Nat) (pa : Option Addr) (pc : Nat), t ≤ 25 ∧ u10 = .int .i64 t ∧ u5 = .slice pa cs.length pc ∧ u7 = .int .i64 (plCell c cs t s1 j).2 ∧ OwnInts wr w3.heap.size 3 (.slice pa cs.length pc) (plCell c cs t s1 j).1 ∧ Ext w3 wr) (fun _ _ v _ => 25 - (intOf v).toNat)
                case atStart => exact ⟨0, pa, pc, Nat.zero_le _, rfl, rfl, rfl, hO, hE⟩
                case round =>
                  clear hO hE
                  obtain ⟨t, pa, pc, ht, rfl, rfl, rfl, hO, hE⟩ := hrel
                  obtain ⟨w5, rfl⟩ : ∃ z : World, z = wr := ⟨_, rfl⟩
                  by_cases hlt3 : t < 25
                  · have ht3i : (t : Int) < 25 := by omega
                    have hI2 := plCell_inv HI1.out hlt2 ht
                    have hks : plCell c cs (t + 1) s1 j = if costV c cs (tryV (plCell c cs t s1 j).1 j t) < (plCell c cs t s1 j).2 then (tryV (plCell c cs t s1 j).1 j t, costV c cs (tryV (plCell c cs t s1 j).1 j t)) else plCell c cs t s1 j := plCell_succ c cs t s1 j
                    obtain ⟨s2, hs2⟩ : ∃ s, s = plCell c cs t s1 j := ⟨_, rfl⟩
                    rw [← hs2] at hI2 hks hO ⊢
                    have htl : (tryV s2.1 j t).length = cs.length := by rw [tryV_length]; exact hI2.len
                    have hti := tryV_inF hI2.ok.1 j (t := (t : Int)) (by omega)
                    have htry := exchanged_c pa pc cs.length s2.1 hI2.len j t w5 (own_at hO) hlt2 (by omega) (by omega)
                    obtain ⟨T, hT⟩ : ∃ T, T = tryV s2.1 j t := ⟨_, rfl⟩
                    rw [← hT] at hks htl hti htry
                    obtain ⟨N, hN⟩ : ∃ N, N = costV c cs T := ⟨_, rfl⟩
                    rw [← hN] at hks
                    obtain ⟨st, sc⟩ := s2
                    dsimp only at hks hO htry ⊢
                    have HTL := Lib.hid htl
                    have HTI := Lib.hid hti
                    have HKS3 := Lib.hid hks
                    have HNN := Lib.hid hN
                    clear hs2 hI2 hks htl hti hT hN
                    go_wp2_with fail
                    refine htry.mono ?_
                    rintro e w6 ⟨v, rfl, oT, hE6⟩
                    obtain ⟨ta, tc, rfl⟩ := own_len oT HTL.out
                    have E6 := hE.trans hE6
                    have O6 := ownsRow_ext hO hE6
                    have hcall := HLC.out w6 ta tc T E6 (own_at oT) HTL.out HTI.out
                    rw [← HNN.out] at hcall
                    have oT2 : OwnInts w6 w3.heap.size 3 (.slice ta cs.length tc) T := ownsRow_base oT hE.size
                    clear htry oT hO hE hE6
                    go_wp2_with fail
                    refine hcall.mono ?_
                    rintro e w7 ⟨rfl, hE7⟩
                    have O7 := ownsRow_ext O6 hE7
                    have T7 := ownsRow_ext oT2 hE7
                    have E7 := E6.trans hE7
                    clear hcall O6 oT2 hE7 E6
                    by_cases hcmp : N < sc
                    · have hk3 : plCell c cs (t + 1) s1 j = (T, N) := by rw [HKS3.out, if_pos hcmp]
                      have HK3 := Lib.hid hk3
                      clear hk3
                      go_wp2_with fail
                      go_roundw
                      case rel =>
                       exact ⟨t + 1, ta, tc, by omega, by go_num, rfl, by rw [HK3.out], by rw [HK3.out]; exact T7, E7⟩
                      case measure => simp [intOf]; omega
                    · have hk3 : plCell c cs (t + 1) s1 j = (st, sc) := by rw [HKS3.out, if_neg hcmp]
                      have HK3 := Lib.hid hk3
                      clear hk3
                      go_wp2_with fail
                      go_roundw
                      case rel => exact ⟨t + 1, pa, pc, by omega, by go_num, rfl, by rw [HK3.out], by rw [HK3.out]; exact O7, E7⟩
                      case measure => simp [intOf]; omega
                  · have ht2 : t = 25 := by omega
                    have hnn : ¬ ((t : Int) < 25) := by omega
                    obtain ⟨s2, hs2⟩ : ∃ s, s = plCell c cs t s1 j := ⟨_, rfl⟩
                    rw [← hs2] at hO ⊢
                    have HK3 : Hid (plSweep c cs (j + 1) s0 = s2) := Lib.hid (by rw [HKS2.out, hs2, ht2])
                    clear hs2 ht2
                    go_wp2_with fail
                    go_roundw
                    case rel => exact ⟨j + 1, pa, pc, by omega, by go_num, rfl, by rw [HK3.out], by rw [HK3.out]; exact hO, hE⟩
                    case measure => simp [intOf]; omega
              · have hj2 : j = cs.length := by omega
                have hnn : ¬ ((j : Int) < (cs.length : Int)) := by omega
                obtain ⟨s2, hs2⟩ : ∃ s, s = plSweep c cs j s0 := ⟨_, rfl⟩
                rw [← hs2] at hO ⊢
                have HK3 : Hid (pk (k + 1) = s2) := Lib.hid (by rw [HKS.out, hs2, hj2])
                clear hs2 hj2
                go_wp2_with fail
                go_roundw
                case rel => exact ⟨k + 1, pa, pc, by omega, by go_num, rfl, by rw [HK3.out], by rw [HK3.out]; exact hO, hE⟩
                case measure => simp [intOf]; omega
          · have hk2 : k = 3 := by omega
            have hnn : ¬ ((k : Int) < 3) := by omega
            rw [hk2, ← HD.out] at hO
            obtain ⟨X, hX⟩ : ∃ X, X = (pk k).2 := ⟨_, rfl⟩
            rw [← hX]
            clear hX hk2
            go_wp2_with fail
            go_ret
            exact ⟨_, rfl, ownsRow_base hO s3, (E12.trans EN).trans hE⟩
end Go.Proofs.Ytgialedmbmfejaa
