/- Contract: the program's wire length. -/
import Derived.Test.YtgialedmbmfejaaNetK
import Derived.Test.YtgialedmbmfejaaPvI
namespace Go.Proofs.Ytgialedmbmfejaa
open Go.RowKit
set_option maxRecDepth 100000
set_option linter.unusedVariables false
set_option linter.unusedSimpArgs false
structure NetOk (place : List Int) (n : NetT) : Prop where
  c0 : -1 ≤ n.cell
  c1 : n.cell < place.length
  sk : ∀ j, j < n.sinks.length → ∃ i : Nat, i < place.length ∧ n.sinks.getD j 0 = (i : Int)
  l1 : n.sinks.length ≤ 100
  l2 : n.pads.length ≤ 100
  inF : ∀ t ∈ tilesN n place, 0 ≤ t ∧ t ≤ 1000
  len : 0 ≤ lenN n place ∧ lenN n place ≤ 8
theorem mem_netsK {c : Circ} {cs : List CellT} {x : NetT} : ∀ {k : Nat}, x ∈ netsK c cs k → ∃ v : Int, 1 ≤ v ∧ v ≤ k ∧ x = netT c cs v ∧ usedB x = true
  | 0, h => by simp [netsK] at h
  | k + 1, h => by
    rw [netsK] at h
    rcases List.mem_append.1 h with h2 | h2
    · obtain ⟨v, h3, h4, h5, h6⟩ := mem_netsK h2
      exact ⟨v, h3, by omega, h5, h6⟩
    · split at h2
      · rename_i hu
        simp at h2
        exact ⟨(k : Int) + 1, by omega, by omega, h2, by rw [h2]; exact hu⟩
      · simp at h2
theorem nets_ok {c : Circ} (V : c.Valid) {place : List Int} (hF : InF place) (hl : place.length = (cellsN c).length) {k : Nat} (hk : k ≤ 100) : ∀ x ∈ netsK c (cellsN c) k, NetOk place x := by
  intro x hx
  obtain ⟨v, h1, h2, rfl, hu⟩ := mem_netsK hx
  have lo := V.lo
  have hcv : cellsV c = cellsN c := by unfold cellsV; rw [validB_iff.2 V]; rfl
  have hsm := cells_sm c
  rw [hcv] at hsm
  have hlc := lastC_lt (cellsN c) v (cellsN c).length
  have hsl := sinkL_le (cellsN c) v (cellsN c).length
  have hpl := padL_le c v c.outs.length
  refine ⟨hlc.1, by show lastC _ _ _ < _; omega, fun j hj => ?_, by show (sinkL _ _ _).length ≤ _; omega, by show (padL _ _ _).length ≤ _; omega, fun t ht => ?_, ?_⟩
  · have := sinkL_lt (getN_mem (d := (0 : Int)) hj)
    rw [hl]; exact this
  · unfold tilesN netT at ht
    dsimp only at ht
    rcases List.mem_cons.1 ht with h | h
    · split at h
      · have := getD_inF hF (lastC (cellsN c) v (cellsN c).length).toNat
        omega
      · omega
    · rcases List.mem_append.1 h with h3 | h3
      · obtain ⟨i, _, rfl⟩ := List.mem_map.1 h3
        have := getD_inF hF i.toNat
        omega
      · obtain ⟨o, ho, _, rfl⟩ := mem_padL.1 h3
        omega
  · rw [lenN_eq V h1 place hu]
    unfold netLen
    exact distV_bound (pins_inF V (cellsN c) hF)
theorem sumN_bound {place : List Int} : ∀ (ns : List NetT), (∀ x ∈ ns, 0 ≤ lenN x place ∧ lenN x place ≤ 8) → ∀ k, 0 ≤ sumN (ns.take k) place ∧ sumN (ns.take k) place ≤ 8 * (ns.length : Int) := by
  intro ns h k
  have key : ∀ k, k ≤ ns.length → 0 ≤ sumN (ns.take k) place ∧ sumN (ns.take k) place ≤ 8 * (k : Int) := by
    intro k
    induction k with
    | zero => intro _; simp [sumN]
    | succ k ih =>
      intro hk
      have := h _ (getN_mem (d := net0) (show k < ns.length by omega))
      rw [take_snocD ns k net0 (by omega), sumN_snoc]
      have := ih (by omega)
      omega
  rcases Nat.le_total k ns.length with hk | hk
  · have := key k hk; omega
  · rw [List.take_of_length_le hk]
    have := key ns.length (Nat.le_refl _)
    rw [List.take_length] at this; exact this
set_option maxHeartbeats 8000000 in
theorem implWireLength_c (c : Circ) (p : Where3) (a : Option Addr) (cap : Nat) (ps : List Int) (w : World) (hc : CircAt w c p) (hp : IntsAt w a ps) (hl : ps.length ≤ 1048576) :
    Calls Try.prog 20 #[.agg #[.int .i64 c.inputs, .slice p.an c.next.length p.cn, .slice p.ag c.gates.length p.cg, .slice p.ao c.outs.length p.co], .slice a ps.length cap] w fun e w' => e = .returned (.int .i64 (wlV c ps)) ∧ Ext w w' := by
  have E0 : Ext w (w.alloc (.cells #[.int .i64 c.inputs, .slice p.an c.next.length p.cn, .slice p.ag c.gates.length p.cg, .slice p.ao c.outs.length p.co] 26)) := (Ext.refl w).alloc _
  have y := CircBox.made w c p 26
  have HW : Hid (wlV c ps = if pvalV c ps then costV c (cellsV c) ps else -1) := Lib.hid rfl
  have HI := Lib.hid (pval_iff (c := c) (ps := ps))
  obtain ⟨B, hB⟩ : ∃ B, B = pvalV c ps := ⟨_, rfl⟩
  obtain ⟨D, hD⟩ : ∃ D, D = wlV c ps := ⟨_, rfl⟩
  have hcall := implPlacementValid_c c p a cap ps _ (hc.ext E0) (hp.ext E0) hl
  rw [← hB] at HW HI hcall
  rw [← hD] at HW ⊢
  clear hB hD
  (obtain ⟨lb, b0, b1, b2, b3⟩ := (id y))
  go_enter Try.func20, Try.ntmps20
  go_wp2_with fail
  refine hcall.mono ?_
  rintro e w1 ⟨rfl, hE1⟩
  clear b0 b1 b2 b3 lb hcall
  have y1 := y.ext hE1
  have E1 := E0.trans hE1
  cases B
  · have hd : D = -1 := HW.out
    subst hd
    go_wp2
    go_ret
    exact ⟨rfl, E1⟩
  · have hd : D = costV c (cellsV c) ps := HW.out
    obtain ⟨V, hpl, hok⟩ := HI.out.1 rfl
    have hcv : cellsV c = cellsN c := by unfold cellsV; rw [validB_iff.2 V]; rfl
    have hsm := cells_sm c
    rw [hcv] at hsm hd hpl
    have hl17 : ps.length ≤ 17 := by rw [hpl]; exact hsm.1
    have hlg := V.lg
    have hln := V.ln
    have hi4 := V.i4
    have hv1 : c.vars = c.first + c.gates.length := rfl
    have hf1 : c.first = 1 + c.inputs + c.next.length := rfl
    have hv30 : (c.vars - 1).toNat ≤ 30 := by omega
    have hno := nets_ok V hok.1 hpl (k := (c.vars - 1).toNat) (by omega)
    have hnl := netsK_le c (cellsN c) (c.vars - 1).toNat
    have hcost : D = sumN (netsK c (cellsN c) (c.vars - 1).toNat) ps := by rw [hd, sum_cost V ps]; rfl
    have hcall := netsOf_c w.heap.size c p w1 y1 (hc.ext E1) V
    obtain ⟨NS, hNS⟩ : ∃ NS, NS = netsK c (cellsN c) (c.vars - 1).toNat := ⟨_, rfl⟩
    rw [← hNS] at hno hnl hcost hcall
    have hn30 : NS.length ≤ 30 := by omega
    have HB := Lib.hid (sumN_bound NS (fun x hx => (hno x hx).len))
    have HNO := Lib.hid hno
    have HD := Lib.hid hcost
    clear HW HI V hcv hd hsm hok hpl hlg hln hi4 hv1 hf1 hv30 hno hnl hcost hNS
    go_wp2_with fail
    refine hcall.mono ?_
    rintro e w2 ⟨v, F, rfl, hN, _, hE2⟩
    obtain ⟨na, nc, rfl, _⟩ := hN.sl
    have HN := Lib.hid hN
    clear hcall hN
    go_wp2_with fail
    go_loopw [5, 14] (fun u5 u14 wr => ∃ i : Nat, i ≤ NS.length ∧ u14 = .int .i64 i ∧ u5 = .int .i64 (sumN (NS.take i) ps) ∧ Ext w2 wr) (fun _ v _ => NS.length - (intOf v).toNat)
    case atStart => exact ⟨0, Nat.zero_le _, rfl, rfl, Ext.refl _⟩
    case round =>
      obtain ⟨i, hi, rfl, rfl, hE⟩ := hrel
      obtain ⟨w3, rfl⟩ : ∃ z : World, z = wr := ⟨_, rfl⟩
      have E13 := (E1.trans hE2).trans hE
      by_cases hlt : i < NS.length
      · obtain ⟨g, rfl, hg, _, hcells⟩ := Nst.getN goodNet (HN.out.ext goodNet hE) (by omega)
        obtain ⟨ds, F1, ⟨v1, v2, rfl, o1, o2, rfl⟩, qq, _⟩ := hcells i net0 hlt
        have r0 := qq 0 _ (by omega) rfl
        have r1 := qq 1 _ (by omega) rfl
        have r2 := qq 2 _ (by omega) rfl
        have r3 := qq 3 _ (by omega) rfl
        have r4 := qq 4 _ (by omega) rfl
        rw [Nat.add_zero] at r0
        have hK := HNO.out _ (getN_mem (d := net0) hlt)
        have hsn : sumN (NS.take (i + 1)) ps = sumN (NS.take i) ps + lenN (NS.getD i net0) ps := by rw [take_snocD NS i net0 hlt, sumN_snoc]
        have hbd := HB.out i
        obtain ⟨x, hx⟩ : ∃ x, x = NS.getD i net0 := ⟨_, rfl⟩
        rw [← hx] at r0 r1 r2 o1 o2 hK hsn
        obtain ⟨sa, sc, rfl, hI1, _⟩ := o1.opened
        obtain ⟨qa, qc, rfl, hI2, _⟩ := o2.opened
        have hlen := hK.len
        obtain ⟨S, hS⟩ : ∃ S, S = sumN (NS.take i) ps := ⟨_, rfl⟩
        rw [← hS] at hsn hbd ⊢
        have hcl := fun W h1 h2 h3 => length_c x sa qa sc qc a cap ps W h1 h2 h3 hK.c0 hK.c1 hK.sk hK.l1 hK.l2 (by omega) hK.inF
        obtain ⟨d, hd⟩ : ∃ d, d = lenN x ps := ⟨_, rfl⟩
        rw [← hd] at hsn hlen hcl
        have HCL := Lib.hid hcl
        have HSN := Lib.hid hsn
        have HI1 := Lib.hid hI1
        have HI2 := Lib.hid hI2
        have HP3 := Lib.hid (hp.ext E13)
        obtain ⟨d0, d1⟩ := hlen
        obtain ⟨t0, t1⟩ := hbd
        obtain ⟨xn, xc, xt, xs, xp⟩ := x
        dsimp only at r0 r1 r2 r3 r4 HCL HI1 HI2
        clear hx hS hd hK hcl hsn hI1 hI2 o1 o2 qq hcells
        go_wp2_with fail
        refine (HCL.out _ (HI1.out.ext (by (repeat (first | with_reducible assumption | with_reducible exact Ext.refl _ | with_reducible refine Ext.drew' ?_ | with_reducible refine Ext.drewN' ?_ _ | with_reducible refine Ext.alloc ?_ _ | (with_reducible refine Ext.setNew ?_ (by first | exact Nat.le_refl _ | (simp; done) | (simp; omega) | omega) _))))) (HI2.out.ext (by (repeat (first | with_reducible assumption | with_reducible exact Ext.refl _ | with_reducible refine Ext.drew' ?_ | with_reducible refine Ext.drewN' ?_ _ | with_reducible refine Ext.alloc ?_ _ | (with_reducible refine Ext.setNew ?_ (by first | exact Nat.le_refl _ | (simp; done) | (simp; omega) | omega) _))))) (HP3.out.ext (by (repeat (first | with_reducible assumption | with_reducible exact Ext.refl _ | with_reducible refine Ext.drew' ?_ | with_reducible refine Ext.drewN' ?_ _ | with_reducible refine Ext.alloc ?_ _ | (with_reducible refine Ext.setNew ?_ (by first | exact Nat.le_refl _ | (simp; done) | (simp; omega) | omega) _)))))).mono ?_
        rintro e w4 ⟨rfl, hE4⟩
        have E4 : Ext w3 w4 := Ext.trans (by (repeat (first | with_reducible assumption | with_reducible exact Ext.refl _ | with_reducible refine Ext.drew' ?_ | with_reducible refine Ext.drewN' ?_ _ | with_reducible refine Ext.alloc ?_ _ | (with_reducible refine Ext.setNew ?_ (by first | exact Nat.le_refl _ | (simp; done) | (simp; omega) | omega) _)))) hE4
        clear r0 r1 r2 r3 r4 hE4
        go_wp2_with fail
        go_roundw
        case rel => exact ⟨i + 1, by omega, by go_num, by rw [HSN.out], hE.trans E4⟩
        case measure => simp [intOf]; omega
      · have hi2 : i = NS.length := by omega
        rw [hi2, List.take_length, ← HD.out]
        go_wp2_with fail
        go_ret
        exact ⟨rfl, E13⟩
end Go.Proofs.Ytgialedmbmfejaa
