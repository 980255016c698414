/- Contracts: the reference's wire length. -/
import Derived.Test.YtgialedmbmfejaaWlS
import Derived.Test.YtgialedmbmfejaaPvS
namespace Go.Proofs.Ytgialedmbmfejaa
open Go.RowKit
set_option maxRecDepth 100000
set_option linter.unusedVariables false
set_option linter.unusedSimpArgs false
theorem useV_le (c : Circ) (cs : List CellT) (place : List Int) (net : Int) : (useV c cs place net).length ≤ cs.length + c.outs.length := by
  have h1 := sinkL_le cs net cs.length
  have h2 := padL_le c net c.outs.length
  unfold useV sinkT
  rw [List.length_append, List.length_map]; omega
theorem pinsV_le (c : Circ) (cs : List CellT) (place : List Int) (net : Int) : (pinsV c cs place net).length ≤ 1 + cs.length + (cs.length + c.outs.length) := by
  have h1 := useV_le c cs place net
  have h2 := cellT_le cs place net cs.length
  unfold pinsV
  split
  · simp
  · refine Nat.le_trans (onto_len _ _) ?_
    have h3 : (srcV c cs place net).length ≤ 1 + cs.length := by
      unfold srcV
      rw [List.length_append]
      split <;> simp <;> omega
    omega
set_option maxHeartbeats 8000000 in
theorem l7Cost_c (c : Circ) (p : Where3) (ca : Option Addr) (cc : Nat) (cs : List CellT) (F : List Nat) (pa : Option Addr) (pc : Nat) (place : List Int) (w : World) (hc : CircAt w c p) (V : c.Valid) (hN : NstC w (.slice ca cs.length cc) cs F) (hp : IntsAt w pa place) (hpl : place.length = cs.length) (hF : InF place) (hl : cs.length ≤ 17) (hs : ∀ x ∈ cs, Asc x.ins ∧ x.ins.length ≤ 3) :
    Calls Try.prog 100 #[.agg #[.int .i64 c.inputs, .slice p.an c.next.length p.cn, .slice p.ag c.gates.length p.cg, .slice p.ao c.outs.length p.co], .slice ca cs.length cc, .slice pa cs.length pc] w fun e w' => e = .returned (.int .i64 (costV c cs place)) ∧ Ext w w' := by
  have E0 : Ext w (w.alloc (.cells #[.int .i64 c.inputs, .slice p.an c.next.length p.cn, .slice p.ag c.gates.length p.cg, .slice p.ao c.outs.length p.co] 26)) := (Ext.refl w).alloc _
  have y := CircBox.made w c p 26
  have HC := Lib.hid (hc.ext E0)
  have HN := Lib.hid (hN.ext goodCell E0)
  have HP := Lib.hid (hp.ext E0)
  have HV := Lib.hid V
  have HS := Lib.hid hs
  have HPL := Lib.hid hpl
  have HF := Lib.hid hF
  have i0 := V.i0
  have i4 := V.i4
  have ln := V.ln
  have lg := V.lg
  have lo := V.lo
  have hv1 : c.vars = c.first + c.gates.length := rfl
  have hf1 : c.first = 1 + c.inputs + c.next.length := rfl
  have HB : Hid (∀ k, 0 ≤ costK c cs place k ∧ costK c cs place k ≤ 8 * (k : Int)) := Lib.hid (costK_bound V cs hF)
  obtain ⟨n, hn⟩ : ∃ n : Nat, n = (c.vars - 1).toNat := ⟨_, rfl⟩
  have hvn : c.first + c.gates.length = (n : Int) + 1 := by omega
  have hn30 : n ≤ 30 := by omega
  have HD : Hid (costV c cs place = costK c cs place n) := Lib.hid (by unfold costV; rw [hn])
  have HVN := Lib.hid hvn
  have hf30 : c.first ≤ 30 := by omega
  have hf0 : 0 ≤ c.first := by omega
  have hwr : IntKind.i64.wrap (c.first + c.gates.length) = (n : Int) + 1 := by rw [hvn]; exact IntWalk.i64_in _ (by omega)
  clear V hc hN hp hs hpl hF hn hv1 hf1 hvn
  go_enter Try.func100, Try.ntmps100
  go_upto_region 1 with fail
  obtain ⟨w1, hw1⟩ : ∃ x : World, x = w.alloc (.cells #[.int .i64 c.inputs, .slice p.an c.next.length p.cn, .slice p.ag c.gates.length p.cg, .slice p.ao c.outs.length p.co] 26) := ⟨_, rfl⟩
  rw [← hw1] at E0 y HC HN HP
  rw [← hw1]
  clear hw1
  go_wp2_with fail
  go_loopw [7, 8] (fun u7 u8 wr => ∃ k : Nat, k ≤ n ∧ u7 = .int .i64 (costK c cs place k) ∧ u8 = .int .i64 ((k : Int) + 1) ∧ Ext w1 wr) (fun _ v _ => n + 1 - (intOf v).toNat)
  case atStart => exact ⟨0, Nat.zero_le _, rfl, rfl, Ext.refl _⟩
  case round =>
    obtain ⟨k, hk, rfl, rfl, hE⟩ := hrel
    obtain ⟨w2, rfl⟩ : ∃ z : World, z = wr := ⟨_, rfl⟩
    have y2 := y.ext hE
    obtain ⟨b1, b2⟩ := HB.out k
    (obtain ⟨la, a0, a1, a2, a3⟩ := (id y2))
    go_wp2_with fail
    go_region_held3 ((fun w' => (∀ b o, b < w2.heap.size → w'.cell? ⟨b, o, none⟩ = w2.cell? ⟨b, o, none⟩) ∧ Ext w2 w')) ((first | assumption | (with_reducible exact held_mk (Ext.drew w2)) | (with_reducible exact held_mk (((Ext.refl w2).alloc _).drew')) | (with_reducible exact held_mk ((Ext.drew w2).alloc _)))) (first | (go_simp; go_at_call 69; refine (l1First_c c p _ (by omega) (by omega) (by omega)).mono ?_; rintro e w3 ⟨rfl, hE3⟩; have hK3 := held_mk ((Ext.drew w2).trans hE3)))
    have F3 := held_ext hK3
    have E3 := hE.trans F3
    have y3 := y.ext E3
    clear hK3 a0 a1 a2 a3 la y2 hE F3
    by_cases hlt : k < n
    · have HSN : Hid (costK c cs place (k + 1) = costK c cs place k + distV (pinsV c cs place ((k : Int) + 1))) := Lib.hid rfl
      have hpin : InF (pinsV c cs place ((k : Int) + 1)) := pins_inF HV.out cs HF.out
      have hple : (pinsV c cs place ((k : Int) + 1)).length ≤ 100 := by have := pinsV_le c cs place ((k : Int) + 1); omega
      have hdb := distV_bound hpin
      have hcall := l7Pins_c c p ca cc cs F pa pc place ((k : Int) + 1) w3 (HC.out.ext E3) HV.out (HN.out.ext goodCell E3) (HP.out.ext E3) HPL.out hl HS.out (by omega) (by omega)
      obtain ⟨P, hP⟩ : ∃ P, P = pinsV c cs place ((k : Int) + 1) := ⟨_, rfl⟩
      rw [← hP] at HSN hpin hple hdb hcall
      obtain ⟨d, hd⟩ : ∃ d, d = distV P := ⟨_, rfl⟩
      rw [← hd] at HSN hdb
      obtain ⟨X, hX⟩ : ∃ X, X = costK c cs place k := ⟨_, rfl⟩
      rw [← hX] at HSN b1 b2 ⊢
      obtain ⟨d0, d1⟩ := hdb
      have HP2 := Lib.hid hpin
      have HDD := Lib.hid hd
      have hki : (k : Int) + 1 < (n : Int) + 1 := by omega
      clear hP hpin hd hX
      (obtain ⟨la, a0, a1, a2, a3⟩ := (id y3))
      go_wp2_with fail
      refine hcall.mono ?_
      rintro e w4 ⟨v, rfl, oP, hE4⟩
      obtain ⟨va, vc, rfl, hPA, _⟩ := oP.opened
      clear hcall oP
      go_wp2_with fail
      refine (l7Dist_c va vc P w4 hPA HP2.out hple).mono ?_
      rw [← HDD.out]
      rintro e w5 ⟨rfl, hE5⟩
      have E5 := (E3.trans hE4).trans hE5
      clear a0 a1 a2 a3 la
      go_wp2_with fail
      go_roundw
      case rel => exact ⟨k + 1, by omega, by rw [HSN.out], by go_num, E5⟩
      case measure => simp [intOf]; omega
    · have hk2 : k = n := by omega
      subst hk2
      go_wp2_with fail
      go_ret
      exact ⟨by rw [HD.out]; rfl, E0.trans E3⟩
set_option maxHeartbeats 8000000 in
theorem specWireLength_c (c : Circ) (p : Where3) (a : Option Addr) (cap : Nat) (ps : List Int) (w : World) (hc : CircAt w c p) (hp : IntsAt w a ps) (hl : ps.length ≤ 1048576) (hcap : ps.length ≤ cap) (hcm : cap ≤ maxLen) :
    Calls Try.prog 54 #[.agg #[.int .i64 c.inputs, .slice p.an c.next.length p.cn, .slice p.ag c.gates.length p.cg, .slice p.ao c.outs.length p.co], .slice a ps.length cap] w fun e w' => e = .returned (.int .i64 (wlV c ps)) ∧ Ext w w' := by
  have E0 : Ext w (w.alloc (.cells #[.int .i64 c.inputs, .slice p.an c.next.length p.cn, .slice p.ag c.gates.length p.cg, .slice p.ao c.outs.length p.co] 26)) := (Ext.refl w).alloc _
  have y := CircBox.made w c p 26
  have HW : Hid (wlV c ps = if pvalV c ps then costV c (cellsV c) ps else -1) := Lib.hid rfl
  have HI := Lib.hid (pval_iff (c := c) (ps := ps))
  obtain ⟨B, hB⟩ : ∃ B, B = pvalV c ps := ⟨_, rfl⟩
  obtain ⟨D, hD⟩ : ∃ D, D = wlV c ps := ⟨_, rfl⟩
  have hcall := specPlacementValid_c c p a cap ps _ (hc.ext E0) (hp.ext E0) hl hcap hcm
  rw [← hB] at HW HI hcall
  rw [← hD] at HW ⊢
  clear hB hD
  (obtain ⟨lb, b0, b1, b2, b3⟩ := (id y))
  go_enter Try.func54, Try.ntmps54
  go_wp2_with fail
  refine hcall.mono ?_
  rintro e w1 ⟨rfl, hE1⟩
  clear b0 b1 b2 b3 lb hcall
  have y1 := y.ext hE1
  have E1 := E0.trans hE1
  cases B
  · have hd : D = -1 := HW.out
    subst hd
    go_wp2
    go_ret
    exact ⟨rfl, E1⟩
  · have hd : D = costV c (cellsV c) ps := HW.out
    obtain ⟨V, hpl, hok⟩ := HI.out.1 rfl
    have hcv : cellsV c = cellsN c := by unfold cellsV; rw [validB_iff.2 V]; rfl
    have hsm := cells_sm c
    rw [hcv] at hsm hd hpl
    have hall : ∀ x ∈ cellsN c, Asc x.ins ∧ x.ins.length ≤ 3 := fun x hx => ⟨cells_asc V x hx, hsm.2 x hx⟩
    have hl17 := hsm.1
    have HALL := Lib.hid hall
    have HD := Lib.hid hd
    have HV := Lib.hid V
    have HOK := Lib.hid hok
    have HPL := Lib.hid hpl
    obtain ⟨cs, hcs⟩ : ∃ cs, cs = cellsN c := ⟨_, rfl⟩
    have hcC := l6Cells_c c p
    rw [← hcs] at hl17 HALL HD HPL hcC
    have HCC := Lib.hid hcC
    clear HW HI V hcv hd hsm hall hcs hok hpl hcC
    (obtain ⟨lb, b0, b1, b2, b3⟩ := (id y1))
    go_wp2_with fail
    go_region_held3 ((fun w' => (∀ b o, b < w1.heap.size → w'.cell? ⟨b, o, none⟩ = w1.cell? ⟨b, o, none⟩) ∧ Ext w1 w')) ((first | assumption | (with_reducible exact held_mk (Ext.drew w1)) | (with_reducible exact held_mk (((Ext.refl w1).alloc _).drew')) | (with_reducible exact held_mk ((Ext.drew w1).alloc _)))) (first
      | (go_simp; go_at_call 67; refine (HCC.out _ (hc.ext (E1.trans (Ext.drew _))) HV.out).mono ?_; rintro e w2 ⟨v, F, rfl, hN, _, hE2⟩; obtain ⟨ca, cc, rfl, _⟩ := hN.sl; have hX2 : Ext w1 w2 := (Ext.drew w1).trans hE2; have hK2 := held_mk hX2)
      | (go_simp; go_at_call 100; rw [HPL.out]; refine (l7Cost_c c p ca cc cs F a cap ps _ (hc.ext (E1.trans hX2)) HV.out hN (hp.ext (E1.trans hX2)) HPL.out HOK.out.1 hl17 HALL.out).mono ?_; rintro e w3 ⟨rfl, hE3⟩; have hK3 := held_mk (hX2.trans hE3)))
    go_wp2
    go_ret
    exact ⟨by rw [HD.out]; rfl, E1.trans (hX2.trans hE3)⟩
end Go.Proofs.Ytgialedmbmfejaa
