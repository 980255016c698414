/- Contract: a circuit without its unused gates. -/
import Derived.Test.YtpfhlodlefcomaaOptKPlc
import Derived.Test.YtpfhlodlefcomaaOptP
import Derived.Test.YtpfhlodlefcomaaOptL
namespace Go.Proofs.Ytpfhlodlefcomaa
open Go.RowKit
set_option maxRecDepth 100000
set_option linter.unusedVariables false
set_option linter.unusedSimpArgs false
set_option maxHeartbeats 8000000 in
theorem pruned_c (b : Nat) (c : Circ) (p : Where3) (w : World) (hb : CircBox w b c p) (hc : CircAt w c p) (V : c.Valid) :
    Calls Try.prog 75 #[.pointer (some ⟨b, 0, none⟩)] w (GiveC w (buildV false c)) := by
  have hi0 := V.i0
  have hi4 := V.i4
  have ln := V.ln
  have lg := V.lg
  have lo := V.lo
  obtain ⟨F, hF⟩ : ∃ F : Nat, c.first = (F : Int) := ⟨c.first.toNat, by unfold Circ.first; omega⟩
  have hF1 : 1 ≤ F ∧ F ≤ 8 := by unfold Circ.first at hF; omega
  obtain ⟨hF1, hF2⟩ := hF1
  obtain ⟨N, hN⟩ : ∃ N, N = F + c.gates.length := ⟨_, rfl⟩
  have hvv : c.vars = (N : Int) := by unfold Circ.vars; omega
  have hN1 : F + c.gates.length ≤ N := by omega
  have hN2 : N ≤ F + c.gates.length := by omega
  have HN := Lib.hid hN
  have HF := Lib.hid hF
  have VV := Lib.hid V
  have HVV := Lib.hid hvv
  have R0 := Blk.at w [.int .i64 0, .slice none 0 0, .slice none 0 0, .slice none 0 0] 26 rfl
  have E0 : Ext w (w.alloc (.cells #[.int .i64 0, .slice none 0 0, .slice none 0 0, .slice none 0 0] 26)) := (Ext.refl w).alloc _
  clear hN hF V hvv
  go_enter Try.func75, Try.ntmps75
  go_wp2_with fail
  refine (reached_c b c p _ (hb.ext E0) (hc.ext E0) VV.out F N HF.out HN.out).mono ?_
  rintro e w2 ⟨KB, us, rfl, hKB, hul, hus, hK, hE2⟩
  have E2 := E0.trans hE2
  have R2 := R0.ext hE2
  have hb2 := hb.ext E2
  have HUL := Lib.hid hul
  have HUS := Lib.hid hus
  have lK := hK.lt
  have l2 := E2.size
  have lR := R2.lt
  clear E0 R0 hE2 hul hus
  go_wp2_with fail
  refine (vars_c b c p _ hb2 hi0 (by omega) (by omega) (by omega)).mono ?_
  rw [HVV.out]
  rintro e w3 ⟨rfl, nd, rfl⟩
  have hm := run_zeros' (P := Try.prog) 23 3 (.int .i64 0) [.int .i64 0] 8 Try.underlying23 intInfo rfl (by decide) (by decide) N (by omega) (w2.drewN nd)
  have P0 := Blk.at (w2.drewN nd) (zeros [Value.int .i64 0] N) 3 (B := w2.heap.size) (by simp)
  have X0 := Blk.at ((w2.drewN nd).alloc (.cells (zeros [Value.int .i64 0] N).toArray 3)) [.slice (some ⟨w2.heap.size, 0, none⟩) N N] 23 (B := w2.heap.size + 1) (by simp)
  have P1 := P0.alloc (.cells #[.slice (some ⟨w2.heap.size, 0, none⟩) N N] 23)
  have E4 : Ext w2 (((w2.drewN nd).alloc (.cells (zeros [Value.int .i64 0] N).toArray 3)).alloc (.cells #[.slice (some ⟨w2.heap.size, 0, none⟩) N N] 23)) := ((Ext.drewN w2 nd).alloc _).alloc _
  clear P0
  go_wp2_with fail
  generalize (((w2.drewN nd).alloc (.cells (zeros [Value.int .i64 0] N).toArray 3)).alloc (.cells #[.slice (some ⟨w2.heap.size, 0, none⟩) N N] 23)) = W4 at *
  refine (firstGate_c b c p _ (hb2.ext E4) hi0 (by omega) (by omega)).mono ?_
  rw [HF.out]
  rintro e w5 ⟨rfl, nn, rfl⟩
  have E5 := E4.drewN' nn
  have X5 := X0.drewN nn
  have P5 := P1.drewN nn
  generalize W4.drewN nn = W5 at *
  clear E4 X0 P1 hm
  have x0 := X5.cell (i := 0) rfl
  go_wp2_with fail
  go_loopw [5, 20] (fun u5 u20 wr => ∃ k : Nat, k ≤ N ∧ u20 = .int .i64 k ∧ u5 = .int .i64 ((F : Int) + cntG c (k - F)) ∧ Blk wr w2.heap.size 3 ((over (plV c F) (List.replicate N 0) k).map (Value.int .i64)) ∧ Blk wr (w2.heap.size + 1) 23 [.slice (some ⟨w2.heap.size, 0, none⟩) N N] ∧ Ext w2 wr) (fun _ i _ => N - (intOf i).toNat)
  case atStart =>
    refine ⟨0, Nat.zero_le _, rfl, ?_, ?_, X5, E5⟩
    · rw [Nat.zero_sub, cntG_zero]; simp
    · rw [over_zero]
      have e : (List.replicate N (0 : Int)).map (Value.int .i64) = zeros [Value.int .i64 0] N := by rw [zeros_one, List.map_replicate]
      rw [e]; exact P5
  case round =>
    clear x0 X5 E5 P5
    obtain ⟨k, hk, rfl, rfl, hP, hX, hE⟩ := hrel
    have hbE := hb2.ext hE
    have x0 := hX.cell (i := 0) rfl
    have hKE := hK.ext hE
    by_cases hlt : k < N
    · have hol : (over (plV c F) (List.replicate N (0 : Int)) k).length = N := by rw [over_length _ _ _ (by rw [List.length_replicate]; omega)]; simp
      have hov := over_set (plV c F) (List.replicate N (0 : Int)) k (by rw [List.length_replicate]; omega)
      have hsk := over_skip (plV c F) (List.replicate N (0 : Int)) k (by rw [List.length_replicate]; omega)
      obtain ⟨ys, hys⟩ : ∃ ys, ys = over (plV c F) (List.replicate N (0 : Int)) k := ⟨_, rfl⟩
      rw [← hys] at hP hol hov hsk
      have HOV := Lib.hid hov
      have HSK := Lib.hid hsk
      obtain ⟨uu, zz⟩ : ∃ u, wr.cell? ⟨w2.heap.size, k, none⟩ = some u := ⟨_, hP.cell (List.getElem?_eq_getElem (by rw [List.length_map, hol]; exact hlt))⟩
      have fz := hP.frozen k
      have hPl := hP.lt
      have HYS := Lib.hid hys
      have HOL := Lib.hid hol
      have hku : us[k]? = some (us.getD k false) := by rw [List.getD_eq_getElem?_getD, List.getElem?_eq_getElem (by rw [HUL.out]; exact hlt)]; rfl
      have kc := hKE.cell (i := k) (u := .bool (us.getD k false)) (by rw [List.getElem?_map, hku]; rfl)
      clear hys hol hov hsk hku
      go_wp2_with fail
      refine (firstGate_c b c p _ hbE hi0 (by omega) (by omega)).mono ?_
      rw [HF.out]
      rintro e w6 ⟨rfl, nn2, rfl⟩
      by_cases hkF : k < F
      · have HPV : Hid (plV c F k = (k : Int)) := Lib.hid (by unfold plV; rw [if_pos hkF])
        have HC0 : Hid (k - F = 0 ∧ k + 1 - F = 0) := Lib.hid (by omega)
        go_wp2
        go_roundw
        case rel =>
          refine ⟨k + 1, by omega, by go_num, by rw [HC0.out.1, HC0.out.2], ?_, hX.drewN nn2 |>.setOther (p := ⟨w2.heap.size, k, none⟩) (by simp) _, by (repeat (first | with_reducible assumption | with_reducible exact Ext.refl _ | with_reducible refine Ext.drew' ?_ | with_reducible refine Ext.drewN' ?_ _ | with_reducible refine Ext.alloc ?_ _ | (with_reducible refine Ext.setNew ?_ (by first | exact Nat.le_refl _ | (simp; done) | (simp; omega) | omega) _)))⟩
          rw [← HOV.out, HPV.out, map_set]; exact (hP.drewN nn2).set _ _
        case measure => simp [intOf]; omega
      · obtain ⟨j, hj⟩ : ∃ j, k = F + j := ⟨k - F, by omega⟩
        have hug : us.getD k false = (usedV c).getD j false := by rw [← HUS.out, drop_getD2, hj]
        have hjl : j < c.gates.length := by omega
        have HC1 : Hid (k - F = j ∧ k + 1 - F = j + 1) := Lib.hid (by omega)
        have hcs := cntG_succ c j hjl
        have hcl := cntG_le c VV.out j (by omega)
        rw [HC1.out.1]
        have hpv : plV c F k = if (usedV c).getD j false = true then (F : Int) + cntG c j else 0 := by unfold plV; rw [if_neg hkF, HC1.out.1]
        rw [hug] at kc
        have HJ := Lib.hid hj
        cases hu : (usedV c).getD j false
        · rw [hu] at kc hcs hpv
          have HCS := Lib.hid hcs
          have HPV := Lib.hid hpv
          obtain ⟨cn, hcn⟩ : ∃ x, x = cntG c j := ⟨_, rfl⟩
          rw [← hcn] at hcl ⊢
          have HCN := Lib.hid hcn
          clear hu hcs hpv hj hug hcn
          go_wp2
          go_roundw
          case rel =>
            refine ⟨k + 1, by omega, by go_num, ?_, ?_, hX.drewN nn2, by (repeat (first | with_reducible assumption | with_reducible exact Ext.refl _ | with_reducible refine Ext.drew' ?_ | with_reducible refine Ext.drewN' ?_ _ | with_reducible refine Ext.alloc ?_ _ | (with_reducible refine Ext.setNew ?_ (by first | exact Nat.le_refl _ | (simp; done) | (simp; omega) | omega) _)))⟩
            · rw [HC1.out.2, HCS.out, ← HCN.out]; simp
            · rw [HSK.out (by rw [HPV.out, List.getElem?_replicate, if_pos hlt]; rfl)]; exact hP.drewN nn2
          case measure => simp [intOf]; omega
        · rw [hu] at kc hcs hpv
          have HCS := Lib.hid hcs
          have HPV := Lib.hid hpv
          obtain ⟨cn, hcn⟩ : ∃ x, x = cntG c j := ⟨_, rfl⟩
          rw [← hcn] at hcl ⊢
          have HCN := Lib.hid hcn
          clear hu hcs hpv hj hug hcn
          go_wp2
          go_roundw
          case rel =>
            refine ⟨k + 1, by omega, by go_num, ?_, ?_, hX.drewN nn2 |>.setOther (p := ⟨w2.heap.size, k, none⟩) (by simp) _, by (repeat (first | with_reducible assumption | with_reducible exact Ext.refl _ | with_reducible refine Ext.drew' ?_ | with_reducible refine Ext.drewN' ?_ _ | with_reducible refine Ext.alloc ?_ _ | (with_reducible refine Ext.setNew ?_ (by first | exact Nat.le_refl _ | (simp; done) | (simp; omega) | omega) _)))⟩
            · rw [HC1.out.2, HCS.out, ← HCN.out]; simp; omega
            · rw [← HOV.out, HPV.out]; simp only [if_true]; rw [← HCN.out, map_set]; exact (hP.drewN nn2).set _ _
          case measure => simp [intOf]; omega
    · have hk2 : k = N := by omega
      subst hk2
      obtain ⟨w6, rfl⟩ : ∃ x : World, x = wr := ⟨_, rfl⟩
      have hall : over (plV c F) (List.replicate k (0 : Int)) k = plAll c F k := by
        have := over_all (plV c F) (List.replicate k (0 : Int))
        simpa [plAll] using this
      rw [hall] at hP
      obtain ⟨PL, hPL⟩ : ∃ x, x = plAll c F k := ⟨_, rfl⟩
      rw [← hPL] at hP
      have hpl : PL.length = k := by rw [hPL, plAll_length]
      have hpx : ∀ x ∈ PL, 0 ≤ x ∧ x ≤ 1000000 := by
        intro x hx
        rw [hPL] at hx
        simp only [plAll, List.mem_map, List.mem_range] at hx
        obtain ⟨v, hv, rfl⟩ := hx
        have h1 := plV_nonneg c F v
        have h2 := plV_le c VV.out F v hF2 (by have := HN.out; omega)
        omega
      have hmap : ∀ l, 0 ≤ l → l < 2 * (k : Int) → plcL PL l = mapL (buildS false c).2 l := by
        intro l h0 h1
        have := plc_map c F HF.out c.gates.length (Nat.le_refl _) l h0 (by rw [← HN.out]; exact h1)
        rw [← HN.out, ← hPL, bState_all] at this
        exact this
      have hr := VV.out.rs
      rw [HVV.out, litsOk_append] at hr
      have g1 : ∀ i, i < c.next.length → 0 ≤ c.next.getD i 0 ∧ c.next.getD i 0 < 2 * (k : Int) := fun i hi => litB_iff'.1 (hr.1 i hi)
      have g3 : ∀ i, i < c.outs.length → 0 ≤ c.outs.getD i 0 ∧ c.outs.getD i 0 < 2 * (k : Int) := fun i hi => litB_iff'.1 (hr.2 i hi)
      have g2 : ∀ i, i < c.gates.length → (0 ≤ (c.gates.getD i (0, 0)).1 ∧ (c.gates.getD i (0, 0)).1 < 2 * (k : Int)) ∧ (0 ≤ (c.gates.getD i (0, 0)).2 ∧ (c.gates.getD i (0, 0)).2 < 2 * (k : Int)) := by
        intro i hi
        have h := VV.out.gs i hi
        rw [HF.out, litB_iff', litB_iff'] at h
        omega
      obtain ⟨ms, hms⟩ : ∃ ms, ms = (buildS false c).2 := ⟨_, rfl⟩
      rw [← hms] at hmap
      have hd : renPlc PL c = ⟨c.inputs, c.next.map (mapL ms), c.gates.map (fun x => (mapL ms x.1, mapL ms x.2)), c.outs.map (mapL ms)⟩ := by
        unfold renPlc
        congr 1
        · refine List.map_congr_left fun x hx => ?_
          obtain ⟨i, hi, rfl⟩ := List.mem_iff_getElem.1 hx
          have := g1 i hi
          rw [List.getD_eq_getElem?_getD, List.getElem?_eq_getElem hi] at this
          exact hmap _ this.1 this.2
        · refine List.map_congr_left fun x hx => ?_
          obtain ⟨i, hi, rfl⟩ := List.mem_iff_getElem.1 hx
          have := g2 i hi
          rw [List.getD_eq_getElem?_getD, List.getElem?_eq_getElem hi] at this
          exact Prod.ext (hmap _ this.1.1 this.1.2) (hmap _ this.2.1 this.2.2)
        · refine List.map_congr_left fun x hx => ?_
          obtain ⟨i, hi, rfl⟩ := List.mem_iff_getElem.1 hx
          have := g3 i hi
          rw [List.getD_eq_getElem?_getD, List.getElem?_eq_getElem hi] at this
          exact hmap _ this.1 this.2
      have hcall := replacedPlc_c b c p w6 hbE ((hc.ext E2).ext hE) hi0 (by omega) (by omega) (by omega) (w2.heap.size + 1) 23 (some ⟨w2.heap.size, 0, none⟩) k k PL hpl hX hP.ints (by omega) hpx g1 g2 g3
      rw [hd] at hcall
      have HM := Lib.hid hms
      clear hd hmap hr g1 g2 g3 hpx hpl hPL hall hms hX hP x0 hlt
      go_wp2_with fail
      refine hcall.mono ?_
      rintro e w7 ⟨nv, gv, ov, rfl, o7, hE7⟩
      obtain ⟨p7, rfl, rfl, rfl, _⟩ := o7.opened (by simp; omega) (by simp; omega) (by simp; omega)
      simp only [List.length_map] at o7 ⊢
      obtain ⟨na, nc, ga, gc, oa, oc⟩ := p7
      dsimp only at o7 ⊢
      clear hcall
      have E7 := (E2.trans hE).trans hE7
      have hn1 : w7.ownsRow w6.heap.size 3 1 (.slice na c.next.length nc) c.next.length ((c.next.map (mapL ms)).map (Value.int .i64)) := by have := o7.nx; simpa using this
      have hg1 : w7.ownsRow w6.heap.size 46 2 (.slice ga c.gates.length gc) c.gates.length (flat (c.gates.map (fun x => (mapL ms x.1, mapL ms x.2)))) := by have := o7.gs; simpa using this
      have s7 := hE7.size
      have od : OwnC w7 w6.heap.size ⟨c.inputs, c.next.map (mapL ms), [], c.outs.map (mapL ms)⟩ (.slice na c.next.length nc) (.slice none 0 0) (.slice oa c.outs.length oc) := ⟨o7.nx, ownsRow_nil, o7.os, by simp [Value.ownBlock], o7.no, by simp [Value.ownBlock]⟩
      have hM0 := cbuild_new od hE7.size (Nat.le_refl _)
      have hG0 := ownsRow_ext hg1 ((Ext.refl w7).alloc (.cells #[.int .i64 c.inputs, .slice na c.next.length nc, .slice none 0 0, .slice oa c.outs.length oc] 26))
      have hE8 : Ext w6 (w7.alloc (.cells #[.int .i64 c.inputs, .slice na c.next.length nc, .slice none 0 0, .slice oa c.outs.length oc] 26)) := hE7.alloc _
      have hgl := hg1.lt
      have hgo := o7.ng
      have hgo2 := o7.go
      clear od o7 hn1 hg1
      go_wp2_with fail
      obtain ⟨W8, hW8⟩ : ∃ W8, W8 = w7.alloc (.cells #[.int .i64 c.inputs, .slice na c.next.length nc, .slice none 0 0, .slice oa c.outs.length oc] 26) := ⟨_, rfl⟩
      rw [← hW8] at hM0 hG0 hE8 ⊢
      clear hW8
      have HGL := Lib.hid hgl
      have HGO := Lib.hid hgo
      have HGO2 := Lib.hid hgo2
      clear hgl hgo hgo2
      go_loopw [52] (fun i wr => ∃ (j : Nat) (xv : Value), j ≤ c.gates.length ∧ i = .int .i64 j ∧ CBuild wr w6.heap.size w7.heap.size ⟨c.inputs, c.next.map (mapL ms), (bState false c j).1, c.outs.map (mapL ms)⟩ (.slice na c.next.length nc) xv (.slice oa c.outs.length oc) ∧
        wr.ownsRow w6.heap.size 46 2 (.slice ga c.gates.length gc) c.gates.length (flat (c.gates.map (fun x => (mapL ms x.1, mapL ms x.2)))) ∧ Hid (∀ l, (Value.slice ga c.gates.length gc).ownBlock = some l → xv.ownBlock ≠ some l) ∧ Ext w6 wr) (fun i _ => c.gates.length - (intOf i).toNat)
      case atStart => exact ⟨0, _, Nat.zero_le _, rfl, hM0, hG0, Lib.hid (by simp [Value.ownBlock]), hE8⟩
      case round =>
        clear hM0 hG0 hE8
        obtain ⟨j, xv, hj, rfl, hM, hG, hgx, hE9⟩ := hrel
        have hxr := hM.gs
        dsimp only at hxr
        have hjl := (bState_ok VV.out false j hj).gl
        obtain ⟨gs, hgs⟩ : ∃ gs, gs = (bState false c j).1 := ⟨_, rfl⟩
        rw [← hgs] at hM hxr hjl
        obtain ⟨xa, xc, rfl, _⟩ := ownsRow_row hxr
        have hMl := hM.lt
        have hMb := hM.hb
        by_cases hlt : j < c.gates.length
        · obtain ⟨gb, hgb, hgb1, hgb2⟩ := ownsRow_block hG (by omega)
          subst hgb
          have hGp := pairsAt_of_row (ownsRow_at hG)
          obtain ⟨b9, o9, hag, hb9, hg1, hg2⟩ := hGp.get (by rw [List.length_map]; omega)
          cases hag
          have q1 := hg1 j (by rw [List.length_map]; omega)
          have q2 := hg2 j (by rw [List.length_map]; omega)
          simp only [Nat.zero_add] at q1 q2
          have hst := bF_step c VV.out F HF.out j hlt
          have hge : ((c.gates.map (fun x => (mapL ms x.1, mapL ms x.2))).getD j (0, 0)) = (mapL ms (c.gates.getD j (0, 0)).1, mapL ms (c.gates.getD j (0, 0)).2) := by
            rw [List.getD_eq_getElem?_getD, List.getElem?_map, List.getElem?_eq_getElem hlt, List.getD_eq_getElem?_getD, List.getElem?_eq_getElem hlt]; rfl
          rw [← HM.out, ← hgs] at hst
          rw [hge] at q1 q2
          obtain ⟨gx, hgx1⟩ : ∃ x, x = mapL ms (c.gates.getD j (0, 0)).1 := ⟨_, rfl⟩
          obtain ⟨gy, hgy1⟩ : ∃ x, x = mapL ms (c.gates.getD j (0, 0)).2 := ⟨_, rfl⟩
          dsimp only at q1 q2
          rw [← hgx1] at q1 hst
          rw [← hgy1] at q2 hst
          have hbz := hbE.ext hE9
          have hug : us.getD (F + j) false = (usedV c).getD j false := by rw [← HUS.out, drop_getD2]
          have hKz := hKE.ext hE9
          have hku : us[F + j]? = some (us.getD (F + j) false) := by rw [List.getD_eq_getElem?_getD, List.getElem?_eq_getElem (by rw [HUL.out]; omega)]; rfl
          have kc := hKz.cell (i := F + j) (u := .bool (us.getD (F + j) false)) (by rw [List.getElem?_map, hku]; rfl)
          rw [hug] at kc
          have HST := Lib.hid hst
          have hKlt := hKz.lt
          clear hg1 hg2 hge hgs hgx1 hgy1 hug hku hst hGp
          have ic : ((F : Int) + (j : Int)).toNat = F + j := by omega
          go_wp2_with fail
          refine (firstGate_c b c p _ (hbz.ext (by (repeat (first | with_reducible assumption | with_reducible exact Ext.refl _ | with_reducible refine Ext.drew' ?_ | with_reducible refine Ext.drewN' ?_ _ | with_reducible refine Ext.alloc ?_ _ | (with_reducible refine Ext.setNew ?_ (by first | exact Nat.le_refl _ | (simp; done) | (simp; omega) | omega) _))))) hi0 (by omega) (by omega)).mono ?_
          rw [HF.out]
          rintro e w9 ⟨rfl, nn3, rfl⟩
          cases hu : (usedV c).getD j false
          · rw [hu] at kc
            have HS2 : Hid ((bState false c (j + 1)).1 = gs) := Lib.hid (by rw [HST.out, hu]; rfl)
            clear hu
            go_wp2
            go_roundw
            case rel =>
              have eZ : Ext wr ((wr.alloc (.cells #[.int .i64 gx, .int .i64 gy] 46)).drewN nn3) := ((Ext.refl wr).alloc _).drewN' nn3
              exact ⟨j + 1, _, by omega, by go_num, by rw [HS2.out]; exact hM.ext eZ, ownsRow_ext hG eZ, hgx, hE9.trans eZ⟩
            case measure => simp [intOf]; omega
          · rw [hu] at kc
            have HS2 : Hid ((bState false c (j + 1)).1 = gs ++ [(gx, gy)]) := Lib.hid (by rw [HST.out, hu]; rfl)
            clear hu
            have eZ : Ext wr ((wr.alloc (.cells #[.int .i64 gx, .int .i64 gy] 46)).drewN nn3) := ((Ext.refl wr).alloc _).drewN' nn3
            have hM2 := hM.ext eZ
            have hG2 := ownsRow_ext hG eZ
            have B2 := Blk.cell (show Blk ((wr.alloc (.cells #[.int .i64 gx, .int .i64 gy] 46)).drewN nn3) w7.heap.size 26 [.int .i64 c.inputs, .slice na c.next.length nc, .slice xa gs.length xc, .slice oa c.outs.length oc] from hM2.blk) (i := 2) rfl
            have eX := hE9.trans eZ
            have eY : Ext ((wr.alloc (.cells #[.int .i64 gx, .int .i64 gy] 46)).drewN nn3) (((wr.alloc (.cells #[.int .i64 gx, .int .i64 gy] 46)).drewN nn3).alloc (.cells #[.int .i64 gx, .int .i64 gy] 46)) := (Ext.refl _).alloc _
            have hrY : RowAt (((wr.alloc (.cells #[.int .i64 gx, .int .i64 gy] 46)).drewN nn3).alloc (.cells #[.int .i64 gx, .int .i64 gy] 46)) (some ⟨((wr.alloc (.cells #[.int .i64 gx, .int .i64 gy] 46)).drewN nn3).heap.size, 0, none⟩) (flat [(gx, gy)]) := rowAt_pair _ gx gy
            have hzY : ((wr.alloc (.cells #[.int .i64 gx, .int .i64 gy] 46)).drewN nn3).heap.size = wr.heap.size + 1 := by simp
            rw [hzY] at hrY
            clear hzY
            have hoY := ownsRow_ext hM2.gs eY
            dsimp only at hoY
            have hMY := hM2.ext eY
            have hbY : w6.heap.size ≤ (((wr.alloc (.cells #[.int .i64 gx, .int .i64 gy] 46)).drewN nn3).alloc (.cells #[.int .i64 gx, .int .i64 gy] 46)).heap.size := by have := hE9.size; simp; omega
            have bkY : Blk (((wr.alloc (.cells #[.int .i64 gx, .int .i64 gy] 46)).drewN nn3).alloc (.cells #[.int .i64 gx, .int .i64 gy] 46)) w7.heap.size 26 [.int .i64 c.inputs, .slice na c.next.length nc, .slice xa gs.length xc, .slice oa c.outs.length oc] := hMY.blk
            have hnY : gs.length + 1 ≤ 1073741824 := by omega
            have HMY := Lib.hid hMY
            have EX9 := hE9.trans (eZ.trans eY)
            have hG3 := ownsRow_ext hG2 eY
            clear hMY hM2 hG2 hM hG hxr eY eZ
            go_wp2_with (at_builtin; refine wpList_app tyGates hoY hrY rfl (oneCell_flat [(gx, gy)]) hnY hbY rfl rfl rfl rfl ?_; intro v9 w9 o9 g9 m9; obtain ⟨a9, c9, rfl, _⟩ := ownsRow_row o9; have bk9 := bkY.gr g9 HMY.out.g1; have z9 := bk9.cell (i := 2) rfl; have f9 := bk9.frozen 2)
            have o9b : w9.ownsRow w6.heap.size 46 2 (.slice a9 (gs.length + 1) c9) (gs ++ [(gx, gy)]).length (flat (gs ++ [(gx, gy)])) := by
              have e : (gs ++ [(gx, gy)]).length = gs.length + 1 := by simp
              rw [e, flat_append]
              exact o9
            have hM4 := HMY.out.addGates g9 m9 o9b
            have hE4 : Ext w6 w9 := ext_grown EX9 g9 (fun l hl => (hoY.lt l hl).1)
            have hgx2 : Hid (∀ l, (Value.slice (some ⟨gb, 0, none⟩) c.gates.length gc).ownBlock = some l → (Value.slice a9 (gs.length + 1) c9).ownBlock ≠ some l) := Lib.hid (moved_off m9 (fun l hl => (hG3.lt l hl).2) hgx.out)
            have hG4 := ownsRow_gr hG3 g9 (off_row hgx.out)
            go_roundw
            case rel =>
              refine ⟨j + 1, _, by omega, by go_num, ?_, ownsRow_set hG4 (p := ⟨w7.heap.size, 2, none⟩) (fun e => Nat.lt_irrefl _ (HGL.out _ e).2) _, hgx2, Ext.setNew (p := ⟨w7.heap.size, 2, none⟩) hE4 s7 _⟩
              rw [HS2.out]; exact hM4
            case measure => simp [intOf]; omega
        · have hj2 : j = c.gates.length := by omega
          subst hj2
          have hbv : buildV false c = ⟨c.inputs, c.next.map (mapL ms), gs, c.outs.map (mapL ms)⟩ := by unfold buildV; rw [HM.out, hgs, bState_all]
          have HBV := Lib.hid hbv
          have hbx : Blk wr w7.heap.size 26 [.int .i64 c.inputs, .slice na c.next.length nc, .slice xa gs.length xc, .slice oa c.outs.length oc] := hM.blk
          have re := (R2.ext hE).ext hE9
          (have x0 := hbx.cell (i := 0) rfl; have x1 := hbx.cell (i := 1) rfl; have x2 := hbx.cell (i := 2) rfl; have x3 := hbx.cell (i := 3) rfl; have xf := (fun i => hbx.frozen i))
          (have e0 := re.cell (i := 0) rfl; have e1 := re.cell (i := 1) rfl; have e2 := re.cell (i := 2) rfl; have e3 := re.cell (i := 3) rfl; have ef := (fun i => re.frozen i))
          have own : OwnC wr w6.heap.size ⟨c.inputs, c.next.map (mapL ms), gs, c.outs.map (mapL ms)⟩ (.slice na c.next.length nc) (.slice xa gs.length xc) (.slice oa c.outs.length oc) := ⟨hM.nx, hM.gs, hM.os, hM.ng, hM.no, hM.go⟩
          have hE10 := (E2.trans hE).trans hE9
          have s6 := (E2.trans hE).size
          have s6b : w.heap.size < w6.heap.size := Nat.lt_of_lt_of_le lR hE.size
          clear hbv hbx re hM hG hxr hgs
          go_wp2
          refine bodyPost_ret (v := .agg #[.int .i64 c.inputs, .slice na c.next.length nc, .slice xa gs.length xc, .slice oa c.outs.length oc]) (by simp [results, Try.results75, go_sem, e0, e1, e2, e3]) rfl ?_
          rw [HBV.out]
          exact ⟨_, _, _, rfl, ((((own.set (by omega) 0 _).set (by omega) 1 _).set (by omega) 2 _).set (by omega) 3 _).le (by omega), ext_set4 hE10 (Nat.le_refl _)⟩
end Go.Proofs.Ytpfhlodlefcomaa
