/- The law FnCuts: a cut determines its variable; every variable other than constant false has itself as its last cut. No condition. -/
import Derived.Test.YtpomcoegpjehgaaBytes
import Derived.Test.YtpomcoegpjehgaaLawD
import Derived.Test.YtpomcoegpjehgaaBCut
import Derived.Test.YtpomcoegpjehgaaSameC
namespace Go.Proofs.Ytpomcoegpjehgaa
open Go.ChangeShapes Go.WideShapes Go.ChangeAt Go.RowKit
set_option maxRecDepth 100000
set_option linter.unusedVariables false
set_option linter.unusedSimpArgs false
theorem cuts_small (c : Circ) : (cutsV c).length ≤ 22 ∧ ∀ j, j < (cutsV c).length → ((cutsV c).getD j []).length ≤ 9 ∧ 0 < ((cutsV c).getD j []).length ∧ ∀ x ∈ (cutsV c).getD j [], x.length ≤ 3 := by
  unfold cutsV
  cases hv : validB c
  · simp
  · have V := validB_iff.1 hv
    have hl := cutsN_len V
    have i0 := V.i0
    have i4 := V.i4
    have ln := V.ln
    have lg := V.lg
    have hf : 1 ≤ c.first ∧ c.first ≤ 8 := by unfold Circ.first; omega
    obtain ⟨ok, okl⟩ := cutsK_ok V c.gates.length (Nat.le_refl _)
    rw [List.take_length] at ok okl
    simp only [if_true]
    refine ⟨by omega, fun j hj => ?_⟩
    have o := ok j hj
    refine ⟨o.n, ?_, fun x hx => (o.ok x hx).len⟩
    obtain ⟨x, hx, _⟩ := o.one
    exact List.length_pos_of_mem hx
theorem cuts_facts {c : Circ} (V : c.Valid) {v : Nat} (hv : v < (cutsN c).length) : (0 < v → ((cutsN c).getD v []).getD (((cutsN c).getD v []).length - 1) [] = [(v : Int)]) ∧ ∀ i, i < ((cutsN c).getD v []).length → Asc (((cutsN c).getD v []).getD i []) ∧ (∀ z ∈ ((cutsN c).getD v []).getD i [], 0 < z ∧ z < c.vars) ∧ Cov c (((cutsN c).getD v []).getD i []) v := by
  have hl := cutsN_len V
  have i0 := V.i0
  have hf : 1 ≤ c.first := by unfold Circ.first; omega
  have hvv : c.vars = c.first + c.gates.length := rfl
  obtain ⟨ok, okl⟩ := cutsK_ok V c.gates.length (Nat.le_refl _)
  rw [List.take_length] at ok okl
  have o := ok v hv
  change ListOk c.first v ((cutsN c).getD v []) at o
  refine ⟨fun h0 => ?_, fun i hi => ?_⟩
  · by_cases h : (v : Int) < c.first
    · rw [o.low (by omega) h]; rfl
    · obtain ⟨M, hM, _⟩ := o.gate (by omega)
      rw [hM, List.length_append]
      show (M ++ [[(v : Int)]]).getD (M.length + 1 - 1) [] = _
      rw [Nat.add_sub_cancel, getD_snoc, if_neg (by omega), if_pos rfl]
  · have hm := getN_mem (d := ([] : List Int)) hi
    have k := o.ok _ hm
    refine ⟨k.asc, fun z hz => ⟨k.lo z hz, ?_⟩, cuts_cov V hv _ hm⟩
    have := k.hi z hz
    omega
set_option maxHeartbeats 40000000 in
theorem fnCuts_walk (a0 : Option Addr) (len0 cap0 : Nat) (z0 : List Int) (w : World) (w0 : IsRow .u8 w a0 len0 cap0 z0) :
    Calls Try.prog 3 #[.slice a0 len0 cap0] w fun e w' => e = .returned (.bool true) ∧ Below w.heap.size w w' := by
  obtain ⟨bs, rfl, hB, hlc, hcm⟩ := bytes_of_row w0
  by_cases hl : bs.length ≤ 1048576
  · go_enter Try.func3, Try.ntmps3
    go_wp2_with fail
    refine (DrawCuts_c a0 cap0 bs _ hB hl hlc hcm).mono ?_
    rintro e w1 ⟨c, p, rfl, hC, hd, hE, hcap⟩
    clear hd hcap
    go_wp2_with fail
    (have y := CircBox.made w1 c p 26; have Ey : Ext w1 (w1.alloc (.cells #[.int .i64 c.inputs, .slice p.an c.next.length p.cn, .slice p.ag c.gates.length p.cg, .slice p.ao c.outs.length p.co] 26)) := (Ext.refl w1).alloc _; have hC := hC.ext Ey)
    generalize w1.alloc (.cells #[.int .i64 c.inputs, .slice p.an c.next.length p.cn, .slice p.ag c.gates.length p.cg, .slice p.ao c.outs.length p.co] 26) = W1 at *
    have E1 := Ext.trans hE Ey
    clear hE Ey
    have T1 := Lib.hid (implCuts_c c p)
    have T2 := Lib.hid (specCuts_k c p)
    obtain ⟨h22, hsm⟩ := cuts_small c
    obtain ⟨L, hL⟩ : ∃ L, L = cutsV c := ⟨_, rfl⟩
    rw [← hL] at T1 T2 h22 hsm
    have HL := Lib.hid hL
    have HSM := Lib.hid hsm
    clear hL hsm
    refine (T1.out _ hC).mono ?_
    rintro e w2 ⟨lv, FL, rfl, hNL, hFL, hE2⟩
    obtain ⟨la, lc, rfl, _⟩ := hNL.sl
    have hC := hC.ext hE2
    have y := y.ext hE2
    have E2 := E1.trans hE2
    clear hE2 E1 T1
    (obtain ⟨ly, y0, y1, y2, y3⟩ := (id y))
    go_wp2_with fail
    refine (T2.out _ hC).mono ?_
    rintro e w3 ⟨rv, FR, rfl, hNR, hFR, hE3⟩
    obtain ⟨ra, rc, rfl, _⟩ := hNR.sl
    have HC3 := Lib.hid (hC.ext hE3)
    have HY3 := Lib.hid (y.ext hE3)
    have HNL := Lib.hid (hNL.ext goodII hE3)
    have HNR := Lib.hid hNR
    have E3 := E2.trans hE3
    have hne0 : ((L.length : Int) != (L.length : Int)) = false := bne_self_eq_false _
    clear hE3 E2 T2 y0 y1 y2 y3 ly hC y hNL hNR hFL hFR
    go_wp2_with fail
    clear hne0
    go_loopw [6] (fun u wr => ∃ i : Nat, i ≤ L.length ∧ u = .int .i64 i ∧ Ext w3 wr) (fun u _ => L.length - (intOf u).toNat)
    case atStart => exact ⟨0, Nat.zero_le _, rfl, Ext.refl _⟩
    case round =>
      obtain ⟨v, hv, rfl, hE⟩ := hrel
      obtain ⟨w4, rfl⟩ : ∃ z : World, z = wr := ⟨_, rfl⟩
      by_cases hlt : v < L.length
      · obtain ⟨s9, s0, s3⟩ := HSM.out v hlt
        obtain ⟨M, hM⟩ : ∃ M, M = L.getD v [] := ⟨_, rfl⟩
        rw [← hM] at s9 s0 s3
        have HM := Lib.hid hM
        have HS3 := Lib.hid s3
        obtain ⟨gl, rfl, hgl, hcs⟩ := NstII.get (HNL.out.ext goodII hE) (by omega)
        obtain ⟨aj, cj, Fj, q, _, _⟩ := hcs v hlt
        obtain ⟨gr, rfl, hgr, hcr⟩ := NstII.get (HNR.out.ext goodII hE) (by omega)
        obtain ⟨ak, ck, Fk, q2, _, _⟩ := hcr v hlt
        rw [← hM] at q q2
        have hneM : ((M.length : Int) != (M.length : Int)) = false := bne_self_eq_false _
        clear hM s3 hcs hcr
        go_wp2_with fail
        go_quiet (fail)
        go_wp2_with fail
        clear q q2 hgl hgr hneM
        go_loopw [7] (fun u wr => ∃ i : Nat, i ≤ M.length ∧ u = .int .i64 i ∧ Ext w4 wr) (fun u _ => M.length - (intOf u).toNat)
        case atStart => exact ⟨0, Nat.zero_le _, rfl, by (repeat (first | with_reducible assumption | with_reducible exact Ext.refl _ | with_reducible refine Ext.drew' ?_ | with_reducible refine Ext.drewN' ?_ _ | with_reducible refine Ext.alloc ?_ _ | (with_reducible refine Ext.setNew ?_ (by first | exact Nat.le_refl _ | (simp; done) | (simp; omega) | omega) _)))⟩
        case round =>
          obtain ⟨i, hi, rfl, hE4⟩ := hrel
          obtain ⟨w5, rfl⟩ : ∃ z : World, z = wr := ⟨_, rfl⟩
          obtain ⟨gl2, ela, hgl, hcs⟩ := NstII.get (HNL.out.ext goodII (hE.trans hE4)) (by omega)
          cases ela
          obtain ⟨aj, cj, Fj, q, nj, _⟩ := hcs v hlt
          obtain ⟨gr2, era, hgr, hcr⟩ := NstII.get (HNR.out.ext goodII (hE.trans hE4)) (by omega)
          cases era
          obtain ⟨ak, ck, Fk, q2, nk, _⟩ := hcr v hlt
          rw [← HM.out] at q q2 nj nk
          by_cases hlt2 : i < M.length
          · obtain ⟨gj, rfl, hgj, hcj⟩ := NstI.get nj (by omega)
            obtain ⟨ax, cx, qx, hIx⟩ := hcj i hlt2
            obtain ⟨gk, rfl, hgk, hck⟩ := NstI.get nk (by omega)
            obtain ⟨ay, cy, qy, hIy⟩ := hck i hlt2
            have hx3 := HS3.out _ (getN_mem (d := ([] : List Int)) hlt2)
            obtain ⟨x, hx⟩ : ∃ x, x = M.getD i [] := ⟨_, rfl⟩
            rw [← hx] at qx hIx qy hIy hx3
            clear hx hcj hck hcs hcr nj nk
            go_wp2_with fail
            (refine wp_regionT ((fun w' => (∀ b o, b < w5.heap.size → w'.cell? ⟨b, o, none⟩ = w5.cell? ⟨b, o, none⟩) ∧ Ext w5 w')) 15 (by kernel_rfl) ?_; have hS0 := held_mk (Ext.drew w5))
            ((refine wpAnyT_take 0 (v := ?_) rfl (by kernel_rfl) (fun _ _ _ h => h) (Or.inl ⟨by kernel_rfl, ?_⟩) (by assumption) ?_; rotate_left; (intro wS hSw; (try dsimp only at hSw); go_simp; (try with_reducible rfl)); (try simp only [Act.put, List.setIfInBounds_toArray, List.set_cons_zero, List.set_cons_succ])); (refine wpAnyT_take 1 (v := ?_) rfl (by kernel_rfl) (fun _ _ _ h => h) (Or.inl ⟨by kernel_rfl, ?_⟩) (by assumption) ?_; rotate_left; (intro wS hSw; (try dsimp only at hSw); go_simp; (try with_reducible rfl)); (try simp only [Act.put, List.setIfInBounds_toArray, List.set_cons_zero, List.set_cons_succ])); (refine wpAnyT_take 2 (v := ?_) rfl (by kernel_rfl) (fun _ _ _ h => h) (Or.inl ⟨by kernel_rfl, ?_⟩) (by assumption) ?_; rotate_left; (intro wS hSw; (try dsimp only at hSw); go_simp; (try with_reducible rfl)); (try simp only [Act.put, List.setIfInBounds_toArray, List.set_cons_zero, List.set_cons_succ])); (refine wpAnyT_take 3 (v := ?_) rfl (by kernel_rfl) (fun _ _ _ h => h) (Or.inl ⟨by kernel_rfl, ?_⟩) (by assumption) ?_; rotate_left; (intro wS hSw; (try dsimp only at hSw); go_simp; (try with_reducible rfl)); (try simp only [Act.put, List.setIfInBounds_toArray, List.set_cons_zero, List.set_cons_succ])); (refine wpAnyT_take 4 (v := ?_) rfl (by kernel_rfl) (fun _ _ _ h => h) (Or.inl ⟨by kernel_rfl, ?_⟩) (by assumption) ?_; rotate_left; (intro wS hSw; (try dsimp only at hSw); go_simp; (try with_reducible rfl)); (try simp only [Act.put, List.setIfInBounds_toArray, List.set_cons_zero, List.set_cons_succ])); (refine wpAnyT_take 5 (v := ?_) rfl (by kernel_rfl) (fun _ _ _ h => h) (Or.inl ⟨by kernel_rfl, ?_⟩) (by assumption) ?_; rotate_left; (intro wS hSw; (try dsimp only at hSw); go_simp; (try with_reducible rfl)); (try simp only [Act.put, List.setIfInBounds_toArray, List.set_cons_zero, List.set_cons_succ])); (refine wpAnyT_take 6 (v := ?_) rfl (by kernel_rfl) (fun _ _ _ h => h) (Or.inl ⟨by kernel_rfl, ?_⟩) (by assumption) ?_; rotate_left; (intro wS hSw; (try dsimp only at hSw); go_simp; (try with_reducible rfl)); (try simp only [Act.put, List.setIfInBounds_toArray, List.set_cons_zero, List.set_cons_succ])); (refine wpAnyT_take 7 (v := ?_) rfl (by kernel_rfl) (fun _ _ _ h => h) (Or.inl ⟨by kernel_rfl, ?_⟩) (by assumption) ?_; rotate_left; (intro wS hSw; (try dsimp only at hSw); go_simp; (try with_reducible rfl)); (try simp only [Act.put, List.setIfInBounds_toArray, List.set_cons_zero, List.set_cons_succ])); (refine wpAnyT_take 8 (v := ?_) rfl (by kernel_rfl) (fun _ _ _ h => h) (Or.inl ⟨by kernel_rfl, ?_⟩) (by assumption) ?_; rotate_left; (intro wS hSw; (try dsimp only at hSw); go_simp; (try with_reducible rfl)); (try simp only [Act.put, List.setIfInBounds_toArray, List.set_cons_zero, List.set_cons_succ])); (refine wpAnyT_take 9 (v := ?_) rfl (by kernel_rfl) (fun _ _ _ h => h) (Or.inl ⟨by kernel_rfl, ?_⟩) (by assumption) ?_; rotate_left; (intro wS hSw; (try dsimp only at hSw); go_simp; (try with_reducible rfl)); (try simp only [Act.put, List.setIfInBounds_toArray, List.set_cons_zero, List.set_cons_succ])); (refine wpAnyT_take 10 (v := ?_) rfl (by kernel_rfl) (fun _ _ _ h => h) (Or.inl ⟨by kernel_rfl, ?_⟩) (by assumption) ?_; rotate_left; (intro wS hSw; (try dsimp only at hSw); go_simp; (try with_reducible rfl)); (try simp only [Act.put, List.setIfInBounds_toArray, List.set_cons_zero, List.set_cons_succ])); (refine wpAnyT_take 11 (v := ?_) rfl (by kernel_rfl) (fun _ _ _ h => h) (Or.inl ⟨by kernel_rfl, ?_⟩) (by assumption) ?_; rotate_left; (intro wS hSw; (try dsimp only at hSw); go_simp; (try with_reducible rfl)); (try simp only [Act.put, List.setIfInBounds_toArray, List.set_cons_zero, List.set_cons_succ])); (refine wpAnyT_take 12 (v := ?_) rfl (by kernel_rfl) (fun _ _ _ h => h) (Or.inl ⟨by kernel_rfl, ?_⟩) (by assumption) ?_; rotate_left; (intro wS hSw; (try dsimp only at hSw); go_simp; (try with_reducible rfl)); (try simp only [Act.put, List.setIfInBounds_toArray, List.set_cons_zero, List.set_cons_succ])); (refine wpAnyT_take 13 (v := ?_) rfl (by kernel_rfl) (fun _ _ _ h => h) (Or.inl ⟨by kernel_rfl, ?_⟩) (by assumption) ?_; rotate_left; (intro wS hSw; (try dsimp only at hSw); go_simp; (try with_reducible rfl)); (try simp only [Act.put, List.setIfInBounds_toArray, List.set_cons_zero, List.set_cons_succ])))
            (refine wpAnyT_do 14 (by kernel_rfl) rfl (fun K hK => ?_))
            go_simp
            refine (sameInts_c ax ay cx cy x _ (hIx.ext (Ext.drew w5)) (hIy.ext (Ext.drew w5)) (by omega)).mono ?_
            rintro e w6 ⟨rfl, hE6⟩
            have hS6 := held_mk ((Ext.drew w5).trans hE6)
            (refine hK _ _ hS6 ?_; clear hK K; (try simp only [Act.put, List.setIfInBounds_toArray, List.set_cons_zero, List.set_cons_succ]))
            (refine wpAnyT_last 15 (by kernel_rfl) rfl (by decide) (by kernel_rfl) (fun K hK => ?_))
            go_simp
            (refine hK _ _ ?_; clear hK K; (try simp only [Act.put, List.setIfInBounds_toArray, List.set_cons_zero, List.set_cons_succ]))
            go_wp2_with fail
            go_roundw
            case rel => exact ⟨i + 1, by omega, by go_num, hE4.trans (held_ext hS6)⟩
            case measure => simp [intOf]; omega
          · clear hcs hcr nj nk
            go_wp2_with fail
            go_roundw
            case rel => exact ⟨v + 1, by omega, by go_num, hE.trans hE4⟩
            case measure => simp [intOf]; omega
      · have y4 := HY3.out.ext hE
        have E4 := E3.trans hE
        (obtain ⟨ly, y0, y1, y2, y3⟩ := (id y4))
        go_wp2_with fail
        refine (specCircuitValid_c c p _ (HC3.out.ext hE)).mono ?_
        rintro e w5 ⟨rfl, hE5⟩
        have E5 := E4.trans hE5
        have F5 := hE.trans hE5
        clear y0 y1 y2 y3 ly y4 hE5 E4 hE hlt
        cases hv2 : validB c
        · have hd : L = [] := by rw [HL.out]; unfold cutsV; rw [hv2]; rfl
          subst hd
          clear hv2
          go_wp2_with fail
          refine (alive_c _).mono ?_
          rintro e w6 ⟨rfl, hE6⟩
          go_wp2
          go_ret
          exact ⟨rfl, E5.trans hE6⟩
        · have V := validB_iff.1 hv2
          have hlv : L = cutsN c := by rw [HL.out]; unfold cutsV; rw [hv2]; rfl
          have hfc := fun v (hv : v < (cutsN c).length) => cuts_facts V hv
          have hlen : ((cutsN c).length : Int) = c.vars := cutsN_length c (by have := V.i0; unfold Circ.first; omega)
          rw [← hlv] at hfc hlen
          have HFC := Lib.hid hfc
          have HLEN := Lib.hid hlen
          have HDT := Lib.hid (fun v hv a cap S w hC hI hl ha hz hcov => determined_c c p V v hv a cap S w hC hI hl ha hz hcov)
          have HC5 := Lib.hid (HC3.out.ext F5)
          have HY5 := Lib.hid (HY3.out.ext F5)
          have HN5 := Lib.hid (HNL.out.ext goodII F5)
          clear hv2 V hlv hfc hlen HC3 HY3 HNL HNR F5
          go_wp2_with fail
          go_loopw [8] (fun u wr => ∃ i : Nat, i ≤ L.length ∧ u = .int .i64 i ∧ Ext w5 wr) (fun u _ => L.length - (intOf u).toNat)
          case atStart => exact ⟨0, Nat.zero_le _, rfl, Ext.refl _⟩
          case round =>
            clear hv
            obtain ⟨v, hv, rfl, hE⟩ := hrel
            obtain ⟨w6, rfl⟩ : ∃ z : World, z = wr := ⟨_, rfl⟩
            by_cases hlt : v < L.length
            · obtain ⟨s9, s0, s3⟩ := HSM.out v hlt
              obtain ⟨hlast, hall⟩ := HFC.out v hlt
              have hvv : (v : Int) < c.vars := by have := HLEN.out; omega
              obtain ⟨gl, rfl, hgl, hcs⟩ := NstII.get (HN5.out.ext goodII hE) (by omega)
              obtain ⟨aj, cj, Fj, q, nj, _⟩ := hcs v hlt
              obtain ⟨M, hM⟩ : ∃ M, M = L.getD v [] := ⟨_, rfl⟩
              rw [← hM] at s9 s0 s3 hlast hall q nj
              have HM := Lib.hid hM
              have HS3 := Lib.hid s3
              have HALL := Lib.hid hall
              obtain ⟨gj, rfl, hgj, hcj⟩ := NstI.get nj s0
              obtain ⟨m, hm⟩ : ∃ m, M.length = m + 1 := ⟨M.length - 1, by omega⟩
              obtain ⟨ax, cx, qx, hIx⟩ := hcj m (by omega)
              have hx3 := HS3.out _ (getN_mem (d := ([] : List Int)) (show m < M.length by omega))
              have hlast2 : 0 < v → M.getD m [] = [(v : Int)] := fun h => by
                have := hlast h
                rw [show M.length - 1 = m by omega] at this
                exact this
              have hwm : IntKind.i64.wrap ((M.length : Int) - 1) = (m : Int) := by rw [IntWalk.i64_in _ (by omega)]; omega
              have hwm2 : (M.length : Int) - 1 = (m : Int) := by omega
              have hm0 : (m : Int) < (M.length : Int) := by omega
              have hmn : m < M.length := by omega
              have hwm3 : IntKind.i64.wrap (m : Int) = (m : Int) := IntWalk.i64_in _ (by omega)
              have h9 : decide ((9 : Int) < (M.length : Int)) = false := by simp; omega
              have HMM := Lib.hid hm
              obtain ⟨x, hx⟩ : ∃ x, x = M.getD m [] := ⟨_, rfl⟩
              rw [← hx] at qx hIx hx3 hlast2
              have HLA := Lib.hid hlast2
              clear hM s3 hcs hcj nj hlast hall hm hx hlast2
              go_wp2_with fail
              (refine wp_regionT ((fun w' => (∀ b o, b < w6.heap.size → w'.cell? ⟨b, o, none⟩ = w6.cell? ⟨b, o, none⟩) ∧ Ext w6 w')) 12 (by kernel_rfl) ?_; have hS0 := held_mk (Ext.drew w6))
              ((refine wpAnyT_take 0 (v := ?_) rfl (by kernel_rfl) (fun _ _ _ h => h) (Or.inl ⟨by kernel_rfl, ?_⟩) (by assumption) ?_; rotate_left; (intro wS hSw; (try dsimp only at hSw); go_simp; (try with_reducible rfl)); (try simp only [Act.put, List.setIfInBounds_toArray, List.set_cons_zero, List.set_cons_succ])); (refine wpAnyT_take 1 (v := ?_) rfl (by kernel_rfl) (fun _ _ _ h => h) (Or.inl ⟨by kernel_rfl, ?_⟩) (by assumption) ?_; rotate_left; (intro wS hSw; (try dsimp only at hSw); go_simp; (try with_reducible rfl)); (try simp only [Act.put, List.setIfInBounds_toArray, List.set_cons_zero, List.set_cons_succ])); (refine wpAnyT_take 2 (v := ?_) rfl (by kernel_rfl) (fun _ _ _ h => h) (Or.inl ⟨by kernel_rfl, ?_⟩) (by assumption) ?_; rotate_left; (intro wS hSw; (try dsimp only at hSw); go_simp; (try with_reducible rfl)); (try simp only [Act.put, List.setIfInBounds_toArray, List.set_cons_zero, List.set_cons_succ])); (refine wpAnyT_take 3 (v := ?_) rfl (by kernel_rfl) (fun _ _ _ h => h) (Or.inl ⟨by kernel_rfl, ?_⟩) (by assumption) ?_; rotate_left; (intro wS hSw; (try dsimp only at hSw); go_simp; (try with_reducible rfl)); (try simp only [Act.put, List.setIfInBounds_toArray, List.set_cons_zero, List.set_cons_succ])); (refine wpAnyT_take 4 (v := ?_) rfl (by kernel_rfl) (fun _ _ _ h => h) (Or.inl ⟨by kernel_rfl, ?_⟩) (by assumption) ?_; rotate_left; (intro wS hSw; (try dsimp only at hSw); go_simp; (try with_reducible rfl)); (try simp only [Act.put, List.setIfInBounds_toArray, List.set_cons_zero, List.set_cons_succ])); (refine wpAnyT_take 5 (v := ?_) rfl (by kernel_rfl) (fun _ _ _ h => h) (Or.inl ⟨by kernel_rfl, ?_⟩) (by assumption) ?_; rotate_left; (intro wS hSw; (try dsimp only at hSw); go_simp; (try with_reducible rfl)); (try simp only [Act.put, List.setIfInBounds_toArray, List.set_cons_zero, List.set_cons_succ])); (refine wpAnyT_take 6 (v := ?_) rfl (by kernel_rfl) (fun _ _ _ h => h) (Or.inl ⟨by kernel_rfl, ?_⟩) (by assumption) ?_; rotate_left; (intro wS hSw; (try dsimp only at hSw); go_simp; (try with_reducible rfl)); (try simp only [Act.put, List.setIfInBounds_toArray, List.set_cons_zero, List.set_cons_succ])); (refine wpAnyT_take 7 (v := ?_) rfl (by kernel_rfl) (fun _ _ _ h => h) (Or.inl ⟨by kernel_rfl, ?_⟩) (by assumption) ?_; rotate_left; (intro wS hSw; (try dsimp only at hSw); go_simp; (try with_reducible rfl)); (try simp only [Act.put, List.setIfInBounds_toArray, List.set_cons_zero, List.set_cons_succ])); (refine wpAnyT_take 8 (v := ?_) rfl (by kernel_rfl) (fun _ _ _ h => h) (Or.inl ⟨by kernel_rfl, ?_⟩) (by assumption) ?_; rotate_left; (intro wS hSw; (try dsimp only at hSw); go_simp; (try with_reducible rfl)); (try simp only [Act.put, List.setIfInBounds_toArray, List.set_cons_zero, List.set_cons_succ])); (refine wpAnyT_take 9 (v := ?_) rfl (by kernel_rfl) (fun _ _ _ h => h) (Or.inl ⟨by kernel_rfl, ?_⟩) (by assumption) ?_; rotate_left; (intro wS hSw; (try dsimp only at hSw); go_simp; (try with_reducible rfl)); (try simp only [Act.put, List.setIfInBounds_toArray, List.set_cons_zero, List.set_cons_succ])); (refine wpAnyT_take 10 (v := ?_) rfl (by kernel_rfl) (fun _ _ _ h => h) (Or.inl ⟨by kernel_rfl, ?_⟩) (by assumption) ?_; rotate_left; (intro wS hSw; (try dsimp only at hSw); go_simp; (try with_reducible rfl)); (try simp only [Act.put, List.setIfInBounds_toArray, List.set_cons_zero, List.set_cons_succ])); (refine wpAnyT_take 11 (v := ?_) rfl (by kernel_rfl) (fun _ _ _ h => h) (Or.inl ⟨by kernel_rfl, ?_⟩) (by assumption) ?_; rotate_left; (intro wS hSw; (try dsimp only at hSw); go_simp; (try with_reducible rfl)); (try simp only [Act.put, List.setIfInBounds_toArray, List.set_cons_zero, List.set_cons_succ])))
              (refine wpAnyT_last 12 (by kernel_rfl) rfl (by decide) (by kernel_rfl) (fun K hK => ?_))
              go_simp
              (refine hK _ _ ?_; clear hK K; (try simp only [Act.put, List.setIfInBounds_toArray, List.set_cons_zero, List.set_cons_succ]))
              clear hS0
              by_cases hv0 : ¬ 0 < v
              · have hvd : decide ((0 : Int) < (v : Int)) = false := by simp; omega
                have hvd2 : decide (0 < v) = false := by simp; omega
                clear qx hIx
                go_wp2_with fail
                have F6 : Ext w6 (World.drew w6) := Ext.drew w6
                go_loopw [10] (fun u wr => ∃ i : Nat, i ≤ M.length ∧ u = .int .i64 i ∧ Ext w6 wr) (fun u _ => M.length - (intOf u).toNat)
                case atStart => exact ⟨0, Nat.zero_le _, rfl, F6⟩
                case round =>
                  clear F6
                  obtain ⟨i, hi, rfl, hE6⟩ := hrel
                  obtain ⟨w7, rfl⟩ : ∃ z : World, z = wr := ⟨_, rfl⟩
                  obtain ⟨gl2, ela, hgl, hcs⟩ := NstII.get (HN5.out.ext goodII (hE.trans hE6)) (by omega)
                  cases ela
                  obtain ⟨aj, cj, Fj, q, nj, _⟩ := hcs v hlt
                  rw [← HM.out] at q nj
                  have y7 := HY5.out.ext (hE.trans hE6)
                  (obtain ⟨ly, y0, y1, y2, y3⟩ := (id y7))
                  by_cases hlt2 : i < M.length
                  · obtain ⟨gj, rfl, hgj, hcj⟩ := NstI.get nj (by omega)
                    obtain ⟨ax, cx, qx, hIx⟩ := hcj i hlt2
                    have hx3 := HS3.out _ (getN_mem (d := ([] : List Int)) hlt2)
                    obtain ⟨x1, x2, x3⟩ := HALL.out i hlt2
                    obtain ⟨x, hx⟩ : ∃ x, x = M.getD i [] := ⟨_, rfl⟩
                    rw [← hx] at qx hIx hx3 x1 x2 x3
                    have HX := Lib.hid (And.intro x1 (And.intro x2 x3))
                    have HIX := Lib.hid hIx
                    clear hx hcj hcs nj x1 x2 x3 hIx
                    go_wp2_with fail
                    (refine wp_regionT ((fun w' => (∀ b o, b < w7.heap.size → w'.cell? ⟨b, o, none⟩ = w7.cell? ⟨b, o, none⟩) ∧ Ext w7 w')) 10 (by kernel_rfl) ?_; have hS0 := held_mk (Ext.drew w7))
                    ((refine wpAnyT_take 0 (v := ?_) rfl (by kernel_rfl) (fun _ _ _ h => h) (Or.inl ⟨by kernel_rfl, ?_⟩) (by assumption) ?_; rotate_left; (intro wS hSw; (try dsimp only at hSw); go_simp; (try with_reducible rfl)); (try simp only [Act.put, List.setIfInBounds_toArray, List.set_cons_zero, List.set_cons_succ])); (refine wpAnyT_take 1 (v := ?_) rfl (by kernel_rfl) (fun _ _ _ h => h) (Or.inl ⟨by kernel_rfl, ?_⟩) (by assumption) ?_; rotate_left; (intro wS hSw; (try dsimp only at hSw); go_simp; (try with_reducible rfl)); (try simp only [Act.put, List.setIfInBounds_toArray, List.set_cons_zero, List.set_cons_succ])); (refine wpAnyT_take 2 (v := ?_) rfl (by kernel_rfl) (fun _ _ _ h => h) (Or.inl ⟨by kernel_rfl, ?_⟩) (by assumption) ?_; rotate_left; (intro wS hSw; (try dsimp only at hSw); go_simp; (try with_reducible rfl)); (try simp only [Act.put, List.setIfInBounds_toArray, List.set_cons_zero, List.set_cons_succ])); (refine wpAnyT_take 3 (v := ?_) rfl (by kernel_rfl) (fun _ _ _ h => h) (Or.inl ⟨by kernel_rfl, ?_⟩) (by assumption) ?_; rotate_left; (intro wS hSw; (try dsimp only at hSw); go_simp; (try with_reducible rfl)); (try simp only [Act.put, List.setIfInBounds_toArray, List.set_cons_zero, List.set_cons_succ])); (refine wpAnyT_take 4 (v := ?_) rfl (by kernel_rfl) (fun _ _ _ h => h) (Or.inl ⟨by kernel_rfl, ?_⟩) (by assumption) ?_; rotate_left; (intro wS hSw; (try dsimp only at hSw); go_simp; (try with_reducible rfl)); (try simp only [Act.put, List.setIfInBounds_toArray, List.set_cons_zero, List.set_cons_succ])); (refine wpAnyT_take 5 (v := ?_) rfl (by kernel_rfl) (fun _ _ _ h => h) (Or.inl ⟨by kernel_rfl, ?_⟩) (by assumption) ?_; rotate_left; (intro wS hSw; (try dsimp only at hSw); go_simp; (try with_reducible rfl)); (try simp only [Act.put, List.setIfInBounds_toArray, List.set_cons_zero, List.set_cons_succ])); (refine wpAnyT_take 6 (v := ?_) rfl (by kernel_rfl) (fun _ _ _ h => h) (Or.inl ⟨by kernel_rfl, ?_⟩) (by assumption) ?_; rotate_left; (intro wS hSw; (try dsimp only at hSw); go_simp; (try with_reducible rfl)); (try simp only [Act.put, List.setIfInBounds_toArray, List.set_cons_zero, List.set_cons_succ])); (refine wpAnyT_take 7 (v := ?_) rfl (by kernel_rfl) (fun _ _ _ h => h) (Or.inl ⟨by kernel_rfl, ?_⟩) (by assumption) ?_; rotate_left; (intro wS hSw; (try dsimp only at hSw); go_simp; (try with_reducible rfl)); (try simp only [Act.put, List.setIfInBounds_toArray, List.set_cons_zero, List.set_cons_succ])); (refine wpAnyT_take 8 (v := ?_) rfl (by kernel_rfl) (fun _ _ _ h => h) (Or.inl ⟨by kernel_rfl, ?_⟩) (by assumption) ?_; rotate_left; (intro wS hSw; (try dsimp only at hSw); go_simp; (try with_reducible rfl)); (try simp only [Act.put, List.setIfInBounds_toArray, List.set_cons_zero, List.set_cons_succ])))
                    (refine wpAnyT_do 9 (by kernel_rfl) rfl (fun K hK => ?_))
                    go_simp
                    refine (HDT.out v hvv ax cx x _ (HC5.out.ext ((hE.trans hE6).trans (Ext.drew w7))) (HIX.out.ext (Ext.drew w7)) hx3 HX.out.1 HX.out.2.1 HX.out.2.2).mono ?_
                    rintro e w8 ⟨rfl, hE8⟩
                    have hS8 := held_mk ((Ext.drew w7).trans hE8)
                    (refine hK _ _ hS8 ?_; clear hK K; (try simp only [Act.put, List.setIfInBounds_toArray, List.set_cons_zero, List.set_cons_succ]))
                    (refine wpAnyT_last 10 (by kernel_rfl) rfl (by decide) (by kernel_rfl) (fun K hK => ?_))
                    go_simp
                    (refine hK _ _ ?_; clear hK K; (try simp only [Act.put, List.setIfInBounds_toArray, List.set_cons_zero, List.set_cons_succ]))
                    go_wp2_with fail
                    go_roundw
                    case rel => exact ⟨i + 1, by omega, by go_num, hE6.trans (held_ext hS8)⟩
                    case measure => simp [intOf]; omega
                  · clear hcs nj
                    go_wp2_with fail
                    go_roundw
                    case rel => exact ⟨v + 1, by omega, by go_num, hE.trans hE6⟩
                    case measure => simp [intOf]; omega
              · have hvd : decide ((0 : Int) < (v : Int)) = true := by simp; omega
                have hvd2 : decide (0 < v) = true := by simp; omega
                have hxe := HLA.out (by omega)
                subst hxe
                have hlb := Blk.at (World.drew w6) [.int .i64 v] 3 rfl
                have hIl : IntsAt ((World.drew w6).alloc (.cells #[.int .i64 v] 3)) (some ⟨w6.heap.size, 0, none⟩) [(v : Int)] := Blk.ints (xs := [(v : Int)]) hlb
                have eD : Ext w6 ((World.drew w6).alloc (.cells #[.int .i64 v] 3)) := (Ext.drew w6).alloc _
                have hS1 := Lib.hid (fun w hx hy => sameInts_c ax (some ⟨w6.heap.size, 0, none⟩) cx 1 [(v : Int)] w hx hy (by simp))
                have HXI := Lib.hid (hIx.ext eD)
                have HIL := Lib.hid hIl
                have HED := Lib.hid eD
                clear hlb hIl hIx eD
                go_wp2_with fail
                refine (hS1.out _ HXI.out HIL.out).mono ?_
                rintro e w8 ⟨rfl, hE8⟩
                have F6 := HED.out.trans hE8
                have q8 := ((ecell F6).1 _ _ hgl).trans q
                have hgl8 := Nat.lt_of_lt_of_le hgl F6.size
                clear hE8
                go_wp2_with fail
                go_loopw [10] (fun u wr => ∃ i : Nat, i ≤ M.length ∧ u = .int .i64 i ∧ Ext w6 wr) (fun u _ => M.length - (intOf u).toNat)
                case atStart => exact ⟨0, Nat.zero_le _, rfl, F6⟩
                case round =>
                  clear F6
                  obtain ⟨i, hi, rfl, hE6⟩ := hrel
                  obtain ⟨w7, rfl⟩ : ∃ z : World, z = wr := ⟨_, rfl⟩
                  obtain ⟨gl2, ela, hgl, hcs⟩ := NstII.get (HN5.out.ext goodII (hE.trans hE6)) (by omega)
                  cases ela
                  obtain ⟨aj, cj, Fj, q, nj, _⟩ := hcs v hlt
                  rw [← HM.out] at q nj
                  have y7 := HY5.out.ext (hE.trans hE6)
                  (obtain ⟨ly, y0, y1, y2, y3⟩ := (id y7))
                  by_cases hlt2 : i < M.length
                  · obtain ⟨gj, rfl, hgj, hcj⟩ := NstI.get nj (by omega)
                    obtain ⟨ax, cx, qx, hIx⟩ := hcj i hlt2
                    have hx3 := HS3.out _ (getN_mem (d := ([] : List Int)) hlt2)
                    obtain ⟨x1, x2, x3⟩ := HALL.out i hlt2
                    obtain ⟨x, hx⟩ : ∃ x, x = M.getD i [] := ⟨_, rfl⟩
                    rw [← hx] at qx hIx hx3 x1 x2 x3
                    have HX := Lib.hid (And.intro x1 (And.intro x2 x3))
                    have HIX := Lib.hid hIx
                    clear hx hcj hcs nj x1 x2 x3 hIx
                    go_wp2_with fail
                    (refine wp_regionT ((fun w' => (∀ b o, b < w7.heap.size → w'.cell? ⟨b, o, none⟩ = w7.cell? ⟨b, o, none⟩) ∧ Ext w7 w')) 10 (by kernel_rfl) ?_; have hS0 := held_mk (Ext.drew w7))
                    ((refine wpAnyT_take 0 (v := ?_) rfl (by kernel_rfl) (fun _ _ _ h => h) (Or.inl ⟨by kernel_rfl, ?_⟩) (by assumption) ?_; rotate_left; (intro wS hSw; (try dsimp only at hSw); go_simp; (try with_reducible rfl)); (try simp only [Act.put, List.setIfInBounds_toArray, List.set_cons_zero, List.set_cons_succ])); (refine wpAnyT_take 1 (v := ?_) rfl (by kernel_rfl) (fun _ _ _ h => h) (Or.inl ⟨by kernel_rfl, ?_⟩) (by assumption) ?_; rotate_left; (intro wS hSw; (try dsimp only at hSw); go_simp; (try with_reducible rfl)); (try simp only [Act.put, List.setIfInBounds_toArray, List.set_cons_zero, List.set_cons_succ])); (refine wpAnyT_take 2 (v := ?_) rfl (by kernel_rfl) (fun _ _ _ h => h) (Or.inl ⟨by kernel_rfl, ?_⟩) (by assumption) ?_; rotate_left; (intro wS hSw; (try dsimp only at hSw); go_simp; (try with_reducible rfl)); (try simp only [Act.put, List.setIfInBounds_toArray, List.set_cons_zero, List.set_cons_succ])); (refine wpAnyT_take 3 (v := ?_) rfl (by kernel_rfl) (fun _ _ _ h => h) (Or.inl ⟨by kernel_rfl, ?_⟩) (by assumption) ?_; rotate_left; (intro wS hSw; (try dsimp only at hSw); go_simp; (try with_reducible rfl)); (try simp only [Act.put, List.setIfInBounds_toArray, List.set_cons_zero, List.set_cons_succ])); (refine wpAnyT_take 4 (v := ?_) rfl (by kernel_rfl) (fun _ _ _ h => h) (Or.inl ⟨by kernel_rfl, ?_⟩) (by assumption) ?_; rotate_left; (intro wS hSw; (try dsimp only at hSw); go_simp; (try with_reducible rfl)); (try simp only [Act.put, List.setIfInBounds_toArray, List.set_cons_zero, List.set_cons_succ])); (refine wpAnyT_take 5 (v := ?_) rfl (by kernel_rfl) (fun _ _ _ h => h) (Or.inl ⟨by kernel_rfl, ?_⟩) (by assumption) ?_; rotate_left; (intro wS hSw; (try dsimp only at hSw); go_simp; (try with_reducible rfl)); (try simp only [Act.put, List.setIfInBounds_toArray, List.set_cons_zero, List.set_cons_succ])); (refine wpAnyT_take 6 (v := ?_) rfl (by kernel_rfl) (fun _ _ _ h => h) (Or.inl ⟨by kernel_rfl, ?_⟩) (by assumption) ?_; rotate_left; (intro wS hSw; (try dsimp only at hSw); go_simp; (try with_reducible rfl)); (try simp only [Act.put, List.setIfInBounds_toArray, List.set_cons_zero, List.set_cons_succ])); (refine wpAnyT_take 7 (v := ?_) rfl (by kernel_rfl) (fun _ _ _ h => h) (Or.inl ⟨by kernel_rfl, ?_⟩) (by assumption) ?_; rotate_left; (intro wS hSw; (try dsimp only at hSw); go_simp; (try with_reducible rfl)); (try simp only [Act.put, List.setIfInBounds_toArray, List.set_cons_zero, List.set_cons_succ])); (refine wpAnyT_take 8 (v := ?_) rfl (by kernel_rfl) (fun _ _ _ h => h) (Or.inl ⟨by kernel_rfl, ?_⟩) (by assumption) ?_; rotate_left; (intro wS hSw; (try dsimp only at hSw); go_simp; (try with_reducible rfl)); (try simp only [Act.put, List.setIfInBounds_toArray, List.set_cons_zero, List.set_cons_succ])))
                    (refine wpAnyT_do 9 (by kernel_rfl) rfl (fun K hK => ?_))
                    go_simp
                    refine (HDT.out v hvv ax cx x _ (HC5.out.ext ((hE.trans hE6).trans (Ext.drew w7))) (HIX.out.ext (Ext.drew w7)) hx3 HX.out.1 HX.out.2.1 HX.out.2.2).mono ?_
                    rintro e w8 ⟨rfl, hE8⟩
                    have hS8 := held_mk ((Ext.drew w7).trans hE8)
                    (refine hK _ _ hS8 ?_; clear hK K; (try simp only [Act.put, List.setIfInBounds_toArray, List.set_cons_zero, List.set_cons_succ]))
                    (refine wpAnyT_last 10 (by kernel_rfl) rfl (by decide) (by kernel_rfl) (fun K hK => ?_))
                    go_simp
                    (refine hK _ _ ?_; clear hK K; (try simp only [Act.put, List.setIfInBounds_toArray, List.set_cons_zero, List.set_cons_succ]))
                    go_wp2_with fail
                    go_roundw
                    case rel => exact ⟨i + 1, by omega, by go_num, hE6.trans (held_ext hS8)⟩
                    case measure => simp [intOf]; omega
                  · clear hcs nj
                    go_wp2_with fail
                    go_roundw
                    case rel => exact ⟨v + 1, by omega, by go_num, hE.trans hE6⟩
                    case measure => simp [intOf]; omega
            · go_wp2_with fail
              go_ret
              exact ⟨rfl, E5.trans hE⟩
  · go_enter Try.func3, Try.ntmps3
    go_wp2
    go_ret
    exact ⟨rfl, Ext.refl _⟩
theorem fnCuts_lifted (os : Os) (started : os.Started) (H : Type) (enc : TypeId × Value → H) :
    ReturnsInHanded {} Try.checked os 3 .any (Rows.fnCutsSpec.pre6 enc Try.prog Try.f3 Rows.fnCutsRow.domain false) (Rows.fnCutsSpec.post enc Try.prog Try.f3 false true false false) := by
  refine returnsInHanded_of_change (C := Try.checked) own started (by kernel_rfl) Try.func3
    (ChangeSpec.witness6 (enc := enc) (C := Try.checked) false ⟨#[], #[.slice none 0 0], []⟩ 8 (by kernel_rfl) (by kernel_rfl) (by kernel_rfl) (by kernel_rfl)) ?_
  intro W base args ds gs before hval0 hW hcnd _
  have hval : ∀ (j : Nat) t v, Try.f3.params[j]? = some t → args[j]? = some v → Value.okWide Try.prog W .any base t v := hval0
  have hW' := hW
  obtain ⟨p, q, hA0, hV, rfl, hfz, hnd⟩ := hW
  have hA : DataW.TrodAll enc Try.prog W 0 (fun _ => true) true Try.f3.params.toList args.toList ds p := hA0
  rw [Try.params3] at hA hval
  obtain ⟨v0, vs0, d0, ds0, p0, q0, hargs, rfl, rfl, h0, r0⟩ := trodAll_cons hA
  obtain ⟨rfl, rfl, rfl⟩ := trodAll_nil r0
  obtain rfl : args = #[v0] := by cases args; simp_all
  obtain ⟨rfl, rfl⟩ := trodVars_none hV
  obtain ⟨a0, len0, cap0, rfl⟩ := okWide_slice Try.underlying22 (hval 0 22 v0 rfl rfl)
  have k0 := h0
  have lt0 : ∀ x ∈ p0, x.block < W.heap.size := by obtain ⟨m, hm⟩ := k0; exact DataW.trod_lt m _ _ _ hm
  obtain ⟨z0, w0⟩ : ∃ zs, IsRow .u8 W a0 len0 cap0 zs := by
    obtain ⟨fuel, hf⟩ := h0
    rcases open_ints Try.underlying22 Try.underlying5 (by kernel_rfl) hf with ⟨hcs, _⟩ | ⟨x, l, c, zs, hcs, _, hl, hm, hz, _, hcell, hwz⟩
    · simp [Value.cells] at hcs
      obtain ⟨rfl, rfl, rfl⟩ := hcs
      exact ⟨[], .inl ⟨rfl, rfl, rfl, rfl⟩⟩
    · simp [Value.cells] at hcs
      obtain ⟨rfl, rfl, rfl⟩ := hcs
      exact ⟨zs, .inr ⟨_, rfl, hl, hm, by simpa using hz, hcell, hwz⟩⟩
  clear hA0 hval0
  refine (fnCuts_walk a0 len0 cap0 z0 W w0).mono fun e W' ⟨he, bel⟩ => ?_
  subst he
  exact ⟨_, rfl, _, _, _, [], _, [], hW', trodAll_mk1 (shut_bool Try.underlying4 _), (trodAll_cons_mk (Below.trod laidOut (by kernel_rfl) (of_decide_eq_true (by kernel_rfl)) k0 bel lt0) trodAll_mk0), rfl, bel.frame _, fun h => by cases h⟩
theorem fnCuts_over : Rows.fnCutsRow.holds Try.pinned (OpenSpec.ofChange Rows.fnCutsSpec) :=
  OpenClaim.holds_of_wide 3 Try.f3 rfl rfl rfl rfl rfl rfl rfl ⟨rfl, rfl, rfl, rfl, rfl⟩ rfl rfl rfl rfl rfl (by kernel_rfl) Try.func3 (by kernel_rfl)
    (of_decide_eq_true (by kernel_rfl)) (by unfold Func.isWrapper; first | (rw [if_pos (by decide +kernel)]; kernel_rfl) | (rw [if_neg (by decide +kernel)]; exact ⟨rfl, rfl⟩))
    (fun os started H enc _ => fnCuts_lifted os started H enc)
theorem fnCuts_holds : Rows.FnCutsSaid := fnCuts_over
end Go.Proofs.Ytpomcoegpjehgaa
