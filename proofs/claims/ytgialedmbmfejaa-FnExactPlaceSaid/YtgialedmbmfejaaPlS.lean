/- Contracts: the reference's placer. -/
import Derived.Test.YtgialedmbmfejaaPl0
import Derived.Test.YtgialedmbmfejaaWlC
namespace Go.Proofs.Ytgialedmbmfejaa
open Go.RowKit
set_option maxRecDepth 100000
set_option linter.unusedVariables false
set_option linter.unusedSimpArgs false
set_option maxHeartbeats 8000000 in
theorem l7Try_c (a : Option Addr) (cap n : Nat) (place : List Int) (hn : place.length = n) (i : Nat) (t : Nat) (w : World) (hp : IntsAt w a place) (hi : i < n) (hl : n ≤ 100) (ht : t ≤ 100) :
    Calls Try.prog 109 #[.slice a n cap, .int .i64 i, .int .i64 t] w (GiveNL w (tryV place i t)) := by
  have OD := (Blk.at w [] 3 rfl).owns (base := w.heap.size) (size := 1) (n := 0) rfl (Nat.le_refl _) (by decide)
  have ED := (Ext.refl w).alloc (.cells #[] 3)
  have hr := (hp.ext ED).row
  have HTA := Lib.hid (tr_all place i t)
  have HOS : Hid (∀ j, j < place.length → (over (trF place i t) place j).set j (trF place i t j) = over (trF place i t) place (j + 1)) := Lib.hid (fun j hj => over_set (trF place i t) place j hj)
  have HSA : Hid (∀ j, j < place.length → trF place i t j = place.getD j 0 → over (trF place i t) place (j + 1) = over (trF place i t) place j) := Lib.hid (fun j hj e => over_same hj e)
  have HOG : Hid (∀ j, j < place.length → (over (trF place i t) place j)[j]? = some (place.getD j 0)) := Lib.hid (fun j hj => over_get hj)
  have HTF : Hid (∀ j, trF place i t j = if place.getD j 0 = (t : Int) then place.getD i 0 else place.getD j 0) := Lib.hid (fun j => rfl)
  have HOL : Hid (∀ j, j ≤ place.length → (over (trF place i t) place j).length = n) := Lib.hid (fun j hj => by rw [over_length _ _ _ hj, hn])
  have HN := Lib.hid hn
  have hin : (i : Int) < (n : Int) := by omega
  go_enter Try.func109, Try.ntmps109
  go_wp2_with (at_builtin; refine wpList_app tyInts OD hr (by rw [List.length_map, Nat.mul_one, hn]) (oneCell_ints place) (by omega) (by simp) rfl rfl rfl rfl ?_; intro v9 w9 o9 g9 m9)
  have O9 : OwnInts w9 w.heap.size 3 v9 place := by
    have h := o9
    rw [Nat.zero_add, List.nil_append] at h
    unfold OwnInts
    rw [hn]; exact h
  have E9 : Ext w w9 := ext_grown ED g9 (fun q hq => by cases hq; exact Nat.le_refl _)
  have hi2 : i < place.length := by omega
  have hl2 : place.length ≤ 100 := by omega
  have hii : (i : Int) < (place.length : Int) := by omega
  obtain ⟨va, vc, rfl, _, _⟩ := own_sl O9
  obtain ⟨g, rfl, hg, hgl⟩ := ownsRow_block O9 (by omega)
  have O0 : w9.ownsRow w.heap.size 3 1 (.slice (some ⟨g, 0, none⟩) place.length vc) place.length ((over (trF place i t) place 0).map (Value.int .i64)) := by rw [over_zero]; exact O9
  clear o9 g9 m9 OD ED hr hn O9
  go_wp2_with fail
  go_loopw [8] (fun u8 wr => ∃ k : Nat, k ≤ place.length ∧ u8 = .int .i64 k ∧ wr.ownsRow w.heap.size 3 1 (.slice (some ⟨g, 0, none⟩) place.length vc) place.length ((over (trF place i t) place k).map (Value.int .i64)) ∧ Ext w wr) (fun v _ => place.length - (intOf v).toNat)
  case atStart => exact ⟨0, Nat.zero_le _, rfl, O0, E9⟩
  case round =>
    clear O0 E9
    obtain ⟨k, hk, rfl, hO, hE⟩ := hrel
    obtain ⟨w2, rfl⟩ : ∃ z : World, z = wr := ⟨_, rfl⟩
    have hf := fun j => ownsRow_frozen hO j
    have hgb := (World.ownsRow.lt hO g rfl).2
    by_cases hlt : k < place.length
    · have q1 : w2.cell? ⟨g, k, none⟩ = some (.int .i64 (place.getD k 0)) := ownsRow_cell hO (j := k) (by rw [List.getElem?_map, HOG.out k hlt]; rfl)
      obtain ⟨b5, o5, rfl, hb5, hc5⟩ := (hp.ext hE).get (by omega)
      have q5 := hc5 i hi2
      have h1 := HOS.out k hlt
      have h2 := HSA.out k hlt
      have h3 := HTF.out k
      have h4 := HOL.out k hk
      have h5 := HN.out
      obtain ⟨x, hx⟩ : ∃ x, x = place.getD k 0 := ⟨_, rfl⟩
      obtain ⟨z, hz⟩ : ∃ z, z = place.getD i 0 := ⟨_, rfl⟩
      rw [← hx] at q1 h2 h3
      rw [← hz] at q5 h3
      by_cases he : x = (t : Int)
      · rw [if_pos he] at h3
        rw [h3] at h1
        have O2 := ownsRow_setAt hO k (by rw [List.length_map]; omega) (.int .i64 z)
        rw [← List.map_set, h1] at O2
        have HO2 := Lib.hid O2
        have he2 : (x == (t : Int)) = true := by simp [he]
        clear hc5 hx hz h1 h2 h3 h4 h5 O2 he hO
        go_wp2_with fail
        go_roundw
        case rel => exact ⟨k + 1, by omega, by go_num, HO2.out, Ext.setNew hE hg _⟩
        case measure => simp [intOf]; omega
      · rw [if_neg he] at h3
        have h6 := h2 h3
        have HO2 : Hid (w2.ownsRow w.heap.size 3 1 (.slice (some ⟨g, 0, none⟩) place.length vc) place.length ((over (trF place i t) place (k + 1)).map (Value.int .i64))) := Lib.hid (by rw [h6]; exact hO)
        have he2 : (x == (t : Int)) = false := by simp [he]
        clear hc5 hx hz h1 h2 h3 h4 h5 h6 he hO
        go_wp2_with fail
        go_roundw
        case rel => exact ⟨k + 1, by omega, by go_num, HO2.out, hE⟩
        case measure => simp [intOf]; omega
    · have hk2 : k = place.length := by omega
      have h4 := HOL.out k hk
      have h5 := HN.out
      rw [hk2] at hO h4
      have O2 := ownsRow_setAt hO i (by rw [List.length_map]; omega) (.int .i64 (t : Int))
      rw [← List.map_set, HTA.out] at O2
      have HO2 := Lib.hid O2
      have q1 : ∃ u, w2.cell? ⟨g, i, none⟩ = some (.int .i64 u) := by
        have hi3 : i < (over (trF place i t) place place.length).length := by omega
        exact ⟨_, ownsRow_cell hO (j := i) (by rw [List.getElem?_map, List.getElem?_eq_getElem hi3]; rfl)⟩
      obtain ⟨u, q1⟩ := q1
      clear h4 h5 O2 hk2 hO
      go_wp2_with fail
      go_ret
      exact ⟨_, rfl, by unfold OwnInts; rw [tryV_length]; exact HO2.out, Ext.setNew hE hg _⟩
set_option maxHeartbeats 16000000 in
theorem l7Place_c (c : Circ) (p : Where3) (ca : Option Addr) (cc : Nat) (cs : List CellT) (F : List Nat) (w : World) (hc : CircAt w c p) (V : c.Valid) (hN : NstC w (.slice ca cs.length cc) cs F) (hl : cs.length ≤ 17) (hs : ∀ x ∈ cs, Asc x.ins ∧ x.ins.length ≤ 3) :
    Calls Try.prog 66 #[.agg #[.int .i64 c.inputs, .slice p.an c.next.length p.cn, .slice p.ag c.gates.length p.cg, .slice p.ao c.outs.length p.co], .slice ca cs.length cc] w (GiveNL w (plK c cs 3).1) := by
  have E0 : Ext w (w.alloc (.cells #[.int .i64 c.inputs, .slice p.an c.next.length p.cn, .slice p.ag c.gates.length p.cg, .slice p.ao c.outs.length p.co] 26)) := (Ext.refl w).alloc _
  have y := CircBox.made w c p 26
  have HC := Lib.hid (hc.ext E0)
  have HN := Lib.hid (hN.ext goodCell E0)
  have HLC := Lib.hid (fun W pa pc place (h1 : CircAt W c p) (h2 : NstC W (.slice ca cs.length cc) cs F) (h3 : IntsAt W pa place) (h4 : place.length = cs.length) (h5 : InF place) => l7Cost_c c p ca cc cs F pa pc place W h1 V h2 h3 h4 h5 hl hs)
  have HIN := Lib.hid (plK_inv (c := c) (cs := cs) (by omega))
  have HK0 := Lib.hid (fun k => plK_zero c cs k)
  have HK1 := Lib.hid (plK_succ c cs)
  obtain ⟨pk, hpk⟩ : ∃ pk, pk = plK c cs := ⟨_, rfl⟩
  rw [← hpk] at HIN HK0 HK1 ⊢
  obtain ⟨m, hm⟩ : ∃ m, m = costV c cs ((List.range cs.length).map (fun (i : Nat) => (i : Int))) := ⟨_, rfl⟩
  rw [← hm] at HIN
  obtain ⟨D, hD⟩ : ∃ D, D = (pk 3).1 := ⟨_, rfl⟩
  rw [← hD]
  have HD := Lib.hid hD
  clear hc V hN hs hpk hm hD
  go_enter Try.func66, Try.ntmps66
  go_upto_region 1 with fail
  obtain ⟨w1, hw1⟩ : ∃ x : World, x = w.alloc (.cells #[.int .i64 c.inputs, .slice p.an c.next.length p.cn, .slice p.ag c.gates.length p.cg, .slice p.ao c.outs.length p.co] 26) := ⟨_, rfl⟩
  rw [← hw1] at E0 y HC HN
  rw [← hw1]
  clear hw1
  have O0 : OwnInts (w1.alloc (.cells #[] 3)) w1.heap.size 3 (.slice (some ⟨w1.heap.size, 0, none⟩) 0 0) (rangeI 0) := (Blk.at w1 [] 3 rfl).owns (n := 0) (size := 1) rfl (Nat.le_refl _) (by decide)
  have E10 := (Ext.refl w1).alloc (.cells #[] 3)
  go_wp2_with fail
  go_loopw [5, 6] (fun u5 u6 wr => ∃ k : Nat, k ≤ cs.length ∧ u6 = .int .i64 k ∧ OwnInts wr w1.heap.size 3 u5 (rangeI k) ∧ Ext w1 wr) (fun _ v _ => cs.length - (intOf v).toNat)
  case atStart => exact ⟨0, Nat.zero_le _, rfl, O0, E10⟩
  case round =>
    clear O0 E10
    obtain ⟨k, hk, rfl, hO, hE⟩ := hrel
    obtain ⟨w2, rfl⟩ : ∃ z : World, z = wr := ⟨_, rfl⟩
    have hrs := rangeI_succ k
    have hrl := rangeI_length k
    by_cases hlt : k < cs.length
    · obtain ⟨S, hS⟩ : ∃ S, S = rangeI k := ⟨_, rfl⟩
      rw [← hS] at hO hrs hrl
      have hSl : S.length ≤ 17 := by omega
      have HRS := Lib.hid hrs
      have hsz := hE.size
      clear hS hrl hrs
      go_wp2_with (at_builtin; refine wpList_app tyInts (ownsRow_ext hO (by (repeat (first | with_reducible assumption | with_reducible exact Ext.refl _ | with_reducible refine Ext.drew' ?_ | with_reducible refine Ext.drewN' ?_ _ | with_reducible refine Ext.alloc ?_ _ | (with_reducible refine Ext.setNew ?_ (by first | exact Nat.le_refl _ | (simp; done) | (simp; omega) | omega) _))))) (rowNew _ _ _ (by simp)) rfl (by simp [Value.oneCell']) (by omega) (by simp; omega) rfl rfl rfl rfl ?_; intro v9 w9 o9 g9 m9)
      have E9 : Ext w1 w9 := ext_grown (w1 := _) (Ext.trans hE (by (repeat (first | with_reducible assumption | with_reducible exact Ext.refl _ | with_reducible refine Ext.drew' ?_ | with_reducible refine Ext.drewN' ?_ _ | with_reducible refine Ext.alloc ?_ _ | (with_reducible refine Ext.setNew ?_ (by first | exact Nat.le_refl _ | (simp; done) | (simp; omega) | omega) _))))) g9 (fun q hq => (own_lo hO q hq).1)
      have O9 : OwnInts w9 w1.heap.size 3 v9 (S ++ [(k : Int)]) := own_app (xs := S) (ys := [(k : Int)]) rfl rfl o9
      go_roundw
      case rel => exact ⟨k + 1, by omega, by go_num, by rw [HRS.out]; exact O9, E9⟩
      case measure => simp [intOf]; omega
    · have hk2 : k = cs.length := by omega
      have hnn : ¬ ((k : Int) < (cs.length : Int)) := by omega
      rw [hk2] at hO
      obtain ⟨pa, pc, rfl⟩ := own_len hO (n := cs.length) (rangeI_length _)
      have hr0 := HK0.out 0 rfl
      have hI0 := HIN.out 0
      rw [← hr0.1] at hO
      have hcall := HLC.out w2 pa pc (pk 0).1 (HC.out.ext hE) (HN.out.ext goodCell hE) (own_at hO) hI0.len hI0.ok.1
      rw [← hI0.cost] at hcall
      have y2 := y.ext hE
      clear hrs hrl hk2 hr0 hI0
      (obtain ⟨lb, b0, b1, b2, b3⟩ := (id y2))
      go_wp2_with fail
      refine hcall.mono ?_
      rintro e w3 ⟨rfl, hE3⟩
      have O3 := ownsRow_ext hO hE3
      have E3 := hE.trans hE3
      clear hcall b0 b1 b2 b3 lb y2 hO hE hE3 hlt hnn
      go_wp2_with fail
      go_loopw [5, 7, 8] (fun u5 u7 u8 wr => ∃ (k : Nat) (pa : Option Addr) (pc : Nat), k ≤ 3 ∧ u8 = .int .i64 k ∧ u5 = .slice pa cs.length pc ∧ u7 = .int .i64 (pk k).2 ∧ OwnInts wr w1.heap.size 3 (.slice pa cs.length pc) (pk k).1 ∧ Ext w1 wr) (fun _ _ v _ => 3 - (intOf v).toNat)
      case atStart => exact ⟨0, pa, pc, Nat.zero_le _, rfl, rfl, rfl, O3, E3⟩
      case round =>
        clear O3 E3
        obtain ⟨k, pa, pc, hk, rfl, rfl, rfl, hO, hE⟩ := hrel
        by_cases hlt : k < 3
        · have hk3i : (k : Int) < 3 := by omega
          have hI0 := HIN.out k
          have hks := HK1.out k
          obtain ⟨s0, hs0⟩ : ∃ s, s = pk k := ⟨_, rfl⟩
          rw [← hs0] at hI0 hks hO ⊢
          have HI0 := Lib.hid hI0
          have HKS := Lib.hid hks
          clear hs0 hI0 hks
          go_wp2_with fail
          go_loopw [5, 7, 9] (fun u5 u7 u9 wr => ∃ (j : Nat) (pa : Option Addr) (pc : Nat), j ≤ cs.length ∧ u9 = .int .i64 j ∧ u5 = .slice pa cs.length pc ∧ u7 = .int .i64 (plSweep c cs j s0).2 ∧ OwnInts wr w1.heap.size 3 (.slice pa cs.length pc) (plSweep c cs j s0).1 ∧ Ext w1 wr) (fun _ _ v _ => cs.length - (intOf v).toNat)
          case atStart => exact ⟨0, pa, pc, Nat.zero_le _, rfl, rfl, rfl, hO, hE⟩
          case round =>
            clear hO hE
            obtain ⟨j, pa, pc, hj, rfl, rfl, rfl, hO, hE⟩ := hrel
            by_cases hlt2 : j < cs.length
            · have hj3i : (j : Int) < (cs.length : Int) := by omega
              have hI1 := plSweep_inv HI0.out hj
              have hks := plSweep_succ c cs j s0
              obtain ⟨s1, hs1⟩ : ∃ s, s = plSweep c cs j s0 := ⟨_, rfl⟩
              rw [← hs1] at hI1 hks hO ⊢
              have HI1 := Lib.hid hI1
              have HKS2 := Lib.hid hks
              clear hs1 hI1 hks
              go_wp2_with fail
              go_loopw [5, 7, 10, 11, 12] (fun u5 u7 u10 u11 u12 wr => ∃ (t : Nat) (pa : Option Addr) (pc : Nat), t ≤ 25 ∧ u10 = .int .i64 t ∧ u5 = .slice pa cs.length pc ∧ u7 = .int .i64 (plCell c cs t s1 j).2 ∧ OwnInts wr w1.heap.size 3 (.slice pa cs.length pc) (plCell c cs t s1 j).1 ∧ Ext w1 wr) (fun _ _ v _ _ _ => 25 - (intOf v).toNat)
              case atStart => exact ⟨0, pa, pc, Nat.zero_le _, rfl, rfl, rfl, hO, hE⟩
              case round =>
                clear hO hE
                obtain ⟨t, pa, pc, ht, rfl, rfl, rfl, hO, hE⟩ := hrel
                obtain ⟨w5, rfl⟩ : ∃ z : World, z = wr := ⟨_, rfl⟩
                by_cases hlt3 : t < 25
                · have ht3i : (t : Int) < 25 := by omega
                  have hI2 := plCell_inv HI1.out hlt2 ht
                  have hks : plCell c cs (t + 1) s1 j = if costV c cs (tryV (plCell c cs t s1 j).1 j t) < (plCell c cs t s1 j).2 then (tryV (plCell c cs t s1 j).1 j t, costV c cs (tryV (plCell c cs t s1 j).1 j t)) else plCell c cs t s1 j := plCell_succ c cs t s1 j
                  obtain ⟨s2, hs2⟩ : ∃ s, s = plCell c cs t s1 j := ⟨_, rfl⟩
                  rw [← hs2] at hI2 hks hO ⊢
                  have htl : (tryV s2.1 j t).length = cs.length := by rw [tryV_length]; exact hI2.len
                  have hti := tryV_inF hI2.ok.1 j (t := (t : Int)) (by omega)
                  have htry := l7Try_c pa pc cs.length s2.1 hI2.len j t w5 (own_at hO) hlt2 (by omega) (by omega)
                  obtain ⟨T, hT⟩ : ∃ T, T = tryV s2.1 j t := ⟨_, rfl⟩
                  rw [← hT] at hks htl hti htry
                  obtain ⟨N, hN⟩ : ∃ N, N = costV c cs T := ⟨_, rfl⟩
                  rw [← hN] at hks
                  obtain ⟨st, sc⟩ := s2
                  dsimp only at hks hO htry ⊢
                  have HTL := Lib.hid htl
                  have HTI := Lib.hid hti
                  have HKS3 := Lib.hid hks
                  have HNN := Lib.hid hN
                  clear hs2 hI2 hks htl hti hT hN
                  go_wp2_with fail
                  refine htry.mono ?_
                  rintro e w6 ⟨v, rfl, oT, hE6⟩
                  obtain ⟨ta, tc, rfl⟩ := own_len oT HTL.out
                  have E6 := hE.trans hE6
                  have O6 := ownsRow_ext hO hE6
                  have hcall := HLC.out w6 ta tc T (HC.out.ext E6) (HN.out.ext goodCell E6) (own_at oT) HTL.out HTI.out
                  rw [← HNN.out] at hcall
                  have oT2 : OwnInts w6 w1.heap.size 3 (.slice ta cs.length tc) T := ownsRow_base oT hE.size
                  have y6 := y.ext E6
                  clear htry oT hO hE hE6
                  (obtain ⟨lb, b0, b1, b2, b3⟩ := (id y6))
                  go_wp2_with fail
                  refine hcall.mono ?_
                  rintro e w7 ⟨rfl, hE7⟩
                  have O7 := ownsRow_ext O6 hE7
                  have T7 := ownsRow_ext oT2 hE7
                  have E7 := E6.trans hE7
                  clear hcall O6 oT2 hE7 b0 b1 b2 b3 lb y6 E6
                  by_cases hcmp : N < sc
                  · have hk3 : plCell c cs (t + 1) s1 j = (T, N) := by rw [HKS3.out, if_pos hcmp]
                    have HK3 := Lib.hid hk3
                    clear hk3
                    go_wp2_with fail
                    go_roundw
                    case rel =>
                     exact ⟨t + 1, ta, tc, by omega, by go_num, rfl, by rw [HK3.out], by rw [HK3.out]; exact T7, E7⟩
                    case measure => simp [intOf]; omega
                  · have hk3 : plCell c cs (t + 1) s1 j = (st, sc) := by rw [HKS3.out, if_neg hcmp]
                    have HK3 := Lib.hid hk3
                    clear hk3
                    go_wp2_with fail
                    go_roundw
                    case rel => exact ⟨t + 1, pa, pc, by omega, by go_num, rfl, by rw [HK3.out], by rw [HK3.out]; exact O7, E7⟩
                    case measure => simp [intOf]; omega
                · have ht2 : t = 25 := by omega
                  have hnn : ¬ ((t : Int) < 25) := by omega
                  obtain ⟨s2, hs2⟩ : ∃ s, s = plCell c cs t s1 j := ⟨_, rfl⟩
                  rw [← hs2] at hO ⊢
                  have HK3 : Hid (plSweep c cs (j + 1) s0 = s2) := Lib.hid (by rw [HKS2.out, hs2, ht2])
                  clear hs2 ht2
                  go_wp2_with fail
                  go_roundw
                  case rel => exact ⟨j + 1, pa, pc, by omega, by go_num, rfl, by rw [HK3.out], by rw [HK3.out]; exact hO, hE⟩
                  case measure => simp [intOf]; omega
            · have hj2 : j = cs.length := by omega
              have hnn : ¬ ((j : Int) < (cs.length : Int)) := by omega
              obtain ⟨s2, hs2⟩ : ∃ s, s = plSweep c cs j s0 := ⟨_, rfl⟩
              rw [← hs2] at hO ⊢
              have HK3 : Hid (pk (k + 1) = s2) := Lib.hid (by rw [HKS.out, hs2, hj2])
              clear hs2 hj2
              go_wp2_with fail
              go_roundw
              case rel => exact ⟨k + 1, pa, pc, by omega, by go_num, rfl, by rw [HK3.out], by rw [HK3.out]; exact hO, hE⟩
              case measure => simp [intOf]; omega
        · have hk2 : k = 3 := by omega
          have hnn : ¬ ((k : Int) < 3) := by omega
          rw [hk2, ← HD.out] at hO
          obtain ⟨X, hX⟩ : ∃ X, X = (pk k).2 := ⟨_, rfl⟩
          rw [← hX]
          clear hX hk2
          go_wp2_with fail
          go_ret
          exact ⟨_, rfl, ownsRow_base hO E0.size, E0.trans hE⟩
set_option maxHeartbeats 4000000 in
theorem specPlace_c (c : Circ) (p : Where3) (w : World) (hc : CircAt w c p) :
    Calls Try.prog 16 #[.agg #[.int .i64 c.inputs, .slice p.an c.next.length p.cn, .slice p.ag c.gates.length p.cg, .slice p.ao c.outs.length p.co]] w (GiveNL w (placeV c)) := by
  have E0 : Ext w (w.alloc (.cells #[.int .i64 c.inputs, .slice p.an c.next.length p.cn, .slice p.ag c.gates.length p.cg, .slice p.ao c.outs.length p.co] 26)) := (Ext.refl w).alloc _
  have y := CircBox.made w c p 26
  have HW : Hid (placeV c = if validB c then (plK c (cellsN c) 3).1 else []) := Lib.hid rfl
  obtain ⟨D, hD⟩ : ∃ D, D = placeV c := ⟨_, rfl⟩
  rw [← hD] at HW ⊢
  clear hD
  (obtain ⟨lb, b0, b1, b2, b3⟩ := (id y))
  go_enter Try.func16, Try.ntmps16
  go_wp2_with fail
  refine (specCircuitValid_c c p _ (hc.ext E0)).mono ?_
  rintro e w1 ⟨rfl, hE1⟩
  clear b0 b1 b2 b3 lb
  have y1 := y.ext hE1
  have E1 := E0.trans hE1
  cases hv : validB c
  · have hd : D = [] := by rw [HW.out, hv]; rfl
    subst hd
    have O0 : OwnInts (w1.alloc (.cells #[] 3)) w1.heap.size 3 (.slice (some ⟨w1.heap.size, 0, none⟩) 0 0) [] := (Blk.at w1 [] 3 rfl).owns (n := 0) (size := 1) rfl (Nat.le_refl _) (by decide)
    have EA := E1.alloc (.cells #[] 3)
    go_wp2_with fail
    go_ret
    exact ⟨_, rfl, ownsRow_base O0 E1.size, EA⟩
  · have V := validB_iff.1 hv
    have hd : D = (plK c (cellsN c) 3).1 := by rw [HW.out, hv]; rfl
    have hcv : cellsV c = cellsN c := by unfold cellsV; rw [hv]; rfl
    have hsm := cells_sm c
    rw [hcv] at hsm
    have hall : ∀ x ∈ cellsN c, Asc x.ins ∧ x.ins.length ≤ 3 := fun x hx => ⟨cells_asc V x hx, hsm.2 x hx⟩
    have hl17 := hsm.1
    have HALL := Lib.hid hall
    have HD := Lib.hid hd
    have HV := Lib.hid V
    obtain ⟨cs, hcs⟩ : ∃ cs, cs = cellsN c := ⟨_, rfl⟩
    have hcC := l6Cells_c c p
    rw [← hcs] at hl17 HALL HD hcC
    have HCC := Lib.hid hcC
    clear HW V hcv hd hsm hall hcs hcC hv
    (obtain ⟨lb, b0, b1, b2, b3⟩ := (id y1))
    go_wp2_with fail
    go_region_held3 ((fun w' => (∀ b o, b < w1.heap.size → w'.cell? ⟨b, o, none⟩ = w1.cell? ⟨b, o, none⟩) ∧ Ext w1 w')) ((first | assumption | (with_reducible exact held_mk (Ext.drew w1)) | (with_reducible exact held_mk (((Ext.refl w1).alloc _).drew')) | (with_reducible exact held_mk ((Ext.drew w1).alloc _)))) (first
      | (go_simp; go_at_call 67; refine (HCC.out _ (hc.ext (E1.trans (Ext.drew _))) HV.out).mono ?_; rintro e w2 ⟨v, F, rfl, hN, _, hE2⟩; obtain ⟨ca, cc, rfl, _⟩ := hN.sl; have hX2 : Ext w1 w2 := (Ext.drew w1).trans hE2; have hK2 := held_mk hX2)
      | (go_simp; go_at_call 66; refine (l7Place_c c p ca cc cs F _ (hc.ext (E1.trans hX2)) HV.out hN hl17 HALL.out).mono ?_; rw [← HD.out]; rintro e w3 ⟨v3, rfl, hO3, hE3⟩; have hK3 := held_mk (hX2.trans hE3)))
    go_wp2
    go_ret
    exact ⟨_, rfl, ownsRow_base hO3 (by have := E1.size; have := hX2.size; omega), E1.trans (hX2.trans hE3)⟩
end Go.Proofs.Ytgialedmbmfejaa
