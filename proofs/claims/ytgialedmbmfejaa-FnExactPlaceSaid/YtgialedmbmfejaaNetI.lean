/- Contracts: the program's nets: their tiles and lengths. -/
import Derived.Test.YtgialedmbmfejaaNetI0
import Derived.Test.YtgialedmbmfejaaWlS
import Derived.Test.YtgialedmbmfejaaRegion2
import Derived.Deep.DeepCutAuto
namespace Go.Proofs.Ytgialedmbmfejaa
open Go.RowKit
set_option maxRecDepth 100000
set_option linter.unusedVariables false
set_option linter.unusedSimpArgs false
theorem padTile_c (o : Nat) (w : World) (ho : o ≤ 1000) : Calls Try.prog 106 #[.int .i64 o] w fun e w' => e = .returned (.int .i64 ((o : Int) * 5 + 4)) ∧ w = w' := by
  go_enter Try.func106, Try.ntmps106
  go_wp2
  go_ret
  have e : (o : Int) * 5 + 4 = (o : Int) * 5 + 5 - 1 := by omega
  exact ⟨by rw [e]; rfl, rfl⟩
set_option maxHeartbeats 8000000 in
theorem tiles_c (n : NetT) (sa qa : Option Addr) (sc qc : Nat) (pa : Option Addr) (pc : Nat) (place : List Int) (w : World) (hs : IntsAt w sa n.sinks) (hq : IntsAt w qa n.pads) (hp : IntsAt w pa place) (hc0 : -1 ≤ n.cell) (hc1 : n.cell < place.length) (hsk : ∀ j, j < n.sinks.length → ∃ i : Nat, i < place.length ∧ n.sinks.getD j 0 = (i : Int)) (l1 : n.sinks.length ≤ 100) (l2 : n.pads.length ≤ 100) (l3 : place.length ≤ 100) :
    Calls Try.prog 107 #[.agg #[.int .i64 n.net, .int .i64 n.cell, .int .i64 n.tile, .slice sa n.sinks.length sc, .slice qa n.pads.length qc], .slice pa place.length pc] w (GiveNL w (tilesN n place)) := by
  obtain ⟨nt, cl, tl, sk, pd⟩ := n
  dsimp only at hs hq hc0 hc1 hsk l1 l2 ⊢
  have E0 : Ext w (w.alloc (.cells #[.int .i64 nt, .int .i64 cl, .int .i64 tl, .slice sa sk.length sc, .slice qa pd.length qc] 91)) := (Ext.refl w).alloc _
  have y := Blk.at w [.int .i64 nt, .int .i64 cl, .int .i64 tl, .slice sa sk.length sc, .slice qa pd.length qc] 91 rfl
  obtain ⟨H, hH⟩ : ∃ H, H = (if 0 ≤ cl then place.getD cl.toNat 0 else tl) := ⟨_, rfl⟩
  have HT : Hid (tilesN ⟨nt, cl, tl, sk, pd⟩ place = ([H] ++ sinkT place sk) ++ pd) := Lib.hid (by rw [hH]; unfold tilesN; simp)
  have HSK := Lib.hid hsk
  have HP := Lib.hid (hp.ext E0)
  have HQ := Lib.hid (hq.ext E0)
  have HS := Lib.hid (hs.ext E0)
  clear hsk hp hq hs
  go_enter Try.func107, Try.ntmps107
  go_upto_region 1 with fail
  obtain ⟨w1, hw1⟩ : ∃ x : World, x = w.alloc (.cells #[.int .i64 nt, .int .i64 cl, .int .i64 tl, .slice sa sk.length sc, .slice qa pd.length qc] 91) := ⟨_, rfl⟩
  rw [← hw1] at E0 y HP HQ HS
  rw [← hw1]
  have s1 : w.heap.size < w1.heap.size := by rw [hw1]; simp
  clear hw1
  have x1 := y.cell (i := 1) rfl
  have x2 := y.cell (i := 2) rfl
  have xl := y.lt
  have O1 : OwnInts (w1.alloc (.cells #[.int .i64 tl] 3)) w1.heap.size 3 (.slice (some ⟨w1.heap.size, 0, none⟩) 1 1) [tl] := (Blk.at w1 [.int .i64 tl] 3 rfl).owns (n := 1) (size := 1) rfl (Nat.le_refl _) (by decide)
  have E1 := (Ext.refl w1).alloc (.cells #[.int .i64 tl] 3)
  go_upto_if 13 with fail
  go_cut [5] (fun v wx => v = .slice (some ⟨w1.heap.size, 0, none⟩) 1 1 ∧ OwnInts wx w1.heap.size 3 (.slice (some ⟨w1.heap.size, 0, none⟩) 1 1) [H] ∧ Ext w1 wx)
  case first =>
    by_cases hc : 0 ≤ cl
    · obtain ⟨m, rfl⟩ : ∃ m : Nat, cl = (m : Int) := ⟨cl.toNat, by omega⟩
      have hm : m < place.length := by omega
      obtain ⟨b5, o5, rfl, hb5, hc5⟩ := (HP.out.ext E1).get (by omega)
      have q5 := hc5 m hm
      have hH2 : H = place.getD m 0 := by rw [hH, if_pos hc]; rfl
      rw [← hH2] at q5
      have c1 := ownsRow_cell O1 (j := 0) rfl
      have f1 := fun i => ownsRow_frozen O1 i
      have hset := ownsRow_setAt O1 0 (by simp) (.int .i64 H)
      have x1b := ((y.ext E1).cell (i := 1) rfl)
      clear hc5 hH hH2 HT
      go_wp2_with fail
      go_meet
      exact ⟨rfl, by first | exact hset | exact (Blk.at w1 [.int .i64 H] 3 rfl).owns (n := 1) (size := 1) rfl (Nat.le_refl _) (by decide), by (repeat (first | with_reducible assumption | with_reducible exact Ext.refl _ | with_reducible refine Ext.drew' ?_ | with_reducible refine Ext.drewN' ?_ _ | with_reducible refine Ext.alloc ?_ _ | (with_reducible refine Ext.setNew ?_ (by first | exact Nat.le_refl _ | (simp; done) | (simp; omega) | omega) _)))⟩
    · have hH2 : H = tl := by rw [hH, if_neg hc]
      clear hH HT
      subst hH2
      go_wp2_with fail
      go_meet
      exact ⟨rfl, O1, E1⟩
  obtain ⟨rfl, hO, hE⟩ := hcut
  obtain ⟨w2, rfl⟩ : ∃ z : World, z = wc := ⟨_, rfl⟩
  clear O1 E1 x1 x2 hH
  have y2 := y.ext hE
  have x3 := y2.cell (i := 3) rfl
  have xl2 := y2.lt
  go_wp2_with fail
  go_loopw [5, 24] (fun u5 u24 wr => ∃ i : Nat, i ≤ sk.length ∧ u24 = .int .i64 i ∧ OwnInts wr w1.heap.size 3 u5 ([H] ++ sinkT place (sk.take i)) ∧ Ext w1 wr) (fun _ v _ => sk.length - (intOf v).toNat)
  case atStart => exact ⟨0, Nat.zero_le _, rfl, by simpa [sinkT] using hO, hE⟩
  case round =>
    clear hO hE y2 x3 xl2
    obtain ⟨i, hi, rfl, hO, hE⟩ := hrel
    obtain ⟨w3, rfl⟩ : ∃ z : World, z = wr := ⟨_, rfl⟩
    have hSl : (sinkT place (sk.take i)).length = i := by unfold sinkT; rw [List.length_map, List.length_take]; omega
    by_cases hlt : i < sk.length
    · obtain ⟨b5, o5, rfl, hb5, hc5⟩ := (HS.out.ext hE).get (by omega)
      have q5 := hc5 i hlt
      obtain ⟨m, hm, hmz⟩ := HSK.out i hlt
      have hsn : [H] ++ sinkT place (sk.take (i + 1)) = ([H] ++ sinkT place (sk.take i)) ++ [place.getD m 0] := by
        rw [take_snocD sk i 0 hlt, sinkT_snoc, hmz, List.append_assoc]; rfl
      obtain ⟨b6, o6, rfl, hb6, hc6⟩ := (HP.out.ext hE).get (by omega)
      have q6 := hc6 m hm
      rw [hmz] at q5
      obtain ⟨z, hz⟩ : ∃ z, z = place.getD m 0 := ⟨_, rfl⟩
      rw [← hz] at q6 hsn
      have HSN := Lib.hid hsn
      obtain ⟨S, hS⟩ : ∃ S, S = [H] ++ sinkT place (sk.take i) := ⟨_, rfl⟩
      have hSl1 : S.length ≤ 101 := by rw [hS, List.length_append, hSl, List.length_singleton]; omega
      rw [← hS] at hO HSN
      have hsz := hE.size
      have hmi : (m : Int) < (place.length : Int) := by omega
      clear hc5 hc6 hmz hz hS hSl hsn
      go_wp2_with (at_builtin; refine wpList_app tyInts (ownsRow_ext hO (by (repeat (first | with_reducible assumption | with_reducible exact Ext.refl _ | with_reducible refine Ext.drew' ?_ | with_reducible refine Ext.drewN' ?_ _ | with_reducible refine Ext.alloc ?_ _ | (with_reducible refine Ext.setNew ?_ (by first | exact Nat.le_refl _ | (simp; done) | (simp; omega) | omega) _))))) (rowNew _ _ _ (by simp)) rfl (by simp [Value.oneCell']) (by omega) (by simp; omega) rfl rfl rfl rfl ?_; intro v9 w9 o9 g9 m9)
      have E9 : Ext w1 w9 := ext_grown (w1 := _) (Ext.trans hE (by (repeat (first | with_reducible assumption | with_reducible exact Ext.refl _ | with_reducible refine Ext.drew' ?_ | with_reducible refine Ext.drewN' ?_ _ | with_reducible refine Ext.alloc ?_ _ | (with_reducible refine Ext.setNew ?_ (by first | exact Nat.le_refl _ | (simp; done) | (simp; omega) | omega) _))))) g9 (fun q hq => (own_lo hO q hq).1)
      have O9 : OwnInts w9 w1.heap.size 3 v9 (S ++ [z]) := own_app (xs := S) (ys := [z]) rfl rfl o9
      go_roundw
      case rel => exact ⟨i + 1, by omega, by go_num, by rw [HSN.out]; exact O9, E9⟩
      case measure => simp [intOf]; omega
    · have hi2 : i = sk.length := by omega
      rw [hi2, List.take_length] at hO
      obtain ⟨S, hS⟩ : ∃ S, S = [H] ++ sinkT place sk := ⟨_, rfl⟩
      have hSl1 : S.length ≤ 101 := by rw [hS, List.length_append, List.length_singleton]; unfold sinkT; rw [List.length_map]; omega
      rw [← hS] at hO HT
      have y3 := y.ext hE
      have x4 := y3.cell (i := 4) rfl
      have xl3 := y3.lt
      have hq3 := (HQ.out.ext hE).row
      have hszE := hE.size
      clear hSl hS hi2
      go_wp2_with (at_builtin; refine wpList_app tyInts hO hq3 (by rw [List.length_map, Nat.mul_one]) (oneCell_ints pd) (by first | omega | (simp; done) | (simp; omega)) (by first | omega | (simp; done) | (simp; omega)) rfl rfl rfl rfl ?_; intro v9 w9 o9 g9 m9)
      have E9 : Ext w1 w9 := ext_grown (w1 := _) hE g9 (fun q hq => (own_lo hO q hq).1)
      have O9 : OwnInts w9 w1.heap.size 3 v9 (S ++ pd) := own_app (xs := S) (ys := pd) rfl rfl o9
      go_ret
      exact ⟨_, rfl, by rw [HT.out]; exact ownsRow_base O9 (by omega), E0.trans E9⟩
end Go.Proofs.Ytgialedmbmfejaa
