/- Bundle: the reference's Configure. -/
import Derived.Test.YtgialedmbmfejaaBRt
import Derived.Test.YtgialedmbmfejaaBKf
import Derived.Test.YtgialedmbmfejaaArr0
import Derived.Test.YtgialedmbmfejaaMidB
import Derived.Test.YtgialedmbmfejaaRegion2
import Derived.Test.YtgialedmbmfejaaBWl
--@from BCut BBest BLut BCel BSnk
namespace Go.Proofs.Ytgialedmbmfejaa
open Go.RowKit
set_option maxRecDepth 100000
set_option linter.unusedVariables false
set_option linter.unusedSimpArgs false
def SrcPost (w : World) (t : Nat) (e : Ending) (w' : World) : Prop := ∃ d : Int, e = .returned (.int .i64 d) ∧ drvB t d = true ∧ Ext w w'
set_option maxHeartbeats 4000000 in
theorem l9Source_c (c : Circ) (p : Where3) (net : Int) (t : Nat) (f : Int) (w : World) (ht : t < 25) (hs : f < 0 → net ≤ c.inputs → t % 5 = 0 ∧ t / 5 < 4) :
  Calls Try.prog 149 #[.agg #[.int .i64 c.inputs, .slice p.an c.next.length p.cn, .slice p.ag c.gates.length p.cg, .slice p.ao c.outs.length p.co], .int .i64 net, .agg #[.int .i64 t, .int .i64 f]] w (SrcPost w t) := by
 have HS := Lib.hid hs
 have y := (CircBox.made w c p 26).ext ((Ext.refl _).alloc (.cells #[.int .i64 t, .int .i64 f] 189))
 have z := Blk.at (w.alloc (.cells #[.int .i64 c.inputs, .slice p.an c.next.length p.cn, .slice p.ag c.gates.length p.cg, .slice p.ao c.outs.length p.co] 26)) [.int .i64 (t : Int), .int .i64 f] 189 (B := w.heap.size + 1) (by simp)
 have E0 : Ext w ((w.alloc (.cells #[.int .i64 c.inputs, .slice p.an c.next.length p.cn, .slice p.ag c.gates.length p.cg, .slice p.ao c.outs.length p.co] 26)).alloc (.cells #[.int .i64 t, .int .i64 f] 189)) := ((Ext.refl w).alloc _).alloc _
 clear hs
 go_enter Try.func149, Try.ntmps149
 go_upto_region 1 with fail
 obtain ⟨w1, hw1⟩ : ∃ x : World, x = (w.alloc (.cells #[.int .i64 c.inputs, .slice p.an c.next.length p.cn, .slice p.ag c.gates.length p.cg, .slice p.ao c.outs.length p.co] 26)).alloc (.cells #[.int .i64 t, .int .i64 f] 189) := ⟨_, rfl⟩
 rw [← hw1] at y z E0
 rw [← hw1]
 clear hw1
 by_cases hf : f < 0
 ·have z0 := z.cell (i := 0) rfl
  have z1 := z.cell (i := 1) rfl
  have zl := z.lt
  (obtain ⟨la, a0, a1, a2, a3⟩ := (id y))
  by_cases hn : net ≤ c.inputs
  ·have HD : Hid (drvB t 6 = true) := Lib.hid (by
    obtain ⟨h1, h2⟩ := HS.out hf hn
    rw [drvB_in, decide_eq_true h1, decide_eq_true h2]; rfl)
   go_wp2_with fail
   go_ret
   exact ⟨6, rfl, HD.out, E0⟩
  ·go_wp2_with fail
   go_ret
   exact ⟨1, rfl, drvB_one (.inr rfl), E0⟩
 ·have HF : Hid (0 ≤ f) := Lib.hid (by omega)
  have z1 := z.cell (i := 1) rfl
  have zl := z.lt
  go_wp2_with fail
  go_loopw [7] (fun u7 wr => ∃ d : Int, (2 ≤ d ∧ d ≤ 6) ∧ u7 = .int .i64 d ∧ Ext w1 wr) (fun v _ => (6 - intOf v).toNat)
  case atStart => exact ⟨2, by omega, rfl, Ext.refl _⟩
  case round =>
   clear z1 zl
   obtain ⟨d, ⟨d2, d6⟩, rfl, hE⟩ := hrel
   obtain ⟨w2, rfl⟩ : ∃ x : World, x = wr := ⟨_, rfl⟩
   have z2 := z.ext hE
   have z0 := z2.cell (i := 0) rfl
   have z1 := z2.cell (i := 1) rfl
   have zl := z2.lt
   by_cases hlt : d ≤ 5
   ·have hcall := l9Neighbour_c t ht d d2 hlt
    have hnear := drvB_near (t := t) d2 hlt
    obtain ⟨nb, hnb⟩ : ∃ nb, nb = nbV t d := ⟨_, rfl⟩
    rw [← hnb] at hcall hnear
    have HNR := Lib.hid hnear
    have HCA := Lib.hid hcall
    clear hnb hnear hcall
    go_wp2_with fail
    go_region_held3 ((fun w' => (∀ b o, b < w2.heap.size → w'.cell? ⟨b, o, none⟩ = w2.cell? ⟨b, o, none⟩) ∧ Ext w2 w')) ((first | assumption | (with_reducible exact held_mk (Ext.drew w2)) | (with_reducible exact held_mk (((Ext.refl w2).alloc _).drew')) | (with_reducible exact held_mk ((Ext.drew w2).alloc _)))) (first | (go_simp; go_at_call 119; refine (HCA.out _).mono ?_; rintro e w3 ⟨rfl, rfl⟩; have hK3 := held_mk (Ext.drew w2)))
    by_cases he : nb = f
    ·have he2 : (nb == f) = true := by simp [he]
     have HD : Hid (drvB t d = true) := Lib.hid (by rw [HNR.out]; exact decide_eq_true (by rw [he]; exact HF.out))
     clear he
     go_wp2_with fail
     go_ret
     exact ⟨d, rfl, HD.out, (E0.trans hE).trans (Ext.drew w2)⟩
    ·have he2 : (nb == f) = false := by simp [he]
     go_wp2_with fail
     go_roundw
     case rel => exact ⟨d + 1, by omega, by go_num, hE.trans (Ext.drew w2)⟩
     case measure => simp [intOf]; omega
   ·go_wp2_with fail
    go_ret
    exact ⟨0, rfl, drvB_one (.inl rfl), E0.trans hE⟩
theorem trackB_sm {n : Int} (h0 : 0 ≤ n) (h1 : n < 8) : trackB n = true := by
 unfold trackB
 rw [decide_eq_true h0, decide_eq_true (by omega)]; rfl
def TracksPost (w : World) (n : Nat) (e : Ending) (w' : World) : Prop := ∃ v xs, e = .returned v ∧ OwnInts w' w.heap.size 3 v xs ∧ xs.length = n ∧ (∀ x ∈ xs, trackB x = true) ∧ Ext w w'
set_option maxHeartbeats 8000000 in
theorem l9Tracks_c (n : Nat) (va : Option Addr) (vc : Nat) (rs : List RouteT) (F : List Nat) (w : World) (hR : NstR w (.slice va rs.length vc) rs F) (hn : n ≤ 100) (hl : rs.length ≤ 100) (hok : ∀ r ∈ rs, (0 ≤ r.net ∧ r.net < n) ∧ 0 ≤ r.track ∧ r.track < 8) :
  Calls Try.prog 148 #[.int .i64 n, .slice va rs.length vc] w (TracksPost w n) := by
 have HOK := Lib.hid hok
 have HR := Lib.hid hR
 have O0 : OwnInts (w.alloc (.cells #[] 3)) w.heap.size 3 (.slice (some ⟨w.heap.size, 0, none⟩) 0 0) [] := (Blk.at w [] 3 rfl).owns (n := 0) (size := 1) rfl (Nat.le_refl _) (by decide)
 have E0 := (Ext.refl w).alloc (.cells #[] 3)
 clear hok hR
 go_enter Try.func148, Try.ntmps148
 go_wp2_with fail
 go_loopw [5, 6] (fun u5 u6 wr => ∃ (k : Nat) (xs : List Int), k ≤ n ∧ u6 = .int .i64 k ∧ OwnInts wr w.heap.size 3 u5 xs ∧ Hid (xs.length = k ∧ ∀ x ∈ xs, trackB x = true) ∧ Ext w wr) (fun _ v _ => n - (intOf v).toNat)
 case atStart => exact ⟨0, [], Nat.zero_le _, rfl, O0, Lib.hid ⟨rfl, fun x hx => by simp at hx⟩, E0⟩
 case round =>
  clear O0 E0
  obtain ⟨k, xs, hk, rfl, hO, HX, hE⟩ := hrel
  obtain ⟨w2, rfl⟩ : ∃ x : World, x = wr := ⟨_, rfl⟩
  by_cases hlt : k < n
  ·have hlti : (k : Int) < (n : Int) := by omega
   have hxl : xs.length ≤ 100 := by rw [HX.out.1]; omega
   have hsz := hE.size
   go_wp2_with (at_builtin; refine wpList_app tyInts (ownsRow_ext hO (by (repeat (first | with_reducible assumption | with_reducible exact Ext.refl _ | with_reducible refine Ext.drew' ?_ | with_reducible refine Ext.drewN' ?_ _ | with_reducible refine Ext.alloc ?_ _ | (with_reducible refine Ext.setNew ?_ (by first | exact Nat.le_refl _ | (simp; done) | (simp; omega) | omega) _))))) (rowNew _ _ _ (by simp)) rfl (by simp [Value.oneCell']) (by omega) (by first | omega | (simp; done) | (simp; omega)) rfl rfl rfl rfl ?_; intro v9 w9 o9 g9 m9)
   have E9 : Ext w w9 := ext_grown (w1 := _) (Ext.trans hE (by (repeat (first | with_reducible assumption | with_reducible exact Ext.refl _ | with_reducible refine Ext.drew' ?_ | with_reducible refine Ext.drewN' ?_ _ | with_reducible refine Ext.alloc ?_ _ | (with_reducible refine Ext.setNew ?_ (by first | exact Nat.le_refl _ | (simp; done) | (simp; omega) | omega) _))))) g9 (fun q hq => (own_lo hO q hq).1)
   have O9 : OwnInts w9 w.heap.size 3 v9 (xs ++ [15]) := own_app (xs := xs) (ys := [15]) rfl rfl o9
   go_roundw
   case rel =>
    refine ⟨k + 1, _, by omega, by go_num, O9, Lib.hid ⟨by rw [List.length_append, HX.out.1]; rfl, fun x hx => ?_⟩, E9⟩
    rcases List.mem_append.1 hx with h | h
    ·exact HX.out.2 x h
    ·rw [List.mem_singleton.1 h]; rfl
   case measure => simp [intOf]; omega
  ·have hlti : ¬ ((k : Int) < (n : Int)) := by omega
   have HX2 : Hid (xs.length = n ∧ ∀ x ∈ xs, trackB x = true) := Lib.hid ⟨by rw [HX.out.1]; omega, HX.out.2⟩
   obtain ⟨a, cp, rfl⟩ := own_len hO HX2.out.1
   clear HX
   go_wp2_with fail
   go_loopw [7] (fun u7 wr => ∃ (j : Nat) (ys : List Int), j ≤ rs.length ∧ u7 = .int .i64 j ∧ OwnInts wr w.heap.size 3 (.slice a n cp) ys ∧ Hid (ys.length = n ∧ ∀ x ∈ ys, trackB x = true) ∧ Ext w wr) (fun v _ => rs.length - (intOf v).toNat)
   case atStart => exact ⟨0, xs, Nat.zero_le _, rfl, hO, HX2, hE⟩
   case round =>
    clear hO HX2 hE
    obtain ⟨j, ys, hj, rfl, hO, HX, hE⟩ := hrel
    obtain ⟨w3, rfl⟩ : ∃ x : World, x = wr := ⟨_, rfl⟩
    by_cases hlt2 : j < rs.length
    ·have hlt2i : (j : Int) < (rs.length : Int) := by omega
     obtain ⟨g, rfl, hg, _, hcells⟩ := Nst.getN goodRoute (HR.out.ext goodRoute hE) (by omega)
     obtain ⟨ds, F1, ⟨v, rfl, o1, rfl⟩, q, _⟩ := hcells j route0 hlt2
     have r0 := q 0 _ (by omega) rfl
     have r1 := q 1 _ (by omega) rfl
     rw [Nat.add_zero] at r0
     obtain ⟨⟨n0, n1⟩, t0, t1⟩ := HOK.out _ (getN_mem (d := route0) hlt2)
     obtain ⟨x, hx⟩ : ∃ x, x = rs.getD j route0 := ⟨_, rfl⟩
     rw [← hx] at r0 r1 n0 n1 t0 t1
     obtain ⟨xn, xt, xh⟩ := x
     dsimp only at r0 r1 n0 n1 t0 t1
     obtain ⟨m, rfl⟩ : ∃ m : Nat, xn = (m : Int) := ⟨xn.toNat, by omega⟩
     have hm : m < n := by omega
     obtain ⟨a2, c2, e2, _⟩ := hO.opened
     obtain ⟨gb, rfl⟩ : ∃ gb, a = some ⟨gb, 0, none⟩ := by
      have hl2 := HX.out.1
      have hO2 : OwnInts w3 w.heap.size 3 (.slice a ys.length cp) ys := by rw [hl2]; exact hO
      obtain ⟨gb, e, _⟩ := ownsRow_block hO2 (by omega)
      exact ⟨gb, e⟩
     have q1 := own_cellI hO (i := m) (by rw [HX.out.1]; exact hm)
     have hf := own_frI hO
     have hgl := (own_lo hO gb rfl)
     have HO2 := Lib.hid (own_set hO (i := m) (by rw [HX.out.1]; exact hm) xt)
     have HX3 : Hid ((ys.set m xt).length = n ∧ ∀ x ∈ ys.set m xt, trackB x = true) := Lib.hid ⟨by rw [List.length_set]; exact HX.out.1, fun x hx => by
      rcases List.mem_or_eq_of_mem_set hx with h | h
      ·exact HX.out.2 x h
      ·rw [h]; exact trackB_sm t0 t1⟩
     obtain ⟨gl0, gl1⟩ := hgl
     clear hx q hcells o1 e2 hO
     go_upto_region 9 with fail
     (refine wp_regionT ((fun w' => (∀ b o, b < w3.heap.size → w'.cell? ⟨b, o, none⟩ = w3.cell? ⟨b, o, none⟩) ∧ Ext w3 w')) 12 (by kernel_rfl) ?_; have hS0 := held_mk (Ext.drew w3))
     ((refine tkT 0 (v := ?_) rfl (by kernel_rfl) (by kernel_rfl) ?_ (by assumption) ?_; rotate_left; (intro wS hSw; (try dsimp only at hSw); go_simp; (try with_reducible rfl)); (try simp only [Act.put, lA, lB, lC])); (refine tkT 1 (v := ?_) rfl (by kernel_rfl) (by kernel_rfl) ?_ (by assumption) ?_; rotate_left; (intro wS hSw; (try dsimp only at hSw); go_simp; (try with_reducible rfl)); (try simp only [Act.put, lA, lB, lC])); (refine tkT 2 (v := ?_) rfl (by kernel_rfl) (by kernel_rfl) ?_ (by assumption) ?_; rotate_left; (intro wS hSw; (try dsimp only at hSw); go_simp; (try with_reducible rfl)); (try simp only [Act.put, lA, lB, lC])); (refine tkT 3 (v := ?_) rfl (by kernel_rfl) (by kernel_rfl) ?_ (by assumption) ?_; rotate_left; (intro wS hSw; (try dsimp only at hSw); go_simp; (try with_reducible rfl)); (try simp only [Act.put, lA, lB, lC])); (refine tkT 4 (v := ?_) rfl (by kernel_rfl) (by kernel_rfl) ?_ (by assumption) ?_; rotate_left; (intro wS hSw; (try dsimp only at hSw); go_simp; (try with_reducible rfl)); (try simp only [Act.put, lA, lB, lC])); (refine tkT 5 (v := ?_) rfl (by kernel_rfl) (by kernel_rfl) ?_ (by assumption) ?_; rotate_left; (intro wS hSw; (try dsimp only at hSw); go_simp; (try with_reducible rfl)); (try simp only [Act.put, lA, lB, lC])); (refine tkT 6 (v := ?_) rfl (by kernel_rfl) (by kernel_rfl) ?_ (by assumption) ?_; rotate_left; (intro wS hSw; (try dsimp only at hSw); go_simp; (try with_reducible rfl)); (try simp only [Act.put, lA, lB, lC])); (refine tkT 7 (v := ?_) rfl (by kernel_rfl) (by kernel_rfl) ?_ (by assumption) ?_; rotate_left; (intro wS hSw; (try dsimp only at hSw); go_simp; (try with_reducible rfl)); (try simp only [Act.put, lA, lB, lC])); (refine tkT 8 (v := ?_) rfl (by kernel_rfl) (by kernel_rfl) ?_ (by assumption) ?_; rotate_left; (intro wS hSw; (try dsimp only at hSw); go_simp; (try with_reducible rfl)); (try simp only [Act.put, lA, lB, lC])); (refine tkT 9 (v := ?_) rfl (by kernel_rfl) (by kernel_rfl) ?_ (by assumption) ?_; rotate_left; (intro wS hSw; (try dsimp only at hSw); go_simp; (try with_reducible rfl)); (try simp only [Act.put, lA, lB, lC])); (refine tkT 10 (v := ?_) rfl (by kernel_rfl) (by kernel_rfl) ?_ (by assumption) ?_; rotate_left; (intro wS hSw; (try dsimp only at hSw); go_simp; (try with_reducible rfl)); (try simp only [Act.put, lA, lB, lC])); (refine tkT 11 (v := ?_) rfl (by kernel_rfl) (by kernel_rfl) ?_ (by assumption) ?_; rotate_left; (intro wS hSw; (try dsimp only at hSw); go_simp; (try with_reducible rfl)); (try simp only [Act.put, lA, lB, lC])))
     (refine wpAnyT_last 12 (by kernel_rfl) rfl (by decide) (by kernel_rfl) (fun K hK => ?_))
     go_simp
     (refine hK _ _ ?_; clear hK K; (try simp only [Act.put, lA, lB, lC]))
     go_wp2_with fail
     go_roundw
     case rel => exact ⟨j + 1, _, by omega, by go_num, ownsRow_ext HO2.out (Ext.drew _), HX3, (Ext.setNew hE gl0 _).trans (Ext.drew _)⟩
     case measure => simp [intOf]; omega
    ·have hlt2i : ¬ ((j : Int) < (rs.length : Int)) := by omega
     go_wp2_with fail
     go_ret
     exact ⟨_, ys, rfl, hO, HX.out.1, HX.out.2, hE⟩
end Go.Proofs.Ytgialedmbmfejaa

--@from BCut BBest BLut BCel BSnk
namespace Go.Proofs.Ytgialedmbmfejaa
open Go.RowKit
set_option maxRecDepth 100000
set_option linter.unusedVariables false
set_option linter.unusedSimpArgs false
theorem Mid.setCell' {b N : Nat} {w w' : World} (h : Mid b N w w') {p : Addr} (h1 : b ≤ p.block) (h2 : p.block < N) (v : Value) : Mid b N w (w'.setCell p v) :=
 ⟨h.os, h.tape, h.output, by simpa using h.size, fun k hk hr => (heap_setCell_other w' p k v (fun e => by omega)).trans (h.block k hk hr)⟩
theorem cells_fit {c : Circ} (V : c.Valid) : ∀ x ∈ cellsN c, (0 ≤ x.tb ∧ x.tb < 256) ∧ x.ins.length ≤ 3 ∧ ∀ z ∈ x.ins, 0 ≤ z ∧ z < c.vars := by
 have hi0 := V.i0
 have hvv : c.vars = c.first + c.gates.length := rfl
 have hff : c.first = 1 + c.inputs + c.next.length := rfl
 have K := lutList V
 have hcv : cellsV c = cellsN c := by unfold cellsV; rw [validB_iff.2 V]; rfl
 have hsm := cells_sm c
 rw [hcv] at hsm
 intro x hx
 refine ⟨?_, hsm.2 x hx, ?_⟩
 ·rcases List.mem_append.1 hx with h | h
  ·obtain ⟨i, _, rfl⟩ := List.mem_map.1 h
   unfold latchCell
   split <;> (dsimp only; omega)
  ·obtain ⟨y, hy, rfl⟩ := List.mem_map.1 h
   obtain ⟨k, hk, _, e2, e3⟩ := K.el y hy
   have h3 : y.lv.length ≤ 3 := by rw [e2]; exact (bestN_cut V hk).len
   show 0 ≤ y.tb ∧ y.tb < 256
   rw [e3]
   have hlt : tableV c y.lv (c.first.toNat + k) < 2 ^ (2 ^ y.lv.length) := tabN_lt _ _
   have hle : 2 ^ (2 ^ y.lv.length) ≤ 2 ^ (2 ^ 3) := Nat.pow_le_pow_right (by decide) (Nat.pow_le_pow_right (by decide) h3)
   have e8 : 2 ^ (2 ^ 3) = 256 := by decide
   omega
 ·rcases List.mem_append.1 hx with h | h
  ·obtain ⟨i, hi, rfl⟩ := List.mem_map.1 h
   have hr := root_ok V (xs := c.next) (fun x hx => List.mem_append_left _ hx) i (List.mem_range.1 hi)
   unfold latchCell
   split
   ·intro z hz
    simp only [List.mem_singleton] at hz
    omega
   ·intro z hz; simp at hz
  ·obtain ⟨y, hy, rfl⟩ := List.mem_map.1 h
   obtain ⟨k, hk, e1, e2, e3⟩ := K.el y hy
   intro z hz
   have := K.leaf y hy z hz
   omega
theorem Tile.Ok.tb' {x : Tile} {t : Nat} (h : x.Ok t) {v : Int} (h0 : 0 ≤ v) (h1 : v < 256) : Tile.Ok { x with tb := v } t := { h with t0 := h0, t1 := h1 }
theorem Tile.Ok.rg' {x : Tile} {t : Nat} (h : x.Ok t) (b : Bool) : Tile.Ok { x with rg := b } t := { h with }
theorem Tile.Ok.sl' {x : Tile} {t : Nat} (h : x.Ok t) (k : Nat) {v : Int} (hv : trackB v = true) : Tile.Ok { x with sl := x.sl.set k v } t :=
 by
 refine { h with ls := ?_, ss := fun j hj => ?_ }
 ·show (x.sl.set k v).length = 3
  rw [List.length_set]; exact h.ls
 ·show trackB ((x.sl.set k v).getD j 0) = true
  by_cases hk : k < x.sl.length
  ·rw [getD_set _ _ _ _ _ hk]
   split
   ·exact hv
   ·exact h.ss j hj
  ·rw [List.set_eq_of_length_le (by omega)]; exact h.ss j hj
theorem Tile.Ok.dr' {x : Tile} {t : Nat} (h : x.Ok t) (k : Nat) {v : Int} (hv : drvB t v = true) : Tile.Ok { x with dr := x.dr.set k v } t :=
 by
 refine { h with ld := ?_, ds := fun j hj => ?_ }
 ·show (x.dr.set k v).length = 8
  rw [List.length_set]; exact h.ld
 ·show drvB t ((x.dr.set k v).getD j 0) = true
  by_cases hk : k < x.dr.length
  ·rw [getD_set _ _ _ _ _ hk]
   split
   ·exact hv
   ·exact h.ds j hj
  ·rw [List.set_eq_of_length_le (by omega)]; exact h.ds j hj
theorem Conf.Ok.tile {K : Conf} (h : K.Ok) {j : Nat} (hj : j < 25) : (K.ts.getD j tile0).Ok j := tileB_iff.1 (h.ts j hj)
theorem Conf.Ok.put {K : Conf} (h : K.Ok) {j : Nat} (hj : j < 25) {y : Tile} (hy : y.Ok j) : Conf.Ok { K with ts := K.ts.set j y } where
 lt := by show (K.ts.set j y).length = 25; rw [List.length_set]; exact h.lt
 lp := h.lp
 ts := fun i hi => by
  show tileB ((K.ts.set j y).getD i tile0) i = true
  rw [getD_set _ _ _ _ _ (by rw [h.lt]; exact hj)]
  split
  ·rename_i e; subst e; exact tileB_true hy
  ·exact h.ts i hi
 ps := h.ps
theorem Conf.Ok.pad {K : Conf} (h : K.Ok) {o : Nat} (ho : o < 3) {x : Int} (hx : trackB x = true) (b : Bool) : Conf.Ok { K with ps := K.ps.set o (x, b) } where
 lt := h.lt
 lp := by show (K.ps.set o (x, b)).length = 3; rw [List.length_set]; exact h.lp
 ts := h.ts
 ps := fun i hi => by
  show trackB ((K.ps.set o (x, b)).getD i (0, false)).1 = true
  rw [getD_set _ _ _ _ _ (by rw [h.lp]; exact ho)]
  split
  ·exact hx
  ·exact h.ps i hi
theorem econf_ok : econf.Ok where
 lt := by simp [econf]
 lp := by simp [econf]
 ts := fun j hj => by
  have e : econf.ts.getD j tile0 = etile := by
   show (List.replicate 25 etile).getD j tile0 = etile
   rw [List.getD_eq_getElem?_getD, List.getElem?_replicate, if_pos hj]; rfl
  rw [e]
  refine tileB_true { t0 := by simp [etile], t1 := by simp [etile], ls := by simp [etile], ld := by simp [etile], ss := fun i hi => ?_, ds := fun i hi => ?_ }
  ·show trackB ((List.replicate 3 15).getD i 0) = true
   rw [List.getD_eq_getElem?_getD, List.getElem?_replicate, if_pos hi]; rfl
  ·show drvB j ((List.replicate 8 0).getD i 0) = true
   rw [List.getD_eq_getElem?_getD, List.getElem?_replicate, if_pos hi]
   exact drvB_one (.inl rfl)
 ps := fun j hj => by
  show trackB ((List.replicate 3 ((15 : Int), false)).getD j (0, false)).1 = true
  rw [List.getD_eq_getElem?_getD, List.getElem?_replicate, if_pos hj]; rfl
/-- A whole tile put in its own place, with another table and another flag. -/
theorem OwnK.setAll {w : World} {base : Nat} {tv pv : Value} {us : List Value} {K : Conf} (h : OwnK w base tv pv us K) {j g c n : Nat} (hj : j < K.ts.length) (hv : tv = .slice (some ⟨g, 0, none⟩) n c) (x : Int) (r : Bool) {a b : Value} (ha : us.getD (2 * j) vnil = a) (hb : us.getD (2 * j + 1) vnil = b) :
  OwnK ((((w.setCell ⟨g, j * 4, none⟩ (.int .i64 x)).setCell ⟨g, j * 4 + 1, none⟩ a).setCell ⟨g, j * 4 + 2, none⟩ (.bool r)).setCell ⟨g, j * 4 + 3, none⟩ b) base tv pv us { K with ts := K.ts.set j { K.ts.getD j tile0 with tb := x, rg := r } } := by
 have hl := h.ts.ul
 obtain ⟨o1, o2⟩ := h.offT (g := g) (by rw [hv]; rfl)
 have hn : n = K.ts.length := by
  obtain ⟨a, c2, e, _⟩ := ownsRow_row h.ts.row
  rw [hv] at e; cases e; rfl
 subst hn hv
 have hcl := cellsT_length _ _ hl
 have h1 := ownsRow_setAt h.ts.row (j * 4) (by omega) (.int .i64 x)
 have h2 := ownsRow_setAt h1 (j * 4 + 1) (by rw [List.length_set]; omega) a
 have h3 := ownsRow_setAt h2 (j * 4 + 2) (by rw [List.length_set, List.length_set]; omega) (.bool r)
 have h4 := ownsRow_setAt h3 (j * 4 + 3) (by rw [List.length_set, List.length_set, List.length_set]; omega) b
 have e := cellsT_set K.ts us hl j hj { K.ts.getD j tile0 with tb := x, rg := r } a b
 dsimp only at e
 rw [e] at h4
 have eu : (us.set (2 * j) a).set (2 * j + 1) b = us := by
  refine List.ext_getElem? (fun i => ?_)
  rw [List.getElem?_set, List.getElem?_set]
  by_cases e1 : 2 * j + 1 = i
  ·subst e1
   rw [if_pos rfl, if_pos (by rw [List.length_set]; omega), ← hb, List.getD_eq_getElem?_getD, List.getElem?_eq_getElem (by omega)]; rfl
  ·rw [if_neg e1]
   by_cases e2 : 2 * j = i
   ·subst e2
    rw [if_pos rfl, if_pos (by omega), ← ha, List.getD_eq_getElem?_getD, List.getElem?_eq_getElem (by omega)]; rfl
   ·rw [if_neg e2]
 rw [eu] at h4
 have o1' : ∀ i, i < (flT K.ts).length → (us.getD i vnil).ownBlock ≠ some g := fun i hi => o1 i (by rw [flT_length] at hi; exact hi)
 have ef := flT_same K.ts j { K.ts.getD j tile0 with tb := x, rg := r } rfl rfl
 refine ⟨⟨by rw [List.length_set]; exact h4, ?_, fun i k hi hk => h.ts.off i k (by simpa using hi) hk⟩, ownsRow_set (ownsRow_set (ownsRow_set (ownsRow_set h.ps o2 _) o2 _) o2 _) o2 _, fun q hq => ⟨(h.op q hq).1, fun i hi => (h.op q hq).2 i (by simpa using hi)⟩⟩
 show Elts _ base us (flT (K.ts.set j { K.ts.getD j tile0 with tb := x, rg := r }))
 rw [ef]
 exact (((h.ts.els.setCell o1' _).setCell o1' _).setCell o1' _).setCell o1' _
/-- What holds while a configuration is built in place. -/
structure BInv (b N Bk : Nat) (w0 : World) (tv pv : Value) (us : List Value) (K : Conf) (w : World) : Prop where
 bk : Blk w Bk 52 [tv, pv]
 k : OwnK w b tv pv us K
 m : Mid b N w0 w
 ok : K.Ok
section
variable {b N Bk : Nat} {w0 w w' : World} {tv pv : Value} {us : List Value} {K K' : Conf}
theorem BInv.ext (h : BInv b N Bk w0 tv pv us K w) (e : Ext w w') : BInv b N Bk w0 tv pv us K w' := ⟨h.bk.ext e, h.k.ext e, h.m.ext2 e, h.ok⟩
theorem BInv.old (h : BInv b N Bk w0 tv pv us K w) {a : World} (e : Ext a w0) (hb : a.heap.size ≤ b) : Ext a w := e.mid h.m hb
end
end Go.Proofs.Ytgialedmbmfejaa

--@from BCut BBest BLut BCel BSnk
namespace Go.Proofs.Ytgialedmbmfejaa
open Go.RowKit
set_option maxRecDepth 100000
set_option linter.unusedVariables false
set_option linter.unusedSimpArgs false
def BuildPost (w : World) (e : Ending) (w' : World) : Prop := ∃ tv pv us K, e = .returned (.agg #[tv, pv]) ∧ OwnK w' w.heap.size tv pv us K ∧ K.Ok ∧ Ext w w'
/-- Which blocks a configuration's values name. -/
theorem OwnK.lts {w : World} {base : Nat} {tv pv : Value} {us : List Value} {K : Conf} (h : OwnK w base tv pv us K) : (∀ g, tv.ownBlock = some g → base ≤ g ∧ g < w.heap.size) ∧ (∀ g, pv.ownBlock = some g → base ≤ g ∧ g < w.heap.size) ∧ ∀ i g, i < 2 * K.ts.length → (us.getD i vnil).ownBlock = some g → base ≤ g ∧ g < w.heap.size :=
 ⟨fun g hg => World.ownsRow.lt h.ts.row g hg, fun g hg => World.ownsRow.lt h.ps g hg, fun i g hi hg => h.ts.els.lt (by rw [flT_length]; exact hi) hg⟩
set_option maxHeartbeats 16000000 in
theorem l9Build_c (c : Circ) (p : Where3) (ca : Option Addr) (cc : Nat) (cs : List CellT) (Fc : List Nat) (pa : Option Addr) (pc : Nat) (place : List Int) (ra : Option Addr) (rc : Nat) (rs : List RouteT) (Fr : List Nat) (w : World) (hc : CircAt w c p) (V : c.Valid) (hN : NstC w (.slice ca cs.length cc) cs Fc) (hp : IntsAt w pa place) (hpl : place.length = cs.length) (hF : InF place) (hl : cs.length ≤ 17) (hs : ∀ x ∈ cs, (0 ≤ x.tb ∧ x.tb < 256) ∧ x.ins.length ≤ 3 ∧ ∀ z ∈ x.ins, 0 ≤ z ∧ z < c.vars) (hR : NstR w (.slice ra rs.length rc) rs Fr) (hrl : rs.length ≤ 30) (hro : ∀ r ∈ rs, RouteOk c r) :
  Calls Try.prog 138 #[.agg #[.int .i64 c.inputs, .slice p.an c.next.length p.cn, .slice p.ag c.gates.length p.cg, .slice p.ao c.outs.length p.co], .slice ca cs.length cc, .slice pa cs.length pc, .slice ra rs.length rc] w (BuildPost w) := by
 have E0 : Ext w ((w.alloc (.cells #[.int .i64 c.inputs, .slice p.an c.next.length p.cn, .slice p.ag c.gates.length p.cg, .slice p.ao c.outs.length p.co] 26)).alloc (.cells #[.slice none 0 0, .slice none 0 0] 52)) := ((Ext.refl w).alloc _).alloc _
 have y := (CircBox.made w c p 26).ext ((Ext.refl _).alloc (.cells #[.slice none 0 0, .slice none 0 0] 52))
 have R0 := Blk.at (w.alloc (.cells #[.int .i64 c.inputs, .slice p.an c.next.length p.cn, .slice p.ag c.gates.length p.cg, .slice p.ao c.outs.length p.co] 26)) [.slice none 0 0, .slice none 0 0] 52 (B := w.heap.size + 1) (by simp)
 have HC := Lib.hid (hc.ext E0)
 have HN := Lib.hid (hN.ext goodCell E0)
 have HP := Lib.hid (hp.ext E0)
 have HR := Lib.hid (hR.ext goodRoute E0)
 have HS := Lib.hid hs
 have HPL := Lib.hid hpl
 have HF := Lib.hid hF
 have HRO := Lib.hid hro
 have i0 := V.i0
 have i4 := V.i4
 have ln := V.ln
 have lg := V.lg
 have lo := V.lo
 have HXO := Lib.hid (root_ok V (xs := c.outs) (fun x hx => List.mem_append_right _ hx))
 have hv1 : c.vars = c.first + c.gates.length := rfl
 have hf1 : c.first = 1 + c.inputs + c.next.length := rfl
 obtain ⟨nv, hnv⟩ : ∃ n : Nat, n = c.vars.toNat := ⟨_, rfl⟩
 have hvn : c.first + c.gates.length = (nv : Int) := by omega
 have hn30 : nv ≤ 30 := by omega
 have HVN : Hid (c.vars = (nv : Int)) := Lib.hid (by omega)
 have hf30 : c.first ≤ 30 := by omega
 have hf0 : 0 ≤ c.first := by omega
 have hnv1 : 1 ≤ nv := by omega
 have hwr : IntKind.i64.wrap (c.first + c.gates.length) = (nv : Int) := by rw [hvn]; exact IntWalk.i64_in _ (by omega)
 have hro2 : ∀ r ∈ rs, (0 ≤ r.net ∧ r.net < nv) ∧ 0 ≤ r.track ∧ r.track < 8 := fun r hr => by
  have h := hro r hr
  have h1 := h.n0
  have h2 := h.n1
  exact ⟨by omega, h.t0, h.t1⟩
 have HRO2 := Lib.hid hro2
 clear V hc hN hp hpl hF hs hR hro hro2 hv1 hf1 hnv hvn
 go_enter Try.func138, Try.ntmps138
 go_upto_region 1 with fail
 obtain ⟨w1, hw1⟩ : ∃ x : World, x = (w.alloc (.cells #[.int .i64 c.inputs, .slice p.an c.next.length p.cn, .slice p.ag c.gates.length p.cg, .slice p.ao c.outs.length p.co] 26)).alloc (.cells #[.slice none 0 0, .slice none 0 0] 52) := ⟨_, rfl⟩
 have s1 : w1.heap.size = w.heap.size + 2 := by rw [hw1]; simp
 rw [← hw1] at E0 y R0 HC HN HP HR
 rw [← hw1]
 have S1 := Lib.hid s1
 have s1a : w.heap.size + 2 ≤ w1.heap.size := by omega
 clear hw1 s1
 go_wp2_with fail
 refine (specEmptyConfig_c w1).mono ?_
 obtain ⟨K0, hK0⟩ : ∃ K, K = econf := ⟨_, rfl⟩
 have hok0 : K0.Ok := by rw [hK0]; exact econf_ok
 rw [← hK0]
 rintro e w2 ⟨tv, pv, us, rfl, hK, hE2⟩
 have HK0 := Lib.hid hok0
 obtain ⟨ta, tc, pa2, pc2, htv, hpv⟩ := hK.sl
 rw [hok0.lt] at htv
 rw [hok0.lp] at hpv
 subst htv hpv
 have hlts := hK.lts
 have HLT : Hid ((∀ g, (Value.slice ta 25 tc).ownBlock = some g → w1.heap.size ≤ g ∧ g < w2.heap.size) ∧ (∀ g, (Value.slice pa2 3 pc2).ownBlock = some g → w1.heap.size ≤ g ∧ g < w2.heap.size) ∧ ∀ i g, i < 50 → (us.getD i vnil).ownBlock = some g → w1.heap.size ≤ g ∧ g < w2.heap.size) := Lib.hid ⟨hlts.1, hlts.2.1, fun i g hi hg => hlts.2.2 i g (by rw [hok0.lt]; omega) hg⟩
 have s12 := hE2.size
 clear hlts hK0 hok0
 have BK := Blk.at w2 [.slice ta 25 tc, .slice pa2 3 pc2] 52 rfl
 have E23 := (Ext.refl w2).alloc (.cells #[.slice ta 25 tc, .slice pa2 3 pc2] 52)
 go_upto_region 2 with fail
 obtain ⟨w3, hw3⟩ : ∃ x : World, x = w2.alloc (.cells #[.slice ta 25 tc, .slice pa2 3 pc2] 52) := ⟨_, rfl⟩
 have s3 : w3.heap.size = w2.heap.size + 1 := by rw [hw3]; simp
 rw [← hw3] at BK E23
 rw [← hw3]
 have S3 := Lib.hid s3
 have s23 : w2.heap.size < w3.heap.size := by omega
 have hK3 := hK.ext E23
 have E13 := hE2.trans E23
 have y3 := y.ext E13
 clear hw3 s3 hK hE2 E23
 (obtain ⟨la, a0, a1, a2, a3⟩ := (id y3))
 go_region_held3 ((fun w' => (∀ b o, b < w3.heap.size → w'.cell? ⟨b, o, none⟩ = w3.cell? ⟨b, o, none⟩) ∧ Ext w3 w')) ((first | assumption | (with_reducible exact held_mk (Ext.drew w3)) | (with_reducible exact held_mk (((Ext.refl w3).alloc _).drew')) | (with_reducible exact held_mk ((Ext.drew w3).alloc _)))) (first
  | (go_simp; go_at_call 69; refine (l1First_c c p _ (by omega) (by omega) (by omega)).mono ?_; rintro e w4 ⟨rfl, hE4⟩; have hX4 : Ext w3 w4 := (Ext.drew w3).trans hE4; have hK4 := held_mk hX4)
  | (go_simp; go_at_call 148; refine (l9Tracks_c nv ra rc rs Fr _ (HR.out.ext goodRoute (E13.trans hX4)) (by omega) (by omega) HRO2.out).mono ?_; rintro e w5 ⟨vt, trk, rfl, hT, htl, htk, hE5⟩; have hX5 : Ext w3 w5 := hX4.trans hE5; have hK5 := held_mk hX5))
 clear a0 a1 a2 a3 la y3 hK4 hK5
 have hT3 : OwnInts w5 w3.heap.size 3 vt trk := ownsRow_base hT hX4.size
 have s35 := hX5.size
 have HTK := Lib.hid htk
 have HTL := Lib.hid htl
 obtain ⟨tra, trc, rfl⟩ := own_len hT3 htl
 obtain ⟨gt, rfl⟩ : ∃ gt, tra = some ⟨gt, 0, none⟩ := by
  have hO2 : OwnInts w5 w3.heap.size 3 (.slice tra trk.length trc) trk := by rw [htl]; exact hT3
  obtain ⟨gt, e, _⟩ := ownsRow_block hO2 (by omega)
  exact ⟨gt, e⟩
 have hgt := own_lo hT3 gt rfl
 have hB0 : BInv w1.heap.size w3.heap.size w2.heap.size w5 (.slice ta 25 tc) (.slice pa2 3 pc2) us K0 w5 := ⟨BK.ext hX5, hK3.ext hX5, Mid.refl _, HK0.out⟩
 have HT := Lib.hid hT3
 have HE15 := Lib.hid (E13.trans hX5)
 clear hT hT3 htl htk hE4 hE5 hX4 hX5 BK hK3 E13 HK0
 go_wp2_with fail
 go_loopw [11] (fun u11 wr => ∃ (i : Nat) (K : Conf), i ≤ cs.length ∧ u11 = .int .i64 i ∧ BInv w1.heap.size w3.heap.size w2.heap.size w5 (.slice ta 25 tc) (.slice pa2 3 pc2) us K wr) (fun v _ => cs.length - (intOf v).toNat)
 case atStart => exact ⟨0, K0, Nat.zero_le _, rfl, hB0⟩
 case round =>
  clear hB0
  obtain ⟨i, K, hi, rfl, hB⟩ := hrel
  obtain ⟨w6, rfl⟩ : ∃ x : World, x = wr := ⟨_, rfl⟩
  have E16 := hB.old HE15.out (Nat.le_refl _)
  by_cases hlt : i < cs.length
  ·have hlti : (i : Int) < (cs.length : Int) := by omega
   obtain ⟨b5, o5, rfl, hb5, hc5⟩ := (HP.out.ext E16).get (by rw [HPL.out]; omega)
   have q5 := hc5 i (by rw [HPL.out]; exact hlt)
   have hx := HF.out _ (getN_mem (d := (0 : Int)) (show i < place.length by rw [HPL.out]; exact hlt))
   obtain ⟨x, hxx⟩ : ∃ x, x = place.getD i 0 := ⟨_, rfl⟩
   rw [← hxx] at q5 hx
   obtain ⟨j, rfl⟩ : ∃ j : Nat, x = (j : Int) := ⟨x.toNat, by omega⟩
   have hj25 : j < 25 := by omega
   have hji : (j : Int) < 25 := by omega
   obtain ⟨gc, rfl, hgc, _, hcells⟩ := Nst.getN goodCell (HN.out.ext goodCell E16) (by omega)
   obtain ⟨ds, F1, ⟨v, rfl, o1, rfl⟩, qq, _⟩ := hcells i cell0 hlt
   have r1 := qq 1 _ (by omega) rfl
   have r2 := qq 2 _ (by omega) rfl
   have r3 := qq 3 _ (by omega) rfl
   obtain ⟨⟨tb0, tb1⟩, il3, hins⟩ := HS.out _ (getN_mem (d := cell0) hlt)
   obtain ⟨ce, hce⟩ : ∃ ce, ce = cs.getD i cell0 := ⟨_, rfl⟩
   rw [← hce] at r2 r3 o1 tb0 tb1 il3 hins
   obtain ⟨xn, xi, xt, xr⟩ := ce
   dsimp only at r2 r3 o1 tb0 tb1 il3 hins
   obtain ⟨va, vc, rfl, hIA, _⟩ := o1.opened
   have HXX := Lib.hid hxx
   have HIN := Lib.hid hins
   have HCE := Lib.hid hce
   have hok := hB.ok
   have htok := hok.tile hj25
   obtain ⟨g, cg, gs, csl, gd, cd, ev, hbg, hbs, hbd, eu1, eu2, hTV⟩ := hB.k.tile (j := j) (by rw [hok.lt]; exact hj25) (by rw [htok.ls]; omega) (by rw [htok.ld]; omega)
   have ev2 := (Value.slice.inj ev).1
   subst ev2
   have hls := htok.ls
   have hld := htok.ld
   have x0 := hTV.c0
   have x1 := hTV.c1
   have x2 := hTV.c2
   have x3 := hTV.c3
   rw [hls] at x1 eu1
   rw [hld] at x3 eu2
   have hlg := hTV.lg
   have z0 := hB.bk.cell (i := 0) rfl
   have zl := hB.bk.lt
   obtain ⟨X, hX⟩ : ∃ X, X = K.ts.getD j tile0 := ⟨_, rfl⟩
   rw [← hX] at x0 x2 hls hld
   have HU1 := Lib.hid eu1
   have HU2 := Lib.hid eu2
   have hgw3 : g < w3.heap.size := by have := (HLT.out.1 g rfl).2; omega
   have hgs3 : gs < w3.heap.size := by have := (HLT.out.2.2 (2 * j) gs (by omega) (by rw [eu1]; rfl)).2; omega
   clear hc5 hxx hx qq hcells o1 hce hIA hins hok htok ev hX eu1 eu2 hTV hls hld hbd
   have s56 : w5.heap.size ≤ w6.heap.size := hB.m.size
   go_upto_region 6 with fail
   (refine wp_regionT ((fun w' => (∀ b o, b < w6.heap.size → w'.cell? ⟨b, o, none⟩ = w6.cell? ⟨b, o, none⟩) ∧ Ext w6 w')) 9 (by kernel_rfl) ?_; have hS0 := held_mk (Ext.drew w6))
   ((refine tkT 0 (v := ?_) rfl (by kernel_rfl) (by kernel_rfl) ?_ (by assumption) ?_; rotate_left; (intro wS hSw; (try dsimp only at hSw); go_simp; (try with_reducible rfl)); (try simp only [Act.put, lA, lB, lC])); (refine tkT 1 (v := ?_) rfl (by kernel_rfl) (by kernel_rfl) ?_ (by assumption) ?_; rotate_left; (intro wS hSw; (try dsimp only at hSw); go_simp; (try with_reducible rfl)); (try simp only [Act.put, lA, lB, lC])); (refine tkT 2 (v := ?_) rfl (by kernel_rfl) (by kernel_rfl) ?_ (by assumption) ?_; rotate_left; (intro wS hSw; (try dsimp only at hSw); go_simp; (try with_reducible rfl)); (try simp only [Act.put, lA, lB, lC])); (refine tkT 3 (v := ?_) rfl (by kernel_rfl) (by kernel_rfl) ?_ (by assumption) ?_; rotate_left; (intro wS hSw; (try dsimp only at hSw); go_simp; (try with_reducible rfl)); (try simp only [Act.put, lA, lB, lC])); (refine tkT 4 (v := ?_) rfl (by kernel_rfl) (by kernel_rfl) ?_ (by assumption) ?_; rotate_left; (intro wS hSw; (try dsimp only at hSw); go_simp; (try with_reducible rfl)); (try simp only [Act.put, lA, lB, lC])); (refine tkT 5 (v := ?_) rfl (by kernel_rfl) (by kernel_rfl) ?_ (by assumption) ?_; rotate_left; (intro wS hSw; (try dsimp only at hSw); go_simp; (try with_reducible rfl)); (try simp only [Act.put, lA, lB, lC])); (refine tkT 6 (v := ?_) rfl (by kernel_rfl) (by kernel_rfl) ?_ (by assumption) ?_; rotate_left; (intro wS hSw; (try dsimp only at hSw); go_simp; (try with_reducible rfl)); (try simp only [Act.put, lA, lB, lC])); (refine tkT 7 (v := ?_) rfl (by kernel_rfl) (by kernel_rfl) ?_ (by assumption) ?_; rotate_left; (intro wS hSw; (try dsimp only at hSw); go_simp; (try with_reducible rfl)); (try simp only [Act.put, lA, lB, lC])))
   (refine wpAnyT_do 8 (by kernel_rfl) rfl (fun K hK => ?_))
   go_simp
   have A3 : Ext w6 ((World.drew w6).alloc (.cells #[.int .i64 0, .slice none 0 0, .bool false, .slice none 0 0] 61)) := (Ext.drew w6).alloc _
   have hS1 := held_mk A3
   (refine hK _ _ hS1 ?_; clear hK K; (try simp only [Act.put, lA, lB, lC]))
   (refine wpAnyT_last 9 (by kernel_rfl) rfl (by decide) (by kernel_rfl) (fun K hK => ?_))
   go_simp
   (refine hK _ _ ?_; clear hK K; (try simp only [Act.put, lA, lB, lC]))
   obtain ⟨w7, hw7⟩ : ∃ z, z = (w6.alloc (.cells #[.int .i64 X.tb, .slice (some ⟨gs, 0, none⟩) 3 csl, .bool X.rg, .slice (some ⟨gd, 0, none⟩) 8 cd] 61)).drew := ⟨_, rfl⟩
   have E67 : Ext w6 w7 := by rw [hw7]; exact ((Ext.refl w6).alloc _).drew'
   have BT := (Blk.at w6 [.int .i64 X.tb, .slice (some ⟨gs, 0, none⟩) 3 csl, .bool X.rg, .slice (some ⟨gd, 0, none⟩) 8 cd] 61 rfl).drew
   rw [← hw7] at BT
   rw [← hw7]
   have hB7 := hB.ext E67
   have E17 := E16.trans E67
   have p2 := ((ecell E67).1 gc _ hgc).trans r2
   have p3 := ((ecell E67).1 gc _ hgc).trans r3
   have hgc7 : gc < w7.heap.size := Nat.lt_of_lt_of_le hgc E67.size
   have t0 := BT.cell (i := 0) rfl
   have t2 := BT.cell (i := 2) rfl
   have tf := fun i => BT.frozen i
   have tl := BT.lt
   have BT8 := (BT.set 0 (.int .i64 xt)).set 2 (.bool xr)
   dsimp only [List.set] at BT8
   have E78 : Ext w6 ((w7.setCell ⟨w6.heap.size, 0, none⟩ (.int .i64 xt)).setCell ⟨w6.heap.size, 2, none⟩ (.bool xr)) := Ext.setNew (Ext.setNew E67 (Nat.le_refl _) _) (Nat.le_refl _) _
   have hB8 := hB.ext E78
   clear hw7 hS0 hS1 A3 BT hB hB7 x0 x1 x2 x3 z0 zl r2 r3 q5 hb5 r1 hlg E67
   go_wp2_with fail
   go_loopw [13] (fun u13 wr => ∃ (m : Nat) (K : Conf), m ≤ xi.length ∧ u13 = .int .i64 m ∧ Blk wr w6.heap.size 61 [.int .i64 xt, .slice (some ⟨gs, 0, none⟩) 3 csl, .bool xr, .slice (some ⟨gd, 0, none⟩) 8 cd] ∧ BInv w1.heap.size w3.heap.size w2.heap.size w5 (.slice (some ⟨g, 0, none⟩) 25 tc) (.slice pa2 3 pc2) us K wr) (fun v _ => xi.length - (intOf v).toNat)
   case atStart => exact ⟨0, K, Nat.zero_le _, rfl, BT8, hB8⟩
   case round =>
    clear BT8 hB8 E78 p2 p3 hgc7 t0 t2 tf tl E17
    obtain ⟨m, K, hm, rfl, BT, hB⟩ := hrel
    obtain ⟨w8, rfl⟩ : ∃ x : World, x = wr := ⟨_, rfl⟩
    have E18 := hB.old HE15.out (Nat.le_refl _)
    obtain ⟨gc', egc, hgc, _, hcells⟩ := Nst.getN goodCell (HN.out.ext goodCell E18) (by omega)
    obtain rfl : gc = gc' := by cases egc; rfl
    obtain ⟨ds, F1, ⟨v, rfl, o1, rfl⟩, qq, _⟩ := hcells i cell0 hlt
    rw [← HCE.out] at o1
    have r1 := qq 1 _ (by omega) rfl
    obtain ⟨va2, vc2, rfl, hIA, _⟩ := o1.opened
    dsimp only at r1 hIA
    have hok := hB.ok
    have htok := hok.tile hj25
    obtain ⟨g', cg', gs', csl', gd', cd', ev, _, _, _, eu1, eu2, hTV⟩ := hB.k.tile (j := j) (by rw [hok.lt]; exact hj25) (by rw [htok.ls]; omega) (by rw [htok.ld]; omega)
    obtain rfl : g = g' := by cases (Value.slice.inj ev).1; rfl
    have e9 := (Value.slice.inj (HU1.out.symm.trans eu1)).1
    obtain rfl : gs = gs' := by cases e9; rfl
    have hls := htok.ls
    have hld := htok.ld
    have tf := fun i => BT.frozen i
    have tl := BT.lt
    have t0 := BT.cell (i := 0) rfl
    have t1 := BT.cell (i := 1) rfl
    have t2 := BT.cell (i := 2) rfl
    have t3 := BT.cell (i := 3) rfl
    have s68 : w5.heap.size ≤ w8.heap.size := hB.m.size
    by_cases hlt2 : m < xi.length
    ·have hlt2i : (m : Int) < (xi.length : Int) := by omega
     have hm3 : (m : Int) < 3 := by omega
     obtain ⟨b6, o6, rfl, hb6, hc6⟩ := hIA.get (by omega)
     have q6 := hc6 m hlt2
     have hz := HIN.out _ (getN_mem (d := (0 : Int)) hlt2)
     have hvn := HVN.out
     obtain ⟨z, hzz⟩ : ∃ z, z = xi.getD m 0 := ⟨_, rfl⟩
     rw [← hzz] at q6 hz
     obtain ⟨zn, rfl⟩ : ∃ n : Nat, z = (n : Int) := ⟨z.toNat, by omega⟩
     have hzn : zn < nv := by omega
     have hzi : (zn : Int) < (nv : Int) := by omega
     have HT8 := ownsRow_mid HT.out hB.m (fun k hk => .inr (own_lo HT.out k hk).1)
     have q7 := own_cellI HT8 (i := zn) (by rw [HTL.out]; exact hzn)
     have hgt8 := (own_lo HT8 gt rfl).2
     have hxk := HTK.out _ (getN_mem (d := (0 : Int)) (show zn < trk.length by rw [HTL.out]; exact hzn))
     obtain ⟨x, hx⟩ : ∃ x, x = trk.getD zn 0 := ⟨_, rfl⟩
     rw [← hx] at q7 hxk
     have q8 := hTV.s m (by rw [hls]; omega)
     have hgs8 := hTV.ls
     have hfs := hTV.fs
     have hK9 := hB.k.setSl (j := j) (k := m) (by rw [hok.lt]; exact hj25) HU1.out (by rw [hls]; omega) x
     have hne : w2.heap.size ≠ gs := by have := (HLT.out.2.2 (2 * j) gs (by omega) (by rw [HU1.out]; rfl)).2; omega
     have hlow : w1.heap.size ≤ gs := (HLT.out.2.2 (2 * j) gs (by omega) (by rw [HU1.out]; rfl)).1
     have HB9 : Hid (BInv w1.heap.size w3.heap.size w2.heap.size w5 (.slice (some ⟨g, 0, none⟩) 25 tc) (.slice pa2 3 pc2) us { K with ts := K.ts.set j { K.ts.getD j tile0 with sl := (K.ts.getD j tile0).sl.set m x } } (w8.setCell ⟨gs, m, none⟩ (.int .i64 x))) := Lib.hid ⟨hB.bk.setOther (p := ⟨gs, m, none⟩) hne _, hK9, hB.m.setCell' hlow hgs3 _, hok.put hj25 (htok.sl' m hxk)⟩
     have HT9 := Lib.hid (BT.setOther (p := ⟨gs, m, none⟩) (by show w6.heap.size ≠ gs; omega) (.int .i64 x))
     obtain ⟨sv, hsv⟩ : ∃ s, s = (K.ts.getD j tile0).sl.getD m 0 := ⟨_, rfl⟩
     rw [← hsv] at q8
     clear hc6 hzz hz hvn hx hxk HT8 hK9 hsv hTV eu1 eu2 e9 hIA qq hcells o1 hok htok hls hld BT hB ev egc hne hlow
     go_wp2_with fail
     (refine wp_regionT ((fun w' => (∀ b o, b < w8.heap.size → w'.cell? ⟨b, o, none⟩ = w8.cell? ⟨b, o, none⟩) ∧ Ext w8 w')) 15 (by kernel_rfl) ?_; have hS0 := held_mk (Ext.drew w8))
     ((refine tkT 0 (v := ?_) rfl (by kernel_rfl) (by kernel_rfl) ?_ (by assumption) ?_; rotate_left; (intro wS hSw; (try dsimp only at hSw); go_simp; (try with_reducible rfl)); (try simp only [Act.put, lA, lB, lC])); (refine tkT 1 (v := ?_) rfl (by kernel_rfl) (by kernel_rfl) ?_ (by assumption) ?_; rotate_left; (intro wS hSw; (try dsimp only at hSw); go_simp; (try with_reducible rfl)); (try simp only [Act.put, lA, lB, lC])); (refine tkT 2 (v := ?_) rfl (by kernel_rfl) (by kernel_rfl) ?_ (by assumption) ?_; rotate_left; (intro wS hSw; (try dsimp only at hSw); go_simp; (try with_reducible rfl)); (try simp only [Act.put, lA, lB, lC])); (refine tkT 3 (v := ?_) rfl (by kernel_rfl) (by kernel_rfl) ?_ (by assumption) ?_; rotate_left; (intro wS hSw; (try dsimp only at hSw); go_simp; (try with_reducible rfl)); (try simp only [Act.put, lA, lB, lC])); (refine tkT 4 (v := ?_) rfl (by kernel_rfl) (by kernel_rfl) ?_ (by assumption) ?_; rotate_left; (intro wS hSw; (try dsimp only at hSw); go_simp; (try with_reducible rfl)); (try simp only [Act.put, lA, lB, lC])); (refine tkT 5 (v := ?_) rfl (by kernel_rfl) (by kernel_rfl) ?_ (by assumption) ?_; rotate_left; (intro wS hSw; (try dsimp only at hSw); go_simp; (try with_reducible rfl)); (try simp only [Act.put, lA, lB, lC])); (refine tkT 6 (v := ?_) rfl (by kernel_rfl) (by kernel_rfl) ?_ (by assumption) ?_; rotate_left; (intro wS hSw; (try dsimp only at hSw); go_simp; (try with_reducible rfl)); (try simp only [Act.put, lA, lB, lC])); (refine tkT 7 (v := ?_) rfl (by kernel_rfl) (by kernel_rfl) ?_ (by assumption) ?_; rotate_left; (intro wS hSw; (try dsimp only at hSw); go_simp; (try with_reducible rfl)); (try simp only [Act.put, lA, lB, lC])); (refine tkT 8 (v := ?_) rfl (by kernel_rfl) (by kernel_rfl) ?_ (by assumption) ?_; rotate_left; (intro wS hSw; (try dsimp only at hSw); go_simp; (try with_reducible rfl)); (try simp only [Act.put, lA, lB, lC])); (refine tkT 9 (v := ?_) rfl (by kernel_rfl) (by kernel_rfl) ?_ (by assumption) ?_; rotate_left; (intro wS hSw; (try dsimp only at hSw); go_simp; (try with_reducible rfl)); (try simp only [Act.put, lA, lB, lC])); (refine tkT 10 (v := ?_) rfl (by kernel_rfl) (by kernel_rfl) ?_ (by assumption) ?_; rotate_left; (intro wS hSw; (try dsimp only at hSw); go_simp; (try with_reducible rfl)); (try simp only [Act.put, lA, lB, lC])); (refine tkT 11 (v := ?_) rfl (by kernel_rfl) (by kernel_rfl) ?_ (by assumption) ?_; rotate_left; (intro wS hSw; (try dsimp only at hSw); go_simp; (try with_reducible rfl)); (try simp only [Act.put, lA, lB, lC])); (refine tkT 12 (v := ?_) rfl (by kernel_rfl) (by kernel_rfl) ?_ (by assumption) ?_; rotate_left; (intro wS hSw; (try dsimp only at hSw); go_simp; (try with_reducible rfl)); (try simp only [Act.put, lA, lB, lC])); (refine tkT 13 (v := ?_) rfl (by kernel_rfl) (by kernel_rfl) ?_ (by assumption) ?_; rotate_left; (intro wS hSw; (try dsimp only at hSw); go_simp; (try with_reducible rfl)); (try simp only [Act.put, lA, lB, lC])); (refine tkT 14 (v := ?_) rfl (by kernel_rfl) (by kernel_rfl) ?_ (by assumption) ?_; rotate_left; (intro wS hSw; (try dsimp only at hSw); go_simp; (try with_reducible rfl)); (try simp only [Act.put, lA, lB, lC])))
     (refine wpAnyT_last 15 (by kernel_rfl) rfl (by decide) (by kernel_rfl) (fun K hK => ?_))
     go_simp
     (refine hK _ _ ?_; clear hK K; (try simp only [Act.put, lA, lB, lC]))
     go_wp2_with fail
     go_roundw
     case rel => exact ⟨m + 1, _, by omega, by go_num, HT9.out.drew, HB9.out.ext (Ext.drew _)⟩
     case measure => simp [intOf]; omega
    ·have hlt2i : ¬ ((m : Int) < (xi.length : Int)) := by omega
     obtain ⟨b6, o6, e6, hb6, hc6⟩ := (HP.out.ext E18).get (by rw [HPL.out]; omega)
     obtain ⟨rfl, rfl⟩ : b5 = b6 ∧ o5 = o6 := by cases e6; exact ⟨rfl, rfl⟩
     have q6 := hc6 i (by rw [HPL.out]; exact hlt)
     rw [← HXX.out] at q6
     have x0 := hTV.c0
     have x1 := hTV.c1
     have x2 := hTV.c2
     have x3 := hTV.c3
     have hlg := hTV.lg
     have hfg := hTV.fg
     have z0 := hB.bk.cell (i := 0) rfl
     have zl := hB.bk.lt
     have hK9 := hB.k.setAll (j := j) (by rw [hok.lt]; exact hj25) rfl xt xr HU1.out HU2.out
     have hne : w2.heap.size ≠ g := by have := (HLT.out.1 g rfl).2; omega
     have HB9 : Hid (BInv w1.heap.size w3.heap.size w2.heap.size w5 (.slice (some ⟨g, 0, none⟩) 25 tc) (.slice pa2 3 pc2) us { K with ts := K.ts.set j { K.ts.getD j tile0 with tb := xt, rg := xr } } ((((w8.setCell ⟨g, j * 4, none⟩ (.int .i64 xt)).setCell ⟨g, j * 4 + 1, none⟩ (.slice (some ⟨gs, 0, none⟩) 3 csl)).setCell ⟨g, j * 4 + 2, none⟩ (.bool xr)).setCell ⟨g, j * 4 + 3, none⟩ (.slice (some ⟨gd, 0, none⟩) 8 cd))) := Lib.hid ⟨(((hB.bk.setOther (p := ⟨g, j * 4, none⟩) hne _).setOther (p := ⟨g, j * 4 + 1, none⟩) hne _).setOther (p := ⟨g, j * 4 + 2, none⟩) hne _).setOther (p := ⟨g, j * 4 + 3, none⟩) hne _, hK9, (((hB.m.setCell' (p := ⟨g, j * 4, none⟩) hbg hgw3 _).setCell' (p := ⟨g, j * 4 + 1, none⟩) hbg hgw3 _).setCell' (p := ⟨g, j * 4 + 2, none⟩) hbg hgw3 _).setCell' (p := ⟨g, j * 4 + 3, none⟩) hbg hgw3 _, hok.put hj25 ((htok.tb' tb0 tb1).rg' xr)⟩
     obtain ⟨X1, hX1⟩ : ∃ X, X = K.ts.getD j tile0 := ⟨_, rfl⟩
     rw [← hX1] at x0 x1 x2 x3
     clear hc6 e6 hK9 hX1 hTV eu1 eu2 e9 hIA qq hcells o1 hok htok hls hld BT hB ev egc hne
     go_wp2_with fail
     (refine wp_regionT ((fun w' => (∀ b o, b < w8.heap.size → w'.cell? ⟨b, o, none⟩ = w8.cell? ⟨b, o, none⟩) ∧ Ext w8 w')) 8 (by kernel_rfl) ?_; have hS0 := held_mk (Ext.drew w8))
     ((refine tkT 0 (v := ?_) rfl (by kernel_rfl) (by kernel_rfl) ?_ (by assumption) ?_; rotate_left; (intro wS hSw; (try dsimp only at hSw); go_simp; (try with_reducible rfl)); (try simp only [Act.put, lA, lB, lC])); (refine tkT 1 (v := ?_) rfl (by kernel_rfl) (by kernel_rfl) ?_ (by assumption) ?_; rotate_left; (intro wS hSw; (try dsimp only at hSw); go_simp; (try with_reducible rfl)); (try simp only [Act.put, lA, lB, lC])); (refine tkT 2 (v := ?_) rfl (by kernel_rfl) (by kernel_rfl) ?_ (by assumption) ?_; rotate_left; (intro wS hSw; (try dsimp only at hSw); go_simp; (try with_reducible rfl)); (try simp only [Act.put, lA, lB, lC])); (refine tkT 3 (v := ?_) rfl (by kernel_rfl) (by kernel_rfl) ?_ (by assumption) ?_; rotate_left; (intro wS hSw; (try dsimp only at hSw); go_simp; (try with_reducible rfl)); (try simp only [Act.put, lA, lB, lC])); (refine tkT 4 (v := ?_) rfl (by kernel_rfl) (by kernel_rfl) ?_ (by assumption) ?_; rotate_left; (intro wS hSw; (try dsimp only at hSw); go_simp; (try with_reducible rfl)); (try simp only [Act.put, lA, lB, lC])); (refine tkT 5 (v := ?_) rfl (by kernel_rfl) (by kernel_rfl) ?_ (by assumption) ?_; rotate_left; (intro wS hSw; (try dsimp only at hSw); go_simp; (try with_reducible rfl)); (try simp only [Act.put, lA, lB, lC])); (refine tkT 6 (v := ?_) rfl (by kernel_rfl) (by kernel_rfl) ?_ (by assumption) ?_; rotate_left; (intro wS hSw; (try dsimp only at hSw); go_simp; (try with_reducible rfl)); (try simp only [Act.put, lA, lB, lC])); (refine tkT 7 (v := ?_) rfl (by kernel_rfl) (by kernel_rfl) ?_ (by assumption) ?_; rotate_left; (intro wS hSw; (try dsimp only at hSw); go_simp; (try with_reducible rfl)); (try simp only [Act.put, lA, lB, lC])))
     (refine wpAnyT_last 8 (by kernel_rfl) rfl (by decide) (by kernel_rfl) (fun K hK => ?_))
     go_simp
     (refine hK _ _ ?_; clear hK K; (try simp only [Act.put, lA, lB, lC]))
     go_wp2_with fail
     go_roundw
     case rel => exact ⟨i + 1, _, by omega, by go_num, HB9.out.ext (Ext.drew _)⟩
     case measure => simp [intOf]; omega
  ·have hlti : ¬ ((i : Int) < (cs.length : Int)) := by omega
   go_wp2_with fail
   go_loopw [14] (fun u14 wr => ∃ (r : Nat) (K : Conf), r ≤ rs.length ∧ u14 = .int .i64 r ∧ BInv w1.heap.size w3.heap.size w2.heap.size w5 (.slice ta 25 tc) (.slice pa2 3 pc2) us K wr) (fun v _ => rs.length - (intOf v).toNat)
   case atStart => exact ⟨0, K, Nat.zero_le _, rfl, hB⟩
   case round =>
    clear hB E16
    obtain ⟨r, K, hr, rfl, hB⟩ := hrel
    obtain ⟨w7, rfl⟩ : ∃ x : World, x = wr := ⟨_, rfl⟩
    by_cases hlt2 : r < rs.length
    ·have hlt2i : (r : Int) < (rs.length : Int) := by omega
     have hro := HRO.out _ (getN_mem (d := route0) hlt2)
     obtain ⟨re, hre⟩ : ∃ x, x = rs.getD r route0 := ⟨_, rfl⟩
     rw [← hre] at hro
     obtain ⟨xn, xt, xh⟩ := re
     obtain ⟨n0, n1, t0, t1, s, hTr, hSD⟩ := hro
     dsimp only at n0 n1 t0 t1 hTr hSD
     obtain ⟨tr, rfl⟩ : ∃ tr : Nat, xt = (tr : Int) := ⟨xt.toNat, by omega⟩
     have htr8 : tr < 8 := by omega
     have htri : (tr : Int) < 8 := by omega
     have hxl := hTr.len
     have HRE := Lib.hid hre
     have HTR := Lib.hid hTr
     have HSD := Lib.hid hSD
     clear hre hTr hSD n1 t0 t1
     go_wp2_with fail
     go_loopw [15] (fun u15 wr => ∃ (h : Nat) (K : Conf), h ≤ xh.length ∧ u15 = .int .i64 h ∧ BInv w1.heap.size w3.heap.size w2.heap.size w5 (.slice ta 25 tc) (.slice pa2 3 pc2) us K wr) (fun v _ => xh.length - (intOf v).toNat)
     case atStart => exact ⟨0, K, Nat.zero_le _, rfl, hB⟩
     case round =>
      clear hB
      obtain ⟨h, K, hh, rfl, hB⟩ := hrel
      obtain ⟨w8, rfl⟩ : ∃ x : World, x = wr := ⟨_, rfl⟩
      have E18 := hB.old HE15.out (Nat.le_refl _)
      obtain ⟨gr, rfl, hgr, _, hcells⟩ := Nst.getN goodRoute (HR.out.ext goodRoute E18) (by omega)
      obtain ⟨ds, F1, ⟨v, rfl, o1, rfl⟩, qq, _⟩ := hcells r route0 hlt2
      rw [← HRE.out] at o1 qq
      dsimp only at o1 qq
      have r0 := qq 0 _ (by omega) rfl
      have r1 := qq 1 _ (by omega) rfl
      rw [Nat.add_zero] at r0
      obtain ⟨ha, hcp, rfl, hHA, _, _⟩ := o1.sl
      have r2 := qq 2 _ (by omega) rfl
      clear qq hcells o1
      by_cases hlt3 : h < xh.length
      ·have hlt3i : (h : Int) < (xh.length : Int) := by omega
       obtain ⟨b5, o5, rfl, hb5, hc5, hd5⟩ := hHA.get (by omega)
       have q5 := hc5 h hlt3
       have q6 := hd5 h hlt3
       have hmem : xh.getD h (0, 0) ∈ xh := getN_mem hlt3
       have hx := HTR.out.inF (xh.getD h (0, 0)).1 (List.mem_map.2 ⟨_, hmem, rfl⟩)
       have hsrc : (xh.getD h (0, 0)).2 < 0 → xn ≤ c.inputs → (xh.getD h (0, 0)).1 = (xn - 1) * 5 := by
        intro hf hn
        obtain ⟨rr, e1, e2⟩ := HTR.out.hd
        rw [e1] at hmem
        rcases List.mem_cons.1 hmem with e | e
        ·rw [← e1] at e; rw [e]; exact HSD.out hn
        ·rw [← e1] at e
         have := e2 _ e; omega
       obtain ⟨x, hxx⟩ : ∃ x, x = (xh.getD h (0, 0)).1 := ⟨_, rfl⟩
       obtain ⟨f, hff⟩ : ∃ x, x = (xh.getD h (0, 0)).2 := ⟨_, rfl⟩
       rw [← hxx] at q5 hx hsrc
       rw [← hff] at q6 hsrc
       obtain ⟨j, rfl⟩ : ∃ j : Nat, x = (j : Int) := ⟨x.toNat, by omega⟩
       have hj25 : j < 25 := by omega
       have hji : (j : Int) < 25 := by omega
       have hsrc2 : f < 0 → xn ≤ c.inputs → j % 5 = 0 ∧ j / 5 < 4 := fun h1 h2 => by have := hsrc h1 h2; omega
       have hok := hB.ok
       have htok := hok.tile hj25
       obtain ⟨g, cg, gs, csl, gd, cd, ev, hbg, hbs, hbd, eu1, eu2, hTV⟩ := hB.k.tile (j := j) (by rw [hok.lt]; exact hj25) (by rw [htok.ls]; omega) (by rw [htok.ld]; omega)
       obtain rfl := (Value.slice.inj ev).1
       have hld := htok.ld
       rw [hld] at eu2
       have x3 := hTV.c3
       rw [hld] at x3
       have hlg := hTV.lg
       have hgd8 := hTV.ld
       have q8 := hTV.d tr (by rw [hld]; exact htr8)
       have hfd := hTV.fd
       obtain ⟨sv, hsv⟩ : ∃ s, s = (K.ts.getD j tile0).dr.getD tr 0 := ⟨_, rfl⟩
       rw [← hsv] at q8
       have z0 := hB.bk.cell (i := 0) rfl
       have zl := hB.bk.lt
       have hne : w2.heap.size ≠ gd := by have := (HLT.out.2.2 (2 * j + 1) gd (by omega) (by rw [eu2]; rfl)).2; omega
       have hgd3 : gd < w3.heap.size := by have := (HLT.out.2.2 (2 * j + 1) gd (by omega) (by rw [eu2]; rfl)).2; omega
       have hK9 := fun (W : World) (e : Ext w8 W) d => (hB.k.ext e).setDr (j := j) (k := tr) (by rw [hok.lt]; exact hj25) eu2 (by rw [hld]; exact htr8) d
       have HB9 : Hid (∀ W d, Ext w8 W → drvB j d = true → BInv w1.heap.size w3.heap.size w2.heap.size w5 (.slice (some ⟨g, 0, none⟩) 25 tc) (.slice pa2 3 pc2) us { K with ts := K.ts.set j { K.ts.getD j tile0 with dr := (K.ts.getD j tile0).dr.set tr d } } (W.setCell ⟨gd, tr, none⟩ (.int .i64 d))) := Lib.hid (fun W d e hd => ⟨(hB.bk.ext e).setOther (p := ⟨gd, tr, none⟩) hne _, hK9 W e d, (hB.m.ext2 e).setCell' hbd hgd3 _, hok.put hj25 (htok.dr' tr hd)⟩)
       have y8 := y.ext E18
       have HSC := Lib.hid hsrc2
       clear hc5 hd5 hmem hx hsrc hxx hff hsv hTV eu1 eu2 ev hHA hok htok hld hB hne hgd3 hK9 hsrc2 hbg hbs hbd
       go_upto_region 21 with fail
       have EA : Ext w8 (w8.alloc (.cells #[.int .i64 (j : Int), .int .i64 f] 189)) := (Ext.refl w8).alloc _
       have BH := Blk.at w8 [.int .i64 (j : Int), .int .i64 f] 189 rfl
       obtain ⟨w9, hw9⟩ : ∃ z, z = w8.alloc (.cells #[.int .i64 (j : Int), .int .i64 f] 189) := ⟨_, rfl⟩
       rw [← hw9] at EA BH
       rw [← hw9]
       have sA := EA.size
       have y9 := y8.ext EA
       replace z0 := ((ecell EA).1 _ _ zl).trans z0
       replace x3 := ((ecell EA).1 _ _ hlg).trans x3
       replace q8 := ((ecell EA).1 _ _ hgd8).trans q8
       replace r0 := ((ecell EA).1 _ _ hgr).trans r0
       replace r1 := ((ecell EA).1 _ _ hgr).trans r1
       replace r2 := ((ecell EA).1 _ _ hgr).trans r2
       replace zl := Nat.lt_of_lt_of_le zl sA
       replace hlg := Nat.lt_of_lt_of_le hlg sA
       replace hgr := Nat.lt_of_lt_of_le hgr sA
       have hgd9 := Nat.lt_of_lt_of_le hgd8 sA
       have h0 := BH.cell (i := 0) rfl
       have h1 := BH.cell (i := 1) rfl
       have hbl := BH.lt
       have HFD := Lib.hid hfd
       clear hw9 y8 q5 q6 hb5 BH hfd
       (obtain ⟨la, a0, a1, a2, a3⟩ := (id y9))
       (refine wp_regionT ((fun w' => (∀ b o, b < w9.heap.size → w'.cell? ⟨b, o, none⟩ = w9.cell? ⟨b, o, none⟩) ∧ Ext w9 w')) 21 (by kernel_rfl) ?_; have hS0 := held_mk (Ext.drew w9))
       ((refine tkT 0 (v := ?_) rfl (by kernel_rfl) (by kernel_rfl) ?_ (by assumption) ?_; rotate_left; (intro wS hSw; (try dsimp only at hSw); go_simp; (try with_reducible rfl)); (try simp only [Act.put, lA, lB, lC])); (refine tkT 1 (v := ?_) rfl (by kernel_rfl) (by kernel_rfl) ?_ (by assumption) ?_; rotate_left; (intro wS hSw; (try dsimp only at hSw); go_simp; (try with_reducible rfl)); (try simp only [Act.put, lA, lB, lC])); (refine tkT 2 (v := ?_) rfl (by kernel_rfl) (by kernel_rfl) ?_ (by assumption) ?_; rotate_left; (intro wS hSw; (try dsimp only at hSw); go_simp; (try with_reducible rfl)); (try simp only [Act.put, lA, lB, lC])); (refine tkT 3 (v := ?_) rfl (by kernel_rfl) (by kernel_rfl) ?_ (by assumption) ?_; rotate_left; (intro wS hSw; (try dsimp only at hSw); go_simp; (try with_reducible rfl)); (try simp only [Act.put, lA, lB, lC])); (refine tkT 4 (v := ?_) rfl (by kernel_rfl) (by kernel_rfl) ?_ (by assumption) ?_; rotate_left; (intro wS hSw; (try dsimp only at hSw); go_simp; (try with_reducible rfl)); (try simp only [Act.put, lA, lB, lC])); (refine tkT 5 (v := ?_) rfl (by kernel_rfl) (by kernel_rfl) ?_ (by assumption) ?_; rotate_left; (intro wS hSw; (try dsimp only at hSw); go_simp; (try with_reducible rfl)); (try simp only [Act.put, lA, lB, lC])); (refine tkT 6 (v := ?_) rfl (by kernel_rfl) (by kernel_rfl) ?_ (by assumption) ?_; rotate_left; (intro wS hSw; (try dsimp only at hSw); go_simp; (try with_reducible rfl)); (try simp only [Act.put, lA, lB, lC])); (refine tkT 7 (v := ?_) rfl (by kernel_rfl) (by kernel_rfl) ?_ (by assumption) ?_; rotate_left; (intro wS hSw; (try dsimp only at hSw); go_simp; (try with_reducible rfl)); (try simp only [Act.put, lA, lB, lC])); (refine tkT 8 (v := ?_) rfl (by kernel_rfl) (by kernel_rfl) ?_ (by assumption) ?_; rotate_left; (intro wS hSw; (try dsimp only at hSw); go_simp; (try with_reducible rfl)); (try simp only [Act.put, lA, lB, lC])); (refine tkT 9 (v := ?_) rfl (by kernel_rfl) (by kernel_rfl) ?_ (by assumption) ?_; rotate_left; (intro wS hSw; (try dsimp only at hSw); go_simp; (try with_reducible rfl)); (try simp only [Act.put, lA, lB, lC])); (refine tkT 10 (v := ?_) rfl (by kernel_rfl) (by kernel_rfl) ?_ (by assumption) ?_; rotate_left; (intro wS hSw; (try dsimp only at hSw); go_simp; (try with_reducible rfl)); (try simp only [Act.put, lA, lB, lC])); (refine tkT 11 (v := ?_) rfl (by kernel_rfl) (by kernel_rfl) ?_ (by assumption) ?_; rotate_left; (intro wS hSw; (try dsimp only at hSw); go_simp; (try with_reducible rfl)); (try simp only [Act.put, lA, lB, lC])); (refine tkT 12 (v := ?_) rfl (by kernel_rfl) (by kernel_rfl) ?_ (by assumption) ?_; rotate_left; (intro wS hSw; (try dsimp only at hSw); go_simp; (try with_reducible rfl)); (try simp only [Act.put, lA, lB, lC])); (refine tkT 13 (v := ?_) rfl (by kernel_rfl) (by kernel_rfl) ?_ (by assumption) ?_; rotate_left; (intro wS hSw; (try dsimp only at hSw); go_simp; (try with_reducible rfl)); (try simp only [Act.put, lA, lB, lC])); (refine tkT 14 (v := ?_) rfl (by kernel_rfl) (by kernel_rfl) ?_ (by assumption) ?_; rotate_left; (intro wS hSw; (try dsimp only at hSw); go_simp; (try with_reducible rfl)); (try simp only [Act.put, lA, lB, lC])); (refine tkT 15 (v := ?_) rfl (by kernel_rfl) (by kernel_rfl) ?_ (by assumption) ?_; rotate_left; (intro wS hSw; (try dsimp only at hSw); go_simp; (try with_reducible rfl)); (try simp only [Act.put, lA, lB, lC])); (refine tkT 16 (v := ?_) rfl (by kernel_rfl) (by kernel_rfl) ?_ (by assumption) ?_; rotate_left; (intro wS hSw; (try dsimp only at hSw); go_simp; (try with_reducible rfl)); (try simp only [Act.put, lA, lB, lC])); (refine tkT 17 (v := ?_) rfl (by kernel_rfl) (by kernel_rfl) ?_ (by assumption) ?_; rotate_left; (intro wS hSw; (try dsimp only at hSw); go_simp; (try with_reducible rfl)); (try simp only [Act.put, lA, lB, lC])); (refine tkT 18 (v := ?_) rfl (by kernel_rfl) (by kernel_rfl) ?_ (by assumption) ?_; rotate_left; (intro wS hSw; (try dsimp only at hSw); go_simp; (try with_reducible rfl)); (try simp only [Act.put, lA, lB, lC])))
       (refine wpAnyT_do 19 (by kernel_rfl) rfl (fun K hK => ?_))
       go_simp
       refine (l9Source_c c p xn j f _ hj25 HSC.out).mono ?_
       rintro e w10 ⟨d, rfl, hd, hE10⟩
       have hX10 : Ext w9 w10 := (Ext.drew w9).trans hE10
       have hS1 := held_mk hX10
       (refine hK _ _ hS1 ?_; clear hK K; (try simp only [Act.put, lA, lB, lC]))
       ((refine tkT 20 (v := ?_) rfl (by kernel_rfl) (by kernel_rfl) ?_ (by assumption) ?_; rotate_left; (intro wS hSw; (try dsimp only at hSw); go_simp; (try with_reducible rfl)); (try simp only [Act.put, lA, lB, lC])))
       have hfd10 : ∀ i, w10.frozen? ⟨gd, i, none⟩ = false := fun i => ((ecell (EA.trans hX10)).2 gd i hgd8).trans (HFD.out i)
       have q10 : w10.cell? ⟨gd, tr, none⟩ = some (.int .i64 sv) := ((ecell hX10).1 gd _ hgd9).trans q8
       (refine wpAnyT_last 21 (by kernel_rfl) rfl (by decide) (by kernel_rfl) (fun K hK => ?_))
       go_simp
       (refine hK _ _ ?_; clear hK K; (try simp only [Act.put, lA, lB, lC]))
       have HB10 := Lib.hid (HB9.out w10 d (EA.trans hX10) hd)
       clear HB9 hd
       go_wp2_with fail
       go_roundw
       case rel => first | exact ⟨h + 1, _, by omega, by go_num, HB10.out⟩ | exact ⟨h + 1, _, by omega, by go_num, HB10.out.ext (Ext.drew _)⟩
       case measure => simp [intOf]; omega
      ·have hlt3i : ¬ ((h : Int) < (xh.length : Int)) := by omega
       go_wp2_with fail
       go_roundw
       case rel => exact ⟨r + 1, K, by omega, by go_num, hB⟩
       case measure => simp [intOf]; omega
    ·have hlt2i : ¬ ((r : Int) < (rs.length : Int)) := by omega
     go_wp2_with fail
     go_loopw [17] (fun u17 wr => ∃ (o : Nat) (K : Conf), o ≤ c.outs.length ∧ u17 = .int .i64 o ∧ BInv w1.heap.size w3.heap.size w2.heap.size w5 (.slice ta 25 tc) (.slice pa2 3 pc2) us K wr) (fun v _ => c.outs.length - (intOf v).toNat)
     case atStart => exact ⟨0, K, Nat.zero_le _, rfl, hB⟩
     case round =>
      clear hB
      obtain ⟨o, K, ho, rfl, hB⟩ := hrel
      obtain ⟨w8, rfl⟩ : ∃ x : World, x = wr := ⟨_, rfl⟩
      have E18 := hB.old HE15.out (Nat.le_refl _)
      have y8 := y.ext E18
      have z0 := hB.bk.cell (i := 0) rfl
      have z1 := hB.bk.cell (i := 1) rfl
      have zl := hB.bk.lt
      (obtain ⟨la, a0, a1, a2, a3⟩ := (id y8))
      by_cases hlt3 : o < c.outs.length
      ·have hlt3i : (o : Int) < (c.outs.length : Int) := by omega
       have ho3 : (o : Int) < 3 := by omega
       obtain ⟨b5, o5, eao, hb5, hc5⟩ := (HC.out.ou.ext E18).get (by omega)
       have q5 := hc5 o hlt3
       obtain ⟨i1, i2⟩ := HXO.out o hlt3
       have hvn := HVN.out
       rw [hvn] at i2
       obtain ⟨l, hll⟩ : ∃ l, l = c.outs.getD o 0 := ⟨_, rfl⟩
       rw [← hll] at q5 i1 i2
       have hta : IntKind.i64.wrap (l.tdiv 2) = l / 2 := by rw [Int.tdiv_eq_ediv_of_nonneg i1]; exact IntWalk.i64_in _ (by omega)
       have htb : l.tmod 2 = l % 2 := Int.tmod_eq_emod_of_nonneg i1
       obtain ⟨zn, hzn⟩ : ∃ n : Nat, l / 2 = (n : Int) := ⟨(l / 2).toNat, by omega⟩
       have hzn2 : zn < nv := by omega
       have hzi : (zn : Int) < (nv : Int) := by omega
       rw [hzn] at hta
       obtain ⟨lm, hlm⟩ : ∃ m, m = l % 2 := ⟨_, rfl⟩
       rw [← hlm] at htb
       have HT8 := ownsRow_mid HT.out hB.m (fun k hk => .inr (own_lo HT.out k hk).1)
       have q7 := own_cellI HT8 (i := zn) (by rw [HTL.out]; exact hzn2)
       have hgt8 := (own_lo HT8 gt rfl).2
       have hxk := HTK.out _ (getN_mem (d := (0 : Int)) (show zn < trk.length by rw [HTL.out]; exact hzn2))
       obtain ⟨x, hx⟩ : ∃ x, x = trk.getD zn 0 := ⟨_, rfl⟩
       rw [← hx] at q7 hxk
       have hok := hB.ok
       obtain ⟨gp, cp, ev, hbp, hgp, p0, p1, hfp⟩ := hB.k.pad (o := o) (by rw [hok.lp]; omega)
       obtain rfl := (Value.slice.inj ev).1
       obtain ⟨pd, hpd⟩ : ∃ x, x = K.ps.getD o (0, false) := ⟨_, rfl⟩
       rw [← hpd] at p0 p1
       have hne : w2.heap.size ≠ gp := by have := (HLT.out.2.1 gp rfl).2; omega
       have hgp3 : gp < w3.heap.size := by have := (HLT.out.2.1 gp rfl).2; omega
       have HB9 : Hid (BInv w1.heap.size w3.heap.size w2.heap.size w5 (.slice ta 25 tc) (.slice (some ⟨gp, 0, none⟩) 3 pc2) us { K with ps := K.ps.set o (x, lm == 1) } ((w8.setCell ⟨gp, o * 2, none⟩ (.int .i64 x)).setCell ⟨gp, o * 2 + 1, none⟩ (.bool (lm == 1)))) := Lib.hid ⟨(hB.bk.setOther (p := ⟨gp, o * 2, none⟩) hne _).setOther (p := ⟨gp, o * 2 + 1, none⟩) hne _, hB.k.setPad (by rw [hok.lp]; omega) rfl x (lm == 1), (hB.m.setCell' (p := ⟨gp, o * 2, none⟩) hbp hgp3 _).setCell' (p := ⟨gp, o * 2 + 1, none⟩) hbp hgp3 _, hok.pad (by omega) hxk _⟩
       rw [eao] at a3
       clear hc5 hvn hll hzn hlm HT8 hx hxk hpd hne hgp3 hok hB ev eao hbp
       go_wp2_with fail
       (refine wp_regionT ((fun w' => (∀ b o, b < w8.heap.size → w'.cell? ⟨b, o, none⟩ = w8.cell? ⟨b, o, none⟩) ∧ Ext w8 w')) 21 (by kernel_rfl) ?_; have hS0 := held_mk (Ext.drew w8))
       ((refine tkT 0 (v := ?_) rfl (by kernel_rfl) (by kernel_rfl) ?_ (by assumption) ?_; rotate_left; (intro wS hSw; (try dsimp only at hSw); go_simp; (try with_reducible rfl)); (try simp only [Act.put, lA, lB, lC])); (refine tkT 1 (v := ?_) rfl (by kernel_rfl) (by kernel_rfl) ?_ (by assumption) ?_; rotate_left; (intro wS hSw; (try dsimp only at hSw); go_simp; (try with_reducible rfl)); (try simp only [Act.put, lA, lB, lC])); (refine tkT 2 (v := ?_) rfl (by kernel_rfl) (by kernel_rfl) ?_ (by assumption) ?_; rotate_left; (intro wS hSw; (try dsimp only at hSw); go_simp; (try with_reducible rfl)); (try simp only [Act.put, lA, lB, lC])); (refine tkT 3 (v := ?_) rfl (by kernel_rfl) (by kernel_rfl) ?_ (by assumption) ?_; rotate_left; (intro wS hSw; (try dsimp only at hSw); go_simp; (try with_reducible rfl)); (try simp only [Act.put, lA, lB, lC])); (refine tkT 4 (v := ?_) rfl (by kernel_rfl) (by kernel_rfl) ?_ (by assumption) ?_; rotate_left; (intro wS hSw; (try dsimp only at hSw); go_simp; (try with_reducible rfl)); (try simp only [Act.put, lA, lB, lC])); (refine tkT 5 (v := ?_) rfl (by kernel_rfl) (by kernel_rfl) ?_ (by assumption) ?_; rotate_left; (intro wS hSw; (try dsimp only at hSw); go_simp; (try with_reducible rfl)); (try simp only [Act.put, lA, lB, lC])); (refine tkT 6 (v := ?_) rfl (by kernel_rfl) (by kernel_rfl) ?_ (by assumption) ?_; rotate_left; (intro wS hSw; (try dsimp only at hSw); go_simp; (try with_reducible rfl)); (try simp only [Act.put, lA, lB, lC])); (refine tkT 7 (v := ?_) rfl (by kernel_rfl) (by kernel_rfl) ?_ (by assumption) ?_; rotate_left; (intro wS hSw; (try dsimp only at hSw); go_simp; (try with_reducible rfl)); (try simp only [Act.put, lA, lB, lC])); (refine tkT 8 (v := ?_) rfl (by kernel_rfl) (by kernel_rfl) ?_ (by assumption) ?_; rotate_left; (intro wS hSw; (try dsimp only at hSw); go_simp; (try with_reducible rfl)); (try simp only [Act.put, lA, lB, lC])); (refine tkT 9 (v := ?_) rfl (by kernel_rfl) (by kernel_rfl) ?_ (by assumption) ?_; rotate_left; (intro wS hSw; (try dsimp only at hSw); go_simp; (try with_reducible rfl)); (try simp only [Act.put, lA, lB, lC])); (refine tkT 10 (v := ?_) rfl (by kernel_rfl) (by kernel_rfl) ?_ (by assumption) ?_; rotate_left; (intro wS hSw; (try dsimp only at hSw); go_simp; (try with_reducible rfl)); (try simp only [Act.put, lA, lB, lC])); (refine tkT 11 (v := ?_) rfl (by kernel_rfl) (by kernel_rfl) ?_ (by assumption) ?_; rotate_left; (intro wS hSw; (try dsimp only at hSw); go_simp; (try with_reducible rfl)); (try simp only [Act.put, lA, lB, lC])); (refine tkT 12 (v := ?_) rfl (by kernel_rfl) (by kernel_rfl) ?_ (by assumption) ?_; rotate_left; (intro wS hSw; (try dsimp only at hSw); go_simp; (try with_reducible rfl)); (try simp only [Act.put, lA, lB, lC])); (refine tkT 13 (v := ?_) rfl (by kernel_rfl) (by kernel_rfl) ?_ (by assumption) ?_; rotate_left; (intro wS hSw; (try dsimp only at hSw); go_simp; (try with_reducible rfl)); (try simp only [Act.put, lA, lB, lC])); (refine tkT 14 (v := ?_) rfl (by kernel_rfl) (by kernel_rfl) ?_ (by assumption) ?_; rotate_left; (intro wS hSw; (try dsimp only at hSw); go_simp; (try with_reducible rfl)); (try simp only [Act.put, lA, lB, lC])); (refine tkT 15 (v := ?_) rfl (by kernel_rfl) (by kernel_rfl) ?_ (by assumption) ?_; rotate_left; (intro wS hSw; (try dsimp only at hSw); go_simp; (try with_reducible rfl)); (try simp only [Act.put, lA, lB, lC])); (refine tkT 16 (v := ?_) rfl (by kernel_rfl) (by kernel_rfl) ?_ (by assumption) ?_; rotate_left; (intro wS hSw; (try dsimp only at hSw); go_simp; (try with_reducible rfl)); (try simp only [Act.put, lA, lB, lC])); (refine tkT 17 (v := ?_) rfl (by kernel_rfl) (by kernel_rfl) ?_ (by assumption) ?_; rotate_left; (intro wS hSw; (try dsimp only at hSw); go_simp; (try with_reducible rfl)); (try simp only [Act.put, lA, lB, lC])); (refine tkT 18 (v := ?_) rfl (by kernel_rfl) (by kernel_rfl) ?_ (by assumption) ?_; rotate_left; (intro wS hSw; (try dsimp only at hSw); go_simp; (try with_reducible rfl)); (try simp only [Act.put, lA, lB, lC])); (refine tkT 19 (v := ?_) rfl (by kernel_rfl) (by kernel_rfl) ?_ (by assumption) ?_; rotate_left; (intro wS hSw; (try dsimp only at hSw); go_simp; (try with_reducible rfl)); (try simp only [Act.put, lA, lB, lC])); (refine tkT 20 (v := ?_) rfl (by kernel_rfl) (by kernel_rfl) ?_ (by assumption) ?_; rotate_left; (intro wS hSw; (try dsimp only at hSw); go_simp; (try with_reducible rfl)); (try simp only [Act.put, lA, lB, lC])))
       (refine wpAnyT_last 21 (by kernel_rfl) rfl (by decide) (by kernel_rfl) (fun K hK => ?_))
       go_simp
       (refine hK _ _ ?_; clear hK K; (try simp only [Act.put, lA, lB, lC]))
       go_wp2_with fail
       go_roundw
       case rel => exact ⟨o + 1, _, by omega, by go_num, HB9.out.ext (Ext.drew _)⟩
       case measure => simp [intOf]; omega
      ·have hlt3i : ¬ ((o : Int) < (c.outs.length : Int)) := by omega
       have R8 := R0.ext E18
       have b0 := R8.cell (i := 0) rfl
       have b1 := R8.cell (i := 1) rfl
       have bf := fun i => R8.frozen i
       have bl := R8.lt
       have R9 := (R8.set 0 (.slice ta 25 tc)).set 1 (.slice pa2 3 pc2)
       have d0 := R9.cell (i := 0) rfl
       have d1 := R9.cell (i := 1) rfl
       have HK9 := Lib.hid ((hB.k.setCell (p := ⟨w.heap.size + 1, 0, none⟩) (by show w.heap.size + 1 < w1.heap.size; omega) (.slice ta 25 tc)).setCell (p := ⟨w.heap.size + 1, 1, none⟩) (by show w.heap.size + 1 < w1.heap.size; omega) (.slice pa2 3 pc2))
       have HOK := Lib.hid hB.ok
       have E19 : Ext w ((w8.setCell ⟨w.heap.size + 1, 0, none⟩ (.slice ta 25 tc)).setCell ⟨w.heap.size + 1, 1, none⟩ (.slice pa2 3 pc2)) := Ext.setNew (Ext.setNew (E0.trans E18) (by simp) _) (by simp) _
       clear hB R8 R9
       go_wp2_with fail
       refine bodyPost_ret (v := .agg #[.slice ta 25 tc, .slice pa2 3 pc2]) (by simp [results, Try.results138, go_sem, d0, d1]) rfl ?_
       exact ⟨_, _, us, K, rfl, HK9.out.le (by omega), HOK.out, E19⟩
end Go.Proofs.Ytgialedmbmfejaa

--@from BCut BBest BLut BCel BSnk
namespace Go.Proofs.Ytgialedmbmfejaa
open Go.RowKit
set_option maxRecDepth 100000
set_option linter.unusedVariables false
set_option linter.unusedSimpArgs false
def ConfigurePost (w : World) (e : Ending) (w' : World) : Prop := ∃ tv pv us K ok, e = .returned (.tuple #[.agg #[tv, pv], .bool ok]) ∧ OwnK w' w.heap.size tv pv us K ∧ (ok = true → K.Ok) ∧ Ext w w'
set_option maxHeartbeats 8000000 in
theorem Configure_c (c : Circ) (p : Where3) (w : World) (hc : CircAt w c p) :
  Calls Try.prog 116 #[.agg #[.int .i64 c.inputs, .slice p.an c.next.length p.cn, .slice p.ag c.gates.length p.cg, .slice p.ao c.outs.length p.co]] w (ConfigurePost w) := by
 have E0 : Ext w ((w.alloc (.cells #[.int .i64 c.inputs, .slice p.an c.next.length p.cn, .slice p.ag c.gates.length p.cg, .slice p.ao c.outs.length p.co] 26)).alloc (.cells #[.slice none 0 0, .slice none 0 0] 52)) := ((Ext.refl w).alloc _).alloc _
 have y := (CircBox.made w c p 26).ext ((Ext.refl _).alloc (.cells #[.slice none 0 0, .slice none 0 0] 52))
 have R0 := Blk.at (w.alloc (.cells #[.int .i64 c.inputs, .slice p.an c.next.length p.cn, .slice p.ag c.gates.length p.cg, .slice p.ao c.outs.length p.co] 26)) [.slice none 0 0, .slice none 0 0] 52 (B := w.heap.size + 1) (by simp)
 have HC := Lib.hid (hc.ext E0)
 clear hc
 go_enter Try.func116, Try.ntmps116
 go_upto_region 1 with fail
 obtain ⟨w1, hw1⟩ : ∃ x : World, x = (w.alloc (.cells #[.int .i64 c.inputs, .slice p.an c.next.length p.cn, .slice p.ag c.gates.length p.cg, .slice p.ao c.outs.length p.co] 26)).alloc (.cells #[.slice none 0 0, .slice none 0 0] 52) := ⟨_, rfl⟩
 have s1 : w.heap.size + 2 ≤ w1.heap.size := by rw [hw1]; simp
 rw [← hw1] at E0 y R0 HC
 rw [← hw1]
 clear hw1
 (obtain ⟨la, a0, a1, a2, a3⟩ := (id y))
 go_wp2_with fail
 refine (specCircuitValid_c c p _ HC.out).mono ?_
 rintro e w2 ⟨rfl, hE2⟩
 have y2 := y.ext hE2
 clear a0 a1 a2 a3 la
 cases hv : validB c
 ·have R2 := R0.ext hE2
  have b0 := R2.cell (i := 0) rfl
  have b1 := R2.cell (i := 1) rfl
  have bf := fun i => R2.frozen i
  have bl := R2.lt
  have R9 := (R2.set 0 (.slice none 0 0)).set 1 (.slice none 0 0)
  have d0 := R9.cell (i := 0) rfl
  have d1 := R9.cell (i := 1) rfl
  have E9 : Ext w ((w2.setCell ⟨w.heap.size + 1, 0, none⟩ (.slice none 0 0)).setCell ⟨w.heap.size + 1, 1, none⟩ (.slice none 0 0)) := Ext.setNew (Ext.setNew (E0.trans hE2) (by simp) _) (by simp) _
  clear R2 R9
  go_wp2_with fail
  refine bodyPost_ret (v := .tuple #[.agg #[.slice none 0 0, .slice none 0 0], .bool false]) (by simp [results, Try.results116, go_sem, d0, d1]) rfl ?_
  exact ⟨_, _, [], _, false, rfl, OwnK.none_, fun h => (by cases h), E9⟩
 ·have V := validB_iff.1 hv
  have hcv : cellsV c = cellsN c := by unfold cellsV; rw [hv]; rfl
  have hsm := cells_sm c
  rw [hcv] at hsm
  have hall : ∀ x ∈ cellsN c, Asc x.ins ∧ x.ins.length ≤ 3 := fun x hx => ⟨cells_asc V x hx, hsm.2 x hx⟩
  have hfit := cells_fit V
  have hl17 := hsm.1
  have hpi := plK_inv (c := c) (cs := cellsN c) (by omega) 3
  have hcC := l6Cells_c c p
  obtain ⟨cs, hcs⟩ : ∃ cs, cs = cellsN c := ⟨_, rfl⟩
  rw [← hcs] at hl17 hall hfit hpi hcC
  obtain ⟨PK, hPK⟩ : ∃ P, P = (plK c cs 3).1 := ⟨_, rfl⟩
  have hpl : PK.length = cs.length := by rw [hPK]; exact hpi.len
  have hpf : InF PK := by rw [hPK]; exact hpi.ok.1
  have HALL := Lib.hid hall
  have HFIT := Lib.hid hfit
  have HPL := Lib.hid hpl
  have HPF := Lib.hid hpf
  have HPK := Lib.hid hPK
  have HV := Lib.hid V
  have HCC := Lib.hid hcC
  clear hv V hcv hsm hall hfit hpi hcC hcs hPK hpl hpf
  (obtain ⟨la, a0, a1, a2, a3⟩ := (id y2))
  go_wp2_with fail
  refine (HCC.out _ (HC.out.ext hE2) HV.out).mono ?_
  rintro e w3 ⟨v, Fc, rfl, hN, _, hE3⟩
  obtain ⟨ca, cc, rfl, _⟩ := hN.sl
  have E3 := hE2.trans hE3
  have y3 := y2.ext hE3
  have hcall := l7Place_c c p ca cc cs Fc w3 (HC.out.ext E3) HV.out hN hl17 HALL.out
  rw [← HPK.out] at hcall
  clear a0 a1 a2 a3 la y2 hE2 hE3
  (obtain ⟨la, a0, a1, a2, a3⟩ := (id y3))
  go_wp2_with fail
  refine hcall.mono ?_
  rintro e w4 ⟨v, rfl, oP, hE4⟩
  obtain ⟨pa, pc, rfl⟩ := own_len oP HPL.out
  have hPA := own_at oP
  have E4 := E3.trans hE4
  have y4 := y3.ext hE4
  have hN4 := hN.ext goodCell hE4
  clear hcall a0 a1 a2 a3 la y3 hE4 E3 hN oP
  have hcall := l8Route_c c p ca cc cs Fc pa pc PK w4 (HC.out.ext E4) HV.out hN4 hPA HPL.out HPF.out hl17 HALL.out
  (obtain ⟨la, a0, a1, a2, a3⟩ := (id y4))
  go_wp2_with fail
  refine hcall.mono ?_
  rintro e w5 ⟨v, ok, rs, Fr, rfl, hR, _, hro, hrl, hE5⟩
  obtain ⟨ra, rc, rfl, _⟩ := hR.sl
  have E5 := E4.trans hE5
  have y5 := y4.ext hE5
  have hN5 := hN4.ext goodCell hE5
  have hP5 := hPA.ext hE5
  have HRO := Lib.hid hro
  clear hcall a0 a1 a2 a3 la y4 hE5 E4 hN4 hPA hro
  cases ok
  ·have R2 := R0.ext E5
   have b0 := R2.cell (i := 0) rfl
   have b1 := R2.cell (i := 1) rfl
   have bf := fun i => R2.frozen i
   have bl := R2.lt
   have R9 := (R2.set 0 (.slice none 0 0)).set 1 (.slice none 0 0)
   have d0 := R9.cell (i := 0) rfl
   have d1 := R9.cell (i := 1) rfl
   have E9 : Ext w ((w5.setCell ⟨w.heap.size + 1, 0, none⟩ (.slice none 0 0)).setCell ⟨w.heap.size + 1, 1, none⟩ (.slice none 0 0)) := Ext.setNew (Ext.setNew (E0.trans E5) (by simp) _) (by simp) _
   clear R2 R9
   go_wp2_with fail
   refine bodyPost_ret (v := .tuple #[.agg #[.slice none 0 0, .slice none 0 0], .bool false]) (by simp [results, Try.results116, go_sem, d0, d1]) rfl ?_
   exact ⟨_, _, [], _, false, rfl, OwnK.none_, fun h => (by cases h), E9⟩
  ·have hcall := l9Build_c c p ca cc cs Fc pa pc PK ra rc rs Fr w5 (HC.out.ext E5) HV.out hN5 hP5 HPL.out HPF.out hl17 HFIT.out hR hrl HRO.out
   (obtain ⟨la, a0, a1, a2, a3⟩ := (id y5))
   go_wp2_with fail
   refine hcall.mono ?_
   rintro e w6 ⟨tv, pv, us, K, rfl, hK, hok, hE6⟩
   have HOK := Lib.hid hok
   obtain ⟨ta, tc, pa2, pc2, rfl, rfl⟩ := hK.sl
   have E6 := E5.trans hE6
   have R2 := R0.ext E6
   have b0 := R2.cell (i := 0) rfl
   have b1 := R2.cell (i := 1) rfl
   have bf := fun i => R2.frozen i
   have bl := R2.lt
   have R9 := (R2.set 0 (.slice ta K.ts.length tc)).set 1 (.slice pa2 K.ps.length pc2)
   have d0 := R9.cell (i := 0) rfl
   have d1 := R9.cell (i := 1) rfl
   have s15 := E5.size
   have HK9 := Lib.hid ((hK.setCell (p := ⟨w.heap.size + 1, 0, none⟩) (by show w.heap.size + 1 < w5.heap.size; omega) (.slice ta K.ts.length tc)).setCell (p := ⟨w.heap.size + 1, 1, none⟩) (by show w.heap.size + 1 < w5.heap.size; omega) (.slice pa2 K.ps.length pc2))
   have E9 : Ext w ((w6.setCell ⟨w.heap.size + 1, 0, none⟩ (.slice ta K.ts.length tc)).setCell ⟨w.heap.size + 1, 1, none⟩ (.slice pa2 K.ps.length pc2)) := Ext.setNew (Ext.setNew (E0.trans E6) (by simp) _) (by simp) _
   clear R2 R9 hcall hok hK hR
   go_wp2_with fail
   refine bodyPost_ret (v := .tuple #[.agg #[.slice ta K.ts.length tc, .slice pa2 K.ps.length pc2], .bool true]) (by simp [results, Try.results116, go_sem, d0, d1]) rfl ?_
   exact ⟨_, _, us, K, true, rfl, HK9.out.le (by omega), fun _ => HOK.out, E9⟩
end Go.Proofs.Ytgialedmbmfejaa

