/- Contracts: the program's depth. -/
import Derived.Test.YtpomcoegpjehgaaDepth
namespace Go.Proofs.Ytpomcoegpjehgaa
open Go.RowKit
set_option maxRecDepth 100000
set_option linter.unusedVariables false
set_option linter.unusedSimpArgs false
/-- Block B holds the numbers xs, and nothing else. -/
def LvAt (w : World) (B : Nat) (xs : List Int) : Prop := w.heap[B]? = some (.cells (xs.map (Value.int .i64)).toArray 3 (0, 0))
theorem LvAt.ext {w w' : World} {B : Nat} {xs : List Int} (h : LvAt w B xs) (e : Ext w w') : LvAt w' B xs := (Below.block e B (Array.getElem?_eq_some_iff.1 h).1).trans h
theorem LvAt.lt {w : World} {B : Nat} {xs : List Int} (h : LvAt w B xs) : B < w.heap.size := (Array.getElem?_eq_some_iff.1 h).1
theorem LvAt.cell {w : World} {B : Nat} {xs : List Int} (h : LvAt w B xs) (i : Nat) (hi : i < xs.length) : w.cell? ⟨B, i, none⟩ = some (.int .i64 (xs.getD i 0)) := by
  rw [cell_of_row _ _ _ _ _ _ h]
  simp [List.getD_eq_getElem?_getD, hi]
theorem LvAt.frozen {w : World} {B : Nat} {xs : List Int} (h : LvAt w B xs) (i : Nat) : w.frozen? ⟨B, i, none⟩ = false := frozen_of_row _ _ _ _ _ h
theorem LvAt.set {w : World} {B : Nat} {xs : List Int} (h : LvAt w B xs) (i : Nat) (v : Int) : LvAt (w.setCell ⟨B, i, none⟩ (.int .i64 v)) B (xs.set i v) := by
  unfold LvAt
  rw [heap_setCell_same _ _ _ _ _ _ h]
  simp [List.setIfInBounds_toArray, List.map_set]
theorem LvAt.ints {w : World} {B : Nat} {xs : List Int} (h : LvAt w B xs) : IntsAt w (some ⟨B, 0, none⟩) xs :=
  .inr ⟨B, 0, rfl, h.lt, fun j hj => by simpa using h.cell j hj⟩
def ImpRel (w : World) (c : Circ) (F B : Nat) (u : Value) (wr : World) : Prop :=
  ∃ k : Nat, k ≤ c.gates.length ∧ u = .int .i64 k ∧ LvAt wr B (lvls F (c.gates.take k) ++ List.replicate (c.gates.length - k) 0) ∧ Ext w wr
set_option maxHeartbeats 6000000 in
theorem implDepth0_c (b : Nat) (c : Circ) (p : Where3) (w : World) (hb : CircBox w b c p) (hc : CircAt w c p) (V : c.Valid) :
    Calls Try.prog 85 #[.pointer (some ⟨b, 0, none⟩)] w fun e w' => e = .returned (.int .i64 (topOf (lvls c.first.toNat c.gates) (c.next ++ c.outs))) ∧ Ext w w' := by
  have hi := V.i0
  have hi4 := V.i4
  have ln := V.ln
  have lg := V.lg
  have lo := V.lo
  obtain ⟨F, hF, hF1, hF2⟩ : ∃ F : Nat, c.first = F ∧ 1 ≤ F ∧ F ≤ 8 := ⟨c.first.toNat, by unfold Circ.first; omega, by unfold Circ.first; omega, by unfold Circ.first; omega⟩
  have eF : c.first.toNat = F := by rw [hF]; rfl
  rw [eF]
  obtain ⟨N, hN⟩ : ∃ N, N = F + c.gates.length := ⟨_, rfl⟩
  have hvv : c.vars = (N : Int) := by unfold Circ.vars; omega
  have HN := Lib.hid hN
  have hN1 : F + c.gates.length ≤ N := by omega
  have hN2 : N ≤ F + c.gates.length := by omega
  clear hN
  obtain ⟨an, cn, ag, cg, ao, co⟩ := p
  have hbx := hb
  obtain ⟨lb, b0, b1, b2, b3⟩ := hbx
  dsimp only at b0 b1 b2 b3
  go_enter Try.func85, Try.ntmps85
  go_wp2_with fail
  refine (vars_c b c ⟨an, cn, ag, cg, ao, co⟩ _ hb hi (by omega) (by omega) (by omega)).mono ?_
  rintro e w1 ⟨rfl, nd, rfl⟩
  rw [hvv]
  have hm := run_make_row' (P := Try.prog) 23 3 (.int .i64 0) 8 Try.underlying23 intInfo rfl .i64 .i64 N (by omega) (by omega) (w.drewN nd)
  have L0 : LvAt ((w.drewN nd).alloc (.cells (madeCells #[.int .i64 0] N) 3)) w.heap.size (lvls F (c.gates.take 0) ++ List.replicate (c.gates.length - 0) 0) := by
    have e1 : madeCells #[Value.int .i64 0] N = ((lvls F (c.gates.take 0) ++ List.replicate (c.gates.length - 0) (0 : Int)).map (Value.int .i64)).toArray := by
      apply Array.toList_inj.1
      rw [toList_madeCells_one, HN.out]
      simp [lvls, List.replicate_append_replicate]
    unfold LvAt
    rw [← e1]
    exact heap_alloc_new (w.drewN nd) _
  have E1 : Ext w ((w.drewN nd).alloc (.cells (madeCells #[.int .i64 0] N) 3)) := (Ext.drewN w nd).alloc _
  have hb1 := hb.ext E1
  have z := hb1
  obtain ⟨lz, z0, z1, z2, z3⟩ := z
  dsimp only at z0 z1 z2 z3
  go_wp2_with fail
  go_loopw [17] (ImpRel w c F w.heap.size) (fun i _ => c.gates.length - (intOf i).toNat)
  case atStart => exact ⟨0, Nat.zero_le _, rfl, L0, E1⟩
  case round =>
    obtain ⟨k, hk, rfl, hL, hE⟩ := hrel
    by_cases hlt : k < c.gates.length
    · have hbE := hb.ext hE
      have hbE2 := hbE
      obtain ⟨lE, y0, y1, y2, y3⟩ := hbE2
      dsimp only at y0 y1 y2 y3
      obtain ⟨b9, o9, hag, hb9, hg1, hg2⟩ := (hc.ext hE).gs.get (by omega)
      dsimp only at hag
      subst hag
      have q1 := hg1 k hlt
      have q2 := hg2 k hlt
      have hv := V.gs k hlt
      rw [hF] at hv
      have hst := lvls_set F c.gates.length k (c.gates.take k) (c.gates.getD k (0, 0)) (by rw [List.length_take]; omega) hlt
      rw [← take_snocP c.gates k (0, 0) hlt] at hst
      obtain ⟨ga, hga⟩ : ∃ x, x = (c.gates.getD k (0, 0)).1 := ⟨_, rfl⟩
      obtain ⟨gb, hgb⟩ : ∃ x, x = (c.gates.getD k (0, 0)).2 := ⟨_, rfl⟩
      rw [← hga] at q1 hv hst
      rw [← hgb] at q2 hv hst
      clear hg1 hg2 hga hgb
      obtain ⟨va1, va2⟩ := litB_iff.1 hv.1
      obtain ⟨vb1, vb2⟩ := litB_iff.1 hv.2
      have hlen : (lvls F (c.gates.take k) ++ List.replicate (c.gates.length - k) 0).length = N := by simp [lvls_length]; omega
      have hok0 := lvls_ok F (c.gates.take k)
      have hok : LvOk (lvls F (c.gates.take k) ++ List.replicate (c.gates.length - k) 0) k := by
        intro x hx
        rcases List.mem_append.1 hx with hx | hx
        · have := hok0 x hx; rw [List.length_take] at this; omega
        · have := List.eq_of_mem_replicate hx; omega
      have hst2 := hst (by omega) (by omega)
      obtain ⟨xs, hxs⟩ : ∃ xs, xs = lvls F (c.gates.take k) ++ List.replicate (c.gates.length - k) 0 := ⟨_, rfl⟩
      rw [← hxs] at hL hst2 hlen hok
      have hLg := hL.ext ((Ext.refl wr).alloc (.cells #[.int .i64 ga, .int .i64 gb] 82))
      have r1 := hL.cell (ga / 2).toNat (by omega)
      have r2 := hL.cell (gb / 2).toNat (by omega)
      have r3 := hL.cell (F + k) (by omega)
      have fz := hL.frozen (F + k)
      have hBlt : w.heap.size < wr.heap.size := hL.lt
      have hBne : ¬ w.heap.size = wr.heap.size := by omega
      have m1 := (hok.get (by omega) (ga / 2).toNat)
      have m2 := (hok.get (by omega) (gb / 2).toNat)
      obtain ⟨ea, hx⟩ : ∃ x, x = xs.getD (ga / 2).toNat 0 := ⟨_, rfl⟩
      obtain ⟨eb, hy⟩ : ∃ x, x = xs.getD (gb / 2).toNat 0 := ⟨_, rfl⟩
      obtain ⟨ec, hz⟩ : ∃ x, x = xs.getD (F + k) 0 := ⟨_, rfl⟩
      rw [← hx] at r1 m1 hst2
      rw [← hy] at r2 m2 hst2
      rw [← hz] at r3
      have HST := Lib.hid hst2
      clear hst hst2 hok hok0 hxs hx hy hz hv L0 E1 hb1 hm z0 z1 z2 z3
      have hwa : IntKind.i64.wrap (1 + if ea < eb then eb else ea) = 1 + max ea eb := by
        have e : (if ea < eb then eb else ea) = max ea eb := by split <;> omega
        rw [e]; exact IntWalk.i64_in _ (by omega)
      have hta : IntKind.i64.wrap (ga.tdiv 2) = ga / 2 := by rw [Int.tdiv_eq_ediv_of_nonneg va1]; exact IntWalk.i64_in _ (by omega)
      have htb : IntKind.i64.wrap (gb.tdiv 2) = gb / 2 := by rw [Int.tdiv_eq_ediv_of_nonneg vb1]; exact IntWalk.i64_in _ (by omega)
      have htc : IntKind.i64.wrap ((F : Int) + (k : Int)) = (F : Int) + (k : Int) := IntWalk.i64_in _ (by omega)
      have ia : 0 ≤ ga / 2 ∧ ga / 2 < (N : Int) := by omega
      have ib : 0 ≤ gb / 2 ∧ gb / 2 < (N : Int) := by omega
      have ic : 0 ≤ (F : Int) + (k : Int) ∧ (F : Int) + (k : Int) < (N : Int) := by omega
      have id1 : ((F : Int) + (k : Int)).toNat = F + k := by omega
      go_wp2_with fail
      go_region_law (go_simp; go_at_call 64; refine (firstGate_c b c ⟨an, cn, some ⟨b9, o9, none⟩, cg, ao, co⟩ _ (hbE.ext (by (repeat (first | assumption | (with_reducible refine Ext.drew' ?_) | exact Ext.refl _ | exact Ext.drew _ | exact Ext.drewN _ _ | (refine Ext.alloc ?_ _) | (refine Ext.drewN' ?_ _) | (refine Ext.setNew ?_ (by first | exact Nat.le_refl _ | (simp; done) | (simp; omega) | omega) _))))) hi (by omega) (by omega)).mono ?_; rw [hF]; rintro e w5 ⟨rfl, nn, rfl⟩)
      all_goals (
        go_wp2
        go_roundw
        case rel =>
          refine ⟨k + 1, by omega, by go_num, ?_, ?_⟩
          · rw [← HST.out]
            show LvAt _ _ (xs.set (F + k) (1 + max ea eb))
            repeat (first | with_reducible exact hLg | with_reducible refine LvAt.set ?_ _ _ | with_reducible refine LvAt.ext ?_ (Ext.drew _) | with_reducible refine LvAt.ext ?_ (Ext.drewN _ _))
          · repeat (first | with_reducible assumption | with_reducible refine Ext.drew' ?_ | with_reducible refine Ext.drewN' ?_ _ | (with_reducible refine Ext.setNew ?_ (Nat.le_refl _) _) | with_reducible refine Ext.alloc ?_ _)
        case measure => simp [intOf]; omega)
    · have hk2 : k = c.gates.length := by omega
      subst hk2
      rw [List.take_length, Nat.sub_self, List.replicate_zero, List.append_nil] at hL
      have hbE := hb.ext hE
      clear L0 E1 hb1 hm z0 z1 z2 z3
      go_wp2_with fail
      refine (roots_c b c ⟨an, cn, ag, cg, ao, co⟩ _ hbE (hc.ext hE)).mono ?_
      rintro e w4 ⟨v, xs, rfl, HX, hO, hE4⟩
      have hL4 := hL.ext hE4
      have hok := lvls_ok F c.gates
      have hlen : (lvls F c.gates).length = N := by rw [lvls_length]; omega
      have hxi : ∀ i, i < xs.length → 0 ≤ xs.getD i 0 ∧ xs.getD i 0 < 2 * (N : Int) := by
        intro i hi
        rw [HX.out] at hi ⊢
        have := litB_iff.1 (V.rs i hi)
        rw [hvv] at this
        exact this
      have hD : topOf (lvls F c.gates) (c.next ++ c.outs) = topOf (lvls F c.gates) xs := by rw [HX.out]
      have hxl : xs.length ≤ 6 := by rw [HX.out]; simp; omega
      obtain ⟨ls, hls⟩ : ∃ ls, ls = lvls F c.gates := ⟨_, rfl⟩
      rw [← hls] at hL4 hok hlen hD
      have HD := Lib.hid hD
      have HLS := Lib.hid hls
      have hXI := Lib.hid hxi
      clear hls hxi hD hL
      obtain ⟨a4, c4, rfl, hX, _⟩ := hO.opened
      have E4 := hE.trans hE4
      go_wp2_with fail
      go_loopw [6, 46] (fun u6 u46 wz => ∃ j : Nat, j ≤ xs.length ∧ u46 = .int .i64 j ∧ u6 = .int .i64 (topOf ls (xs.take j)) ∧ w4 = wz) (fun _ i _ => xs.length - (intOf i).toNat)
      case atStart => exact ⟨0, Nat.zero_le _, rfl, by simp [topOf], by first | rfl | trivial⟩
      case round =>
        obtain ⟨j, hj, rfl, rfl, rfl⟩ := hrel
        by_cases hlt2 : j < xs.length
        · obtain ⟨b5, o5, rfl, hb5, hc5⟩ := hX.get (by omega)
          have q1 := hc5 j hlt2
          obtain ⟨i1, i2⟩ := hXI.out j hlt2
          have hs := topOf_snoc ls (xs.take j) (xs.getD j 0)
          rw [← take_snocP xs j 0 hlt2] at hs
          obtain ⟨x, hx⟩ : ∃ x, x = xs.getD j 0 := ⟨_, rfl⟩
          rw [← hx] at q1 i1 i2 hs
          have q2 := hL4.cell (x / 2).toNat (by omega)
          have m1 := hok.get (by omega) (x / 2).toNat
          have m2 := topOf_nonneg ls (xs.take j)
          have m3 := topOf_le hok (by omega) (xs.take j)
          obtain ⟨ev, hev⟩ : ∃ z, z = ls.getD (x / 2).toNat 0 := ⟨_, rfl⟩
          rw [← hev] at q2 m1 hs
          obtain ⟨T, hT⟩ : ∃ T, T = topOf ls (xs.take j) := ⟨_, rfl⟩
          rw [← hT] at m2 m3 hs ⊢
          have HS := Lib.hid hs
          clear hc5 hx hev hT hs
          go_wp2
          go_roundw
          case rel =>
            refine ⟨j + 1, by omega, by go_num, ?_, by first | rfl | trivial⟩
            rw [HS.out]
            first | rfl | (congr 1; split <;> omega) | (simp; split <;> omega)
          case measure => simp [intOf]; omega
        · have hk2 : j = xs.length := by omega
          subst hk2
          rw [List.take_length]
          go_wp2
          go_ret
          exact ⟨by rw [← HLS.out, HD.out]; rfl, E4⟩
theorem implDepth_c (c : Circ) (p : Where3) (w : World) (hc : CircAt w c p) :
    Calls Try.prog 34 #[.agg #[.int .i64 c.inputs, .slice p.an c.next.length p.cn, .slice p.ag c.gates.length p.cg, .slice p.ao c.outs.length p.co]] w fun e w' => e = .returned (.int .i64 (depthOf c)) ∧ Ext w w' := by
  obtain ⟨an, cn, ag, cg, ao, co⟩ := p
  have y := CircBox.made w c ⟨an, cn, ag, cg, ao, co⟩ 26
  have E0 : Ext w (w.alloc (.cells #[.int .i64 c.inputs, .slice an c.next.length cn, .slice ag c.gates.length cg, .slice ao c.outs.length co] 26)) := (Ext.refl w).alloc _
  obtain ⟨D, hD⟩ : ∃ D, D = depthOf c := ⟨_, rfl⟩
  rw [← hD]
  have HD := Lib.hid hD
  clear hD
  go_enter Try.func34, Try.ntmps34
  go_wp2_with fail
  refine (implCircuitValid_c c ⟨an, cn, ag, cg, ao, co⟩ _ (hc.ext E0)).mono ?_
  rintro e w1 ⟨rfl, hE1⟩
  cases hv : validB c
  · have hd : depthOf c = -1 := by simp [depthOf, hv]
    obtain rfl : D = -1 := by rw [HD.out, hd]
    go_wp2
    go_ret
    exact ⟨rfl, E0.trans hE1⟩
  · have hd : depthOf c = topOf (lvls c.first.toNat c.gates) (c.next ++ c.outs) := by simp only [depthOf, hv, if_true]
    have V := validB_iff.1 hv
    have Y := y.ext hE1
    go_wp2_with fail
    refine (implDepth0_c w.heap.size c ⟨an, cn, ag, cg, ao, co⟩ _ Y (hc.ext (E0.trans hE1)) V).mono ?_
    rintro e w2 ⟨rfl, hE2⟩
    have hd2 : topOf (lvls c.first.toNat c.gates) (c.next ++ c.outs) = D := by rw [HD.out, hd]
    rw [hd2]
    go_wp2
    go_ret
    exact ⟨rfl, (E0.trans hE1).trans hE2⟩
end Go.Proofs.Ytpomcoegpjehgaa
