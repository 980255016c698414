/- Contract: the length of one of the program's nets. -/
import Derived.Test.YtgialedmbmfejaaNetI
namespace Go.Proofs.Ytgialedmbmfejaa
open Go.RowKit
set_option maxRecDepth 100000
set_option linter.unusedVariables false
set_option linter.unusedSimpArgs false
theorem box_bounds2 {ts : List Int} (h : ∀ t ∈ ts, 0 ≤ t ∧ t ≤ 1000) : (0 ≤ minF (· / 5) 5 ts ∧ minF (· / 5) 5 ts ≤ 5) ∧ (0 ≤ maxF (· / 5) 0 ts ∧ maxF (· / 5) 0 ts ≤ 200) ∧ (0 ≤ minF (· % 5) 5 ts ∧ minF (· % 5) 5 ts ≤ 5) ∧ (0 ≤ maxF (· % 5) 0 ts ∧ maxF (· % 5) 0 ts ≤ 4) :=
  ⟨⟨minF_ge _ 0 ts 5 (by omega) (fun t ht => by have := h t ht; show 0 ≤ t / 5; omega), (minF_le _ ts 5).1⟩,
   ⟨(maxF_ge _ ts 0).1, maxF_le _ 200 ts 0 (by omega) (fun t ht => by have := h t ht; show t / 5 ≤ 200; omega)⟩,
   ⟨minF_ge _ 0 ts 5 (by omega) (fun t ht => by have := h t ht; show 0 ≤ t % 5; omega), (minF_le _ ts 5).1⟩,
   ⟨(maxF_ge _ ts 0).1, maxF_le _ 4 ts 0 (by omega) (fun t ht => by have := h t ht; show t % 5 ≤ 4; omega)⟩⟩
theorem tilesN_le (n : NetT) (place : List Int) : (tilesN n place).length = 1 + n.sinks.length + n.pads.length := by
  unfold tilesN sinkT
  rw [List.length_cons, List.length_append, List.length_map]; omega
set_option maxHeartbeats 8000000 in
theorem length_c (n : NetT) (sa qa : Option Addr) (sc qc : Nat) (pa : Option Addr) (pc : Nat) (place : List Int) (w : World) (hs : IntsAt w sa n.sinks) (hq : IntsAt w qa n.pads) (hp : IntsAt w pa place) (hc0 : -1 ≤ n.cell) (hc1 : n.cell < place.length) (hsk : ∀ j, j < n.sinks.length → ∃ i : Nat, i < place.length ∧ n.sinks.getD j 0 = (i : Int)) (l1 : n.sinks.length ≤ 100) (l2 : n.pads.length ≤ 100) (l3 : place.length ≤ 100) (hin : ∀ t ∈ tilesN n place, 0 ≤ t ∧ t ≤ 1000) :
    Calls Try.prog 63 #[.agg #[.int .i64 n.net, .int .i64 n.cell, .int .i64 n.tile, .slice sa n.sinks.length sc, .slice qa n.pads.length qc], .slice pa place.length pc] w fun e w' => e = .returned (.int .i64 (lenN n place)) ∧ Ext w w' := by
  have E0 : Ext w (w.alloc (.cells #[.int .i64 n.net, .int .i64 n.cell, .int .i64 n.tile, .slice sa n.sinks.length sc, .slice qa n.pads.length qc] 91)) := (Ext.refl w).alloc _
  have y := Blk.at w [.int .i64 n.net, .int .i64 n.cell, .int .i64 n.tile, .slice sa n.sinks.length sc, .slice qa n.pads.length qc] 91 rfl
  have HTC := Lib.hid (fun W (a1 : IntsAt W sa n.sinks) (a2 : IntsAt W qa n.pads) (a3 : IntsAt W pa place) => tiles_c n sa qa sc qc pa pc place W a1 a2 a3 hc0 hc1 hsk l1 l2 l3)
  have hTl := tilesN_le n place
  have HL : Hid (lenN n place = maxF (· / 5) 0 (tilesN n place) - minF (· / 5) 5 (tilesN n place) + maxF (· % 5) 0 (tilesN n place) - minF (· % 5) 5 (tilesN n place)) := Lib.hid rfl
  obtain ⟨ts, hts⟩ : ∃ ts, ts = tilesN n place := ⟨_, rfl⟩
  obtain ⟨D, hD⟩ : ∃ D, D = lenN n place := ⟨_, rfl⟩
  rw [← hts] at HTC hTl hin HL
  rw [← hD] at HL ⊢
  have hTl2 : ts.length ≤ 201 := by omega
  have HB := Lib.hid (fun k => box_bounds2 (ts := ts.take k) (fun t ht => hin t (List.mem_of_mem_take ht)))
  have HIN := Lib.hid hin
  have hi0 : ∀ (X Y : Int) (W : World), (Instr.index 135 (.agg #[.int .i64 X, .int .i64 Y]) (.int .i64 0)).run Try.prog W = .ok (.int .i64 X) W := fun _ _ _ => by kernel_rfl
  have hi1 : ∀ (X Y : Int) (W : World), (Instr.index 135 (.agg #[.int .i64 X, .int .i64 Y]) (.int .i64 1)).run Try.prog W = .ok (.int .i64 Y) W := fun _ _ _ => by kernel_rfl
  clear hsk hts hTl hD hin
  go_enter Try.func63, Try.ntmps63
  go_upto_region 1 with fail
  obtain ⟨w1, hw1⟩ : ∃ x : World, x = w.alloc (.cells #[.int .i64 n.net, .int .i64 n.cell, .int .i64 n.tile, .slice sa n.sinks.length sc, .slice qa n.pads.length qc] 91) := ⟨_, rfl⟩
  rw [← hw1] at E0 y
  rw [← hw1]
  clear hw1
  have x0 := y.cell (i := 0) rfl
  have x1 := y.cell (i := 1) rfl
  have x2 := y.cell (i := 2) rfl
  have x3 := y.cell (i := 3) rfl
  have x4 := y.cell (i := 4) rfl
  have xl := y.lt
  have HS := Lib.hid (hs.ext E0)
  have HQ := Lib.hid (hq.ext E0)
  have HP := Lib.hid (hp.ext E0)
  clear hs hq hp
  go_wp2_with fail
  refine (HTC.out _ (HS.out.ext (by (repeat (first | with_reducible assumption | with_reducible exact Ext.refl _ | with_reducible refine Ext.drew' ?_ | with_reducible refine Ext.drewN' ?_ _ | with_reducible refine Ext.alloc ?_ _ | (with_reducible refine Ext.setNew ?_ (by first | exact Nat.le_refl _ | (simp; done) | (simp; omega) | omega) _))))) (HQ.out.ext (by (repeat (first | with_reducible assumption | with_reducible exact Ext.refl _ | with_reducible refine Ext.drew' ?_ | with_reducible refine Ext.drewN' ?_ _ | with_reducible refine Ext.alloc ?_ _ | (with_reducible refine Ext.setNew ?_ (by first | exact Nat.le_refl _ | (simp; done) | (simp; omega) | omega) _))))) (HP.out.ext (by (repeat (first | with_reducible assumption | with_reducible exact Ext.refl _ | with_reducible refine Ext.drew' ?_ | with_reducible refine Ext.drewN' ?_ _ | with_reducible refine Ext.alloc ?_ _ | (with_reducible refine Ext.setNew ?_ (by first | exact Nat.le_refl _ | (simp; done) | (simp; omega) | omega) _)))))).mono ?_
  rintro e w2 ⟨v, rfl, oT, hE2⟩
  have hb5 := ((Blk.at w1 [.int .i64 5, .int .i64 5] 135 (B := w1.heap.size) rfl).alloc (.cells #[.int .i64 0, .int .i64 0] 135)).ext hE2
  have hb6 := (Blk.at (w1.alloc (.cells #[.int .i64 5, .int .i64 5] 135)) [.int .i64 0, .int .i64 0] 135 (B := w1.heap.size + 1) (by simp)).ext hE2
  have E2 : Ext w1 w2 := Ext.trans (by (repeat (first | with_reducible assumption | with_reducible exact Ext.refl _ | with_reducible refine Ext.drew' ?_ | with_reducible refine Ext.drewN' ?_ _ | with_reducible refine Ext.alloc ?_ _ | (with_reducible refine Ext.setNew ?_ (by first | exact Nat.le_refl _ | (simp; done) | (simp; omega) | omega) _)))) hE2
  have oT2 : OwnInts w2 (w1.heap.size + 2) 3 v ts := ownsRow_base oT (by simp)
  obtain ⟨va, vc, rfl, _, _⟩ := own_sl oT2
  clear oT hE2 HTC x0 x1 x2 x3 x4 HS HQ HP
  go_wp2_with fail
  go_loopw [17] (fun u17 wr => ∃ i : Nat, i ≤ ts.length ∧ u17 = .int .i64 i ∧ Blk wr w1.heap.size 135 [.int .i64 (minF (· / 5) 5 (ts.take i)), .int .i64 (minF (· % 5) 5 (ts.take i))] ∧ Blk wr (w1.heap.size + 1) 135 [.int .i64 (maxF (· / 5) 0 (ts.take i)), .int .i64 (maxF (· % 5) 0 (ts.take i))] ∧ OwnInts wr (w1.heap.size + 2) 3 (.slice va ts.length vc) ts ∧ Ext w1 wr) (fun v _ => ts.length - (intOf v).toNat)
  case atStart => exact ⟨0, Nat.zero_le _, rfl, hb5, hb6, oT2, E2⟩
  case round =>
    clear hb5 hb6 oT2 E2
    obtain ⟨i, hi, rfl, hb5, hb6, oT, hE⟩ := hrel
    obtain ⟨w3, rfl⟩ : ∃ z : World, z = wr := ⟨_, rfl⟩
    obtain ⟨⟨b1, b2⟩, ⟨b3, b4⟩, ⟨b5, b6⟩, b7, b8⟩ := HB.out i
    by_cases hlt : i < ts.length
    · obtain ⟨g, rfl, hg, hgl⟩ := ownsRow_block oT (by omega)
      have q1 : w3.cell? ⟨g, i, none⟩ = some (.int .i64 (ts.getD i 0)) := ownsRow_cell oT (j := i) (by rw [List.getElem?_map, List.getD_eq_getElem?_getD, List.getElem?_eq_getElem hlt]; rfl)
      have s1 := minF_snoc (· / 5) 5 (ts.take i) (ts.getD i 0)
      have s2 := maxF_snoc (· / 5) 0 (ts.take i) (ts.getD i 0)
      have s3 := minF_snoc (· % 5) 5 (ts.take i) (ts.getD i 0)
      have s4 := maxF_snoc (· % 5) 0 (ts.take i) (ts.getD i 0)
      rw [← take_snocD ts i 0 hlt] at s1 s2 s3 s4
      have ht := HIN.out _ (getN_mem (d := (0 : Int)) hlt)
      obtain ⟨t, htt⟩ : ∃ t, t = ts.getD i 0 := ⟨_, rfl⟩
      rw [← htt] at q1 s1 s2 s3 s4 ht
      obtain ⟨t0, t1⟩ := ht
      have hta : IntKind.i64.wrap (t.tdiv 5) = t / 5 := by rw [Int.tdiv_eq_ediv_of_nonneg t0]; exact IntWalk.i64_in _ (by omega)
      have htb : t.tmod 5 = t % 5 := Int.tmod_eq_emod_of_nonneg t0
      obtain ⟨R0, e1⟩ : ∃ x, x = minF (· / 5) 5 (ts.take i) := ⟨_, rfl⟩
      obtain ⟨R1, e2⟩ : ∃ x, x = maxF (· / 5) 0 (ts.take i) := ⟨_, rfl⟩
      obtain ⟨C0, e3⟩ : ∃ x, x = minF (· % 5) 5 (ts.take i) := ⟨_, rfl⟩
      obtain ⟨C1, e4⟩ : ∃ x, x = maxF (· % 5) 0 (ts.take i) := ⟨_, rfl⟩
      rw [← e1] at b1 b2 s1 hb5
      rw [← e2] at b3 b4 s2 hb6
      rw [← e3] at b5 b6 s3 hb5
      rw [← e4] at b7 b8 s4 hb6
      have S := Lib.hid (And.intro s1 (And.intro s2 (And.intro s3 s4)))
      obtain ⟨X, hX⟩ : ∃ X, X = t / 5 := ⟨_, rfl⟩
      obtain ⟨Y, hY⟩ : ∃ Y, Y = t % 5 := ⟨_, rfl⟩
      have hX1 : 0 ≤ X ∧ X ≤ 200 := by omega
      have hY1 : 0 ≤ Y ∧ Y ≤ 4 := by omega
      obtain ⟨x0, x1⟩ := hX1
      obtain ⟨y0, y1⟩ := hY1
      rw [← hX] at hta S
      rw [← hY] at htb S
      clear htt e1 e2 e3 e4 s1 s2 s3 s4 hX hY
      go_wp2_with fail
      go_loopw [26] (fun u26 wr => ∃ j : Nat, j ≤ 2 ∧ u26 = .int .i64 j ∧ Blk wr w1.heap.size 135 [.int .i64 (if 1 ≤ j then min R0 X else R0), .int .i64 (if 2 ≤ j then min C0 Y else C0)] ∧ Blk wr (w1.heap.size + 1) 135 [.int .i64 (if 1 ≤ j then max R1 X else R1), .int .i64 (if 2 ≤ j then max C1 Y else C1)] ∧ OwnInts wr (w1.heap.size + 2) 3 (.slice (some ⟨g, 0, none⟩) ts.length vc) ts ∧ Ext w1 wr) (fun v _ => 2 - (intOf v).toNat)
      case atStart => exact ⟨0, Nat.zero_le _, rfl, hb5, hb6, oT, hE⟩
      case round =>
        clear hb5 hb6 oT hE q1
        obtain ⟨j, hj, rfl, hb5, hb6, oT, hE⟩ := hrel
        obtain ⟨w4, rfl⟩ : ∃ z : World, z = wr := ⟨_, rfl⟩
        have hj3 : j = 0 ∨ j = 1 ∨ j = 2 := by omega
        rcases hj3 with rfl | rfl | rfl
        · simp only [Nat.reduceLeDiff, if_true, if_false] at hb5 hb6
          have c0 := hb5.cell (i := 0) rfl
          have d0 := hb6.cell (i := 0) rfl
          have cf := fun i => hb5.frozen i
          have df := fun i => hb6.frozen i
          have HB5 := Lib.hid ((hb5.set 0 (.int .i64 (min R0 X))).setOther (p := ⟨w1.heap.size + 1, 0, none⟩) (by simp) (.int .i64 (max R1 X)))
          have HB6 := Lib.hid ((hb6.setOther (p := ⟨w1.heap.size, 0, none⟩) (by simp) (.int .i64 (min R0 X))).set 0 (.int .i64 (max R1 X)))
          have HO := Lib.hid (ownsRow_set (ownsRow_set oT (p := ⟨w1.heap.size, 0, none⟩) (fun e => by have h9 : g = w1.heap.size := Option.some.inj e; omega) (.int .i64 (min R0 X))) (p := ⟨w1.heap.size + 1, 0, none⟩) (fun e => by have h9 : g = w1.heap.size + 1 := Option.some.inj e; omega) (.int .i64 (max R1 X)))
          clear hb5 hb6 oT
          rw [show ((0 : Nat) : Int) = 0 from rfl]
          go_wp2_with fail
          go_roundw
          case rel => exact ⟨1, by omega, by go_num, HB5.out, HB6.out, HO.out, Ext.setNew (Ext.setNew hE (Nat.le_refl _) _) (by simp) _⟩
          case measure => simp [intOf]
        · simp only [Nat.reduceLeDiff, if_true, if_false, Nat.le_refl] at hb5 hb6
          have c0 := hb5.cell (i := 1) rfl
          have d0 := hb6.cell (i := 1) rfl
          have cf := fun i => hb5.frozen i
          have df := fun i => hb6.frozen i
          have HB5 := Lib.hid ((hb5.set 1 (.int .i64 (min C0 Y))).setOther (p := ⟨w1.heap.size + 1, 1, none⟩) (by simp) (.int .i64 (max C1 Y)))
          have HB6 := Lib.hid ((hb6.setOther (p := ⟨w1.heap.size, 1, none⟩) (by simp) (.int .i64 (min C0 Y))).set 1 (.int .i64 (max C1 Y)))
          have HO := Lib.hid (ownsRow_set (ownsRow_set oT (p := ⟨w1.heap.size, 1, none⟩) (fun e => by have h9 : g = w1.heap.size := Option.some.inj e; omega) (.int .i64 (min C0 Y))) (p := ⟨w1.heap.size + 1, 1, none⟩) (fun e => by have h9 : g = w1.heap.size + 1 := Option.some.inj e; omega) (.int .i64 (max C1 Y)))
          clear hb5 hb6 oT
          rw [show ((1 : Nat) : Int) = 1 from rfl]
          go_wp2_with fail
          go_roundw
          case rel => exact ⟨2, by omega, by go_num, HB5.out, HB6.out, HO.out, Ext.setNew (Ext.setNew hE (Nat.le_refl _) _) (by simp) _⟩
          case measure => simp [intOf]
        · simp only [Nat.reduceLeDiff, if_true, if_false, Nat.le_refl] at hb5 hb6
          go_wp2_with fail
          go_roundw
          case rel => exact ⟨i + 1, by omega, by go_num, by rw [S.out.1, S.out.2.2.1]; exact hb5, by rw [S.out.2.1, S.out.2.2.2]; exact hb6, oT, hE⟩
          case measure => simp [intOf]; omega
    · have hi2 : i = ts.length := by omega
      rw [hi2, List.take_length] at b1 b2 b3 b4 b5 b6 b7 b8 hb5 hb6
      obtain ⟨R0, e1⟩ : ∃ x, x = minF (· / 5) 5 ts := ⟨_, rfl⟩
      obtain ⟨R1, e2⟩ : ∃ x, x = maxF (· / 5) 0 ts := ⟨_, rfl⟩
      obtain ⟨C0, e3⟩ : ∃ x, x = minF (· % 5) 5 ts := ⟨_, rfl⟩
      obtain ⟨C1, e4⟩ : ∃ x, x = maxF (· % 5) 0 ts := ⟨_, rfl⟩
      rw [← e1] at b1 b2 hb5 HL
      rw [← e2] at b3 b4 hb6 HL
      rw [← e3] at b5 b6 hb5 HL
      rw [← e4] at b7 b8 hb6 HL
      have c0 := hb5.cell (i := 0) rfl
      have c1 := hb5.cell (i := 1) rfl
      have d0 := hb6.cell (i := 0) rfl
      have d1 := hb6.cell (i := 1) rfl
      clear e1 e2 e3 e4 hi2
      go_wp2_with fail
      go_ret
      exact ⟨by rw [HL.out]; rfl, E0.trans hE⟩
end Go.Proofs.Ytgialedmbmfejaa
