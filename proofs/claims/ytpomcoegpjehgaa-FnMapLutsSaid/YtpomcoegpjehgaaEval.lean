/- Contracts: the values of a circuit's variables, the program's way. -/
import Derived.Test.YtpomcoegpjehgaaVal
import Derived.Test.YtpomcoegpjehgaaOwn
import Derived.Test.YtpomcoegpjehgaaBoolG
import Derived.Laws.CopyOwn
namespace Go.Proofs.Ytpomcoegpjehgaa
open Go.RowKit
set_option maxRecDepth 100000
set_option linter.unusedVariables false
set_option linter.unusedSimpArgs false
theorem row_src {w : World} {a : Option Addr} {cs : List Value} (h : RowAt w a cs) (h0 : 0 < cs.length) : ∃ ad, a = some ad ∧ ∀ j v, cs[j]? = some v → w.cell? (ad.add j) = some v := by
  rcases h with rfl | ⟨b, o, rfl, hb, hc⟩
  · simp at h0
  · refine ⟨_, rfl, fun j v hj => ?_⟩
    have : (⟨b, o, none⟩ : Addr).add j = ⟨b, o + j, none⟩ := by unfold Addr.add; split <;> simp_all
    rw [this]; exact hc j v hj
theorem litValue_c (a : Option Addr) (c n : Nat) (vs : List Bool) (hn : vs.length = n) (l : Int) (w : World) (hv : BoolsAt w a vs) (h0 : 0 ≤ l) (h1 : l < 2 * (n : Int)) (hl : n ≤ 1048576) :
    Calls Try.prog 112 #[.slice a n c, .int .i64 l] w fun e w' => e = .returned (.bool (litV vs l)) ∧ w = w' := by
  subst hn
  obtain ⟨b, o, rfl, hb, hc⟩ := hv.get (by omega)
  have q := hc (l / 2).toNat (by omega)
  have ha := and_one l h0 (by omega)
  have E : Hid (litV vs l = (vs.getD (l / 2).toNat false != (l % 2 == 1))) := Lib.hid rfl
  obtain ⟨x, hx⟩ : ∃ x, x = vs.getD (l / 2).toNat false := ⟨_, rfl⟩
  rw [← hx] at q E
  clear hc hx
  go_enter Try.func112, Try.ntmps112
  go_wp2
  go_ret
  exact ⟨by rw [E.out]; rfl, rfl⟩
def EvalRel (w : World) (s : Int) (v : Bool) (ins st : List Bool) (gs : List (Int × Int)) (B : Nat) (u : Value) (wr : World) : Prop :=
  ∃ k : Nat, k ≤ gs.length ∧ u = .int .i64 k ∧ Blk wr B 4 ((arrB s v ins st gs k).map Value.bool) ∧ Ext w wr
theorem boolSize : (Try.prog.info? 4).map (·.size) = some 1 := by kernel_rfl
theorem oneCell_b (xs : List Bool) : ∀ u ∈ xs.map Value.bool, u.oneCell' = true := oneCell_bools xs
theorem litB_iff' {l n : Int} : litB l n = true ↔ 0 ≤ l ∧ l < 2 * n := by simp [litB]
theorem fill_eq (N o1 o2 : Nat) (ins st : List Bool) (G : Nat) (hN : N = 1 + ins.length + st.length + G) (h1 : (1 : Int) < N → o1 = (1 : Int).toNat * 1) (h2 : (1 + (ins.length : Int)) < N → o2 = (1 + (ins.length : Int)).toNat * 1) :
    splice (splice (zeros [Value.bool false] N) o1 (ins.map Value.bool)) o2 (st.map Value.bool) = (false :: (ins ++ st ++ List.replicate G false)).map Value.bool := by
  rw [zeros_one, splice_one (Value.bool false) N o1 (ins.map Value.bool) (by rw [List.length_map]; omega) (fun h => by rw [h1 (by omega)]; rfl)]
  rw [splice_two (Value.bool false) N o2 (ins.map Value.bool) (st.map Value.bool) (by rw [List.length_map, List.length_map]; omega) (fun h => by rw [List.length_map] at h ⊢; rw [h2 (by omega)]; omega)]
  have e : N - 1 - (ins.map Value.bool).length - (st.map Value.bool).length = G := by rw [List.length_map, List.length_map]; omega
  rw [e]; simp
set_option maxHeartbeats 2000000 in
theorem evaluateNeg_c (b : Nat) (c : Circ) (p : Where3) (sa ia : Option Addr) (sc ic : Nat) (st ins : List Bool) (s : Int) (v : Bool) (w : World) (hb : CircBox w b c p) (hc : CircAt w c p) (V : c.Valid)
    (hs : BoolsAt w sa st) (hi : BoolsAt w ia ins) (ls : st.length = c.next.length) (li : (ins.length : Int) = c.inputs) (hs0 : s < c.vars) (h : s < 0) :
    Calls Try.prog 87 #[.pointer (some ⟨b, 0, none⟩), .slice sa st.length sc, .slice ia ins.length ic, .int .i64 s, .bool v] w (MadeBools w (sVals s v ins st c.gates)) := by
  have hi0 := V.i0
  have hi4 := V.i4
  have ln := V.ln
  have lg := V.lg
  obtain ⟨N, hN⟩ : ∃ N, N = 1 + ins.length + st.length + c.gates.length := ⟨_, rfl⟩
  have hvv : c.vars = (N : Int) := by unfold Circ.vars Circ.first; omega
  obtain ⟨F, hF⟩ : ∃ F, F = 1 + ins.length + st.length := ⟨_, rfl⟩
  have HF := Lib.hid hF
  have hff : c.first = (F : Int) := by unfold Circ.first; omega
  have hF1 : 1 + ins.length + st.length ≤ F := by omega
  have hF2 : F ≤ 1 + ins.length + st.length := by omega
  clear hF
  have HN := Lib.hid hN
  have hN1 : 1 + ins.length + st.length + c.gates.length ≤ N := by omega
  have hN2 : N ≤ 1 + ins.length + st.length + c.gates.length := by omega
  clear hN
  rw [hvv] at hs0
  have HFF := Lib.hid hff
  clear hff
  obtain ⟨an, cn, ag, cg, ao, co⟩ := p
  (obtain ⟨lb, b0, b1, b2, b3⟩ := (id hb))
  dsimp only at b0 b1 b2 b3
  rw [← li] at b0
  have LI := Lib.hid li
  have li1 : (ins.length : Int) ≤ c.inputs := by omega
  have li2 : c.inputs ≤ (ins.length : Int) := by omega
  have ls1 : st.length ≤ c.next.length := by omega
  have ls2 : c.next.length ≤ st.length := by omega
  clear li ls
  have A0 := arrB_none v ins st c.gates s h
  have AH := Lib.hid A0
  clear A0
  have hne : ¬ b = w.heap.size := by omega
  go_enter Try.func87, Try.ntmps87
  go_wp2_with fail
  refine (vars_c b c ⟨an, cn, ag, cg, ao, co⟩ _ hb hi0 (by omega) (by omega) (by omega)).mono ?_
  rintro e w1 ⟨rfl, nd, rfl⟩
  rw [hvv]
  have HVV := Lib.hid hvv
  clear hvv
  have hm := run_zeros' (P := Try.prog) 52 4 (.bool false) [.bool false] 1 Try.underlying52 boolInfo' rfl (by decide) (by decide) N (by omega) (w.drewN nd)
  have L0 := Blk.at (w.drewN nd) (zeros [Value.bool false] N) 4 (B := w.heap.size) (by simp)
  have E1 : Ext w ((w.drewN nd).alloc (.cells (zeros [Value.bool false] N).toArray 4)) := (Ext.drewN w nd).alloc _
  have hir := (hi.ext E1).row
  obtain ⟨o1, ho1, hq1, hs1⟩ := run_from Try.underlying52 boolSize w.heap.size N N 1 (by omega) (by omega)
  obtain ⟨o2, ho2, hq2, hs2⟩ := run_from Try.underlying52 boolSize w.heap.size N N (1 + (ins.length : Int)) (by omega) (by omega)
  have hl0 : (zeros [Value.bool false] N).length = N := by rw [zeros_length]; simp
  rw [Nat.mul_one] at hq1 hq2
  have hll : (splice (zeros [Value.bool false] N) o1 (ins.map Value.bool)).length = N := (length_splice _ _ _ (by rw [List.length_map]; omega)).trans hl0
  have HE := Lib.hid (fill_eq N o1 o2 ins st c.gates.length HN.out ho1 ho2)
  clear ho1 ho2
  go_wp2_with (first | (refine wpList_copy_splice rfl (.tmp 19) (.tmp 20) 52 52 rfl 4 Try.underlying52 boolSize _ ia _ _ ins.length ic (by rfl) (by rfl) w.heap.size o1 (zeros [Value.bool false] N) 4 L0 (ins.map Value.bool) (by rw [List.length_map]; exact (Nat.min_eq_left (by omega)).symm) (fun h0 => ⟨rfl, row_src hir h0⟩) (by rw [List.length_map]; omega) (oneCell_bools _) w.heap.size w E1 (Nat.le_refl _) ?_; intro w2 H2 hE2; obtain ⟨lz, z0, z1, z2, z3⟩ := CircBox.ext hb hE2; dsimp only at z0 z1 z2 z3; rw [← LI.out] at z0) | (refine wpList_copy_splice rfl (.tmp 28) (.tmp 29) 52 52 rfl 4 Try.underlying52 boolSize _ sa _ _ st.length sc (by rfl) (by rfl) w.heap.size o2 (splice (zeros [Value.bool false] N) o1 (ins.map Value.bool)) 4 H2.out (st.map Value.bool) (by rw [List.length_map]; exact (Nat.min_eq_left (by omega)).symm) (fun h0 => ⟨rfl, row_src (hs.ext hE2).row h0⟩) (by rw [List.length_map]; omega) (oneCell_bools _) w.heap.size w hE2 (Nat.le_refl _) ?_; intro w3 H3 hE3; rw [HE.out] at H3; have X3 : Ext w w3 := hE3; obtain ⟨ly, y0, y1, y2, y3⟩ := CircBox.ext hb hE3; dsimp only at y0 y1 y2 y3; have B3 : Blk w3 w.heap.size 4 ((false :: (ins ++ st ++ List.replicate c.gates.length false)).map Value.bool) := H3.out; have fz := B3.frozen s.toNat; obtain ⟨u9, q9⟩ : ∃ u, w3.cell? ⟨w.heap.size, s.toNat, none⟩ = some u := ⟨_, B3.cell (List.getElem?_eq_getElem (by simp; omega))⟩))
  go_loopw [42] (EvalRel w s v ins st c.gates w.heap.size) (fun i _ => c.gates.length - (intOf i).toNat)
  case atStart =>
    refine ⟨0, Nat.zero_le _, rfl, ?_, by (repeat (first | with_reducible assumption | with_reducible exact Ext.refl _ | with_reducible refine Ext.drew' ?_ | with_reducible refine Ext.drewN' ?_ _ | with_reducible refine Ext.alloc ?_ _ | (with_reducible refine Ext.setNew ?_ (by first | exact Nat.le_refl _ | (simp; done) | (simp; omega) | omega) _)))⟩
    first | (rw [AH.out]; exact B3) | (rw [← AH.out, map_set]; exact B3.set _ _)
  case round =>
    obtain ⟨k, hk, rfl, hB, hE⟩ := hrel
    clear L0 B3 fz q9 u9 hE3 hE2 H2 H3 lz z0 z1 z2 z3 ly y0 y1 y2 y3 HE hll hl0 hs2 hq2 hs1 hq1 hir E1 hm
    have hbE := hb.ext hE
    by_cases hlt : k < c.gates.length
    · obtain ⟨b9, o9, hag, hb9, hg1, hg2⟩ := (hc.ext hE).gs.get (by omega)
      dsimp only at hag
      subst hag
      have q1 := hg1 k hlt
      have q2 := hg2 k hlt
      have hv := V.gs k hlt
      rw [HFF.out] at hv
      obtain ⟨va, vb⟩ := hv
      have va := litB_iff'.1 va
      have vb := litB_iff'.1 vb
      obtain ⟨va1, va2⟩ := va
      obtain ⟨vb1, vb2⟩ := vb
      have st1 := arrB_stuck s v ins st c.gates k hlt
      have st2 := arrB_step s v ins st c.gates k hlt
      rw [← HF.out] at st1 st2
      have e1 := arrB_lit s v ins st c.gates k hk (c.gates.getD k (0, 0)).1 (by omega)
      have e2 := arrB_lit s v ins st c.gates k hk (c.gates.getD k (0, 0)).2 (by omega)
      have hlen := arrB_length s v ins st c.gates k hk
      obtain ⟨ga, hga⟩ : ∃ x, x = (c.gates.getD k (0, 0)).1 := ⟨_, rfl⟩
      obtain ⟨gb, hgb⟩ : ∃ x, x = (c.gates.getD k (0, 0)).2 := ⟨_, rfl⟩
      rw [← hga] at q1 va1 va2 st2 e1
      rw [← hgb] at q2 vb1 vb2 st2 e2
      obtain ⟨xs, hxs⟩ : ∃ xs, xs = arrB s v ins st c.gates k := ⟨_, rfl⟩
      rw [← hxs] at hB e1 e2 hlen st1 st2
      rw [← e1, ← e2] at st2
      have hBlt : w.heap.size < wr.heap.size := hB.lt
      have hlen2 : xs.length = N := by rw [hlen, ← HN.out]
      have HLEN := Lib.hid hlen2
      have HST1 := Lib.hid st1
      have HST2 := Lib.hid st2
      have zz : ∃ u, wr.cell? ⟨w.heap.size, F + k, none⟩ = some u := ⟨_, hB.cell (List.getElem?_eq_getElem (by rw [List.length_map]; omega))⟩
      obtain ⟨uu, zz⟩ := zz
      have fz := hB.frozen (F + k)
      clear hga hgb hxs hg1 hg2 e1 e2 hlen hlen2 st1 st2
      have hg0 : ¬ w.heap.size = wr.heap.size := by omega
      have id1 : ((F : Int) + (k : Int)).toNat = F + k := by omega
      go_wp2_with fail
      refine (firstGate_c b c ⟨an, cn, some ⟨b9, o9, none⟩, cg, ao, co⟩ _ (hbE.ext (by (repeat (first | with_reducible assumption | with_reducible exact Ext.refl _ | with_reducible refine Ext.drew' ?_ | with_reducible refine Ext.drewN' ?_ _ | with_reducible refine Ext.alloc ?_ _ | (with_reducible refine Ext.setNew ?_ (by first | exact Nat.le_refl _ | (simp; done) | (simp; omega) | omega) _))))) hi0 (by omega) (by omega)).mono ?_
      rw [HFF.out]
      rintro e w5 ⟨rfl, nn, rfl⟩
      by_cases he : ((F + k : Nat) : Int) = s
      · have hx : (((F : Int) + (k : Int)) != s) = false := by simp; omega
        have hst := HST1.out he
        have HH := Lib.hid hst
        clear he hst
        go_wp2
        go_roundw
        case rel =>
          refine ⟨k + 1, by omega, by go_num, ?_, by (repeat (first | with_reducible assumption | with_reducible exact Ext.refl _ | with_reducible refine Ext.drew' ?_ | with_reducible refine Ext.drewN' ?_ _ | with_reducible refine Ext.alloc ?_ _ | (with_reducible refine Ext.setNew ?_ (by first | exact Nat.le_refl _ | (simp; done) | (simp; omega) | omega) _)))⟩
          rw [HH.out]
          exact (hB.alloc _).drewN _
        case measure => simp [intOf]; omega
      · have hx : (((F : Int) + (k : Int)) != s) = true := by simp; omega
        have hst := HST2.out he
        have HH := Lib.hid hst
        clear he hst
        cases hva : litV xs ga
        all_goals cases hvb : litV xs gb
        all_goals go_wp2_with (go_at_call 112; refine (litValue_c _ _ N xs HLEN.out _ _ (hB.bools.ext (by (repeat (first | with_reducible assumption | with_reducible exact Ext.refl _ | with_reducible refine Ext.drew' ?_ | with_reducible refine Ext.drewN' ?_ _ | with_reducible refine Ext.alloc ?_ _ | (with_reducible refine Ext.setNew ?_ (by first | exact Nat.le_refl _ | (simp; done) | (simp; omega) | omega) _))))) (by omega) (by omega) (by omega)).mono ?_; rintro e w6 ⟨rfl, rfl⟩)
        all_goals go_roundw
        case rel =>
          refine ⟨k + 1, by omega, by go_num, ?_, by (repeat (first | with_reducible assumption | with_reducible exact Ext.refl _ | with_reducible refine Ext.drew' ?_ | with_reducible refine Ext.drewN' ?_ _ | with_reducible refine Ext.alloc ?_ _ | (with_reducible refine Ext.setNew ?_ (by first | exact Nat.le_refl _ | (simp; done) | (simp; omega) | omega) _)))⟩
          rw [← HH.out, hva, hvb, map_set]
          exact ((hB.alloc _).drewN _).set _ _
        case measure => simp [intOf]; omega
        case rel =>
          refine ⟨k + 1, by omega, by go_num, ?_, by (repeat (first | with_reducible assumption | with_reducible exact Ext.refl _ | with_reducible refine Ext.drew' ?_ | with_reducible refine Ext.drewN' ?_ _ | with_reducible refine Ext.alloc ?_ _ | (with_reducible refine Ext.setNew ?_ (by first | exact Nat.le_refl _ | (simp; done) | (simp; omega) | omega) _)))⟩
          rw [← HH.out, hva, hvb, map_set]
          exact ((hB.alloc _).drewN _).set _ _
        case measure => simp [intOf]; omega
        case rel =>
          refine ⟨k + 1, by omega, by go_num, ?_, by (repeat (first | with_reducible assumption | with_reducible exact Ext.refl _ | with_reducible refine Ext.drew' ?_ | with_reducible refine Ext.drewN' ?_ _ | with_reducible refine Ext.alloc ?_ _ | (with_reducible refine Ext.setNew ?_ (by first | exact Nat.le_refl _ | (simp; done) | (simp; omega) | omega) _)))⟩
          rw [← HH.out, hva, hvb, map_set]
          exact ((hB.alloc _).drewN _).set _ _
        case measure => simp [intOf]; omega
        case rel =>
          refine ⟨k + 1, by omega, by go_num, ?_, by (repeat (first | with_reducible assumption | with_reducible exact Ext.refl _ | with_reducible refine Ext.drew' ?_ | with_reducible refine Ext.drewN' ?_ _ | with_reducible refine Ext.alloc ?_ _ | (with_reducible refine Ext.setNew ?_ (by first | exact Nat.le_refl _ | (simp; done) | (simp; omega) | omega) _)))⟩
          rw [← HH.out, hva, hvb, map_set]
          exact ((hB.alloc _).drewN _).set _ _
        case measure => simp [intOf]; omega
    · have hk2 : k = c.gates.length := by omega
      subst hk2
      rw [arrB_all] at hB
      go_wp2
      go_ret
      refine ⟨w.heap.size, ?_, Nat.le_refl _, hB, hE⟩
      rw [sVals_length, ← HN.out]
      rfl
set_option maxHeartbeats 2000000 in
theorem evaluatePos_c (b : Nat) (c : Circ) (p : Where3) (sa ia : Option Addr) (sc ic : Nat) (st ins : List Bool) (s : Int) (v : Bool) (w : World) (hb : CircBox w b c p) (hc : CircAt w c p) (V : c.Valid)
    (hs : BoolsAt w sa st) (hi : BoolsAt w ia ins) (ls : st.length = c.next.length) (li : (ins.length : Int) = c.inputs) (hs0 : s < c.vars) (h : 0 ≤ s) :
    Calls Try.prog 87 #[.pointer (some ⟨b, 0, none⟩), .slice sa st.length sc, .slice ia ins.length ic, .int .i64 s, .bool v] w (MadeBools w (sVals s v ins st c.gates)) := by
  have hi0 := V.i0
  have hi4 := V.i4
  have ln := V.ln
  have lg := V.lg
  obtain ⟨N, hN⟩ : ∃ N, N = 1 + ins.length + st.length + c.gates.length := ⟨_, rfl⟩
  have hvv : c.vars = (N : Int) := by unfold Circ.vars Circ.first; omega
  obtain ⟨F, hF⟩ : ∃ F, F = 1 + ins.length + st.length := ⟨_, rfl⟩
  have HF := Lib.hid hF
  have hff : c.first = (F : Int) := by unfold Circ.first; omega
  have hF1 : 1 + ins.length + st.length ≤ F := by omega
  have hF2 : F ≤ 1 + ins.length + st.length := by omega
  clear hF
  have HN := Lib.hid hN
  have hN1 : 1 + ins.length + st.length + c.gates.length ≤ N := by omega
  have hN2 : N ≤ 1 + ins.length + st.length + c.gates.length := by omega
  clear hN
  rw [hvv] at hs0
  have HFF := Lib.hid hff
  clear hff
  obtain ⟨an, cn, ag, cg, ao, co⟩ := p
  (obtain ⟨lb, b0, b1, b2, b3⟩ := (id hb))
  dsimp only at b0 b1 b2 b3
  rw [← li] at b0
  have LI := Lib.hid li
  have li1 : (ins.length : Int) ≤ c.inputs := by omega
  have li2 : c.inputs ≤ (ins.length : Int) := by omega
  have ls1 : st.length ≤ c.next.length := by omega
  have ls2 : c.next.length ≤ st.length := by omega
  clear li ls
  have A0 := arrB_set v ins st c.gates s h
  have AH := Lib.hid A0
  clear A0
  have hne : ¬ b = w.heap.size := by omega
  go_enter Try.func87, Try.ntmps87
  go_wp2_with fail
  refine (vars_c b c ⟨an, cn, ag, cg, ao, co⟩ _ hb hi0 (by omega) (by omega) (by omega)).mono ?_
  rintro e w1 ⟨rfl, nd, rfl⟩
  rw [hvv]
  have HVV := Lib.hid hvv
  clear hvv
  have hm := run_zeros' (P := Try.prog) 52 4 (.bool false) [.bool false] 1 Try.underlying52 boolInfo' rfl (by decide) (by decide) N (by omega) (w.drewN nd)
  have L0 := Blk.at (w.drewN nd) (zeros [Value.bool false] N) 4 (B := w.heap.size) (by simp)
  have E1 : Ext w ((w.drewN nd).alloc (.cells (zeros [Value.bool false] N).toArray 4)) := (Ext.drewN w nd).alloc _
  have hir := (hi.ext E1).row
  obtain ⟨o1, ho1, hq1, hs1⟩ := run_from Try.underlying52 boolSize w.heap.size N N 1 (by omega) (by omega)
  obtain ⟨o2, ho2, hq2, hs2⟩ := run_from Try.underlying52 boolSize w.heap.size N N (1 + (ins.length : Int)) (by omega) (by omega)
  have hl0 : (zeros [Value.bool false] N).length = N := by rw [zeros_length]; simp
  rw [Nat.mul_one] at hq1 hq2
  have hll : (splice (zeros [Value.bool false] N) o1 (ins.map Value.bool)).length = N := (length_splice _ _ _ (by rw [List.length_map]; omega)).trans hl0
  have HE := Lib.hid (fill_eq N o1 o2 ins st c.gates.length HN.out ho1 ho2)
  clear ho1 ho2
  go_wp2_with (first | (refine wpList_copy_splice rfl (.tmp 19) (.tmp 20) 52 52 rfl 4 Try.underlying52 boolSize _ ia _ _ ins.length ic (by rfl) (by rfl) w.heap.size o1 (zeros [Value.bool false] N) 4 L0 (ins.map Value.bool) (by rw [List.length_map]; exact (Nat.min_eq_left (by omega)).symm) (fun h0 => ⟨rfl, row_src hir h0⟩) (by rw [List.length_map]; omega) (oneCell_bools _) w.heap.size w E1 (Nat.le_refl _) ?_; intro w2 H2 hE2; obtain ⟨lz, z0, z1, z2, z3⟩ := CircBox.ext hb hE2; dsimp only at z0 z1 z2 z3; rw [← LI.out] at z0) | (refine wpList_copy_splice rfl (.tmp 28) (.tmp 29) 52 52 rfl 4 Try.underlying52 boolSize _ sa _ _ st.length sc (by rfl) (by rfl) w.heap.size o2 (splice (zeros [Value.bool false] N) o1 (ins.map Value.bool)) 4 H2.out (st.map Value.bool) (by rw [List.length_map]; exact (Nat.min_eq_left (by omega)).symm) (fun h0 => ⟨rfl, row_src (hs.ext hE2).row h0⟩) (by rw [List.length_map]; omega) (oneCell_bools _) w.heap.size w hE2 (Nat.le_refl _) ?_; intro w3 H3 hE3; rw [HE.out] at H3; have X3 : Ext w w3 := hE3; obtain ⟨ly, y0, y1, y2, y3⟩ := CircBox.ext hb hE3; dsimp only at y0 y1 y2 y3; have B3 : Blk w3 w.heap.size 4 ((false :: (ins ++ st ++ List.replicate c.gates.length false)).map Value.bool) := H3.out; have fz := B3.frozen s.toNat; obtain ⟨u9, q9⟩ : ∃ u, w3.cell? ⟨w.heap.size, s.toNat, none⟩ = some u := ⟨_, B3.cell (List.getElem?_eq_getElem (by simp; omega))⟩))
  go_loopw [42] (EvalRel w s v ins st c.gates w.heap.size) (fun i _ => c.gates.length - (intOf i).toNat)
  case atStart =>
    refine ⟨0, Nat.zero_le _, rfl, ?_, by (repeat (first | with_reducible assumption | with_reducible exact Ext.refl _ | with_reducible refine Ext.drew' ?_ | with_reducible refine Ext.drewN' ?_ _ | with_reducible refine Ext.alloc ?_ _ | (with_reducible refine Ext.setNew ?_ (by first | exact Nat.le_refl _ | (simp; done) | (simp; omega) | omega) _)))⟩
    first | (rw [AH.out]; exact B3) | (rw [← AH.out, map_set]; exact B3.set _ _)
  case round =>
    obtain ⟨k, hk, rfl, hB, hE⟩ := hrel
    clear L0 B3 fz q9 u9 hE3 hE2 H2 H3 lz z0 z1 z2 z3 ly y0 y1 y2 y3 HE hll hl0 hs2 hq2 hs1 hq1 hir E1 hm
    have hbE := hb.ext hE
    by_cases hlt : k < c.gates.length
    · obtain ⟨b9, o9, hag, hb9, hg1, hg2⟩ := (hc.ext hE).gs.get (by omega)
      dsimp only at hag
      subst hag
      have q1 := hg1 k hlt
      have q2 := hg2 k hlt
      have hv := V.gs k hlt
      rw [HFF.out] at hv
      obtain ⟨va, vb⟩ := hv
      have va := litB_iff'.1 va
      have vb := litB_iff'.1 vb
      obtain ⟨va1, va2⟩ := va
      obtain ⟨vb1, vb2⟩ := vb
      have st1 := arrB_stuck s v ins st c.gates k hlt
      have st2 := arrB_step s v ins st c.gates k hlt
      rw [← HF.out] at st1 st2
      have e1 := arrB_lit s v ins st c.gates k hk (c.gates.getD k (0, 0)).1 (by omega)
      have e2 := arrB_lit s v ins st c.gates k hk (c.gates.getD k (0, 0)).2 (by omega)
      have hlen := arrB_length s v ins st c.gates k hk
      obtain ⟨ga, hga⟩ : ∃ x, x = (c.gates.getD k (0, 0)).1 := ⟨_, rfl⟩
      obtain ⟨gb, hgb⟩ : ∃ x, x = (c.gates.getD k (0, 0)).2 := ⟨_, rfl⟩
      rw [← hga] at q1 va1 va2 st2 e1
      rw [← hgb] at q2 vb1 vb2 st2 e2
      obtain ⟨xs, hxs⟩ : ∃ xs, xs = arrB s v ins st c.gates k := ⟨_, rfl⟩
      rw [← hxs] at hB e1 e2 hlen st1 st2
      rw [← e1, ← e2] at st2
      have hBlt : w.heap.size < wr.heap.size := hB.lt
      have hlen2 : xs.length = N := by rw [hlen, ← HN.out]
      have HLEN := Lib.hid hlen2
      have HST1 := Lib.hid st1
      have HST2 := Lib.hid st2
      have zz : ∃ u, wr.cell? ⟨w.heap.size, F + k, none⟩ = some u := ⟨_, hB.cell (List.getElem?_eq_getElem (by rw [List.length_map]; omega))⟩
      obtain ⟨uu, zz⟩ := zz
      have fz := hB.frozen (F + k)
      clear hga hgb hxs hg1 hg2 e1 e2 hlen hlen2 st1 st2
      have hg0 : ¬ w.heap.size = wr.heap.size := by omega
      have id1 : ((F : Int) + (k : Int)).toNat = F + k := by omega
      go_wp2_with fail
      refine (firstGate_c b c ⟨an, cn, some ⟨b9, o9, none⟩, cg, ao, co⟩ _ (hbE.ext (by (repeat (first | with_reducible assumption | with_reducible exact Ext.refl _ | with_reducible refine Ext.drew' ?_ | with_reducible refine Ext.drewN' ?_ _ | with_reducible refine Ext.alloc ?_ _ | (with_reducible refine Ext.setNew ?_ (by first | exact Nat.le_refl _ | (simp; done) | (simp; omega) | omega) _))))) hi0 (by omega) (by omega)).mono ?_
      rw [HFF.out]
      rintro e w5 ⟨rfl, nn, rfl⟩
      by_cases he : ((F + k : Nat) : Int) = s
      · have hx : (((F : Int) + (k : Int)) != s) = false := by simp; omega
        have hst := HST1.out he
        have HH := Lib.hid hst
        clear he hst
        go_wp2
        go_roundw
        case rel =>
          refine ⟨k + 1, by omega, by go_num, ?_, by (repeat (first | with_reducible assumption | with_reducible exact Ext.refl _ | with_reducible refine Ext.drew' ?_ | with_reducible refine Ext.drewN' ?_ _ | with_reducible refine Ext.alloc ?_ _ | (with_reducible refine Ext.setNew ?_ (by first | exact Nat.le_refl _ | (simp; done) | (simp; omega) | omega) _)))⟩
          rw [HH.out]
          exact (hB.alloc _).drewN _
        case measure => simp [intOf]; omega
      · have hx : (((F : Int) + (k : Int)) != s) = true := by simp; omega
        have hst := HST2.out he
        have HH := Lib.hid hst
        clear he hst
        cases hva : litV xs ga
        all_goals cases hvb : litV xs gb
        all_goals go_wp2_with (go_at_call 112; refine (litValue_c _ _ N xs HLEN.out _ _ (hB.bools.ext (by (repeat (first | with_reducible assumption | with_reducible exact Ext.refl _ | with_reducible refine Ext.drew' ?_ | with_reducible refine Ext.drewN' ?_ _ | with_reducible refine Ext.alloc ?_ _ | (with_reducible refine Ext.setNew ?_ (by first | exact Nat.le_refl _ | (simp; done) | (simp; omega) | omega) _))))) (by omega) (by omega) (by omega)).mono ?_; rintro e w6 ⟨rfl, rfl⟩)
        all_goals go_roundw
        case rel =>
          refine ⟨k + 1, by omega, by go_num, ?_, by (repeat (first | with_reducible assumption | with_reducible exact Ext.refl _ | with_reducible refine Ext.drew' ?_ | with_reducible refine Ext.drewN' ?_ _ | with_reducible refine Ext.alloc ?_ _ | (with_reducible refine Ext.setNew ?_ (by first | exact Nat.le_refl _ | (simp; done) | (simp; omega) | omega) _)))⟩
          rw [← HH.out, hva, hvb, map_set]
          exact ((hB.alloc _).drewN _).set _ _
        case measure => simp [intOf]; omega
        case rel =>
          refine ⟨k + 1, by omega, by go_num, ?_, by (repeat (first | with_reducible assumption | with_reducible exact Ext.refl _ | with_reducible refine Ext.drew' ?_ | with_reducible refine Ext.drewN' ?_ _ | with_reducible refine Ext.alloc ?_ _ | (with_reducible refine Ext.setNew ?_ (by first | exact Nat.le_refl _ | (simp; done) | (simp; omega) | omega) _)))⟩
          rw [← HH.out, hva, hvb, map_set]
          exact ((hB.alloc _).drewN _).set _ _
        case measure => simp [intOf]; omega
        case rel =>
          refine ⟨k + 1, by omega, by go_num, ?_, by (repeat (first | with_reducible assumption | with_reducible exact Ext.refl _ | with_reducible refine Ext.drew' ?_ | with_reducible refine Ext.drewN' ?_ _ | with_reducible refine Ext.alloc ?_ _ | (with_reducible refine Ext.setNew ?_ (by first | exact Nat.le_refl _ | (simp; done) | (simp; omega) | omega) _)))⟩
          rw [← HH.out, hva, hvb, map_set]
          exact ((hB.alloc _).drewN _).set _ _
        case measure => simp [intOf]; omega
        case rel =>
          refine ⟨k + 1, by omega, by go_num, ?_, by (repeat (first | with_reducible assumption | with_reducible exact Ext.refl _ | with_reducible refine Ext.drew' ?_ | with_reducible refine Ext.drewN' ?_ _ | with_reducible refine Ext.alloc ?_ _ | (with_reducible refine Ext.setNew ?_ (by first | exact Nat.le_refl _ | (simp; done) | (simp; omega) | omega) _)))⟩
          rw [← HH.out, hva, hvb, map_set]
          exact ((hB.alloc _).drewN _).set _ _
        case measure => simp [intOf]; omega
    · have hk2 : k = c.gates.length := by omega
      subst hk2
      rw [arrB_all] at hB
      go_wp2
      go_ret
      refine ⟨w.heap.size, ?_, Nat.le_refl _, hB, hE⟩
      rw [sVals_length, ← HN.out]
      rfl
theorem evaluate_c (b : Nat) (c : Circ) (p : Where3) (sa ia : Option Addr) (sc ic : Nat) (st ins : List Bool) (s : Int) (v : Bool) (w : World) (hb : CircBox w b c p) (hc : CircAt w c p) (V : c.Valid)
    (hs : BoolsAt w sa st) (hi : BoolsAt w ia ins) (ls : st.length = c.next.length) (li : (ins.length : Int) = c.inputs) (hs0 : s < c.vars) :
    Calls Try.prog 87 #[.pointer (some ⟨b, 0, none⟩), .slice sa st.length sc, .slice ia ins.length ic, .int .i64 s, .bool v] w (MadeBools w (sVals s v ins st c.gates)) := by
  by_cases h : s < 0
  · exact evaluateNeg_c b c p sa ia sc ic st ins s v w hb hc V hs hi ls li hs0 h
  · exact evaluatePos_c b c p sa ia sc ic st ins s v w hb hc V hs hi ls li hs0 (by omega)
end Go.Proofs.Ytpomcoegpjehgaa
