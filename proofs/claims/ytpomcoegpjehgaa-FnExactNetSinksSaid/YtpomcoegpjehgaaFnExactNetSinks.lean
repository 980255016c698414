/- The exact law of NetSinks. No condition. -/
import Derived.Test.YtpomcoegpjehgaaRep
import Derived.Test.YtpomcoegpjehgaaCirc
import Derived.Test.YtpomcoegpjehgaaFrame
import Derived.Test.YtpomcoegpjehgaaBCel
namespace Go.Proofs.Ytpomcoegpjehgaa
open Go.RowKit
set_option maxRecDepth 100000
set_option linter.unusedVariables false
set_option linter.unusedSimpArgs false
/-- The cells that use a net, in ascending order. -/
def sinkL (cs : List CellT) (net : Int) (k : Nat) : List Int := ((List.range k).filter (fun i => (cs.getD i cell0).ins.contains net)).map (fun (i : Nat) => (i : Int))
noncomputable def sinksV (c : Circ) (net : Int) : List Int := sinkL (cellsV c) net (cellsV c).length
theorem sinkL_succ (cs : List CellT) (net : Int) (k : Nat) : sinkL cs net (k + 1) = sinkL cs net k ++ if (cs.getD k cell0).ins.contains net then [(k : Int)] else [] := by
  unfold sinkL
  rw [List.range_succ, List.filter_append, List.map_append]
  congr 1
  rw [List.filter_cons, List.filter_nil]
  cases h : (cs.getD k cell0).ins.contains net <;> rfl
theorem sinkL_le (cs : List CellT) (net : Int) (k : Nat) : (sinkL cs net k).length ≤ k := by
  induction k with
  | zero => simp [sinkL]
  | succ k ih => rw [sinkL_succ]; split <;> simp <;> omega
set_option maxHeartbeats 2000000 in
theorem indexI_c (a : Option Addr) (cap : Nat) (S : List Int) (v : Int) (w : World) (hS : IntsAt w a S) (hl : S.length ≤ 1000) :
    Calls Try.prog 113 #[.slice a S.length cap, .int .i64 v] w fun e w' => (∃ i : Int, e = .returned (.int .i64 i) ∧ -1 ≤ i ∧ i ≤ 1000 ∧ decide (0 ≤ i) = S.contains v) ∧ Ext w w' := by
  have HM : Hid (∀ j, j < S.length → S.getD j 0 = v → S.contains v = true) := Lib.hid (fun j hj e => by
    have := getN_mem (d := 0) hj
    rw [e] at this
    simpa using this)
  go_enter Try.func113, Try.ntmps113
  go_wp2_with fail
  go_loopw [8] (fun u8 wr => ∃ j : Nat, j ≤ S.length ∧ u8 = .int .i64 j ∧ Hid (∀ i, i < j → S.getD i 0 ≠ v) ∧ Ext w wr) (fun u _ => S.length - (intOf u).toNat)
  case atStart => exact ⟨0, Nat.zero_le _, rfl, Lib.hid (fun i hi => absurd hi (Nat.not_lt_zero i)), Ext.refl _⟩
  case round =>
    obtain ⟨j, hj, rfl, HN, hE⟩ := hrel
    by_cases hlt : j < S.length
    · obtain ⟨b, o, rfl, hb, hc⟩ := (hS.ext hE).get (by omega)
      have q1 := hc j hlt
      have hm : S.getD j 0 = v → S.contains v = true := HM.out j hlt
      obtain ⟨z, hz⟩ : ∃ z, z = S.getD j 0 := ⟨_, rfl⟩
      rw [← hz] at q1 hm
      have HZ := Lib.hid hz
      have HMM := Lib.hid hm
      clear hc hz hm
      by_cases he : v = z
      · have HCN := Lib.hid (HMM.out he.symm)
        clear HMM
        subst he
        go_wp2_with fail
        go_ret
        exact ⟨⟨j, rfl, by omega, by omega, by rw [HCN.out]; simp⟩, hE⟩
      · have he2 : (v == z) = false := by simp [he]
        go_wp2_with fail
        go_roundw
        case rel => exact ⟨j + 1, by omega, by go_num, Lib.hid (fun i hi => by
          rcases Nat.lt_or_ge i j with h | h
          · exact HN.out i h
          · have : i = j := by omega
            subst this
            rw [← HZ.out]; exact fun e => he e.symm), hE⟩
        case measure => simp [intOf]; omega
    · go_wp2_with fail
      go_ret
      refine ⟨⟨-1, rfl, by omega, by omega, ?_⟩, hE⟩
      rw [decide_eq_false (by omega)]
      symm
      rw [Bool.eq_false_iff]
      intro h
      have hm : v ∈ S := by simpa using h
      obtain ⟨i, hi, e⟩ := mem_getN (d := 0) hm
      exact HN.out i (by omega) e
theorem containsI_c (a : Option Addr) (cap : Nat) (S : List Int) (v : Int) (w : World) (hS : IntsAt w a S) (hl : S.length ≤ 1000) :
    Calls Try.prog 92 #[.slice a S.length cap, .int .i64 v] w fun e w' => e = .returned (.bool (S.contains v)) ∧ Ext w w' := by
  go_enter Try.func92, Try.ntmps92
  go_wp2_with fail
  refine (indexI_c a cap S v _ hS hl).mono ?_
  rintro e w1 ⟨⟨i, rfl, hi0, hi1, hi⟩, hE1⟩
  have HI := Lib.hid hi
  clear hi
  go_wp2
  go_ret
  exact ⟨by rw [← HI.out]; rfl, hE1⟩
theorem cells_sm (c : Circ) : (cellsV c).length ≤ 17 ∧ ∀ x ∈ cellsV c, x.ins.length ≤ 3 := by
  cases hv : validB c
  · have e : cellsV c = [] := by unfold cellsV; rw [hv]; rfl
    rw [e]
    exact ⟨by simp, by simp⟩
  · have V := validB_iff.1 hv
    have e : cellsV c = latchK c c.next.length ++ ((lutK c c.vars.toNat c.gates.length).2).map lutCell := by unfold cellsV; rw [hv]; rfl
    have hi0 := V.i0
    have h1 := lutK_sm V (n := c.vars.toNat) (by unfold Circ.vars Circ.first; omega) c.gates.length (Nat.le_refl _)
    have h2 := lutK_count c c.vars.toNat c.gates.length
    have lg := V.lg
    have ln := V.ln
    have hll := latchK_length c c.next.length
    rw [e]
    refine ⟨by rw [List.length_append, List.length_map]; omega, fun x hx => ?_⟩
    rcases List.mem_append.1 hx with h | h
    · obtain ⟨i, _, rfl⟩ := List.mem_map.1 h
      unfold latchCell
      split <;> simp
    · obtain ⟨y, hy, rfl⟩ := List.mem_map.1 h
      exact h1 y hy
set_option maxHeartbeats 4000000 in
theorem implNetSinks_c (c : Circ) (p : Where3) (net : Int) (w : World) (hc : CircAt w c p) :
    Calls Try.prog 44 #[.agg #[.int .i64 c.inputs, .slice p.an c.next.length p.cn, .slice p.ag c.gates.length p.cg, .slice p.ao c.outs.length p.co], .int .i64 net] w (GiveNL w (sinksV c net)) := by
  have E0 : Ext w (w.alloc (.cells #[.int .i64 c.inputs, .slice p.an c.next.length p.cn, .slice p.ag c.gates.length p.cg, .slice p.ao c.outs.length p.co] 26)) := (Ext.refl w).alloc _
  have y := CircBox.made w c p 26
  obtain ⟨hn17, hs3⟩ := cells_sm c
  obtain ⟨D, hD⟩ : ∃ D, D = sinksV c net := ⟨_, rfl⟩
  rw [← hD]
  obtain ⟨cs, hcs⟩ : ∃ cs, cs = cellsV c := ⟨_, rfl⟩
  have HDD : Hid (D = sinkL cs net cs.length) := Lib.hid (by rw [hD, hcs]; rfl)
  rw [← hcs] at hn17 hs3
  have HS3 := Lib.hid hs3
  have HCS := Lib.hid hcs
  clear hD hcs hs3
  (obtain ⟨lb, b0, b1, b2, b3⟩ := (id y))
  go_enter Try.func44, Try.ntmps44
  go_wp2_with fail
  refine (implCells_c c p _ (hc.ext E0)).mono ?_
  rw [← HCS.out]
  rintro e w1 ⟨cv, F, rfl, hN, _, hE1⟩
  have E1 := E0.trans hE1
  obtain ⟨ca, cc, rfl, _⟩ := hN.sl
  have HN := Lib.hid hN
  clear b0 b1 b2 b3 lb y hN
  go_wp2_with fail
  go_loopw [5, 11] (fun u5 u11 wr => ∃ k : Nat, k ≤ cs.length ∧ u11 = .int .i64 k ∧ OwnInts wr w1.heap.size 3 u5 (sinkL cs net k) ∧ Ext w1 wr) (fun _ v _ => cs.length - (intOf v).toNat)
  case atStart => exact ⟨0, Nat.zero_le _, rfl, ownsRow_nil, Ext.refl _⟩
  case round =>
    obtain ⟨k, hk, rfl, hO, hE⟩ := hrel
    obtain ⟨w2, rfl⟩ : ∃ z : World, z = wr := ⟨_, rfl⟩
    by_cases hlt : k < cs.length
    · obtain ⟨g, rfl, hg, _, hcells⟩ := Nst.getN goodCell (HN.out.ext goodCell hE) (by omega)
      obtain ⟨ds, F1, ⟨v, rfl, o1, rfl⟩, q, _⟩ := hcells k cell0 hlt
      have r0 := q 0 _ (by omega) rfl
      have r1 := q 1 _ (by omega) rfl
      have r2 := q 2 _ (by omega) rfl
      have r3 := q 3 _ (by omega) rfl
      rw [Nat.add_zero] at r0
      have hsn := sinkL_succ cs net k
      have hle := sinkL_le cs net k
      have hl3 := HS3.out _ (getN_mem (d := cell0) hlt)
      obtain ⟨x, hx⟩ : ∃ x, x = cs.getD k cell0 := ⟨_, rfl⟩
      rw [← hx] at r0 r2 r3 o1 hsn hl3
      obtain ⟨va, vc, rfl, hI, _⟩ := o1.opened
      obtain ⟨S, hS⟩ : ∃ S, S = sinkL cs net k := ⟨_, rfl⟩
      rw [← hS] at hO hle hsn
      have HSN := Lib.hid hsn
      have hsz := hE.size
      clear hx hS hsn q hcells o1
      go_wp2_with fail
      refine (containsI_c va vc x.ins net _ (hI.ext (by (repeat (first | with_reducible assumption | with_reducible exact Ext.refl _ | with_reducible refine Ext.drew' ?_ | with_reducible refine Ext.drewN' ?_ _ | with_reducible refine Ext.alloc ?_ _ | (with_reducible refine Ext.setNew ?_ (by first | exact Nat.le_refl _ | (simp; done) | (simp; omega) | omega) _))))) (by omega)).mono ?_
      rintro e w5 ⟨rfl, hE5⟩
      obtain ⟨E25, hsz5⟩ : Ext w2 w5 ∧ w2.heap.size ≤ w5.heap.size := by
        have h : Ext w2 w5 := Ext.trans (by (repeat (first | with_reducible assumption | with_reducible exact Ext.refl _ | with_reducible refine Ext.drew' ?_ | with_reducible refine Ext.drewN' ?_ _ | with_reducible refine Ext.alloc ?_ _ | (with_reducible refine Ext.setNew ?_ (by first | exact Nat.le_refl _ | (simp; done) | (simp; omega) | omega) _)))) hE5
        exact ⟨h, h.size⟩
      have hO5 : OwnInts w5 w1.heap.size 3 u5 S := ownsRow_ext hO E25
      have E5 := hE.trans E25
      obtain ⟨B, hB⟩ : ∃ B, B = x.ins.contains net := ⟨_, rfl⟩
      rw [← hB] at HSN
      rw [← hB]
      clear hO hE5 hB r0 r1 r2 r3
      cases B
      · go_wp2_with fail
        go_roundw
        case rel => exact ⟨k + 1, by omega, by go_num, by rw [HSN.out]; simpa using hO5, E5⟩
        case measure => simp [intOf]; omega
      · go_wp2_with (at_builtin; refine wpList_app tyInts (ownsRow_ext hO5 (by (repeat (first | with_reducible assumption | with_reducible exact Ext.refl _ | with_reducible refine Ext.drew' ?_ | with_reducible refine Ext.drewN' ?_ _ | with_reducible refine Ext.alloc ?_ _ | (with_reducible refine Ext.setNew ?_ (by first | exact Nat.le_refl _ | (simp; done) | (simp; omega) | omega) _))))) (rowNew _ _ _ (by simp)) rfl (by simp [Value.oneCell']) (by omega) (by simp; omega) rfl rfl rfl rfl ?_; intro v9 w9 o9 g9 m9)
        have E9 : Ext w1 w9 := ext_grown (w1 := _) (Ext.trans E5 (by (repeat (first | with_reducible assumption | with_reducible exact Ext.refl _ | with_reducible refine Ext.drew' ?_ | with_reducible refine Ext.drewN' ?_ _ | with_reducible refine Ext.alloc ?_ _ | (with_reducible refine Ext.setNew ?_ (by first | exact Nat.le_refl _ | (simp; done) | (simp; omega) | omega) _))))) g9 (fun q hq => (own_lo hO5 q hq).1)
        have O9 : OwnInts w9 w1.heap.size 3 v9 (S ++ [(k : Int)]) := own_app (xs := S) (ys := [(k : Int)]) rfl rfl o9
        go_roundw
        case rel => exact ⟨k + 1, by omega, by go_num, by rw [HSN.out]; exact O9, E9⟩
        case measure => simp [intOf]; omega
    · have hk2 : k = cs.length := by omega
      rw [hk2, ← HDD.out] at hO
      go_wp2_with fail
      go_ret
      refine ⟨_, rfl, ownsRow_base hO E1.size, E1.trans hE⟩
end Go.Proofs.Ytpomcoegpjehgaa

namespace Go.Proofs.Ytpomcoegpjehgaa
open Go.RowKit
set_option maxRecDepth 100000
set_option linter.unusedVariables false
set_option linter.unusedSimpArgs false
set_option maxHeartbeats 4000000 in
theorem l6Sinks_c (ca : Option Addr) (cc : Nat) (cs : List CellT) (F : List Nat) (net : Int) (w : World) (hN : NstC w (.slice ca cs.length cc) cs F) (hl : cs.length ≤ 17) (hs : ∀ x ∈ cs, Asc x.ins ∧ x.ins.length ≤ 3) :
    Calls Try.prog 93 #[.slice ca cs.length cc, .int .i64 net] w (GiveNL w (sinkL cs net cs.length)) := by
  obtain ⟨D, hD⟩ : ∃ D, D = sinkL cs net cs.length := ⟨_, rfl⟩
  rw [← hD]
  have HDD := Lib.hid hD
  have HS := Lib.hid hs
  have HN := Lib.hid hN
  have O0 : OwnInts (w.alloc (.cells #[] 3)) w.heap.size 3 (.slice (some ⟨w.heap.size, 0, none⟩) 0 0) (sinkL cs net 0) := (Blk.at w [] 3 rfl).owns (n := 0) (size := 1) rfl (Nat.le_refl _) (by decide)
  have E0 := (Ext.refl w).alloc (.cells #[] 3)
  clear hD hs hN
  go_enter Try.func93, Try.ntmps93
  go_wp2_with fail
  go_loopw [5, 6] (fun u5 u6 wr => ∃ k : Nat, k ≤ cs.length ∧ u6 = .int .i64 k ∧ OwnInts wr w.heap.size 3 u5 (sinkL cs net k) ∧ Ext w wr) (fun _ v _ => cs.length - (intOf v).toNat)
  case atStart => exact ⟨0, Nat.zero_le _, rfl, O0, E0⟩
  case round =>
    clear O0 E0
    obtain ⟨k, hk, rfl, hO, hE⟩ := hrel
    by_cases hlt : k < cs.length
    · have hsn := sinkL_succ cs net k
      have hle := sinkL_le cs net k
      obtain ⟨hasc, hl3⟩ := HS.out _ (getN_mem (d := cell0) hlt)
      obtain ⟨S, hS⟩ : ∃ S, S = sinkL cs net k := ⟨_, rfl⟩
      rw [← hS] at hO hle hsn
      obtain ⟨I, hI⟩ : ∃ I, I = (cs.getD k cell0).ins := ⟨_, rfl⟩
      rw [← hI] at hsn hasc hl3
      have HSN := Lib.hid hsn
      have HA := Lib.hid hasc
      have HI := Lib.hid hI
      clear hS hsn hasc hI
      go_wp2_with fail
      go_loopw [5, 7] (fun u5 u7 wr => ∃ j : Nat, j ≤ I.length ∧ u7 = .int .i64 j ∧ OwnInts wr w.heap.size 3 u5 (S ++ if (I.take j).contains net then [(k : Int)] else []) ∧ Ext w wr) (fun _ v _ => I.length - (intOf v).toNat)
      case atStart => exact ⟨0, Nat.zero_le _, rfl, by simpa using hO, hE⟩
      case round =>
        clear hO hE
        obtain ⟨j, hj, rfl, hO, hE⟩ := hrel
        obtain ⟨w2, rfl⟩ : ∃ z : World, z = wr := ⟨_, rfl⟩
        obtain ⟨g, rfl, hg, _, hcells⟩ := Nst.getN goodCell (HN.out.ext goodCell hE) (by omega)
        obtain ⟨ds, F1, ⟨v, rfl, o1, rfl⟩, q, _⟩ := hcells k cell0 hlt
        have r1 := q 1 _ (by omega) rfl
        obtain ⟨va, vc, rfl, hI, _⟩ := o1.opened
        rw [← HI.out] at r1 hI
        clear q hcells o1
        by_cases hlt2 : j < I.length
        · obtain ⟨b9, o9, rfl, hb9, hc9⟩ := hI.get (by omega)
          have q9 := hc9 j hlt2
          have hta : (I.take (j + 1)).contains net = ((I.take j).contains net || (I.getD j 0 == net)) := by
            rw [take_snocD I j 0 hlt2, Bool.eq_iff_iff, Bool.or_eq_true, List.contains_iff_mem, List.contains_iff_mem, List.mem_append, List.mem_singleton, beq_iff_eq]
            exact or_congr Iff.rfl eq_comm
          have hnd : I.getD j 0 = net → (I.take j).contains net = false := by
            intro e
            rw [Bool.eq_false_iff]
            intro h
            have hm : net ∈ I.take j := by simpa using h
            obtain ⟨i, hi, e2⟩ := mem_getN (d := 0) hm
            have hij : i < j := by rw [List.length_take] at hi; omega
            refine asc_ne HA.out hij hlt2 ?_
            rw [e, ← e2, List.getD_eq_getElem?_getD, List.getD_eq_getElem?_getD, List.getElem?_take_of_lt hij]
          obtain ⟨z, hz⟩ : ∃ z, z = I.getD j 0 := ⟨_, rfl⟩
          rw [← hz] at q9 hta hnd
          obtain ⟨B, hB⟩ : ∃ B, B = (I.take j).contains net := ⟨_, rfl⟩
          rw [← hB] at hta hnd hO
          have HT := Lib.hid hta
          clear hc9 hz hta hB
          by_cases he : z = net
          · have hb := hnd he
            subst hb he
            have hO' : OwnInts w2 w.heap.size 3 u5 S := by simpa using hO
            have hsz := hE.size
            clear hO hnd
            go_wp2_with (at_builtin; refine wpList_app tyInts (ownsRow_ext hO' (by (repeat (first | with_reducible assumption | with_reducible exact Ext.refl _ | with_reducible refine Ext.drew' ?_ | with_reducible refine Ext.drewN' ?_ _ | with_reducible refine Ext.alloc ?_ _ | (with_reducible refine Ext.setNew ?_ (by first | exact Nat.le_refl _ | (simp; done) | (simp; omega) | omega) _))))) (rowNew _ _ _ (by simp)) rfl (by simp [Value.oneCell']) (by omega) (by simp; omega) rfl rfl rfl rfl ?_; intro v9 w9 o9 g9 m9)
            have E9 : Ext w w9 := ext_grown (w1 := _) (Ext.trans hE (by (repeat (first | with_reducible assumption | with_reducible exact Ext.refl _ | with_reducible refine Ext.drew' ?_ | with_reducible refine Ext.drewN' ?_ _ | with_reducible refine Ext.alloc ?_ _ | (with_reducible refine Ext.setNew ?_ (by first | exact Nat.le_refl _ | (simp; done) | (simp; omega) | omega) _))))) g9 (fun q hq => (own_lo hO' q hq).1)
            have O9 : OwnInts w9 w.heap.size 3 v9 (S ++ [(k : Int)]) := own_app (xs := S) (ys := [(k : Int)]) rfl rfl o9
            go_roundw
            case rel => exact ⟨j + 1, by omega, by go_num, by rw [HT.out]; simpa using O9, E9⟩
            case measure => simp [intOf]; omega
          · have he2 : (z == net) = false := by simp [he]
            clear hnd
            go_wp2_with fail
            go_roundw
            case rel => exact ⟨j + 1, by omega, by go_num, by rw [HT.out, he2, Bool.or_false]; exact hO, hE⟩
            case measure => simp [intOf]; omega
        · have hj2 : j = I.length := by omega
          rw [hj2, List.take_length, ← HSN.out] at hO
          have hnn : ¬ ((j : Int) < (I.length : Int)) := by omega
          go_wp2_with fail
          go_roundw
          case rel => exact ⟨k + 1, by omega, by go_num, hO, hE⟩
          case measure => simp [intOf]; omega
    · have hk2 : k = cs.length := by omega
      rw [hk2, ← HDD.out] at hO
      go_wp2_with fail
      go_ret
      exact ⟨_, rfl, hO, hE⟩
theorem lutK_asc {c : Circ} (V : c.Valid) {n : Nat} (hn : c.vars = (n : Int)) : ∀ k, k ≤ c.gates.length → ∀ x ∈ (lutK c n k).2, Asc x.lv := by
  intro k
  induction k with
  | zero => intro _ x hx; simp [lutK] at hx
  | succ k ih =>
    intro hk x hx
    rw [lutK, lutStep] at hx
    split at hx
    · rcases List.mem_cons.1 hx with rfl | h
      · have hi0 := V.i0
        have h := bestN_cut V (k := c.gates.length - 1 - k) (by omega)
        have hf0 : 0 ≤ c.first := by unfold Circ.first; omega
        have e : c.first.toNat + (c.gates.length - 1 - k) = n - 1 - k := by
          unfold Circ.vars at hn
          omega
        rw [e] at h
        exact h.asc
      · exact ih (by omega) x h
    · exact ih (by omega) x hx
theorem cells_asc {c : Circ} (V : c.Valid) : ∀ x ∈ cellsN c, Asc x.ins := by
  have hi0 := V.i0
  have h1 := lutK_asc V (n := c.vars.toNat) (by unfold Circ.vars Circ.first; omega) c.gates.length (Nat.le_refl _)
  intro x hx
  rcases List.mem_append.1 hx with h | h
  · obtain ⟨i, _, rfl⟩ := List.mem_map.1 h
    unfold latchCell
    split <;> simp [Asc]
  · obtain ⟨y, hy, rfl⟩ := List.mem_map.1 h
    exact h1 y hy
set_option maxHeartbeats 2000000 in
theorem specNetSinks_c (c : Circ) (p : Where3) (net : Int) (w : World) (hc : CircAt w c p) :
    Calls Try.prog 45 #[.agg #[.int .i64 c.inputs, .slice p.an c.next.length p.cn, .slice p.ag c.gates.length p.cg, .slice p.ao c.outs.length p.co], .int .i64 net] w (GiveNL w (sinksV c net)) := by
  have E0 : Ext w (w.alloc (.cells #[.int .i64 c.inputs, .slice p.an c.next.length p.cn, .slice p.ag c.gates.length p.cg, .slice p.ao c.outs.length p.co] 26)) := (Ext.refl w).alloc _
  have y := CircBox.made w c p 26
  obtain ⟨D, hD⟩ : ∃ D, D = sinksV c net := ⟨_, rfl⟩
  rw [← hD]
  have HD := Lib.hid hD
  clear hD
  (obtain ⟨lb, b0, b1, b2, b3⟩ := (id y))
  go_enter Try.func45, Try.ntmps45
  go_wp2_with fail
  refine (specCircuitValid_c c p _ (hc.ext E0)).mono ?_
  rintro e w1 ⟨rfl, hE1⟩
  clear b0 b1 b2 b3 lb
  have y1 := y.ext hE1
  have E1 := E0.trans hE1
  (obtain ⟨lb, b0, b1, b2, b3⟩ := (id y1))
  cases hv : validB c
  · have hd : D = [] := by rw [HD.out]; unfold sinksV cellsV; rw [hv]; rfl
    subst hd
    have O0 : OwnInts (w1.alloc (.cells #[] 3)) w1.heap.size 3 (.slice (some ⟨w1.heap.size, 0, none⟩) 0 0) [] := (Blk.at w1 [] 3 rfl).owns (n := 0) (size := 1) rfl (Nat.le_refl _) (by decide)
    have EA := E1.alloc (.cells #[] 3)
    go_wp2_with fail
    go_ret
    exact ⟨_, rfl, ownsRow_base O0 E1.size, EA⟩
  · have V := validB_iff.1 hv
    have hcv : cellsV c = cellsN c := by unfold cellsV; rw [hv]; rfl
    have hd : D = sinkL (cellsN c) net (cellsN c).length := by rw [HD.out]; unfold sinksV; rw [hcv]
    have hsm := cells_sm c
    rw [hcv] at hsm
    have hall : ∀ x ∈ cellsN c, Asc x.ins ∧ x.ins.length ≤ 3 := fun x hx => ⟨cells_asc V x hx, hsm.2 x hx⟩
    have hl17 := hsm.1
    have HALL := Lib.hid hall
    have HDD := Lib.hid hd
    obtain ⟨cs, hcs⟩ : ∃ cs, cs = cellsN c := ⟨_, rfl⟩
    have hcall := l6Cells_c c p w1 (hc.ext E1) V
    rw [← hcs] at hl17 HALL HDD hcall
    clear hv HD hcv hd hsm hall hcs
    go_wp2_with fail
    refine hcall.mono ?_
    rintro e w2 ⟨v, F, rfl, hN, hF, hE2⟩
    obtain ⟨ca, cc, rfl, _⟩ := hN.sl
    clear hcall
    go_wp2_with fail
    refine (l6Sinks_c ca cc cs F net w2 hN hl17 HALL.out).mono ?_
    rw [← HDD.out]
    rintro e w3 ⟨v3, rfl, hO, hE3⟩
    go_wp2_with fail
    go_ret
    exact ⟨v3, rfl, ownsRow_base hO (by have := E1.size; have := hE2.size; omega), (E1.trans hE2).trans hE3⟩
end Go.Proofs.Ytpomcoegpjehgaa

namespace Go.Proofs.Ytpomcoegpjehgaa
open Go.RowKit
set_option maxRecDepth 100000
set_option linter.unusedVariables false
set_option linter.unusedSimpArgs false
def SmallIII (x : List (List (List Int))) : Prop := (SmL (SmL SmI)) x ∧ (szF (szF szI)) x ≤ 1048576
def RepIII (w : World) (b N : Nat) (v : Value) (x : List (List (List Int))) : Prop := ∃ F, (PNst PII 30 1) w [v] x F ∧ (∀ g ∈ F, b ≤ g ∧ g < N) ∧ SmallIII x
def MkIII (w : World) (v : Value) (km : Int) : Prop := ∃ (x : List (List (List Int))) (F : List Nat), km = 1 + (szF (szF szI)) x ∧ (PNst PII 30 1) w [v] ((mkFN (mkFN mkII szI) (szF szI)) 1 x) F ∧ SmallIII x
section
variable {w w' : World} {b b2 N : Nat} {v v' : Value} {x : List (List (List Int))}
theorem RepIII.ext (h : RepIII w b N v x) (e : Ext w w') : RepIII w' b N v x := by
  obtain ⟨F, h1, h2, h3⟩ := h
  exact ⟨F, GoodP.ext goodIII h1 e, h2, h3⟩
theorem RepIII.le (h : RepIII w b N v x) (hb : b2 ≤ b) : RepIII w b2 N v x := by
  obtain ⟨F, h1, h2, h3⟩ := h
  exact ⟨F, h1, fun g hg => by have := h2 g hg; omega, h3⟩
theorem RepIII.hi {n m : Nat} (h : RepIII w b N v x) (g : Mid n m w w') (hb : m ≤ b) : RepIII w' b N v x := by
  obtain ⟨F, h1, h2, h3⟩ := h
  exact ⟨F, GoodP.mid goodIII h1 g (fun q hq => by have := h2 q hq; omega), h2, h3⟩
theorem GiveIII.rep {e : Ending} (h : GiveIII w x e w') (hs : SmallIII x := by assumption) : ∃ v, e = .returned v ∧ RepIII w' w.heap.size w'.heap.size v x ∧ Ext w w' := by
  obtain ⟨v, F, h1, h2, h3, h4⟩ := h
  have hp : (PNst PII 30 1) w' [v] x F := ⟨v, rfl, h2⟩
  exact ⟨v, h1, ⟨F, hp, fun g hg => ⟨h3 g hg, GoodP.lt goodIII hp g hg⟩, hs⟩, h4⟩
theorem eqIII_R {b3 N3 : Nat} (h : RepIII w b N v x) (h' : RepIII w b3 N3 v' x) : Calls Try.prog 27 #[v, v'] w fun e w' => e = .returned (.bool true) ∧ Ext w w' := by
  obtain ⟨F, h1, h2, h3⟩ := h
  obtain ⟨F', h1', _⟩ := h'
  exact eqIntSSS_P v v' x F F' w h1 h1' h3.1
theorem MkIII.ext {k : Int} (h : MkIII w v k) (e : Ext w w') : MkIII w' v k := by
  obtain ⟨x, F, h1, h2, h3⟩ := h
  exact ⟨x, F, h1, GoodP.ext goodIII h2 e, h3⟩
theorem MkIII.kb {k : Int} (h : MkIII w v k) : 0 ≤ k ∧ k ≤ 100000000 := by
  obtain ⟨x, F, rfl, h2, h3⟩ := h
  have := h3.2
  omega
theorem markIII_R (h : RepIII w b N v x) : Calls Try.prog 29 #[v, .int .i64 1] w fun e w' => ∃ km, e = .returned (.int .i64 km) ∧ MkIII w' v km ∧ Mid b N w w' := by
  obtain ⟨F, h1, h2, h3⟩ := h
  refine (markIntSSS_P v x F 1 w h1 h3.1 (by omega) (by have := h3.2; omega)).mono ?_
  rintro e w' ⟨rfl, o, m⟩
  exact ⟨_, rfl, ⟨x, F, rfl, o, h3⟩, m.mid h2⟩
theorem heldIII_R {km : Int} (h : MkIII w v km) : Calls Try.prog 30 #[v, .int .i64 1] w fun e w' => e = .returned (.int .i64 km) ∧ Ext w w' := by
  obtain ⟨x, F, rfl, h2, h3⟩ := h
  exact heldIntSSS_P v x F 1 w h2 h3.1 (by omega) (by have := h3.2; omega)
end
def SmallIntL (x : List Int) : Prop := SmI x ∧ szI x ≤ 1048576
def RepIntL (w : World) (b N : Nat) (v : Value) (x : List Int) : Prop := ∃ F, PInts w [v] x F ∧ (∀ g ∈ F, b ≤ g ∧ g < N) ∧ SmallIntL x
def MkIntL (w : World) (v : Value) (km : Int) : Prop := ∃ (x : List Int) (F : List Nat), km = 1 + szI x ∧ PInts w [v] (mkII 1 x) F ∧ SmallIntL x
section
variable {w w' : World} {b b2 N : Nat} {v v' : Value} {x : List Int}
theorem RepIntL.ext (h : RepIntL w b N v x) (e : Ext w w') : RepIntL w' b N v x := by
  obtain ⟨F, h1, h2, h3⟩ := h
  exact ⟨F, GoodP.ext goodInts h1 e, h2, h3⟩
theorem RepIntL.le (h : RepIntL w b N v x) (hb : b2 ≤ b) : RepIntL w b2 N v x := by
  obtain ⟨F, h1, h2, h3⟩ := h
  exact ⟨F, h1, fun g hg => by have := h2 g hg; omega, h3⟩
theorem RepIntL.hi {n m : Nat} (h : RepIntL w b N v x) (g : Mid n m w w') (hb : m ≤ b) : RepIntL w' b N v x := by
  obtain ⟨F, h1, h2, h3⟩ := h
  exact ⟨F, GoodP.mid goodInts h1 g (fun q hq => by have := h2 q hq; omega), h2, h3⟩
theorem GiveIntL.rep {e : Ending} (h : GiveNL w x e w') (hs : SmallIntL x := by assumption) : ∃ v, e = .returned v ∧ RepIntL w' w.heap.size w'.heap.size v x ∧ Ext w w' := by
  obtain ⟨v, h1, h2, h4⟩ := h
  obtain ⟨p1, p2⟩ := PInts.of h2
  exact ⟨v, h1, ⟨fp v, p1, fun g hg => ⟨p2 g hg, GoodP.lt goodInts p1 g hg⟩, hs⟩, h4⟩
theorem eqIntL_R {b3 N3 : Nat} (h : RepIntL w b N v x) (h' : RepIntL w b3 N3 v' x) : Calls Try.prog 48 #[v, v'] w fun e w' => e = .returned (.bool true) ∧ Ext w w' := by
  obtain ⟨F, h1, h2, h3⟩ := h
  obtain ⟨F', h1', _⟩ := h'
  exact eqIntS_P v v' x F F' w h1 h1' h3.1
theorem MkIntL.ext {k : Int} (h : MkIntL w v k) (e : Ext w w') : MkIntL w' v k := by
  obtain ⟨x, F, h1, h2, h3⟩ := h
  exact ⟨x, F, h1, GoodP.ext goodInts h2 e, h3⟩
theorem MkIntL.kb {k : Int} (h : MkIntL w v k) : 0 ≤ k ∧ k ≤ 100000000 := by
  obtain ⟨x, F, rfl, h2, h3⟩ := h
  have := h3.2
  omega
theorem markIntL_R (h : RepIntL w b N v x) : Calls Try.prog 56 #[v, .int .i64 1] w fun e w' => ∃ km, e = .returned (.int .i64 km) ∧ MkIntL w' v km ∧ Mid b N w w' := by
  obtain ⟨F, h1, h2, h3⟩ := h
  refine (markIntS_P v x F 1 w h1 h3.1 (by omega) (by have := h3.2; omega)).mono ?_
  rintro e w' ⟨rfl, o, m⟩
  exact ⟨_, rfl, ⟨x, F, rfl, o, h3⟩, m.mid h2⟩
theorem heldIntL_R {km : Int} (h : MkIntL w v km) : Calls Try.prog 57 #[v, .int .i64 1] w fun e w' => e = .returned (.int .i64 km) ∧ Ext w w' := by
  obtain ⟨x, F, rfl, h2, h3⟩ := h
  exact heldIntS_P v x F 1 w h2 h3.1 (by omega) (by have := h3.2; omega)
end
end Go.Proofs.Ytpomcoegpjehgaa

namespace Go.Proofs.Ytpomcoegpjehgaa
open Go.ChangeShapes Go.WideShapes Go.ChangeAt Go.RowKit
set_option maxRecDepth 100000
set_option linter.unusedVariables false
set_option linter.unusedSimpArgs false
theorem szI_sinks (c : Circ) (net : Int) : SmallIntL (sinksV c net) := by
  have h1 := (cells_sm c).1
  have h2 := sinkL_le (cellsV c) net (cellsV c).length
  have h3 : (sinksV c net).length ≤ 17 := by unfold sinksV; omega
  exact ⟨by unfold SmI; omega, by unfold szI; omega⟩
set_option maxHeartbeats 4000000 in
theorem fnExactNetSinks_walk (c0 : Circ) (q0 : Where3) (x1 : Int) (w : World) (w0 : CircIn w c0 q0) (w1 : (Lit.int .i64 x1).wf = true) :
    Calls Try.prog 13 #[.agg #[.int .i64 c0.inputs, .slice q0.an c0.next.length q0.cn, .slice q0.ag c0.gates.length q0.cg, .slice q0.ao c0.outs.length q0.co], .int .i64 x1] w fun e w' => e = .returned (.bool true) ∧ Below w.heap.size w w' := by
  have E := Ext.refl w
  have y0 := (CircBox.at w c0 q0 38 (B := w.heap.size) (by simp))
  by_cases hz0 : szC c0 (1048576) < 0
  · go_enter Try.func13, Try.ntmps13
    go_wp2_with fail
    refine (szCircuit_c _ _ _ _ (w0.ext (Ext.trans E (by (repeat (first | with_reducible assumption | with_reducible exact Ext.refl _ | with_reducible refine Ext.drew' ?_ | with_reducible refine Ext.drewN' ?_ _ | with_reducible refine Ext.alloc ?_ _ | (with_reducible refine Ext.setNew ?_ (by first | exact Nat.le_refl _ | (simp; done) | (simp; omega) | omega) _)))))) (by omega) (by omega)).mono ?_
    rintro e s1 ⟨rfl, hE⟩
    replace E := Ext.trans E (Ext.trans (by (repeat (first | with_reducible assumption | with_reducible exact Ext.refl _ | with_reducible refine Ext.drew' ?_ | with_reducible refine Ext.drewN' ?_ _ | with_reducible refine Ext.alloc ?_ _ | (with_reducible refine Ext.setNew ?_ (by first | exact Nat.le_refl _ | (simp; done) | (simp; omega) | omega) _)))) hE)
    replace y0 := y0.ext (Ext.trans (by (repeat (first | with_reducible assumption | with_reducible exact Ext.refl _ | with_reducible refine Ext.drew' ?_ | with_reducible refine Ext.drewN' ?_ _ | with_reducible refine Ext.alloc ?_ _ | (with_reducible refine Ext.setNew ?_ (by first | exact Nat.le_refl _ | (simp; done) | (simp; omega) | omega) _)))) hE)
    clear hE
    go_wp2
    go_ret
    exact ⟨rfl, E⟩
  have hzz0 := szC_ok hz0
  have hC0 : CircAt w c0 q0 := ⟨w0.nx, w0.gs, w0.ou, by omega, by omega, by omega⟩
  have ln0 := hC0.ln
  have lg0 := hC0.lg
  have lo0 := hC0.lo
  have hsm := szI_sinks c0 x1
  obtain ⟨V, HV⟩ : ∃ V, Hid (V = (sinksV c0 x1)) := ⟨_, Lib.hid rfl⟩
  rw [← HV.out] at hsm
  go_enter Try.func13, Try.ntmps13
  go_wp2_with fail
  refine (szCircuit_c _ _ _ _ (w0.ext (Ext.trans E (by (repeat (first | with_reducible assumption | with_reducible exact Ext.refl _ | with_reducible refine Ext.drew' ?_ | with_reducible refine Ext.drewN' ?_ _ | with_reducible refine Ext.alloc ?_ _ | (with_reducible refine Ext.setNew ?_ (by first | exact Nat.le_refl _ | (simp; done) | (simp; omega) | omega) _)))))) (by omega) (by omega)).mono ?_
  rintro e s1 ⟨rfl, hE⟩
  replace E := Ext.trans E (Ext.trans (by (repeat (first | with_reducible assumption | with_reducible exact Ext.refl _ | with_reducible refine Ext.drew' ?_ | with_reducible refine Ext.drewN' ?_ _ | with_reducible refine Ext.alloc ?_ _ | (with_reducible refine Ext.setNew ?_ (by first | exact Nat.le_refl _ | (simp; done) | (simp; omega) | omega) _)))) hE)
  replace y0 := y0.ext (Ext.trans (by (repeat (first | with_reducible assumption | with_reducible exact Ext.refl _ | with_reducible refine Ext.drew' ?_ | with_reducible refine Ext.drewN' ?_ _ | with_reducible refine Ext.alloc ?_ _ | (with_reducible refine Ext.setNew ?_ (by first | exact Nat.le_refl _ | (simp; done) | (simp; omega) | omega) _)))) hE)
  clear hE
  obtain ⟨y0l, y00, y01, y02, y03⟩ := (id y0)
  try dsimp only at y01 y02 y03
  go_wp2_with fail
  refine (toCircuitB_c c0 q0 _ (hC0.ext (Ext.trans E (by (repeat (first | with_reducible assumption | with_reducible exact Ext.refl _ | with_reducible refine Ext.drew' ?_ | with_reducible refine Ext.drewN' ?_ _ | with_reducible refine Ext.alloc ?_ _ | (with_reducible refine Ext.setNew ?_ (by first | exact Nat.le_refl _ | (simp; done) | (simp; omega) | omega) _))))))).mono ?_
  rintro e s2 ⟨pt0, rfl, t0, hE, t0m⟩
  clear t0m
  clear y0l y00 y01 y02 y03
  replace E := Ext.trans E (Ext.trans (by (repeat (first | with_reducible assumption | with_reducible exact Ext.refl _ | with_reducible refine Ext.drew' ?_ | with_reducible refine Ext.drewN' ?_ _ | with_reducible refine Ext.alloc ?_ _ | (with_reducible refine Ext.setNew ?_ (by first | exact Nat.le_refl _ | (simp; done) | (simp; omega) | omega) _)))) hE)
  replace y0 := y0.ext (Ext.trans (by (repeat (first | with_reducible assumption | with_reducible exact Ext.refl _ | with_reducible refine Ext.drew' ?_ | with_reducible refine Ext.drewN' ?_ _ | with_reducible refine Ext.alloc ?_ _ | (with_reducible refine Ext.setNew ?_ (by first | exact Nat.le_refl _ | (simp; done) | (simp; omega) | omega) _)))) hE)
  clear hE
  go_wp2_with fail
  refine (specNetSinks_c c0 pt0 x1 _ (t0.ext (by (repeat (first | with_reducible assumption | with_reducible exact Ext.refl _ | with_reducible refine Ext.drew' ?_ | with_reducible refine Ext.drewN' ?_ _ | with_reducible refine Ext.alloc ?_ _ | (with_reducible refine Ext.setNew ?_ (by first | exact Nat.le_refl _ | (simp; done) | (simp; omega) | omega) _)))))).mono ?_
  rw [← HV.out]
  rintro e s3 hh
  obtain ⟨vr0, rfl, r, hE⟩ := GiveIntL.rep hh
  replace E := Ext.trans E (Ext.trans (by (repeat (first | with_reducible assumption | with_reducible exact Ext.refl _ | with_reducible refine Ext.drew' ?_ | with_reducible refine Ext.drewN' ?_ _ | with_reducible refine Ext.alloc ?_ _ | (with_reducible refine Ext.setNew ?_ (by first | exact Nat.le_refl _ | (simp; done) | (simp; omega) | omega) _)))) hE)
  replace y0 := y0.ext (Ext.trans (by (repeat (first | with_reducible assumption | with_reducible exact Ext.refl _ | with_reducible refine Ext.drew' ?_ | with_reducible refine Ext.drewN' ?_ _ | with_reducible refine Ext.alloc ?_ _ | (with_reducible refine Ext.setNew ?_ (by first | exact Nat.le_refl _ | (simp; done) | (simp; omega) | omega) _)))) hE)
  replace t0 := t0.ext (Ext.trans (by (repeat (first | with_reducible assumption | with_reducible exact Ext.refl _ | with_reducible refine Ext.drew' ?_ | with_reducible refine Ext.drewN' ?_ _ | with_reducible refine Ext.alloc ?_ _ | (with_reducible refine Ext.setNew ?_ (by first | exact Nat.le_refl _ | (simp; done) | (simp; omega) | omega) _)))) hE)
  clear hE
  have E4 := Ext.refl s3
  have lE := E.size
  have y0s := y0
  obtain ⟨y0l, y00, y01, y02, y03⟩ := (id y0)
  try dsimp only at y01 y02 y03
  go_wp2_with fail
  refine (toCircuitB_c c0 q0 _ (hC0.ext (Ext.trans E (by (repeat (first | with_reducible assumption | with_reducible exact Ext.refl _ | with_reducible refine Ext.drew' ?_ | with_reducible refine Ext.drewN' ?_ _ | with_reducible refine Ext.alloc ?_ _ | (with_reducible refine Ext.setNew ?_ (by first | exact Nat.le_refl _ | (simp; done) | (simp; omega) | omega) _))))))).mono ?_
  rintro e s4 ⟨px0, rfl, x0, hE, x0m⟩
  replace x0m := x0m.le (b2 := s3.heap.size) (Ext.size (w := s3) (by (repeat (first | with_reducible assumption | with_reducible exact Ext.refl _ | with_reducible refine Ext.drew' ?_ | with_reducible refine Ext.drewN' ?_ _ | with_reducible refine Ext.alloc ?_ _ | (with_reducible refine Ext.setNew ?_ (by first | exact Nat.le_refl _ | (simp; done) | (simp; omega) | omega) _)))))
  clear y0l y00 y01 y02 y03
  replace E := Ext.trans E (Ext.trans (by (repeat (first | with_reducible assumption | with_reducible exact Ext.refl _ | with_reducible refine Ext.drew' ?_ | with_reducible refine Ext.drewN' ?_ _ | with_reducible refine Ext.alloc ?_ _ | (with_reducible refine Ext.setNew ?_ (by first | exact Nat.le_refl _ | (simp; done) | (simp; omega) | omega) _)))) hE)
  replace y0 := y0.ext (Ext.trans (by (repeat (first | with_reducible assumption | with_reducible exact Ext.refl _ | with_reducible refine Ext.drew' ?_ | with_reducible refine Ext.drewN' ?_ _ | with_reducible refine Ext.alloc ?_ _ | (with_reducible refine Ext.setNew ?_ (by first | exact Nat.le_refl _ | (simp; done) | (simp; omega) | omega) _)))) hE)
  replace E4 := Ext.trans E4 (Ext.trans (by (repeat (first | with_reducible assumption | with_reducible exact Ext.refl _ | with_reducible refine Ext.drew' ?_ | with_reducible refine Ext.drewN' ?_ _ | with_reducible refine Ext.alloc ?_ _ | (with_reducible refine Ext.setNew ?_ (by first | exact Nat.le_refl _ | (simp; done) | (simp; omega) | omega) _)))) hE)
  clear hE
  have lEx0 := E4.size
  have Ex0 := Ext.refl s4
  have x0x := CircBox.made s4 c0 px0 26
  have lEg := Ex0.size
  have Eg := Ext.refl s4
  obtain ⟨x0xl, x0x0, x0x1, x0x2, x0x3⟩ := (id x0x)
  try dsimp only at x0x1 x0x2 x0x3
  go_wp2_with fail
  refine (implNetSinks_c c0 px0 x1 _ (x0.ext (by (repeat (first | with_reducible assumption | with_reducible exact Ext.refl _ | with_reducible refine Ext.drew' ?_ | with_reducible refine Ext.drewN' ?_ _ | with_reducible refine Ext.alloc ?_ _ | (with_reducible refine Ext.setNew ?_ (by first | exact Nat.le_refl _ | (simp; done) | (simp; omega) | omega) _)))))).mono ?_
  rw [← HV.out]
  rintro e s5 hh
  obtain ⟨vg0, rfl, g, hE⟩ := GiveIntL.rep hh
  replace g := g.le (b2 := s4.heap.size) (Ext.size (w := s4) (by (repeat (first | with_reducible assumption | with_reducible exact Ext.refl _ | with_reducible refine Ext.drew' ?_ | with_reducible refine Ext.drewN' ?_ _ | with_reducible refine Ext.alloc ?_ _ | (with_reducible refine Ext.setNew ?_ (by first | exact Nat.le_refl _ | (simp; done) | (simp; omega) | omega) _)))))
  clear x0xl x0x0 x0x1 x0x2 x0x3
  replace E := Ext.trans E (Ext.trans (by (repeat (first | with_reducible assumption | with_reducible exact Ext.refl _ | with_reducible refine Ext.drew' ?_ | with_reducible refine Ext.drewN' ?_ _ | with_reducible refine Ext.alloc ?_ _ | (with_reducible refine Ext.setNew ?_ (by first | exact Nat.le_refl _ | (simp; done) | (simp; omega) | omega) _)))) hE)
  replace y0 := y0.ext (Ext.trans (by (repeat (first | with_reducible assumption | with_reducible exact Ext.refl _ | with_reducible refine Ext.drew' ?_ | with_reducible refine Ext.drewN' ?_ _ | with_reducible refine Ext.alloc ?_ _ | (with_reducible refine Ext.setNew ?_ (by first | exact Nat.le_refl _ | (simp; done) | (simp; omega) | omega) _)))) hE)
  replace E4 := Ext.trans E4 (Ext.trans (by (repeat (first | with_reducible assumption | with_reducible exact Ext.refl _ | with_reducible refine Ext.drew' ?_ | with_reducible refine Ext.drewN' ?_ _ | with_reducible refine Ext.alloc ?_ _ | (with_reducible refine Ext.setNew ?_ (by first | exact Nat.le_refl _ | (simp; done) | (simp; omega) | omega) _)))) hE)
  replace x0 := x0.ext (Ext.trans (by (repeat (first | with_reducible assumption | with_reducible exact Ext.refl _ | with_reducible refine Ext.drew' ?_ | with_reducible refine Ext.drewN' ?_ _ | with_reducible refine Ext.alloc ?_ _ | (with_reducible refine Ext.setNew ?_ (by first | exact Nat.le_refl _ | (simp; done) | (simp; omega) | omega) _)))) hE)
  replace Ex0 := Ext.trans Ex0 (Ext.trans (by (repeat (first | with_reducible assumption | with_reducible exact Ext.refl _ | with_reducible refine Ext.drew' ?_ | with_reducible refine Ext.drewN' ?_ _ | with_reducible refine Ext.alloc ?_ _ | (with_reducible refine Ext.setNew ?_ (by first | exact Nat.le_refl _ | (simp; done) | (simp; omega) | omega) _)))) hE)
  replace x0m := x0m.ext (Ext.trans (by (repeat (first | with_reducible assumption | with_reducible exact Ext.refl _ | with_reducible refine Ext.drew' ?_ | with_reducible refine Ext.drewN' ?_ _ | with_reducible refine Ext.alloc ?_ _ | (with_reducible refine Ext.setNew ?_ (by first | exact Nat.le_refl _ | (simp; done) | (simp; omega) | omega) _)))) hE)
  replace x0x := x0x.ext (Ext.trans (by (repeat (first | with_reducible assumption | with_reducible exact Ext.refl _ | with_reducible refine Ext.drew' ?_ | with_reducible refine Ext.drewN' ?_ _ | with_reducible refine Ext.alloc ?_ _ | (with_reducible refine Ext.setNew ?_ (by first | exact Nat.le_refl _ | (simp; done) | (simp; omega) | omega) _)))) hE)
  replace Eg := Ext.trans Eg (Ext.trans (by (repeat (first | with_reducible assumption | with_reducible exact Ext.refl _ | with_reducible refine Ext.drew' ?_ | with_reducible refine Ext.drewN' ?_ _ | with_reducible refine Ext.alloc ?_ _ | (with_reducible refine Ext.setNew ?_ (by first | exact Nat.le_refl _ | (simp; done) | (simp; omega) | omega) _)))) hE)
  clear hE
  have lEh := Eg.size
  go_wp2_with fail
  refine (eqIntL_R (g.ext (by (repeat (first | with_reducible assumption | with_reducible exact Ext.refl _ | with_reducible refine Ext.drew' ?_ | with_reducible refine Ext.drewN' ?_ _ | with_reducible refine Ext.alloc ?_ _ | (with_reducible refine Ext.setNew ?_ (by first | exact Nat.le_refl _ | (simp; done) | (simp; omega) | omega) _))))) (r.ext (Ext.trans E4 (by (repeat (first | with_reducible assumption | with_reducible exact Ext.refl _ | with_reducible refine Ext.drew' ?_ | with_reducible refine Ext.drewN' ?_ _ | with_reducible refine Ext.alloc ?_ _ | (with_reducible refine Ext.setNew ?_ (by first | exact Nat.le_refl _ | (simp; done) | (simp; omega) | omega) _))))))).mono ?_
  rintro e s6 ⟨rfl, hE⟩
  replace E := Ext.trans E (Ext.trans (by (repeat (first | with_reducible assumption | with_reducible exact Ext.refl _ | with_reducible refine Ext.drew' ?_ | with_reducible refine Ext.drewN' ?_ _ | with_reducible refine Ext.alloc ?_ _ | (with_reducible refine Ext.setNew ?_ (by first | exact Nat.le_refl _ | (simp; done) | (simp; omega) | omega) _)))) hE)
  replace y0 := y0.ext (Ext.trans (by (repeat (first | with_reducible assumption | with_reducible exact Ext.refl _ | with_reducible refine Ext.drew' ?_ | with_reducible refine Ext.drewN' ?_ _ | with_reducible refine Ext.alloc ?_ _ | (with_reducible refine Ext.setNew ?_ (by first | exact Nat.le_refl _ | (simp; done) | (simp; omega) | omega) _)))) hE)
  replace E4 := Ext.trans E4 (Ext.trans (by (repeat (first | with_reducible assumption | with_reducible exact Ext.refl _ | with_reducible refine Ext.drew' ?_ | with_reducible refine Ext.drewN' ?_ _ | with_reducible refine Ext.alloc ?_ _ | (with_reducible refine Ext.setNew ?_ (by first | exact Nat.le_refl _ | (simp; done) | (simp; omega) | omega) _)))) hE)
  replace x0 := x0.ext (Ext.trans (by (repeat (first | with_reducible assumption | with_reducible exact Ext.refl _ | with_reducible refine Ext.drew' ?_ | with_reducible refine Ext.drewN' ?_ _ | with_reducible refine Ext.alloc ?_ _ | (with_reducible refine Ext.setNew ?_ (by first | exact Nat.le_refl _ | (simp; done) | (simp; omega) | omega) _)))) hE)
  replace Ex0 := Ext.trans Ex0 (Ext.trans (by (repeat (first | with_reducible assumption | with_reducible exact Ext.refl _ | with_reducible refine Ext.drew' ?_ | with_reducible refine Ext.drewN' ?_ _ | with_reducible refine Ext.alloc ?_ _ | (with_reducible refine Ext.setNew ?_ (by first | exact Nat.le_refl _ | (simp; done) | (simp; omega) | omega) _)))) hE)
  replace x0m := x0m.ext (Ext.trans (by (repeat (first | with_reducible assumption | with_reducible exact Ext.refl _ | with_reducible refine Ext.drew' ?_ | with_reducible refine Ext.drewN' ?_ _ | with_reducible refine Ext.alloc ?_ _ | (with_reducible refine Ext.setNew ?_ (by first | exact Nat.le_refl _ | (simp; done) | (simp; omega) | omega) _)))) hE)
  replace x0x := x0x.ext (Ext.trans (by (repeat (first | with_reducible assumption | with_reducible exact Ext.refl _ | with_reducible refine Ext.drew' ?_ | with_reducible refine Ext.drewN' ?_ _ | with_reducible refine Ext.alloc ?_ _ | (with_reducible refine Ext.setNew ?_ (by first | exact Nat.le_refl _ | (simp; done) | (simp; omega) | omega) _)))) hE)
  replace Eg := Ext.trans Eg (Ext.trans (by (repeat (first | with_reducible assumption | with_reducible exact Ext.refl _ | with_reducible refine Ext.drew' ?_ | with_reducible refine Ext.drewN' ?_ _ | with_reducible refine Ext.alloc ?_ _ | (with_reducible refine Ext.setNew ?_ (by first | exact Nat.le_refl _ | (simp; done) | (simp; omega) | omega) _)))) hE)
  replace g := g.ext (Ext.trans (by (repeat (first | with_reducible assumption | with_reducible exact Ext.refl _ | with_reducible refine Ext.drew' ?_ | with_reducible refine Ext.drewN' ?_ _ | with_reducible refine Ext.alloc ?_ _ | (with_reducible refine Ext.setNew ?_ (by first | exact Nat.le_refl _ | (simp; done) | (simp; omega) | omega) _)))) hE)
  clear hE
  obtain ⟨y0l, y00, y01, y02, y03⟩ := (id y0)
  try dsimp only at y01 y02 y03
  obtain ⟨x0xl, x0x0, x0x1, x0x2, x0x3⟩ := (id x0x)
  try dsimp only at x0x1 x0x2 x0x3
  go_wp2_with fail
  go_region_held3 ((fun w' => (∀ b o, b < s6.heap.size → w'.cell? ⟨b, o, none⟩ = s6.cell? ⟨b, o, none⟩) ∧ Ext s6 w')) ((first | assumption | (with_reducible exact held_mk (Ext.drew s6)) | (with_reducible exact held_mk (((Ext.refl s6).alloc _).drew')) | (with_reducible exact held_mk ((Ext.drew s6).alloc _)))) (first | (go_simp; go_at_call 24; refine (toCircuit_c c0 q0 _ (hC0.ext (Ext.trans E (Ext.drew _)))).mono ?_; rintro e s7 ⟨pp, rfl, hCC, hE1⟩; have hK1 := held_mk ((Ext.drew s6).trans hE1)) | (go_simp; go_at_call 26; refine (eqCircuit_c c0 _ _ _ (x0.ext (held_ext hK1)) hCC).mono ?_; rintro e s8 ⟨rfl, hE2⟩; have hK2 := held_mk ((held_ext hK1).trans hE2)))
  have hE := held_ext hK2
  clear hK1 hK2 hE1 hE2 hCC
  clear y0l y00 y01 y02 y03 x0xl x0x0 x0x1 x0x2 x0x3
  replace E := Ext.trans E (Ext.trans (by (repeat (first | with_reducible assumption | with_reducible exact Ext.refl _ | with_reducible refine Ext.drew' ?_ | with_reducible refine Ext.drewN' ?_ _ | with_reducible refine Ext.alloc ?_ _ | (with_reducible refine Ext.setNew ?_ (by first | exact Nat.le_refl _ | (simp; done) | (simp; omega) | omega) _)))) hE)
  replace y0 := y0.ext (Ext.trans (by (repeat (first | with_reducible assumption | with_reducible exact Ext.refl _ | with_reducible refine Ext.drew' ?_ | with_reducible refine Ext.drewN' ?_ _ | with_reducible refine Ext.alloc ?_ _ | (with_reducible refine Ext.setNew ?_ (by first | exact Nat.le_refl _ | (simp; done) | (simp; omega) | omega) _)))) hE)
  replace E4 := Ext.trans E4 (Ext.trans (by (repeat (first | with_reducible assumption | with_reducible exact Ext.refl _ | with_reducible refine Ext.drew' ?_ | with_reducible refine Ext.drewN' ?_ _ | with_reducible refine Ext.alloc ?_ _ | (with_reducible refine Ext.setNew ?_ (by first | exact Nat.le_refl _ | (simp; done) | (simp; omega) | omega) _)))) hE)
  replace x0 := x0.ext (Ext.trans (by (repeat (first | with_reducible assumption | with_reducible exact Ext.refl _ | with_reducible refine Ext.drew' ?_ | with_reducible refine Ext.drewN' ?_ _ | with_reducible refine Ext.alloc ?_ _ | (with_reducible refine Ext.setNew ?_ (by first | exact Nat.le_refl _ | (simp; done) | (simp; omega) | omega) _)))) hE)
  replace Ex0 := Ext.trans Ex0 (Ext.trans (by (repeat (first | with_reducible assumption | with_reducible exact Ext.refl _ | with_reducible refine Ext.drew' ?_ | with_reducible refine Ext.drewN' ?_ _ | with_reducible refine Ext.alloc ?_ _ | (with_reducible refine Ext.setNew ?_ (by first | exact Nat.le_refl _ | (simp; done) | (simp; omega) | omega) _)))) hE)
  replace x0m := x0m.ext (Ext.trans (by (repeat (first | with_reducible assumption | with_reducible exact Ext.refl _ | with_reducible refine Ext.drew' ?_ | with_reducible refine Ext.drewN' ?_ _ | with_reducible refine Ext.alloc ?_ _ | (with_reducible refine Ext.setNew ?_ (by first | exact Nat.le_refl _ | (simp; done) | (simp; omega) | omega) _)))) hE)
  replace x0x := x0x.ext (Ext.trans (by (repeat (first | with_reducible assumption | with_reducible exact Ext.refl _ | with_reducible refine Ext.drew' ?_ | with_reducible refine Ext.drewN' ?_ _ | with_reducible refine Ext.alloc ?_ _ | (with_reducible refine Ext.setNew ?_ (by first | exact Nat.le_refl _ | (simp; done) | (simp; omega) | omega) _)))) hE)
  replace Eg := Ext.trans Eg (Ext.trans (by (repeat (first | with_reducible assumption | with_reducible exact Ext.refl _ | with_reducible refine Ext.drew' ?_ | with_reducible refine Ext.drewN' ?_ _ | with_reducible refine Ext.alloc ?_ _ | (with_reducible refine Ext.setNew ?_ (by first | exact Nat.le_refl _ | (simp; done) | (simp; omega) | omega) _)))) hE)
  replace g := g.ext (Ext.trans (by (repeat (first | with_reducible assumption | with_reducible exact Ext.refl _ | with_reducible refine Ext.drew' ?_ | with_reducible refine Ext.drewN' ?_ _ | with_reducible refine Ext.alloc ?_ _ | (with_reducible refine Ext.setNew ?_ (by first | exact Nat.le_refl _ | (simp; done) | (simp; omega) | omega) _)))) hE)
  clear hE
  clear x0
  obtain ⟨x0xl, x0x0, x0x1, x0x2, x0x3⟩ := (id x0x)
  try dsimp only at x0x1 x0x2 x0x3
  go_wp2_with fail
  refine (markCircuit_c _ _ c0 px0 _ _ (x0m.ext (by (repeat (first | with_reducible assumption | with_reducible exact Ext.refl _ | with_reducible refine Ext.drew' ?_ | with_reducible refine Ext.drewN' ?_ _ | with_reducible refine Ext.alloc ?_ _ | (with_reducible refine Ext.setNew ?_ (by first | exact Nat.le_refl _ | (simp; done) | (simp; omega) | omega) _))))) (by omega) (by omega) ln0 lg0 lo0).mono ?_
  rintro e s9 ⟨⟨k0, rfl, ka0, kb0⟩, hM⟩
  clear x0xl x0x0 x0x1 x0x2 x0x3
  clear x0m x0x
  replace hM := Mid.trans (Mid.ofExt (w := s8) (by (repeat (first | with_reducible assumption | with_reducible exact Ext.refl _ | with_reducible refine Ext.drew' ?_ | with_reducible refine Ext.drewN' ?_ _ | with_reducible refine Ext.alloc ?_ _ | (with_reducible refine Ext.setNew ?_ (by first | exact Nat.le_refl _ | (simp; done) | (simp; omega) | omega) _))))) hM
  replace E := E.mid hM (by omega)
  replace E4 := E4.mid hM (by omega)
  replace g := g.hi hM (by omega)
  clear hM
  have y0 := y0s.ext E4
  go_wp2_with fail
  refine (eqIntL_R (g.ext (by (repeat (first | with_reducible assumption | with_reducible exact Ext.refl _ | with_reducible refine Ext.drew' ?_ | with_reducible refine Ext.drewN' ?_ _ | with_reducible refine Ext.alloc ?_ _ | (with_reducible refine Ext.setNew ?_ (by first | exact Nat.le_refl _ | (simp; done) | (simp; omega) | omega) _))))) (r.ext (Ext.trans E4 (by (repeat (first | with_reducible assumption | with_reducible exact Ext.refl _ | with_reducible refine Ext.drew' ?_ | with_reducible refine Ext.drewN' ?_ _ | with_reducible refine Ext.alloc ?_ _ | (with_reducible refine Ext.setNew ?_ (by first | exact Nat.le_refl _ | (simp; done) | (simp; omega) | omega) _))))))).mono ?_
  rintro e s10 ⟨rfl, hE⟩
  replace E := Ext.trans E (Ext.trans (by (repeat (first | with_reducible assumption | with_reducible exact Ext.refl _ | with_reducible refine Ext.drew' ?_ | with_reducible refine Ext.drewN' ?_ _ | with_reducible refine Ext.alloc ?_ _ | (with_reducible refine Ext.setNew ?_ (by first | exact Nat.le_refl _ | (simp; done) | (simp; omega) | omega) _)))) hE)
  replace E4 := Ext.trans E4 (Ext.trans (by (repeat (first | with_reducible assumption | with_reducible exact Ext.refl _ | with_reducible refine Ext.drew' ?_ | with_reducible refine Ext.drewN' ?_ _ | with_reducible refine Ext.alloc ?_ _ | (with_reducible refine Ext.setNew ?_ (by first | exact Nat.le_refl _ | (simp; done) | (simp; omega) | omega) _)))) hE)
  replace g := g.ext (Ext.trans (by (repeat (first | with_reducible assumption | with_reducible exact Ext.refl _ | with_reducible refine Ext.drew' ?_ | with_reducible refine Ext.drewN' ?_ _ | with_reducible refine Ext.alloc ?_ _ | (with_reducible refine Ext.setNew ?_ (by first | exact Nat.le_refl _ | (simp; done) | (simp; omega) | omega) _)))) hE)
  replace y0 := y0.ext (Ext.trans (by (repeat (first | with_reducible assumption | with_reducible exact Ext.refl _ | with_reducible refine Ext.drew' ?_ | with_reducible refine Ext.drewN' ?_ _ | with_reducible refine Ext.alloc ?_ _ | (with_reducible refine Ext.setNew ?_ (by first | exact Nat.le_refl _ | (simp; done) | (simp; omega) | omega) _)))) hE)
  clear hE
  go_wp2_with fail
  refine (markIntL_R (g.ext (by (repeat (first | with_reducible assumption | with_reducible exact Ext.refl _ | with_reducible refine Ext.drew' ?_ | with_reducible refine Ext.drewN' ?_ _ | with_reducible refine Ext.alloc ?_ _ | (with_reducible refine Ext.setNew ?_ (by first | exact Nat.le_refl _ | (simp; done) | (simp; omega) | omega) _)))))).mono ?_
  rintro e s11 ⟨km, rfl, mk, hM⟩
  obtain ⟨km0, km1⟩ := mk.kb
  clear g
  clear y0
  replace hM := Mid.trans (Mid.ofExt (w := s10) (by (repeat (first | with_reducible assumption | with_reducible exact Ext.refl _ | with_reducible refine Ext.drew' ?_ | with_reducible refine Ext.drewN' ?_ _ | with_reducible refine Ext.alloc ?_ _ | (with_reducible refine Ext.setNew ?_ (by first | exact Nat.le_refl _ | (simp; done) | (simp; omega) | omega) _))))) hM
  replace E := E.mid hM (by omega)
  replace E4 := E4.mid hM (by omega)
  clear hM
  have y0 := y0s.ext E4
  go_wp2_with fail
  refine (heldIntL_R (mk.ext (by (repeat (first | with_reducible assumption | with_reducible exact Ext.refl _ | with_reducible refine Ext.drew' ?_ | with_reducible refine Ext.drewN' ?_ _ | with_reducible refine Ext.alloc ?_ _ | (with_reducible refine Ext.setNew ?_ (by first | exact Nat.le_refl _ | (simp; done) | (simp; omega) | omega) _)))))).mono ?_
  rintro e s12 ⟨rfl, hE⟩
  replace E := Ext.trans E (Ext.trans (by (repeat (first | with_reducible assumption | with_reducible exact Ext.refl _ | with_reducible refine Ext.drew' ?_ | with_reducible refine Ext.drewN' ?_ _ | with_reducible refine Ext.alloc ?_ _ | (with_reducible refine Ext.setNew ?_ (by first | exact Nat.le_refl _ | (simp; done) | (simp; omega) | omega) _)))) hE)
  replace E4 := Ext.trans E4 (Ext.trans (by (repeat (first | with_reducible assumption | with_reducible exact Ext.refl _ | with_reducible refine Ext.drew' ?_ | with_reducible refine Ext.drewN' ?_ _ | with_reducible refine Ext.alloc ?_ _ | (with_reducible refine Ext.setNew ?_ (by first | exact Nat.le_refl _ | (simp; done) | (simp; omega) | omega) _)))) hE)
  replace mk := mk.ext (Ext.trans (by (repeat (first | with_reducible assumption | with_reducible exact Ext.refl _ | with_reducible refine Ext.drew' ?_ | with_reducible refine Ext.drewN' ?_ _ | with_reducible refine Ext.alloc ?_ _ | (with_reducible refine Ext.setNew ?_ (by first | exact Nat.le_refl _ | (simp; done) | (simp; omega) | omega) _)))) hE)
  replace y0 := y0.ext (Ext.trans (by (repeat (first | with_reducible assumption | with_reducible exact Ext.refl _ | with_reducible refine Ext.drew' ?_ | with_reducible refine Ext.drewN' ?_ _ | with_reducible refine Ext.alloc ?_ _ | (with_reducible refine Ext.setNew ?_ (by first | exact Nat.le_refl _ | (simp; done) | (simp; omega) | omega) _)))) hE)
  clear hE
  obtain ⟨y0l, y00, y01, y02, y03⟩ := (id y0)
  try dsimp only at y01 y02 y03
  go_wp2_with fail
  refine (toCircuitB_c c0 q0 _ (hC0.ext (Ext.trans E (by (repeat (first | with_reducible assumption | with_reducible exact Ext.refl _ | with_reducible refine Ext.drew' ?_ | with_reducible refine Ext.drewN' ?_ _ | with_reducible refine Ext.alloc ?_ _ | (with_reducible refine Ext.setNew ?_ (by first | exact Nat.le_refl _ | (simp; done) | (simp; omega) | omega) _))))))).mono ?_
  rintro e s13 ⟨pu0, rfl, u0, hE, u0m⟩
  clear u0m
  clear y0l y00 y01 y02 y03
  replace E := Ext.trans E (Ext.trans (by (repeat (first | with_reducible assumption | with_reducible exact Ext.refl _ | with_reducible refine Ext.drew' ?_ | with_reducible refine Ext.drewN' ?_ _ | with_reducible refine Ext.alloc ?_ _ | (with_reducible refine Ext.setNew ?_ (by first | exact Nat.le_refl _ | (simp; done) | (simp; omega) | omega) _)))) hE)
  replace E4 := Ext.trans E4 (Ext.trans (by (repeat (first | with_reducible assumption | with_reducible exact Ext.refl _ | with_reducible refine Ext.drew' ?_ | with_reducible refine Ext.drewN' ?_ _ | with_reducible refine Ext.alloc ?_ _ | (with_reducible refine Ext.setNew ?_ (by first | exact Nat.le_refl _ | (simp; done) | (simp; omega) | omega) _)))) hE)
  replace mk := mk.ext (Ext.trans (by (repeat (first | with_reducible assumption | with_reducible exact Ext.refl _ | with_reducible refine Ext.drew' ?_ | with_reducible refine Ext.drewN' ?_ _ | with_reducible refine Ext.alloc ?_ _ | (with_reducible refine Ext.setNew ?_ (by first | exact Nat.le_refl _ | (simp; done) | (simp; omega) | omega) _)))) hE)
  replace y0 := y0.ext (Ext.trans (by (repeat (first | with_reducible assumption | with_reducible exact Ext.refl _ | with_reducible refine Ext.drew' ?_ | with_reducible refine Ext.drewN' ?_ _ | with_reducible refine Ext.alloc ?_ _ | (with_reducible refine Ext.setNew ?_ (by first | exact Nat.le_refl _ | (simp; done) | (simp; omega) | omega) _)))) hE)
  clear hE
  go_wp2_with fail
  refine (implNetSinks_c c0 pu0 x1 _ (u0.ext (by (repeat (first | with_reducible assumption | with_reducible exact Ext.refl _ | with_reducible refine Ext.drew' ?_ | with_reducible refine Ext.drewN' ?_ _ | with_reducible refine Ext.alloc ?_ _ | (with_reducible refine Ext.setNew ?_ (by first | exact Nat.le_refl _ | (simp; done) | (simp; omega) | omega) _)))))).mono ?_
  rw [← HV.out]
  rintro e s14 hh
  obtain ⟨vh0, rfl, h, hE⟩ := GiveIntL.rep hh
  replace E := Ext.trans E (Ext.trans (by (repeat (first | with_reducible assumption | with_reducible exact Ext.refl _ | with_reducible refine Ext.drew' ?_ | with_reducible refine Ext.drewN' ?_ _ | with_reducible refine Ext.alloc ?_ _ | (with_reducible refine Ext.setNew ?_ (by first | exact Nat.le_refl _ | (simp; done) | (simp; omega) | omega) _)))) hE)
  replace E4 := Ext.trans E4 (Ext.trans (by (repeat (first | with_reducible assumption | with_reducible exact Ext.refl _ | with_reducible refine Ext.drew' ?_ | with_reducible refine Ext.drewN' ?_ _ | with_reducible refine Ext.alloc ?_ _ | (with_reducible refine Ext.setNew ?_ (by first | exact Nat.le_refl _ | (simp; done) | (simp; omega) | omega) _)))) hE)
  replace mk := mk.ext (Ext.trans (by (repeat (first | with_reducible assumption | with_reducible exact Ext.refl _ | with_reducible refine Ext.drew' ?_ | with_reducible refine Ext.drewN' ?_ _ | with_reducible refine Ext.alloc ?_ _ | (with_reducible refine Ext.setNew ?_ (by first | exact Nat.le_refl _ | (simp; done) | (simp; omega) | omega) _)))) hE)
  replace y0 := y0.ext (Ext.trans (by (repeat (first | with_reducible assumption | with_reducible exact Ext.refl _ | with_reducible refine Ext.drew' ?_ | with_reducible refine Ext.drewN' ?_ _ | with_reducible refine Ext.alloc ?_ _ | (with_reducible refine Ext.setNew ?_ (by first | exact Nat.le_refl _ | (simp; done) | (simp; omega) | omega) _)))) hE)
  replace u0 := u0.ext (Ext.trans (by (repeat (first | with_reducible assumption | with_reducible exact Ext.refl _ | with_reducible refine Ext.drew' ?_ | with_reducible refine Ext.drewN' ?_ _ | with_reducible refine Ext.alloc ?_ _ | (with_reducible refine Ext.setNew ?_ (by first | exact Nat.le_refl _ | (simp; done) | (simp; omega) | omega) _)))) hE)
  clear hE
  go_wp2_with fail
  refine (eqIntL_R (h.ext (by (repeat (first | with_reducible assumption | with_reducible exact Ext.refl _ | with_reducible refine Ext.drew' ?_ | with_reducible refine Ext.drewN' ?_ _ | with_reducible refine Ext.alloc ?_ _ | (with_reducible refine Ext.setNew ?_ (by first | exact Nat.le_refl _ | (simp; done) | (simp; omega) | omega) _))))) (r.ext (Ext.trans E4 (by (repeat (first | with_reducible assumption | with_reducible exact Ext.refl _ | with_reducible refine Ext.drew' ?_ | with_reducible refine Ext.drewN' ?_ _ | with_reducible refine Ext.alloc ?_ _ | (with_reducible refine Ext.setNew ?_ (by first | exact Nat.le_refl _ | (simp; done) | (simp; omega) | omega) _))))))).mono ?_
  rintro e s15 ⟨rfl, hE⟩
  replace E := Ext.trans E (Ext.trans (by (repeat (first | with_reducible assumption | with_reducible exact Ext.refl _ | with_reducible refine Ext.drew' ?_ | with_reducible refine Ext.drewN' ?_ _ | with_reducible refine Ext.alloc ?_ _ | (with_reducible refine Ext.setNew ?_ (by first | exact Nat.le_refl _ | (simp; done) | (simp; omega) | omega) _)))) hE)
  replace E4 := Ext.trans E4 (Ext.trans (by (repeat (first | with_reducible assumption | with_reducible exact Ext.refl _ | with_reducible refine Ext.drew' ?_ | with_reducible refine Ext.drewN' ?_ _ | with_reducible refine Ext.alloc ?_ _ | (with_reducible refine Ext.setNew ?_ (by first | exact Nat.le_refl _ | (simp; done) | (simp; omega) | omega) _)))) hE)
  replace mk := mk.ext (Ext.trans (by (repeat (first | with_reducible assumption | with_reducible exact Ext.refl _ | with_reducible refine Ext.drew' ?_ | with_reducible refine Ext.drewN' ?_ _ | with_reducible refine Ext.alloc ?_ _ | (with_reducible refine Ext.setNew ?_ (by first | exact Nat.le_refl _ | (simp; done) | (simp; omega) | omega) _)))) hE)
  replace y0 := y0.ext (Ext.trans (by (repeat (first | with_reducible assumption | with_reducible exact Ext.refl _ | with_reducible refine Ext.drew' ?_ | with_reducible refine Ext.drewN' ?_ _ | with_reducible refine Ext.alloc ?_ _ | (with_reducible refine Ext.setNew ?_ (by first | exact Nat.le_refl _ | (simp; done) | (simp; omega) | omega) _)))) hE)
  replace h := h.ext (Ext.trans (by (repeat (first | with_reducible assumption | with_reducible exact Ext.refl _ | with_reducible refine Ext.drew' ?_ | with_reducible refine Ext.drewN' ?_ _ | with_reducible refine Ext.alloc ?_ _ | (with_reducible refine Ext.setNew ?_ (by first | exact Nat.le_refl _ | (simp; done) | (simp; omega) | omega) _)))) hE)
  clear hE
  go_wp2_with fail
  refine (heldIntL_R (mk.ext (by (repeat (first | with_reducible assumption | with_reducible exact Ext.refl _ | with_reducible refine Ext.drew' ?_ | with_reducible refine Ext.drewN' ?_ _ | with_reducible refine Ext.alloc ?_ _ | (with_reducible refine Ext.setNew ?_ (by first | exact Nat.le_refl _ | (simp; done) | (simp; omega) | omega) _)))))).mono ?_
  rintro e s16 ⟨rfl, hE⟩
  replace E := Ext.trans E (Ext.trans (by (repeat (first | with_reducible assumption | with_reducible exact Ext.refl _ | with_reducible refine Ext.drew' ?_ | with_reducible refine Ext.drewN' ?_ _ | with_reducible refine Ext.alloc ?_ _ | (with_reducible refine Ext.setNew ?_ (by first | exact Nat.le_refl _ | (simp; done) | (simp; omega) | omega) _)))) hE)
  replace E4 := Ext.trans E4 (Ext.trans (by (repeat (first | with_reducible assumption | with_reducible exact Ext.refl _ | with_reducible refine Ext.drew' ?_ | with_reducible refine Ext.drewN' ?_ _ | with_reducible refine Ext.alloc ?_ _ | (with_reducible refine Ext.setNew ?_ (by first | exact Nat.le_refl _ | (simp; done) | (simp; omega) | omega) _)))) hE)
  replace mk := mk.ext (Ext.trans (by (repeat (first | with_reducible assumption | with_reducible exact Ext.refl _ | with_reducible refine Ext.drew' ?_ | with_reducible refine Ext.drewN' ?_ _ | with_reducible refine Ext.alloc ?_ _ | (with_reducible refine Ext.setNew ?_ (by first | exact Nat.le_refl _ | (simp; done) | (simp; omega) | omega) _)))) hE)
  replace y0 := y0.ext (Ext.trans (by (repeat (first | with_reducible assumption | with_reducible exact Ext.refl _ | with_reducible refine Ext.drew' ?_ | with_reducible refine Ext.drewN' ?_ _ | with_reducible refine Ext.alloc ?_ _ | (with_reducible refine Ext.setNew ?_ (by first | exact Nat.le_refl _ | (simp; done) | (simp; omega) | omega) _)))) hE)
  replace h := h.ext (Ext.trans (by (repeat (first | with_reducible assumption | with_reducible exact Ext.refl _ | with_reducible refine Ext.drew' ?_ | with_reducible refine Ext.drewN' ?_ _ | with_reducible refine Ext.alloc ?_ _ | (with_reducible refine Ext.setNew ?_ (by first | exact Nat.le_refl _ | (simp; done) | (simp; omega) | omega) _)))) hE)
  clear hE
  go_wp2
  go_ret
  exact ⟨rfl, E⟩
theorem fnExactNetSinks_lifted (os : Os) (started : os.Started) (H : Type) (enc : TypeId × Value → H) :
    ReturnsInHanded {} Try.checked os 13 .any (Rows.fnExactNetSinksSpec.pre6 enc Try.prog Try.f13 Rows.fnExactNetSinksRow.domain false) (Rows.fnExactNetSinksSpec.post enc Try.prog Try.f13 false true false false) := by
  refine returnsInHanded_of_change (C := Try.checked) own started (by kernel_rfl) Try.func13
    (ChangeSpec.witness6 (enc := enc) (C := Try.checked) false ⟨#[], #[.agg #[.int .i64 0, .slice none 0 0, .slice none 0 0, .slice none 0 0], .int .i64 0], []⟩ 8 (by kernel_rfl) (by kernel_rfl) (by kernel_rfl) (by kernel_rfl)) ?_
  intro W base args ds gs before hval0 hW hcnd _
  have hval : ∀ (j : Nat) t v, Try.f13.params[j]? = some t → args[j]? = some v → Value.okWide Try.prog W .any base t v := hval0
  have hW' := hW
  obtain ⟨p, q, hA0, hV, rfl, hfz, hnd⟩ := hW
  have hA : DataW.TrodAll enc Try.prog W 0 (fun _ => true) true Try.f13.params.toList args.toList ds p := hA0
  rw [Try.params13] at hA hval
  obtain ⟨v0, vs0, d0, ds0, p0, q0, hargs, rfl, rfl, h0, r0⟩ := trodAll_cons hA
  obtain ⟨v1, vs1, d1, ds1, p1, q1, rfl, rfl, rfl, h1, r1⟩ := trodAll_cons r0
  obtain ⟨rfl, rfl, rfl⟩ := trodAll_nil r1
  obtain rfl : args = #[v0, v1] := by cases args; simp_all
  obtain ⟨rfl, rfl⟩ := trodVars_none hV
  have k0 := h0
  have lt0 : ∀ x ∈ p0, x.block < W.heap.size := by obtain ⟨m, hm⟩ := k0; exact DataW.trod_lt m _ _ _ hm
  obtain ⟨c0, q0', rfl, w0, _⟩ := open_circ (hval 0 38 v0 rfl rfl) h0
  have k1 := h1
  have lt1 : ∀ x ∈ p1, x.block < W.heap.size := by obtain ⟨m, hm⟩ := k1; exact DataW.trod_lt m _ _ _ hm
  obtain ⟨x1, rfl, _, _, w1⟩ := open_int Try.underlying3 (hval 1 3 v1 rfl rfl) h1
  clear hA0 hval0
  refine (fnExactNetSinks_walk c0 q0' x1 W w0 w1).mono fun e W' ⟨he, bel⟩ => ?_
  subst he
  exact ⟨_, rfl, _, _, _, [], _, [], hW', trodAll_mk1 (shut_bool Try.underlying4 _), (trodAll_cons_mk (Below.trod laidOut (by kernel_rfl) (of_decide_eq_true (by kernel_rfl)) k0 bel lt0) (trodAll_cons_mk (Below.trod laidOut (by kernel_rfl) (of_decide_eq_true (by kernel_rfl)) k1 bel lt1) trodAll_mk0)), rfl, bel.frame _, fun h => by cases h⟩
theorem fnExactNetSinks_over : Rows.fnExactNetSinksRow.holds Try.pinned (OpenSpec.ofChange Rows.fnExactNetSinksSpec) :=
  OpenClaim.holds_of_wide 13 Try.f13 rfl rfl rfl rfl rfl rfl rfl ⟨rfl, rfl, rfl, rfl, rfl⟩ rfl rfl rfl rfl rfl (by kernel_rfl) Try.func13 (by kernel_rfl)
    (of_decide_eq_true (by kernel_rfl)) (by unfold Func.isWrapper; first | (rw [if_pos (by decide +kernel)]; kernel_rfl) | (rw [if_neg (by decide +kernel)]; exact ⟨rfl, rfl⟩))
    (fun os started H enc _ => fnExactNetSinks_lifted os started H enc)
theorem fnExactNetSinks_holds : Rows.FnExactNetSinksSaid := fnExactNetSinks_over
end Go.Proofs.Ytpomcoegpjehgaa
