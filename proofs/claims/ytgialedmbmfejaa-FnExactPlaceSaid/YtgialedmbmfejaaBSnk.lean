/- Bundle: the sinks of a net, of both libraries. -/
import Derived.Test.YtgialedmbmfejaaBCel
namespace Go.Proofs.Ytgialedmbmfejaa
open Go.RowKit
set_option maxRecDepth 100000
set_option linter.unusedVariables false
set_option linter.unusedSimpArgs false
/-- The cells that use a net, in ascending order. -/
def sinkL (cs : List CellT) (net : Int) (k : Nat) : List Int := ((List.range k).filter (fun i => (cs.getD i cell0).ins.contains net)).map (fun (i : Nat) => (i : Int))
noncomputable def sinksV (c : Circ) (net : Int) : List Int := sinkL (cellsV c) net (cellsV c).length
theorem sinkL_succ (cs : List CellT) (net : Int) (k : Nat) : sinkL cs net (k + 1) = sinkL cs net k ++ if (cs.getD k cell0).ins.contains net then [(k : Int)] else [] := by
  unfold sinkL
  rw [List.range_succ, List.filter_append, List.map_append]
  congr 1
  rw [List.filter_cons, List.filter_nil]
  cases h : (cs.getD k cell0).ins.contains net <;> rfl
theorem sinkL_le (cs : List CellT) (net : Int) (k : Nat) : (sinkL cs net k).length ≤ k := by
  induction k with
  | zero => simp [sinkL]
  | succ k ih => rw [sinkL_succ]; split <;> simp <;> omega
set_option maxHeartbeats 2000000 in
theorem indexI_c (a : Option Addr) (cap : Nat) (S : List Int) (v : Int) (w : World) (hS : IntsAt w a S) (hl : S.length ≤ 1000) :
    Calls Try.prog 140 #[.slice a S.length cap, .int .i64 v] w fun e w' => (∃ i : Int, e = .returned (.int .i64 i) ∧ -1 ≤ i ∧ i ≤ 1000 ∧ decide (0 ≤ i) = S.contains v) ∧ Ext w w' := by
  have HM : Hid (∀ j, j < S.length → S.getD j 0 = v → S.contains v = true) := Lib.hid (fun j hj e => by
    have := getN_mem (d := 0) hj
    rw [e] at this
    simpa using this)
  go_enter Try.func140, Try.ntmps140
  go_wp2_with fail
  go_loopw [8] (fun u8 wr => ∃ j : Nat, j ≤ S.length ∧ u8 = .int .i64 j ∧ Hid (∀ i, i < j → S.getD i 0 ≠ v) ∧ Ext w wr) (fun u _ => S.length - (intOf u).toNat)
  case atStart => exact ⟨0, Nat.zero_le _, rfl, Lib.hid (fun i hi => absurd hi (Nat.not_lt_zero i)), Ext.refl _⟩
  case round =>
    obtain ⟨j, hj, rfl, HN, hE⟩ := hrel
    by_cases hlt : j < S.length
    · obtain ⟨b, o, rfl, hb, hc⟩ := (hS.ext hE).get (by omega)
      have q1 := hc j hlt
      have hm : S.getD j 0 = v → S.contains v = true := HM.out j hlt
      obtain ⟨z, hz⟩ : ∃ z, z = S.getD j 0 := ⟨_, rfl⟩
      rw [← hz] at q1 hm
      have HZ := Lib.hid hz
      have HMM := Lib.hid hm
      clear hc hz hm
      by_cases he : v = z
      · have HCN := Lib.hid (HMM.out he.symm)
        clear HMM
        subst he
        go_wp2_with fail
        go_ret
        exact ⟨⟨j, rfl, by omega, by omega, by rw [HCN.out]; simp⟩, hE⟩
      · have he2 : (v == z) = false := by simp [he]
        go_wp2_with fail
        go_roundw
        case rel => exact ⟨j + 1, by omega, by go_num, Lib.hid (fun i hi => by
          rcases Nat.lt_or_ge i j with h | h
          · exact HN.out i h
          · have : i = j := by omega
            subst this
            rw [← HZ.out]; exact fun e => he e.symm), hE⟩
        case measure => simp [intOf]; omega
    · go_wp2_with fail
      go_ret
      refine ⟨⟨-1, rfl, by omega, by omega, ?_⟩, hE⟩
      rw [decide_eq_false (by omega)]
      symm
      rw [Bool.eq_false_iff]
      intro h
      have hm : v ∈ S := by simpa using h
      obtain ⟨i, hi, e⟩ := mem_getN (d := 0) hm
      exact HN.out i (by omega) e
theorem containsI_c (a : Option Addr) (cap : Nat) (S : List Int) (v : Int) (w : World) (hS : IntsAt w a S) (hl : S.length ≤ 1000) :
    Calls Try.prog 127 #[.slice a S.length cap, .int .i64 v] w fun e w' => e = .returned (.bool (S.contains v)) ∧ Ext w w' := by
  go_enter Try.func127, Try.ntmps127
  go_wp2_with fail
  refine (indexI_c a cap S v _ hS hl).mono ?_
  rintro e w1 ⟨⟨i, rfl, hi0, hi1, hi⟩, hE1⟩
  have HI := Lib.hid hi
  clear hi
  go_wp2
  go_ret
  exact ⟨by rw [← HI.out]; rfl, hE1⟩
theorem cells_sm (c : Circ) : (cellsV c).length ≤ 17 ∧ ∀ x ∈ cellsV c, x.ins.length ≤ 3 := by
  cases hv : validB c
  · have e : cellsV c = [] := by unfold cellsV; rw [hv]; rfl
    rw [e]
    exact ⟨by simp, by simp⟩
  · have V := validB_iff.1 hv
    have e : cellsV c = latchK c c.next.length ++ ((lutK c c.vars.toNat c.gates.length).2).map lutCell := by unfold cellsV; rw [hv]; rfl
    have hi0 := V.i0
    have h1 := lutK_sm V (n := c.vars.toNat) (by unfold Circ.vars Circ.first; omega) c.gates.length (Nat.le_refl _)
    have h2 := lutK_count c c.vars.toNat c.gates.length
    have lg := V.lg
    have ln := V.ln
    have hll := latchK_length c c.next.length
    rw [e]
    refine ⟨by rw [List.length_append, List.length_map]; omega, fun x hx => ?_⟩
    rcases List.mem_append.1 hx with h | h
    · obtain ⟨i, _, rfl⟩ := List.mem_map.1 h
      unfold latchCell
      split <;> simp
    · obtain ⟨y, hy, rfl⟩ := List.mem_map.1 h
      exact h1 y hy
set_option maxHeartbeats 4000000 in
theorem implNetSinks_c (c : Circ) (p : Where3) (net : Int) (w : World) (hc : CircAt w c p) :
    Calls Try.prog 105 #[.agg #[.int .i64 c.inputs, .slice p.an c.next.length p.cn, .slice p.ag c.gates.length p.cg, .slice p.ao c.outs.length p.co], .int .i64 net] w (GiveNL w (sinksV c net)) := by
  have E0 : Ext w (w.alloc (.cells #[.int .i64 c.inputs, .slice p.an c.next.length p.cn, .slice p.ag c.gates.length p.cg, .slice p.ao c.outs.length p.co] 26)) := (Ext.refl w).alloc _
  have y := CircBox.made w c p 26
  obtain ⟨hn17, hs3⟩ := cells_sm c
  obtain ⟨D, hD⟩ : ∃ D, D = sinksV c net := ⟨_, rfl⟩
  rw [← hD]
  obtain ⟨cs, hcs⟩ : ∃ cs, cs = cellsV c := ⟨_, rfl⟩
  have HDD : Hid (D = sinkL cs net cs.length) := Lib.hid (by rw [hD, hcs]; rfl)
  rw [← hcs] at hn17 hs3
  have HS3 := Lib.hid hs3
  have HCS := Lib.hid hcs
  clear hD hcs hs3
  (obtain ⟨lb, b0, b1, b2, b3⟩ := (id y))
  go_enter Try.func105, Try.ntmps105
  go_wp2_with fail
  refine (implCells_c c p _ (hc.ext E0)).mono ?_
  rw [← HCS.out]
  rintro e w1 ⟨cv, F, rfl, hN, _, hE1⟩
  have E1 := E0.trans hE1
  obtain ⟨ca, cc, rfl, _⟩ := hN.sl
  have HN := Lib.hid hN
  clear b0 b1 b2 b3 lb y hN
  go_wp2_with fail
  go_loopw [5, 11] (fun u5 u11 wr => ∃ k : Nat, k ≤ cs.length ∧ u11 = .int .i64 k ∧ OwnInts wr w1.heap.size 3 u5 (sinkL cs net k) ∧ Ext w1 wr) (fun _ v _ => cs.length - (intOf v).toNat)
  case atStart => exact ⟨0, Nat.zero_le _, rfl, ownsRow_nil, Ext.refl _⟩
  case round =>
    obtain ⟨k, hk, rfl, hO, hE⟩ := hrel
    obtain ⟨w2, rfl⟩ : ∃ z : World, z = wr := ⟨_, rfl⟩
    by_cases hlt : k < cs.length
    · obtain ⟨g, rfl, hg, _, hcells⟩ := Nst.getN goodCell (HN.out.ext goodCell hE) (by omega)
      obtain ⟨ds, F1, ⟨v, rfl, o1, rfl⟩, q, _⟩ := hcells k cell0 hlt
      have r0 := q 0 _ (by omega) rfl
      have r1 := q 1 _ (by omega) rfl
      have r2 := q 2 _ (by omega) rfl
      have r3 := q 3 _ (by omega) rfl
      rw [Nat.add_zero] at r0
      have hsn := sinkL_succ cs net k
      have hle := sinkL_le cs net k
      have hl3 := HS3.out _ (getN_mem (d := cell0) hlt)
      obtain ⟨x, hx⟩ : ∃ x, x = cs.getD k cell0 := ⟨_, rfl⟩
      rw [← hx] at r0 r2 r3 o1 hsn hl3
      obtain ⟨va, vc, rfl, hI, _⟩ := o1.opened
      obtain ⟨S, hS⟩ : ∃ S, S = sinkL cs net k := ⟨_, rfl⟩
      rw [← hS] at hO hle hsn
      have HSN := Lib.hid hsn
      have hsz := hE.size
      clear hx hS hsn q hcells o1
      go_wp2_with fail
      refine (containsI_c va vc x.ins net _ (hI.ext (by (repeat (first | with_reducible assumption | with_reducible exact Ext.refl _ | with_reducible refine Ext.drew' ?_ | with_reducible refine Ext.drewN' ?_ _ | with_reducible refine Ext.alloc ?_ _ | (with_reducible refine Ext.setNew ?_ (by first | exact Nat.le_refl _ | (simp; done) | (simp; omega) | omega) _))))) (by omega)).mono ?_
      rintro e w5 ⟨rfl, hE5⟩
      obtain ⟨E25, hsz5⟩ : Ext w2 w5 ∧ w2.heap.size ≤ w5.heap.size := by
        have h : Ext w2 w5 := Ext.trans (by (repeat (first | with_reducible assumption | with_reducible exact Ext.refl _ | with_reducible refine Ext.drew' ?_ | with_reducible refine Ext.drewN' ?_ _ | with_reducible refine Ext.alloc ?_ _ | (with_reducible refine Ext.setNew ?_ (by first | exact Nat.le_refl _ | (simp; done) | (simp; omega) | omega) _)))) hE5
        exact ⟨h, h.size⟩
      have hO5 : OwnInts w5 w1.heap.size 3 u5 S := ownsRow_ext hO E25
      have E5 := hE.trans E25
      obtain ⟨B, hB⟩ : ∃ B, B = x.ins.contains net := ⟨_, rfl⟩
      rw [← hB] at HSN
      rw [← hB]
      clear hO hE5 hB r0 r1 r2 r3
      cases B
      · go_wp2_with fail
        go_roundw
        case rel => exact ⟨k + 1, by omega, by go_num, by rw [HSN.out]; simpa using hO5, E5⟩
        case measure => simp [intOf]; omega
      · go_wp2_with (at_builtin; refine wpList_app tyInts (ownsRow_ext hO5 (by (repeat (first | with_reducible assumption | with_reducible exact Ext.refl _ | with_reducible refine Ext.drew' ?_ | with_reducible refine Ext.drewN' ?_ _ | with_reducible refine Ext.alloc ?_ _ | (with_reducible refine Ext.setNew ?_ (by first | exact Nat.le_refl _ | (simp; done) | (simp; omega) | omega) _))))) (rowNew _ _ _ (by simp)) rfl (by simp [Value.oneCell']) (by omega) (by simp; omega) rfl rfl rfl rfl ?_; intro v9 w9 o9 g9 m9)
        have E9 : Ext w1 w9 := ext_grown (w1 := _) (Ext.trans E5 (by (repeat (first | with_reducible assumption | with_reducible exact Ext.refl _ | with_reducible refine Ext.drew' ?_ | with_reducible refine Ext.drewN' ?_ _ | with_reducible refine Ext.alloc ?_ _ | (with_reducible refine Ext.setNew ?_ (by first | exact Nat.le_refl _ | (simp; done) | (simp; omega) | omega) _))))) g9 (fun q hq => (own_lo hO5 q hq).1)
        have O9 : OwnInts w9 w1.heap.size 3 v9 (S ++ [(k : Int)]) := own_app (xs := S) (ys := [(k : Int)]) rfl rfl o9
        go_roundw
        case rel => exact ⟨k + 1, by omega, by go_num, by rw [HSN.out]; exact O9, E9⟩
        case measure => simp [intOf]; omega
    · have hk2 : k = cs.length := by omega
      rw [hk2, ← HDD.out] at hO
      go_wp2_with fail
      go_ret
      refine ⟨_, rfl, ownsRow_base hO E1.size, E1.trans hE⟩
end Go.Proofs.Ytgialedmbmfejaa

namespace Go.Proofs.Ytgialedmbmfejaa
open Go.RowKit
set_option maxRecDepth 100000
set_option linter.unusedVariables false
set_option linter.unusedSimpArgs false
set_option maxHeartbeats 4000000 in
theorem l6Sinks_c (ca : Option Addr) (cc : Nat) (cs : List CellT) (F : List Nat) (net : Int) (w : World) (hN : NstC w (.slice ca cs.length cc) cs F) (hl : cs.length ≤ 17) (hs : ∀ x ∈ cs, Asc x.ins ∧ x.ins.length ≤ 3) :
    Calls Try.prog 139 #[.slice ca cs.length cc, .int .i64 net] w (GiveNL w (sinkL cs net cs.length)) := by
  obtain ⟨D, hD⟩ : ∃ D, D = sinkL cs net cs.length := ⟨_, rfl⟩
  rw [← hD]
  have HDD := Lib.hid hD
  have HS := Lib.hid hs
  have HN := Lib.hid hN
  have O0 : OwnInts (w.alloc (.cells #[] 3)) w.heap.size 3 (.slice (some ⟨w.heap.size, 0, none⟩) 0 0) (sinkL cs net 0) := (Blk.at w [] 3 rfl).owns (n := 0) (size := 1) rfl (Nat.le_refl _) (by decide)
  have E0 := (Ext.refl w).alloc (.cells #[] 3)
  clear hD hs hN
  go_enter Try.func139, Try.ntmps139
  go_wp2_with fail
  go_loopw [5, 6] (fun u5 u6 wr => ∃ k : Nat, k ≤ cs.length ∧ u6 = .int .i64 k ∧ OwnInts wr w.heap.size 3 u5 (sinkL cs net k) ∧ Ext w wr) (fun _ v _ => cs.length - (intOf v).toNat)
  case atStart => exact ⟨0, Nat.zero_le _, rfl, O0, E0⟩
  case round =>
    clear O0 E0
    obtain ⟨k, hk, rfl, hO, hE⟩ := hrel
    by_cases hlt : k < cs.length
    · have hsn := sinkL_succ cs net k
      have hle := sinkL_le cs net k
      obtain ⟨hasc, hl3⟩ := HS.out _ (getN_mem (d := cell0) hlt)
      obtain ⟨S, hS⟩ : ∃ S, S = sinkL cs net k := ⟨_, rfl⟩
      rw [← hS] at hO hle hsn
      obtain ⟨I, hI⟩ : ∃ I, I = (cs.getD k cell0).ins := ⟨_, rfl⟩
      rw [← hI] at hsn hasc hl3
      have HSN := Lib.hid hsn
      have HA := Lib.hid hasc
      have HI := Lib.hid hI
      clear hS hsn hasc hI
      go_wp2_with fail
      go_loopw [5, 7] (fun u5 u7 wr => ∃ j : Nat, j ≤ I.length ∧ u7 = .int .i64 j ∧ OwnInts wr w.heap.size 3 u5 (S ++ if (I.take j).contains net then [(k : Int)] else []) ∧ Ext w wr) (fun _ v _ => I.length - (intOf v).toNat)
      case atStart => exact ⟨0, Nat.zero_le _, rfl, by simpa using hO, hE⟩
      case round =>
        clear hO hE
        obtain ⟨j, hj, rfl, hO, hE⟩ := hrel
        obtain ⟨w2, rfl⟩ : ∃ z : World, z = wr := ⟨_, rfl⟩
        obtain ⟨g, rfl, hg, _, hcells⟩ := Nst.getN goodCell (HN.out.ext goodCell hE) (by omega)
        obtain ⟨ds, F1, ⟨v, rfl, o1, rfl⟩, q, _⟩ := hcells k cell0 hlt
        have r1 := q 1 _ (by omega) rfl
        obtain ⟨va, vc, rfl, hI, _⟩ := o1.opened
        rw [← HI.out] at r1 hI
        clear q hcells o1
        by_cases hlt2 : j < I.length
        · obtain ⟨b9, o9, rfl, hb9, hc9⟩ := hI.get (by omega)
          have q9 := hc9 j hlt2
          have hta : (I.take (j + 1)).contains net = ((I.take j).contains net || (I.getD j 0 == net)) := by
            rw [take_snocD I j 0 hlt2, Bool.eq_iff_iff, Bool.or_eq_true, List.contains_iff_mem, List.contains_iff_mem, List.mem_append, List.mem_singleton, beq_iff_eq]
            exact or_congr Iff.rfl eq_comm
          have hnd : I.getD j 0 = net → (I.take j).contains net = false := by
            intro e
            rw [Bool.eq_false_iff]
            intro h
            have hm : net ∈ I.take j := by simpa using h
            obtain ⟨i, hi, e2⟩ := mem_getN (d := 0) hm
            have hij : i < j := by rw [List.length_take] at hi; omega
            refine asc_ne HA.out hij hlt2 ?_
            rw [e, ← e2, List.getD_eq_getElem?_getD, List.getD_eq_getElem?_getD, List.getElem?_take_of_lt hij]
          obtain ⟨z, hz⟩ : ∃ z, z = I.getD j 0 := ⟨_, rfl⟩
          rw [← hz] at q9 hta hnd
          obtain ⟨B, hB⟩ : ∃ B, B = (I.take j).contains net := ⟨_, rfl⟩
          rw [← hB] at hta hnd hO
          have HT := Lib.hid hta
          clear hc9 hz hta hB
          by_cases he : z = net
          · have hb := hnd he
            subst hb he
            have hO' : OwnInts w2 w.heap.size 3 u5 S := by simpa using hO
            have hsz := hE.size
            clear hO hnd
            go_wp2_with (at_builtin; refine wpList_app tyInts (ownsRow_ext hO' (by (repeat (first | with_reducible assumption | with_reducible exact Ext.refl _ | with_reducible refine Ext.drew' ?_ | with_reducible refine Ext.drewN' ?_ _ | with_reducible refine Ext.alloc ?_ _ | (with_reducible refine Ext.setNew ?_ (by first | exact Nat.le_refl _ | (simp; done) | (simp; omega) | omega) _))))) (rowNew _ _ _ (by simp)) rfl (by simp [Value.oneCell']) (by omega) (by simp; omega) rfl rfl rfl rfl ?_; intro v9 w9 o9 g9 m9)
            have E9 : Ext w w9 := ext_grown (w1 := _) (Ext.trans hE (by (repeat (first | with_reducible assumption | with_reducible exact Ext.refl _ | with_reducible refine Ext.drew' ?_ | with_reducible refine Ext.drewN' ?_ _ | with_reducible refine Ext.alloc ?_ _ | (with_reducible refine Ext.setNew ?_ (by first | exact Nat.le_refl _ | (simp; done) | (simp; omega) | omega) _))))) g9 (fun q hq => (own_lo hO' q hq).1)
            have O9 : OwnInts w9 w.heap.size 3 v9 (S ++ [(k : Int)]) := own_app (xs := S) (ys := [(k : Int)]) rfl rfl o9
            go_roundw
            case rel => exact ⟨j + 1, by omega, by go_num, by rw [HT.out]; simpa using O9, E9⟩
            case measure => simp [intOf]; omega
          · have he2 : (z == net) = false := by simp [he]
            clear hnd
            go_wp2_with fail
            go_roundw
            case rel => exact ⟨j + 1, by omega, by go_num, by rw [HT.out, he2, Bool.or_false]; exact hO, hE⟩
            case measure => simp [intOf]; omega
        · have hj2 : j = I.length := by omega
          rw [hj2, List.take_length, ← HSN.out] at hO
          have hnn : ¬ ((j : Int) < (I.length : Int)) := by omega
          go_wp2_with fail
          go_roundw
          case rel => exact ⟨k + 1, by omega, by go_num, hO, hE⟩
          case measure => simp [intOf]; omega
    · have hk2 : k = cs.length := by omega
      rw [hk2, ← HDD.out] at hO
      go_wp2_with fail
      go_ret
      exact ⟨_, rfl, hO, hE⟩
theorem lutK_asc {c : Circ} (V : c.Valid) {n : Nat} (hn : c.vars = (n : Int)) : ∀ k, k ≤ c.gates.length → ∀ x ∈ (lutK c n k).2, Asc x.lv := by
  intro k
  induction k with
  | zero => intro _ x hx; simp [lutK] at hx
  | succ k ih =>
    intro hk x hx
    rw [lutK, lutStep] at hx
    split at hx
    · rcases List.mem_cons.1 hx with rfl | h
      · have hi0 := V.i0
        have h := bestN_cut V (k := c.gates.length - 1 - k) (by omega)
        have hf0 : 0 ≤ c.first := by unfold Circ.first; omega
        have e : c.first.toNat + (c.gates.length - 1 - k) = n - 1 - k := by
          unfold Circ.vars at hn
          omega
        rw [e] at h
        exact h.asc
      · exact ih (by omega) x h
    · exact ih (by omega) x hx
theorem cells_asc {c : Circ} (V : c.Valid) : ∀ x ∈ cellsN c, Asc x.ins := by
  have hi0 := V.i0
  have h1 := lutK_asc V (n := c.vars.toNat) (by unfold Circ.vars Circ.first; omega) c.gates.length (Nat.le_refl _)
  intro x hx
  rcases List.mem_append.1 hx with h | h
  · obtain ⟨i, _, rfl⟩ := List.mem_map.1 h
    unfold latchCell
    split <;> simp [Asc]
  · obtain ⟨y, hy, rfl⟩ := List.mem_map.1 h
    exact h1 y hy
end Go.Proofs.Ytgialedmbmfejaa

