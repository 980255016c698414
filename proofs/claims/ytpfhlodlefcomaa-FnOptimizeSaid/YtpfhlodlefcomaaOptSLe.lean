/- Contract: the conjunction of two literals in the reference's Optimize. -/
import Derived.Test.YtpfhlodlefcomaaOptS
import Derived.Deep.DeepCutAuto
namespace Go.Proofs.Ytpfhlodlefcomaa
open Go.RowKit
set_option maxRecDepth 100000
set_option linter.unusedVariables false
set_option linter.unusedSimpArgs false
set_option maxHeartbeats 2000000 in
theorem l3AndLe_c (c : Circ) (p : Where3) (a b : Int) (w : World) (base : Nat) (hO : w.ownsRow base 46 2 (.slice p.ag c.gates.length p.cg) c.gates.length (flat c.gates)) (hbase : base ≤ w.heap.size)
    (i0 : 0 ≤ c.inputs) (i4 : c.inputs ≤ 4) (ln : c.next.length ≤ 3) (lg : c.gates.length ≤ 100) (a0 : 0 ≤ a) (b9 : b ≤ 10000) (h : a ≤ b) :
    Calls Try.prog 77 #[.agg #[.int .i64 c.inputs, .slice p.an c.next.length p.cn, .slice p.ag c.gates.length p.cg, .slice p.ao c.outs.length p.co], .int .i64 a, .int .i64 b] w (AndPost w base c p (andS c.first c.gates a b)) := by
  have E0 : Ext w ((w.alloc (.cells #[.int .i64 c.inputs, .slice p.an c.next.length p.cn, .slice p.ag c.gates.length p.cg, .slice p.ao c.outs.length p.co] 26)).alloc (.cells #[.int .i64 0, .slice none 0 0, .slice none 0 0, .slice none 0 0] 26)) := ((Ext.refl w).alloc _).alloc _
  have y := (CircBox.made w c p 26).ext ((Ext.refl _).alloc (.cells #[.int .i64 0, .slice none 0 0, .slice none 0 0, .slice none 0 0] 26))
  have r0 := Blk.at (w.alloc (.cells #[.int .i64 c.inputs, .slice p.an c.next.length p.cn, .slice p.ag c.gates.length p.cg, .slice p.ao c.outs.length p.co] 26)) [.int .i64 0, .slice none 0 0, .slice none 0 0, .slice none 0 0] 26 (B := w.heap.size + 1) (by simp)
  have hgt : ¬ b < a := by omega
  have hf : 1 ≤ c.first ∧ c.first ≤ 8 := by unfold Circ.first; omega
  obtain ⟨hf1, hf2⟩ := hf
  by_cases hz : a = 0 ∨ (a = b - 1 ∧ a % 2 = 0)
  · rw [andS_zero hz]
    have hz2 : (a == 0) = true ∨ ((a == 0) = false ∧ (a == b - 1) = true ∧ (a % 2 == 0) = true) := by
      by_cases h0 : a = 0
      · exact .inl (by simp [h0])
      · rcases hz with h1 | ⟨h1, h2⟩
        · exact absurd h1 h0
        · exact .inr ⟨by simp [h0], by simp; omega, by simp [h2]⟩
    clear hz
    rcases hz2 with k1 | ⟨k1, k2, k3⟩
    all_goals
      go_enter Try.func77, Try.ntmps77
      go_wp2
      refine bodyPost_ret (v := .tuple #[.agg #[.int .i64 c.inputs, .slice p.an c.next.length p.cn, .slice p.ag c.gates.length p.cg, .slice p.ao c.outs.length p.co], .int .i64 0]) (by simp [results, Try.results77, go_sem]) rfl ?_
      exact ⟨_, _, rfl, ownsRow_ext hO (by (repeat (first | with_reducible assumption | with_reducible exact Ext.refl _ | with_reducible refine Ext.drew' ?_ | with_reducible refine Ext.drewN' ?_ _ | with_reducible refine Ext.alloc ?_ _ | (with_reducible refine Ext.setNew ?_ (by first | exact Nat.le_refl _ | (simp; done) | (simp; omega) | omega) _)))), .inl ⟨rfl, rfl, rfl⟩, by (repeat (first | with_reducible assumption | with_reducible exact Ext.refl _ | with_reducible refine Ext.drew' ?_ | with_reducible refine Ext.drewN' ?_ _ | with_reducible refine Ext.alloc ?_ _ | (with_reducible refine Ext.setNew ?_ (by first | exact Nat.le_refl _ | (simp; done) | (simp; omega) | omega) _)))⟩
  have hz2 : ((a == 0) = false ∧ (a == b - 1) = true ∧ (a % 2 == 0) = false) ∨ ((a == 0) = false ∧ (a == b - 1) = false) := by
    by_cases h1 : a = b - 1
    · exact .inl ⟨by simp; omega, by simp [h1], by simp; omega⟩
    · exact .inr ⟨by simp; omega, by simp [h1]⟩
  have HZ := Lib.hid hz
  by_cases ho : a = 1 ∨ a = b
  · rw [andS_one hz ho]
    have ho2 : (a == 1) = true ∨ ((a == 1) = false ∧ (a == b) = true) := by
      by_cases h0 : a = 1
      · exact .inl (by simp [h0])
      · rcases ho with h1 | h1
        · exact absurd h1 h0
        · exact .inr ⟨by simp [h0], by simp [h1]⟩
    clear ho hz
    go_enter Try.func77, Try.ntmps77
    go_upto_region 5 with fail
    obtain ⟨W0, hW0⟩ : ∃ W0 : World, W0 = (w.alloc (.cells #[.int .i64 c.inputs, .slice p.an c.next.length p.cn, .slice p.ag c.gates.length p.cg, .slice p.ao c.outs.length p.co] 26)).alloc (.cells #[.int .i64 0, .slice none 0 0, .slice none 0 0, .slice none 0 0] 26) := ⟨_, rfl⟩
    go_cut [29] (fun v wx => v = .bool false ∧ wx = (w.alloc (.cells #[.int .i64 c.inputs, .slice p.an c.next.length p.cn, .slice p.ag c.gates.length p.cg, .slice p.ao c.outs.length p.co] 26)).alloc (.cells #[.int .i64 0, .slice none 0 0, .slice none 0 0, .slice none 0 0] 26))
    case first =>
      rcases hz2 with ⟨k1, k2, k3⟩ | ⟨k1, k2⟩
      all_goals (go_wp2_with fail; go_meet; exact ⟨rfl, rfl⟩)
    obtain ⟨rfl, rfl⟩ := hcut
    clear hW0
    rcases ho2 with m1 | ⟨m1, m2⟩
    all_goals
      go_wp2
      refine bodyPost_ret (v := .tuple #[.agg #[.int .i64 c.inputs, .slice p.an c.next.length p.cn, .slice p.ag c.gates.length p.cg, .slice p.ao c.outs.length p.co], .int .i64 b]) (by simp [results, Try.results77, go_sem]) rfl ?_
      exact ⟨_, _, rfl, ownsRow_ext hO (by (repeat (first | with_reducible assumption | with_reducible exact Ext.refl _ | with_reducible refine Ext.drew' ?_ | with_reducible refine Ext.drewN' ?_ _ | with_reducible refine Ext.alloc ?_ _ | (with_reducible refine Ext.setNew ?_ (by first | exact Nat.le_refl _ | (simp; done) | (simp; omega) | omega) _)))), .inl ⟨rfl, rfl, rfl⟩, by (repeat (first | with_reducible assumption | with_reducible exact Ext.refl _ | with_reducible refine Ext.drew' ?_ | with_reducible refine Ext.drewN' ?_ _ | with_reducible refine Ext.alloc ?_ _ | (with_reducible refine Ext.setNew ?_ (by first | exact Nat.le_refl _ | (simp; done) | (simp; omega) | omega) _)))⟩
  have HO := Lib.hid ho
  have m1 : (a == 1) = false := by simp; omega
  have m2 : (a == b) = false := by simp; omega
  clear ho hz
  obtain ⟨R, hR⟩ : ∃ R, R = andS c.first c.gates a b := ⟨_, rfl⟩
  rw [← hR]
  have HR := Lib.hid hR
  clear hR
  go_enter Try.func77, Try.ntmps77
  go_upto_region 5 with fail
  go_cut [29] (fun v wx => v = .bool false ∧ wx = (w.alloc (.cells #[.int .i64 c.inputs, .slice p.an c.next.length p.cn, .slice p.ag c.gates.length p.cg, .slice p.ao c.outs.length p.co] 26)).alloc (.cells #[.int .i64 0, .slice none 0 0, .slice none 0 0, .slice none 0 0] 26))
  case first =>
    rcases hz2 with ⟨k1, k2, k3⟩ | ⟨k1, k2⟩
    all_goals (go_wp2_with fail; go_meet; exact ⟨rfl, rfl⟩)
  obtain ⟨rfl, rfl⟩ := hcut
  clear hz2
  go_wp2_with fail
  refine (l1First_c c p _ (by omega) (by omega) (by omega)).mono ?_
  rintro e w1 ⟨rfl, hE1⟩
  have E1 := Ext.trans (a := w) (by (repeat (first | with_reducible assumption | with_reducible exact Ext.refl _ | with_reducible refine Ext.drew' ?_ | with_reducible refine Ext.drewN' ?_ _ | with_reducible refine Ext.alloc ?_ _ | (with_reducible refine Ext.setNew ?_ (by first | exact Nat.le_refl _ | (simp; done) | (simp; omega) | omega) _)))) hE1
  have y1 := y.ext hE1
  have r1 := r0.ext hE1
  have yb1 := ((Blk.at w [.int .i64 c.inputs, .slice p.an c.next.length p.cn, .slice p.ag c.gates.length p.cg, .slice p.ao c.outs.length p.co] 26 rfl).ext ((Ext.refl _).alloc (.cells #[.int .i64 0, .slice none 0 0, .slice none 0 0, .slice none 0 0] 26))).ext hE1
  have O1 := ownsRow_ext hO E1
  have P1 : PairsAt w1 p.ag c.gates := pairsAt_of_row (ownsRow_at O1)
  have sz1 := E1.size
  have rl := r1.lt
  obtain ⟨z0, z1, z2, z3, zf⟩ : w1.cell? ⟨w.heap.size + 1, 0, none⟩ = some (.int .i64 0) ∧ w1.cell? ⟨w.heap.size + 1, 1, none⟩ = some (.slice none 0 0) ∧ w1.cell? ⟨w.heap.size + 1, 2, none⟩ = some (.slice none 0 0) ∧ w1.cell? ⟨w.heap.size + 1, 3, none⟩ = some (.slice none 0 0) ∧ ∀ i, w1.frozen? ⟨w.heap.size + 1, i, none⟩ = false := ⟨r1.cell rfl, r1.cell rfl, r1.cell rfl, r1.cell rfl, fun i => r1.frozen i⟩
  (obtain ⟨la, a0, a1, a2, a3⟩ := (id y1))
  clear hE1
  go_wp2_with fail
  go_loop [10] (fun i => ∃ k : Nat, k ≤ c.gates.length ∧ i = .int .i64 k ∧ Hid (∀ i, i < k → c.gates.getD i (0, 0) ≠ (a, b))) (fun i => c.gates.length - (intOf i).toNat)
  case atStart => exact ⟨0, Nat.zero_le _, rfl, Lib.hid (fun i hi => by omega)⟩
  case round =>
    obtain ⟨k, hk, rfl, hp⟩ := hrel
    by_cases hlt : k < c.gates.length
    · obtain ⟨gb, go, hag, hgb, hg1, hg2⟩ := P1.get (by omega)
      have q1 := hg1 k hlt
      have q2 := hg2 k hlt
      obtain ⟨x, hx⟩ : ∃ x, x = (c.gates.getD k (0, 0)).1 := ⟨_, rfl⟩
      obtain ⟨z, hzz⟩ : ∃ x, x = (c.gates.getD k (0, 0)).2 := ⟨_, rfl⟩
      rw [← hx] at q1
      rw [← hzz] at q2
      rw [hag] at a2
      have HX := Lib.hid hx
      have HZZ := Lib.hid hzz
      have HAG := Lib.hid hag
      clear hg1 hg2 hx hzz hag
      cases e1 : (x == a)
      · go_wp2
        go_round
        case rel =>
          refine ⟨k + 1, by omega, by go_num, Lib.hid (fun i hi => ?_)⟩
          rcases Nat.lt_or_ge i k with h' | h'
          · exact hp.out i h'
          · have : i = k := by omega
            subst this
            exact gate_ne (by rintro ⟨t1, _⟩; rw [← HX.out] at t1; simp [t1] at e1)
        case measure => simp [intOf]; omega
      · cases e2 : (z == b)
        · go_wp2
          go_round
          case rel =>
            refine ⟨k + 1, by omega, by go_num, Lib.hid (fun i hi => ?_)⟩
            rcases Nat.lt_or_ge i k with h' | h'
            · exact hp.out i h'
            · have : i = k := by omega
              subst this
              exact gate_ne (by rintro ⟨_, t1⟩; rw [← HZZ.out] at t1; simp [t1] at e2)
          case measure => simp [intOf]; omega
        · have hRR : R = (c.gates, 2 * (c.first + k)) := by
            rw [HR.out]
            exact andS_old HZ.out HO.out k hlt (Prod.ext (by rw [← HX.out]; simpa using e1) (by rw [← HZZ.out]; simpa using e2)) hp.out
          subst hRR
          have rF := (((r1.set 0 (.int .i64 c.inputs)).set 1 (.slice p.an c.next.length p.cn)).set 2 (.slice (some ⟨gb, go, none⟩) c.gates.length p.cg)).set 3 (.slice p.ao c.outs.length p.co)
          (have f0 := rF.cell (i := 0) rfl; have f1 := rF.cell (i := 1) rfl; have f2 := rF.cell (i := 2) rfl; have f3 := rF.cell (i := 3) rfl; have ff := (fun i => rF.frozen i))
          go_wp2
          refine bodyPost_ret (v := .tuple #[.agg #[.int .i64 c.inputs, .slice p.an c.next.length p.cn, .slice (some ⟨gb, go, none⟩) c.gates.length p.cg, .slice p.ao c.outs.length p.co], .int .i64 (2 * (c.first + k))]) (by simp [results, Try.results77, go_sem, f0, f1, f2, f3]) rfl ?_
          rw [HAG.out] at O1
          have offO : (Value.slice (some ⟨gb, go, none⟩) c.gates.length p.cg).ownBlock ≠ some (w.heap.size + 1) := by
            rw [← HAG.out]
            intro hh
            have := (hO.lt _ hh).2
            omega
          refine ⟨_, _, rfl, ownsRow_set (ownsRow_set (ownsRow_set (ownsRow_set O1 offO _) offO _) offO _) offO _, .inl ⟨HAG.out.symm, rfl, rfl⟩, ?_⟩
          · exact Ext.setNew (Ext.setNew (Ext.setNew (Ext.setNew E1 (by simp) _) (by simp) _) (by simp) _) (by simp) _
    · have hRR : R = (c.gates ++ [(a, b)], 2 * (c.first + c.gates.length)) := by
        rw [HR.out]
        exact andS_new HZ.out HO.out (fun i hi => hp.out i (by omega))
      have HRR := Lib.hid hRR
      clear hRR
      have O2 : (w1.alloc (.cells #[] 46)).ownsRow w1.heap.size 46 2 (.slice (some ⟨w1.heap.size, 0, none⟩) 0 0) 0 [] := (Blk.at w1 [] 46 rfl).owns (n := 0) (size := 2) rfl (Nat.le_refl _) (by decide)
      go_wp2_with (first
        | (at_builtin; have hguard := o3; go_loud (refine wpList_app tyGates (o3.alloc _) (rowAt_pair _ _ _) rfl (oneCell_flat _) (by omega) (by have := g3.size; simp at this ⊢; omega) rfl rfl rfl rfl ?_); intro v4 w4 o4 g4 m4; obtain ⟨ga4, gc4, rfl, _⟩ := ownsRow_row o4; have yb3 := (yb1.ext ((Ext.refl _).alloc (.cells #[] 46))).gr g3 (by simp [Value.ownBlock]; omega); have yb4 := (yb3.alloc _).gr g4 (by intro hh; have := (o3.lt _ hh).1; omega); have r3 := (r1.ext ((Ext.refl _).alloc (.cells #[] 46))).gr g3 (by simp [Value.ownBlock]; omega); have r4 := (r3.alloc _).gr g4 (by intro hh; have := (o3.lt _ hh).1; omega); (have d0 := yb4.cell (i := 0) rfl; have d1 := yb4.cell (i := 1) rfl; have d2 := yb4.cell (i := 2) rfl; have d3 := yb4.cell (i := 3) rfl; have df := (fun i => yb4.frozen i)); (have t0 := r4.cell (i := 0) rfl; have t1 := r4.cell (i := 1) rfl; have t2 := r4.cell (i := 2) rfl; have t3 := r4.cell (i := 3) rfl; have tf := (fun i => r4.frozen i)); have l4 := r4.lt)
        | (at_builtin; refine wpList_app tyGates O2 ((ownsRow_at O1).ext ((Ext.refl _).alloc _)) (flat_length _) (oneCell_flat _) (by omega) (by simp) rfl rfl rfl rfl ?_; intro v3 w3 o3 g3 m3; simp only [Nat.zero_add, List.nil_append] at o3; obtain ⟨ga3, gc3, rfl, _⟩ := ownsRow_row o3))
      have E3 : Ext w w3 := ext_grown (E1.alloc _) g3 (by intro k hk; simp [Value.ownBlock] at hk; omega)
      have E4 : Ext w w4 := ext_grown (E3.alloc _) g4 (by intro k hk; have := (o3.lt _ hk).1; omega)
      have HW : Hid (IntKind.i64.wrap (2 * IntKind.i64.wrap (IntKind.i64.wrap (c.first + (↑c.gates.length + 1)) - 1)) = 2 * (c.first + ↑c.gates.length)) := Lib.hid (by
        rw [IntWalk.i64_in (c.first + (↑c.gates.length + 1)) (by omega), IntWalk.i64_in (c.first + (↑c.gates.length + 1) - 1) (by omega), IntWalk.i64_in (2 * (c.first + (↑c.gates.length + 1) - 1)) (by omega)]; omega)
      have of1 : (Value.slice ga4 (c.gates.length + 1) gc4).ownBlock ≠ some (w.heap.size + 1) := by
        intro hh; have := (o4.lt _ hh).1; omega
      have of0 : (Value.slice ga4 (c.gates.length + 1) gc4).ownBlock ≠ some w.heap.size := by
        intro hh; have := (o4.lt _ hh).1; omega
      go_cut [7] (fun v wx => v = .int .i64 (2 * (c.first + c.gates.length)) ∧ Blk wx (w.heap.size + 1) 26 [.int .i64 c.inputs, .slice p.an c.next.length p.cn, .slice ga4 (c.gates.length + 1) gc4, .slice p.ao c.outs.length p.co] ∧
        wx.ownsRow w1.heap.size 46 2 (.slice ga4 (c.gates.length + 1) gc4) (c.gates.length + 1) (flat c.gates ++ flat [(a, b)]) ∧ Ext w wx)
      case first =>
        go_region_law (fail)
        all_goals
          go_wp2_with fail
          go_meet
          refine ⟨by rw [HW.out], ?_, ?_, ?_⟩
          · exact Blk.drew ((((((r4.setOther (p := ⟨w.heap.size, 2, none⟩) (by simp) (.slice ga4 (c.gates.length + 1) gc4))).set 0 (.int .i64 c.inputs)).set 1 (.slice p.an c.next.length p.cn)).set 2 (.slice ga4 (c.gates.length + 1) gc4)).set 3 (.slice p.ao c.outs.length p.co))
          · exact ownsRow_ext (ownsRow_set (p := ⟨w.heap.size + 1, 3, none⟩) (ownsRow_set (p := ⟨w.heap.size + 1, 2, none⟩) (ownsRow_set (p := ⟨w.heap.size + 1, 1, none⟩) (ownsRow_set (p := ⟨w.heap.size + 1, 0, none⟩) (ownsRow_set (p := ⟨w.heap.size, 2, none⟩) o4 of0 _) of1 _) of1 _) of1 _) of1 _) (Ext.drew _)
          · exact Ext.drew' (Ext.setNew (p := ⟨w.heap.size + 1, 3, none⟩) (Ext.setNew (p := ⟨w.heap.size + 1, 2, none⟩) (Ext.setNew (p := ⟨w.heap.size + 1, 1, none⟩) (Ext.setNew (p := ⟨w.heap.size + 1, 0, none⟩) (Ext.setNew (p := ⟨w.heap.size, 2, none⟩) E4 (Nat.le_refl _) _) (Nat.le_succ _) _) (Nat.le_succ _) _) (Nat.le_succ _) _) (Nat.le_succ _) _)
      obtain ⟨rfl, r6, o6, E6⟩ := hcut
      (have f0 := r6.cell (i := 0) rfl; have f1 := r6.cell (i := 1) rfl; have f2 := r6.cell (i := 2) rfl; have f3 := r6.cell (i := 3) rfl; have ff := (fun i => r6.frozen i))
      clear yb1 yb3 yb4 r1 r3 r4 r0 y y1 g3 g4 o4 o3 hguard m3 m4 d0 d1 d2 d3 df t0 t1 t2 t3 tf l4 z0 z1 z2 z3 zf a0 a1 a2 a3 O1 O2 P1
      go_wp2
      refine bodyPost_ret (v := .tuple #[.agg #[.int .i64 c.inputs, .slice p.an c.next.length p.cn, .slice ga4 (c.gates.length + 1) gc4, .slice p.ao c.outs.length p.co], .int .i64 (2 * (c.first + c.gates.length))]) (by simp [results, Try.results77, go_sem, f0, f1, f2, f3]) rfl ?_
      rw [HRR.out]
      exact andPost_new (B1 := w1.heap.size) rfl o6 (by omega) hbase E6
end Go.Proofs.Ytpfhlodlefcomaa