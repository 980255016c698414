/- Contract: the builder's conjunction of two literals. -/
import Derived.Test.YtpfhlodlefcomaaOptI0
namespace Go.Proofs.Ytpfhlodlefcomaa
open Go.RowKit Go.Maps
set_option maxRecDepth 100000
set_option linter.unusedVariables false
set_option linter.unusedSimpArgs false
set_option maxHeartbeats 4000000 in
theorem andGt_c (w : World) (base bb mb : Nat) (f : Int) (gs : List (Int × Int)) (gv lv : Value) (ls : List Int) (a b : Int) (hu : Bu w base bb mb f gs gs gv lv ls) (hbase : base ≤ w.heap.size)
    (hf : 1 ≤ f ∧ f ≤ 1000) (hl : (ls.length : Int) = f + gs.length) (lg : gs.length ≤ 1000) (a0 : 0 ≤ a) (b9 : b < 2 * (f + gs.length)) (h : a < b) :
    Calls Try.prog 73 #[.pointer (some ⟨bb, 0, none⟩), .int .i64 b, .int .i64 a] w (AndBu w base bb mb f gv lv (andS f gs a b)) := by
  have lbb := hu.blk.lt
  obtain ⟨ga, gc, rfl, _⟩ := ownsRow_row hu.gs
  obtain ⟨la, lc, rfl, _⟩ := ownsRow_row hu.ls
  have LG := Lib.hid hl
  have hgt : a < b := h
  obtain ⟨hf1, hf2⟩ := hf
  have hx := xor_bit b 1 (by omega) (by omega)
  have hxy : bits .xor .i64 b 1 = xorL b 1 := hx
  clear hx
  have hxl : xorL b 1 = if b % 2 = 0 then b + 1 else b - 1 := by unfold xorL; rw [if_pos (by omega)]
  obtain ⟨yx, hyx⟩ : ∃ y, y = xorL b 1 := ⟨_, rfl⟩
  rw [← hyx] at hxy hxl
  have HXL := Lib.hid hxl
  clear hyx hxl
  by_cases hz : a = 0 ∨ (a = b - 1 ∧ a % 2 = 0)
  · rw [andS_zero hz]
    have hz2 : (a == 0) = true ∨ ((a == 0) = false ∧ (a == yx) = true) := by
      by_cases h0 : a = 0
      · exact .inl (by simp [h0])
      · rcases hz with h1 | ⟨h1, h2⟩
        · exact absurd h1 h0
        · have := HXL.out
          rw [if_neg (by omega)] at this
          exact .inr ⟨by simp [h0], by simp; omega⟩
    clear hz hl
    rcases hz2 with k1 | ⟨k1, k2⟩
    all_goals
      go_enter Try.func73, Try.ntmps73
      go_wp2
      go_ret
      exact ⟨_, _, ls, rfl, hu.ext (by (repeat (first | with_reducible assumption | with_reducible exact Ext.refl _ | with_reducible refine Ext.drew' ?_ | with_reducible refine Ext.drewN' ?_ _ | with_reducible refine Ext.alloc ?_ _ | (with_reducible refine Ext.setNew ?_ (by first | exact Nat.le_refl _ | (simp; done) | (simp; omega) | omega) _)))), LG.out, .inl rfl, .inl rfl, Chg.ext (by (repeat (first | with_reducible assumption | with_reducible exact Ext.refl _ | with_reducible refine Ext.drew' ?_ | with_reducible refine Ext.drewN' ?_ _ | with_reducible refine Ext.alloc ?_ _ | (with_reducible refine Ext.setNew ?_ (by first | exact Nat.le_refl _ | (simp; done) | (simp; omega) | omega) _))))⟩
  have k1 : (a == 0) = false := by simp; omega
  have k2 : (a == yx) = false := by
    have := HXL.out
    simp
    split at this <;> omega
  have HZ := Lib.hid hz
  by_cases ho : a = 1 ∨ a = b
  · rw [andS_one hz ho]
    have ho2 : (a == 1) = true ∨ ((a == 1) = false ∧ (a == b) = true) := by
      by_cases h0 : a = 1
      · exact .inl (by simp [h0])
      · rcases ho with h1 | h1
        · exact absurd h1 h0
        · exact .inr ⟨by simp [h0], by simp [h1]⟩
    clear ho hz hl
    rcases ho2 with m1 | ⟨m1, m2⟩
    all_goals
      go_enter Try.func73, Try.ntmps73
      go_wp2
      go_ret
      exact ⟨_, _, ls, rfl, hu.ext (by (repeat (first | with_reducible assumption | with_reducible exact Ext.refl _ | with_reducible refine Ext.drew' ?_ | with_reducible refine Ext.drewN' ?_ _ | with_reducible refine Ext.alloc ?_ _ | (with_reducible refine Ext.setNew ?_ (by first | exact Nat.le_refl _ | (simp; done) | (simp; omega) | omega) _)))), LG.out, .inl rfl, .inl rfl, Chg.ext (by (repeat (first | with_reducible assumption | with_reducible exact Ext.refl _ | with_reducible refine Ext.drew' ?_ | with_reducible refine Ext.drewN' ?_ _ | with_reducible refine Ext.alloc ?_ _ | (with_reducible refine Ext.setNew ?_ (by first | exact Nat.le_refl _ | (simp; done) | (simp; omega) | omega) _))))⟩
  have HO := Lib.hid ho
  have m1 : (a == 1) = false := by simp; omega
  have m2 : (a == b) = false := by simp; omega
  clear ho hz hl
  have hab : a < b := by simp at m2; omega
  have ok := gOk_of (a := a) (b := b) (by omega) (by omega) (by omega) (by omega)
  have hu1 := hu.ext ((Ext.refl w).alloc (.cells #[.int .i64 a, .int .i64 b] 46))
  have gb1 := Blk.at w [.int .i64 a, .int .i64 b] 46 rfl
  have E1 : Ext w (w.alloc (.cells #[.int .i64 a, .int .i64 b] 46)) := (Ext.refl w).alloc _
  have z1 : (w.alloc (.cells #[.int .i64 a, .int .i64 b] 46)).heap.size = w.heap.size + 1 := by simp
  have z2 : w.heap.size < (w.alloc (.cells #[.int .i64 a, .int .i64 b] 46)).heap.size := by simp
  clear z1
  obtain ⟨R, hR⟩ : ∃ R, R = andS f gs a b := ⟨_, rfl⟩
  rw [← hR]
  have HR := Lib.hid hR
  clear hR
  have t0 := gb1.cell (i := 0) rfl
  have t1 := gb1.cell (i := 1) rfl
  have c0 := hu1.blk.cell (i := 0) rfl
  have c1 := hu1.blk.cell (i := 1) rfl
  have c2 := hu1.blk.cell (i := 2) rfl
  have c3 := hu1.blk.cell (i := 3) rfl
  obtain ⟨lit, hlk, hlit⟩ := hu1.kn.look ok
  have hlk : ∀ n, (Instr.lookup 89 (.map (some mb)) (.agg #[.int .i64 a, .int .i64 b]) true).run Try.prog ((w.alloc (.cells #[.int .i64 a, .int .i64 b] 46)).drewN n) = .ok (.tuple #[.int .i64 lit, .bool (decide ((a, b) ∈ gs))]) ((w.alloc (.cells #[.int .i64 a, .int .i64 b] 46)).drewN n) := hlk
  have hlk1 := hlk 1
  have HLIT := Lib.hid hlit
  clear hlit
  go_enter Try.func73, Try.ntmps73
  go_wp2_with fail
  generalize w.alloc (.cells #[.int .i64 a, .int .i64 b] 46) = W1 at *
  by_cases hm : (a, b) ∈ gs
  · have hd : decide ((a, b) ∈ gs) = true := by simpa using hm
    rw [hd] at hlk hlk1
    have hRR : R = (gs, lit) := by
      rw [HR.out]; unfold andS; rw [if_neg HZ.out, if_neg HO.out, if_pos hm, HLIT.out hm]
    have HRR := Lib.hid hRR
    clear hd hm hRR
    go_quiet (fail)
    go_wp2
    go_ret
    rw [HRR.out]
    exact ⟨_, _, ls, rfl, hu1.ext (by (repeat (first | with_reducible assumption | with_reducible exact Ext.refl _ | with_reducible refine Ext.drew' ?_ | with_reducible refine Ext.drewN' ?_ _ | with_reducible refine Ext.alloc ?_ _ | (with_reducible refine Ext.setNew ?_ (by first | exact Nat.le_refl _ | (simp; done) | (simp; omega) | omega) _)))), LG.out, .inl rfl, .inl rfl, Chg.ext (by (repeat (first | with_reducible assumption | with_reducible exact Ext.refl _ | with_reducible refine Ext.drew' ?_ | with_reducible refine Ext.drewN' ?_ _ | with_reducible refine Ext.alloc ?_ _ | (with_reducible refine Ext.setNew ?_ (by first | exact Nat.le_refl _ | (simp; done) | (simp; omega) | omega) _))))⟩
  · have hd : decide ((a, b) ∈ gs) = false := by simpa using hm
    rw [hd] at hlk hlk1
    have hRR : R = (gs ++ [(a, b)], 2 * (f + (gs.length : Nat))) := by
      rw [HR.out]; unfold andS; rw [if_neg HZ.out, if_neg HO.out, if_neg hm, List.idxOf_eq_length hm]
    have HRR := Lib.hid hRR
    have HM := Lib.hid hm
    clear hd hm hRR
    have lmb := hu.kn.lt
    have s1 := E1.size
    go_quiet (fail)
    generalize hW2 : W1.drewN nq = W2
    have hE2 : Ext W1 W2 := by rw [← hW2]; exact Ext.drewN W1 nq
    have hu2 := hu1.ext hE2
    have gb2 := gb1.ext hE2
    have E2 := E1.trans hE2
    clear hW2 hE2 hu1 gb1 E1 t0 t1 c0 c1 c2 c3 hlk hlk1 nq
    have c0 := hu2.blk.cell (i := 0) rfl
    have c1 := hu2.blk.cell (i := 1) rfl
    go_wp2_with fail
    go_quiet (fail)
    generalize hW3 : W2.drewN nq = W3
    have hE3 : Ext W2 W3 := by rw [← hW3]; exact Ext.drewN W2 nq
    have hu3 := hu2.ext hE3
    have gb3 := gb2.ext hE3
    have E3 := E2.trans hE3
    clear hW3 hE3 hu2 gb2 E2 c0 c1 nq z2 s1
    have s3 := gb3.lt
    have c3 := hu3.blk.cell (i := 3) rfl
    have t0 := gb3.cell (i := 0) rfl
    have t1 := gb3.cell (i := 1) rfl
    obtain ⟨D, hD1, hD2, hD3⟩ := hu3.kn
    go_wp2_with fail
    refine wp_regionT (fun w' => w'.cell? ⟨bb, 3, none⟩ = some (.map (some mb)) ∧ w'.cell? ⟨w.heap.size, 0, none⟩ = some (.int .i64 a) ∧ w'.cell? ⟨w.heap.size, 1, none⟩ = some (.int .i64 b)) 6 (by kernel_rfl) ?_
    have hS0 : W3.drew.cell? ⟨bb, 3, none⟩ = some (.map (some mb)) ∧ W3.drew.cell? ⟨w.heap.size, 0, none⟩ = some (.int .i64 a) ∧ W3.drew.cell? ⟨w.heap.size, 1, none⟩ = some (.int .i64 b) := ⟨c3, t0, t1⟩
    ((refine wpAnyT_take 0 (v := ?_) rfl (by kernel_rfl) (fun _ _ _ h => h) (Or.inl ⟨by kernel_rfl, ?_⟩) (by assumption) ?_; rotate_left; (intro wS hSw; (try dsimp only at hSw); go_simp; (try with_reducible rfl)); (try simp only [Act.put, List.setIfInBounds_toArray, List.set_cons_zero, List.set_cons_succ])); (refine wpAnyT_take 1 (v := ?_) rfl (by kernel_rfl) (fun _ _ _ h => h) (Or.inl ⟨by kernel_rfl, ?_⟩) (by assumption) ?_; rotate_left; (intro wS hSw; (try dsimp only at hSw); go_simp; (try with_reducible rfl)); (try simp only [Act.put, List.setIfInBounds_toArray, List.set_cons_zero, List.set_cons_succ])); (refine wpAnyT_take 2 (v := ?_) rfl (by kernel_rfl) (fun _ _ _ h => h) (Or.inl ⟨by kernel_rfl, ?_⟩) (by assumption) ?_; rotate_left; (intro wS hSw; (try dsimp only at hSw); go_simp; (try with_reducible rfl)); (try simp only [Act.put, List.setIfInBounds_toArray, List.set_cons_zero, List.set_cons_succ])); (refine wpAnyT_take 3 (v := ?_) rfl (by kernel_rfl) (fun _ _ _ h => h) (Or.inl ⟨by kernel_rfl, ?_⟩) (by assumption) ?_; rotate_left; (intro wS hSw; (try dsimp only at hSw); go_simp; (try with_reducible rfl)); (try simp only [Act.put, List.setIfInBounds_toArray, List.set_cons_zero, List.set_cons_succ])); (refine wpAnyT_take 4 (v := ?_) rfl (by kernel_rfl) (fun _ _ _ h => h) (Or.inl ⟨by kernel_rfl, ?_⟩) (by assumption) ?_; rotate_left; (intro wS hSw; (try dsimp only at hSw); go_simp; (try with_reducible rfl)); (try simp only [Act.put, List.setIfInBounds_toArray, List.set_cons_zero, List.set_cons_succ])); (refine wpAnyT_take 5 (v := ?_) rfl (by kernel_rfl) (fun _ _ _ h => h) (Or.inl ⟨by kernel_rfl, ?_⟩) (by assumption) ?_; rotate_left; (intro wS hSw; (try dsimp only at hSw); go_simp; (try with_reducible rfl)); (try simp only [Act.put, List.setIfInBounds_toArray, List.set_cons_zero, List.set_cons_succ])))
    have hk3 : keyOf Try.prog 46 (.agg #[.int .i64 a, .int .i64 b]) = some (gKey (a, b)) := gKeyOf (a, b) ok
    have hv3 : gElem (.int .i64 (2 * (f + ↑gs.length))) = some (.lit (.int .i64 (2 * (f + ↑gs.length))), []) := plainElem_int Try.underlying3 (wf_small (by omega) (by omega))
    have hn3 : gs.length < maxLen := by unfold maxLen; omega
    have hD0 : W3.drew.ownsMap Try.prog 46 gElem mb gs.length D := hD1
    (refine wpAnyT_lastB 6 (by kernel_rfl) rfl (by decide) (by kernel_rfl) (fun K hK => ?_))
    refine step_updB hD0 gLaw gMapTy hn3 hk3 hv3 rfl rfl (by kernel_rfl) (by kernel_rfl) (by kernel_rfl) ?_
    clear hk3 hv3 hn3 hD0
    intro w4 m4 g4
    go_simp
    (refine hK _ _ ?_; clear hK K; (try simp only [Act.put, List.setIfInBounds_toArray, List.set_cons_zero, List.set_cons_succ]))
    have kn4 := KnownAt.put hD1 hD2 hD3 ok HM.out m4
    have hu4 := (hu3.ext (Ext.drew W3)).put g4 kn4
    have gb4 := gb3.drew.gr g4 (by intro e; have := Option.some.inj e; omega)
    have C4 : Chg (BuS bb mb (.slice ga gs.length gc) (.slice la ls.length lc)) w w4 := (Chg.ext E3.drew').trans (Chg.of_gr (S := BuS bb mb (.slice ga gs.length gc) (.slice la ls.length lc)) g4 (fun k hk _ => .inr (.inl (Option.some.inj hk).symm))) (fun _ _ h => h)
    have s4 := gb4.lt
    clear hD1 hD2 hD3 m4 g4 kn4 hS0 t0 t1 c3 hu3 gb3 E3 s3 D
    have c1 := hu4.blk.cell (i := 1) rfl
    have t0 := gb4.cell (i := 0) rfl
    have t1 := gb4.cell (i := 1) rfl
    have hgr := hu4.gs
    go_wp2_with fail
    refine wp_regionT (fun w' => w'.cell? ⟨bb, 1, none⟩ = some (.slice ga gs.length gc) ∧ w'.cell? ⟨w.heap.size, 0, none⟩ = some (.int .i64 a) ∧ w'.cell? ⟨w.heap.size, 1, none⟩ = some (.int .i64 b)) 10 (by kernel_rfl) ?_
    have hS0 : w4.drew.cell? ⟨bb, 1, none⟩ = some (.slice ga gs.length gc) ∧ w4.drew.cell? ⟨w.heap.size, 0, none⟩ = some (.int .i64 a) ∧ w4.drew.cell? ⟨w.heap.size, 1, none⟩ = some (.int .i64 b) := ⟨c1, t0, t1⟩
    ((refine wpAnyT_take 0 (v := ?_) rfl (by kernel_rfl) (fun _ _ _ h => h) (Or.inl ⟨by kernel_rfl, ?_⟩) (by assumption) ?_; rotate_left; (intro wS hSw; (try dsimp only at hSw); go_simp; (try with_reducible rfl)); (try simp only [Act.put, List.setIfInBounds_toArray, List.set_cons_zero, List.set_cons_succ])); (refine wpAnyT_take 1 (v := ?_) rfl (by kernel_rfl) (fun _ _ _ h => h) (Or.inl ⟨by kernel_rfl, ?_⟩) (by assumption) ?_; rotate_left; (intro wS hSw; (try dsimp only at hSw); go_simp; (try with_reducible rfl)); (try simp only [Act.put, List.setIfInBounds_toArray, List.set_cons_zero, List.set_cons_succ])); (refine wpAnyT_take 2 (v := ?_) rfl (by kernel_rfl) (fun _ _ _ h => h) (Or.inl ⟨by kernel_rfl, ?_⟩) (by assumption) ?_; rotate_left; (intro wS hSw; (try dsimp only at hSw); go_simp; (try with_reducible rfl)); (try simp only [Act.put, List.setIfInBounds_toArray, List.set_cons_zero, List.set_cons_succ])); (refine wpAnyT_take 3 (v := ?_) rfl (by kernel_rfl) (fun _ _ _ h => h) (Or.inl ⟨by kernel_rfl, ?_⟩) (by assumption) ?_; rotate_left; (intro wS hSw; (try dsimp only at hSw); go_simp; (try with_reducible rfl)); (try simp only [Act.put, List.setIfInBounds_toArray, List.set_cons_zero, List.set_cons_succ])); (refine wpAnyT_take 4 (v := ?_) rfl (by kernel_rfl) (fun _ _ _ h => h) (Or.inl ⟨by kernel_rfl, ?_⟩) (by assumption) ?_; rotate_left; (intro wS hSw; (try dsimp only at hSw); go_simp; (try with_reducible rfl)); (try simp only [Act.put, List.setIfInBounds_toArray, List.set_cons_zero, List.set_cons_succ])); (refine wpAnyT_take 5 (v := ?_) rfl (by kernel_rfl) (fun _ _ _ h => h) (Or.inl ⟨by kernel_rfl, ?_⟩) (by assumption) ?_; rotate_left; (intro wS hSw; (try dsimp only at hSw); go_simp; (try with_reducible rfl)); (try simp only [Act.put, List.setIfInBounds_toArray, List.set_cons_zero, List.set_cons_succ])))
    (refine wpAnyT_doB 6 (by kernel_rfl) rfl (fun K hK => ?_))
    refine Bx.mk ?_
    go_simp
    have hu5 := hu4.ext (((Ext.refl w4).alloc (.cells #[.int .i64 a, .int .i64 b] 46)).drew')
    have gb5 := gb4.ext (((Ext.refl w4).alloc (.cells #[.int .i64 a, .int .i64 b] 46)).drew')
    have hS1 := And.intro (hu5.blk.cell (i := 1) rfl) (And.intro (gb5.cell (i := 0) rfl) (gb5.cell (i := 1) rfl))
    (refine hK _ _ hS1 ?_; clear hK K; (try simp only [Act.put, List.setIfInBounds_toArray, List.set_cons_zero, List.set_cons_succ]))
    have hs4 : base ≤ (w4.alloc (.cells #[.int .i64 a, .int .i64 b] 46)).drew.heap.size := by simp; omega
    have ho4 := ownsRow_ext hgr (((Ext.refl w4).alloc (.cells #[.int .i64 a, .int .i64 b] 46)).drew')
    have hr4 : RowAt (w4.alloc (.cells #[.int .i64 a, .int .i64 b] 46)).drew (some ⟨w4.heap.size, 0, none⟩) (flat [(a, b)]) := (rowAt_pair w4 a b).ext (Ext.drew _)
    have hn4 : gs.length + 1 ≤ 1073741824 := by omega
    (refine wpAnyT_doB 7 (by kernel_rfl) rfl (fun K hK => ?_))
    refine step_appB (m := 1) (c := 1) tyGates ho4 hr4 rfl (oneCell_flat [(a, b)]) hn4 hs4 rfl rfl (by kernel_rfl) (by kernel_rfl) ?_
    intro v9 w9 p9 g9 m9 k9
    clear k9
    obtain ⟨a9, c9, rfl, _⟩ := ownsRow_row p9
    have p9b : w9.ownsRow base 46 2 (.slice a9 (gs.length + 1) c9) (gs ++ [(a, b)]).length (flat (gs ++ [(a, b)])) := by
      have e : (gs ++ [(a, b)]).length = gs.length + 1 := by simp
      rw [e, flat_append]
      exact p9
    have hu6 := hu5.addGate g9 m9 p9b
    have bk9 := hu5.blk.gr g9 hu5.gb
    have gb9 := gb5.gr g9 (by intro e; have := (hgr.lt _ e).2; have := (hu.gs.lt _ e).2; omega)
    have fz := bk9.frozen 1
    have hS4 := And.intro (bk9.cell (i := 1) rfl) (And.intro (gb9.cell (i := 0) rfl) (gb9.cell (i := 1) rfl))
    clear hS0 hS1
    (refine hK _ _ hS4 ?_; clear hK K; (try simp only [Act.put, List.setIfInBounds_toArray, List.set_cons_zero, List.set_cons_succ]))
    ((refine wpAnyT_take 8 (v := ?_) rfl (by kernel_rfl) (fun _ _ _ h => h) (Or.inl ⟨by kernel_rfl, ?_⟩) (by assumption) ?_; rotate_left; (intro wS hSw; (try dsimp only at hSw); go_simp; (try with_reducible rfl)); (try simp only [Act.put, List.setIfInBounds_toArray, List.set_cons_zero, List.set_cons_succ])); (refine wpAnyT_take 9 (v := ?_) rfl (by kernel_rfl) (fun _ _ _ h => h) (Or.inl ⟨by kernel_rfl, ?_⟩) (by assumption) ?_; rotate_left; (intro wS hSw; (try dsimp only at hSw); go_simp; (try with_reducible rfl)); (try simp only [Act.put, List.setIfInBounds_toArray, List.set_cons_zero, List.set_cons_succ])))
    (refine wpAnyT_lastB 10 (by kernel_rfl) rfl (by decide) (by kernel_rfl) (fun K hK => ?_))
    refine Bx.mk ?_
    go_simp
    (refine hK _ _ ?_; clear hK K; (try simp only [Act.put, List.setIfInBounds_toArray, List.set_cons_zero, List.set_cons_succ]))
    have hl5 := LG.out
    have hl6 : ls.length ≤ 3000 := by omega
    have C6 : Chg (BuS bb mb (.slice ga gs.length gc) (.slice la ls.length lc)) w (w9.setCell ⟨bb, 1, none⟩ (.slice a9 (gs.length + 1) c9)) :=
      Chg.set (C4.trans (Chg.trans (T := BuS bb mb (.slice ga gs.length gc) (.slice la ls.length lc)) (S := BuS bb mb (.slice ga gs.length gc) (.slice la ls.length lc)) (Chg.ext (((Ext.refl w4).alloc (.cells #[.int .i64 a, .int .i64 b] 46)).drew')) (Chg.of_gr (S := BuS bb mb (.slice ga gs.length gc) (.slice la ls.length lc)) g9 (fun k hk _ => .inr (.inr (.inl hk)))) (fun _ _ h => h)) (fun _ _ h => h)) (p := ⟨bb, 1, none⟩) (fun _ => .inl rfl) _
    have s6 := C6.size
    have m9' : RowMoved w (.slice ga gs.length gc) (.slice a9 (gs.length + 1) c9) := rowMoved_le m9 (by have := C4.size; simp; omega)
    generalize (w9.setCell ⟨bb, 1, none⟩ (.slice a9 (gs.length + 1) c9)) = W6 at *
    clear hS4 fz gb9 bk9 p9b p9 g9 m9 hr4 ho4 hs4 hn4 hgr hu5 gb5 hu4 gb4 C4 c1 t0 t1 s4
    have c2 := hu6.blk.cell (i := 2) rfl
    have hlr := hu6.ls
    have hne : 0 < ls.length := by omega
    obtain ⟨lb, hla, hlb1, hlb2⟩ := ownsRow_block hlr hne
    subst hla
    have ia : 0 ≤ a / 2 ∧ a / 2 < (ls.length : Int) := by omega
    have ib : 0 ≤ b / 2 ∧ b / 2 < (ls.length : Int) := by omega
    have hll : (ls.map (Value.int .i64)).length = ls.length := List.length_map _
    obtain ⟨ea, hea⟩ : ∃ x, (ls.map (Value.int .i64))[(a / 2).toNat]? = some (Value.int .i64 x) := ⟨_, by rw [List.getElem?_map, List.getElem?_eq_getElem (by omega)]; rfl⟩
    obtain ⟨eb, heb⟩ : ∃ x, (ls.map (Value.int .i64))[(b / 2).toNat]? = some (Value.int .i64 x) := ⟨_, by rw [List.getElem?_map, List.getElem?_eq_getElem (by omega)]; rfl⟩
    have r1 := ownsRow_cell hlr hea
    have r2 := ownsRow_cell hlr heb
    obtain ⟨X, hX⟩ : ∃ X, IntKind.i64.wrap (1 + if ea < eb then eb else ea) = X := ⟨_, rfl⟩
    have hta : IntKind.i64.wrap (a.tdiv 2) = a / 2 := by rw [Int.tdiv_eq_ediv_of_nonneg a0]; exact IntWalk.i64_in _ (by omega)
    have htb : IntKind.i64.wrap (b.tdiv 2) = b / 2 := by rw [Int.tdiv_eq_ediv_of_nonneg (by omega)]; exact IntWalk.i64_in _ (by omega)
    clear hll hl5
    go_wp2_with fail
    refine wp_regionT (fun w' => w'.cell? ⟨bb, 2, none⟩ = some (.slice (some ⟨lb, 0, none⟩) ls.length lc) ∧ w'.cell? ⟨lb, (a / 2).toNat, none⟩ = some (.int .i64 ea) ∧ w'.cell? ⟨lb, (b / 2).toNat, none⟩ = some (.int .i64 eb)) 27 (by kernel_rfl) ?_
    have hS0 : W6.drew.cell? ⟨bb, 2, none⟩ = some (.slice (some ⟨lb, 0, none⟩) ls.length lc) ∧ W6.drew.cell? ⟨lb, (a / 2).toNat, none⟩ = some (.int .i64 ea) ∧ W6.drew.cell? ⟨lb, (b / 2).toNat, none⟩ = some (.int .i64 eb) := ⟨c2, r1, r2⟩
    ((refine wpAnyT_take 0 (v := ?_) rfl (by kernel_rfl) (fun _ _ _ h => h) (Or.inl ⟨by kernel_rfl, ?_⟩) (by assumption) ?_; rotate_left; (intro wS hSw; (try dsimp only at hSw); go_simp; (try with_reducible rfl)); (try simp only [Act.put, List.setIfInBounds_toArray, List.set_cons_zero, List.set_cons_succ])); (refine wpAnyT_take 1 (v := ?_) rfl (by kernel_rfl) (fun _ _ _ h => h) (Or.inl ⟨by kernel_rfl, ?_⟩) (by assumption) ?_; rotate_left; (intro wS hSw; (try dsimp only at hSw); go_simp; (try with_reducible rfl)); (try simp only [Act.put, List.setIfInBounds_toArray, List.set_cons_zero, List.set_cons_succ])); (refine wpAnyT_take 2 (v := ?_) rfl (by kernel_rfl) (fun _ _ _ h => h) (Or.inl ⟨by kernel_rfl, ?_⟩) (by assumption) ?_; rotate_left; (intro wS hSw; (try dsimp only at hSw); go_simp; (try with_reducible rfl)); (try simp only [Act.put, List.setIfInBounds_toArray, List.set_cons_zero, List.set_cons_succ])); (refine wpAnyT_take 3 (v := ?_) rfl (by kernel_rfl) (fun _ _ _ h => h) (Or.inl ⟨by kernel_rfl, ?_⟩) (by assumption) ?_; rotate_left; (intro wS hSw; (try dsimp only at hSw); go_simp; (try with_reducible rfl)); (try simp only [Act.put, List.setIfInBounds_toArray, List.set_cons_zero, List.set_cons_succ])); (refine wpAnyT_take 4 (v := ?_) rfl (by kernel_rfl) (fun _ _ _ h => h) (Or.inl ⟨by kernel_rfl, ?_⟩) (by assumption) ?_; rotate_left; (intro wS hSw; (try dsimp only at hSw); go_simp; (try with_reducible rfl)); (try simp only [Act.put, List.setIfInBounds_toArray, List.set_cons_zero, List.set_cons_succ])); (refine wpAnyT_take 5 (v := ?_) rfl (by kernel_rfl) (fun _ _ _ h => h) (Or.inl ⟨by kernel_rfl, ?_⟩) (by assumption) ?_; rotate_left; (intro wS hSw; (try dsimp only at hSw); go_simp; (try with_reducible rfl)); (try simp only [Act.put, List.setIfInBounds_toArray, List.set_cons_zero, List.set_cons_succ])); (refine wpAnyT_take 6 (v := ?_) rfl (by kernel_rfl) (fun _ _ _ h => h) (Or.inl ⟨by kernel_rfl, ?_⟩) (by assumption) ?_; rotate_left; (intro wS hSw; (try dsimp only at hSw); go_simp; (try with_reducible rfl)); (try simp only [Act.put, List.setIfInBounds_toArray, List.set_cons_zero, List.set_cons_succ])); (refine wpAnyT_take 7 (v := ?_) rfl (by kernel_rfl) (fun _ _ _ h => h) (Or.inl ⟨by kernel_rfl, ?_⟩) (by assumption) ?_; rotate_left; (intro wS hSw; (try dsimp only at hSw); go_simp; (try with_reducible rfl)); (try simp only [Act.put, List.setIfInBounds_toArray, List.set_cons_zero, List.set_cons_succ])); (refine wpAnyT_take 8 (v := ?_) rfl (by kernel_rfl) (fun _ _ _ h => h) (Or.inl ⟨by kernel_rfl, ?_⟩) (by assumption) ?_; rotate_left; (intro wS hSw; (try dsimp only at hSw); go_simp; (try with_reducible rfl)); (try simp only [Act.put, List.setIfInBounds_toArray, List.set_cons_zero, List.set_cons_succ])); (refine wpAnyT_take 9 (v := ?_) rfl (by kernel_rfl) (fun _ _ _ h => h) (Or.inl ⟨by kernel_rfl, ?_⟩) (by assumption) ?_; rotate_left; (intro wS hSw; (try dsimp only at hSw); go_simp; (try with_reducible rfl)); (try simp only [Act.put, List.setIfInBounds_toArray, List.set_cons_zero, List.set_cons_succ])); (refine wpAnyT_take 10 (v := ?_) rfl (by kernel_rfl) (fun _ _ _ h => h) (Or.inl ⟨by kernel_rfl, ?_⟩) (by assumption) ?_; rotate_left; (intro wS hSw; (try dsimp only at hSw); go_simp; (try with_reducible rfl)); (try simp only [Act.put, List.setIfInBounds_toArray, List.set_cons_zero, List.set_cons_succ])); (refine wpAnyT_take 11 (v := ?_) rfl (by kernel_rfl) (fun _ _ _ h => h) (Or.inl ⟨by kernel_rfl, ?_⟩) (by assumption) ?_; rotate_left; (intro wS hSw; (try dsimp only at hSw); go_simp; (try with_reducible rfl)); (try simp only [Act.put, List.setIfInBounds_toArray, List.set_cons_zero, List.set_cons_succ])); (refine wpAnyT_take 12 (v := ?_) rfl (by kernel_rfl) (fun _ _ _ h => h) (Or.inl ⟨by kernel_rfl, ?_⟩) (by assumption) ?_; rotate_left; (intro wS hSw; (try dsimp only at hSw); go_simp; (try with_reducible rfl)); (try simp only [Act.put, List.setIfInBounds_toArray, List.set_cons_zero, List.set_cons_succ])); (refine wpAnyT_take 13 (v := ?_) rfl (by kernel_rfl) (fun _ _ _ h => h) (Or.inl ⟨by kernel_rfl, ?_⟩) (by assumption) ?_; rotate_left; (intro wS hSw; (try dsimp only at hSw); go_simp; (try with_reducible rfl)); (try simp only [Act.put, List.setIfInBounds_toArray, List.set_cons_zero, List.set_cons_succ])); (refine wpAnyT_take 14 (v := ?_) rfl (by kernel_rfl) (fun _ _ _ h => h) (Or.inl ⟨by kernel_rfl, ?_⟩) (by assumption) ?_; rotate_left; (intro wS hSw; (try dsimp only at hSw); go_simp; (try with_reducible rfl)); (try simp only [Act.put, List.setIfInBounds_toArray, List.set_cons_zero, List.set_cons_succ])); (refine wpAnyT_take 15 (v := ?_) rfl (by kernel_rfl) (fun _ _ _ h => h) (Or.inl ⟨by kernel_rfl, ?_⟩) (by assumption) ?_; rotate_left; (intro wS hSw; (try dsimp only at hSw); go_simp; (try with_reducible rfl)); (try simp only [Act.put, List.setIfInBounds_toArray, List.set_cons_zero, List.set_cons_succ])); (refine wpAnyT_take 16 (v := ?_) rfl (by kernel_rfl) (fun _ _ _ h => h) (Or.inl ⟨by kernel_rfl, ?_⟩) (by assumption) ?_; rotate_left; (intro wS hSw; (try dsimp only at hSw); go_simp; (try with_reducible rfl)); (try simp only [Act.put, List.setIfInBounds_toArray, List.set_cons_zero, List.set_cons_succ])); (refine wpAnyT_take 17 (v := ?_) rfl (by kernel_rfl) (fun _ _ _ h => h) (Or.inl ⟨by kernel_rfl, ?_⟩) (by assumption) ?_; rotate_left; (intro wS hSw; (try dsimp only at hSw); go_simp; (try with_reducible rfl)); (try simp only [Act.put, List.setIfInBounds_toArray, List.set_cons_zero, List.set_cons_succ])); (refine wpAnyT_take 18 (v := ?_) rfl (by kernel_rfl) (fun _ _ _ h => h) (Or.inl ⟨by kernel_rfl, ?_⟩) (by assumption) ?_; rotate_left; (intro wS hSw; (try dsimp only at hSw); go_simp; (try with_reducible rfl)); (try simp only [Act.put, List.setIfInBounds_toArray, List.set_cons_zero, List.set_cons_succ])); (refine wpAnyT_take 19 (v := ?_) rfl (by kernel_rfl) (fun _ _ _ h => h) (Or.inl ⟨by kernel_rfl, ?_⟩) (by assumption) ?_; rotate_left; (intro wS hSw; (try dsimp only at hSw); go_simp; (try with_reducible rfl)); (try simp only [Act.put, List.setIfInBounds_toArray, List.set_cons_zero, List.set_cons_succ])); (refine wpAnyT_take 20 (v := ?_) rfl (by kernel_rfl) (fun _ _ _ h => h) (Or.inl ⟨by kernel_rfl, ?_⟩) (by assumption) ?_; rotate_left; (intro wS hSw; (try dsimp only at hSw); go_simp; (try with_reducible rfl)); (try simp only [Act.put, List.setIfInBounds_toArray, List.set_cons_zero, List.set_cons_succ])); (refine wpAnyT_take 21 (v := ?_) rfl (by kernel_rfl) (fun _ _ _ h => h) (Or.inl ⟨by kernel_rfl, ?_⟩) (by assumption) ?_; rotate_left; (intro wS hSw; (try dsimp only at hSw); go_simp; (try with_reducible rfl)); (try simp only [Act.put, List.setIfInBounds_toArray, List.set_cons_zero, List.set_cons_succ])); (refine wpAnyT_take 22 (v := ?_) rfl (by kernel_rfl) (fun _ _ _ h => h) (Or.inl ⟨by kernel_rfl, ?_⟩) (by assumption) ?_; rotate_left; (intro wS hSw; (try dsimp only at hSw); go_simp; (try with_reducible rfl)); (try simp only [Act.put, List.setIfInBounds_toArray, List.set_cons_zero, List.set_cons_succ])))
    (refine wpAnyT_doB 23 (by kernel_rfl) rfl (fun K hK => ?_))
    refine Bx.mk ?_
    go_simp
    have hu7 := hu6.ext (((Ext.refl W6).alloc (.cells #[.int .i64 X] 3)).drew')
    have hS1 := And.intro (hu7.blk.cell (i := 2) rfl) (And.intro ((World.cell?_of_block (a := ⟨lb, (a / 2).toNat, none⟩) (Below.block (((Ext.refl W6).alloc (.cells #[.int .i64 X] 3)).drew') lb hlb2)).trans r1) ((World.cell?_of_block (a := ⟨lb, (b / 2).toNat, none⟩) (Below.block (((Ext.refl W6).alloc (.cells #[.int .i64 X] 3)).drew') lb hlb2)).trans r2))
    (refine hK _ _ hS1 ?_; clear hK K; (try simp only [Act.put, List.setIfInBounds_toArray, List.set_cons_zero, List.set_cons_succ]))
    have hs6 : base ≤ (W6.alloc (.cells #[.int .i64 X] 3)).drew.heap.size := by simp; omega
    have ho6 := hu7.ls
    have hr6 : RowAt (W6.alloc (.cells #[.int .i64 X] 3)).drew (some ⟨W6.heap.size, 0, none⟩) [.int .i64 X] := (RowAt.new W6 _ _).ext (Ext.drew _)
    have hn6 : ls.length + 1 ≤ 1073741824 := by omega
    (refine wpAnyT_doB 24 (by kernel_rfl) rfl (fun K hK => ?_))
    refine step_appB (m := 1) (c := 1) tyInts ho6 hr6 rfl (oneCell_int1 _) hn6 hs6 rfl rfl (by kernel_rfl) (by kernel_rfl) ?_
    intro v10 w10 p10 g10 m10 k10
    obtain ⟨a10, c10, rfl, _⟩ := ownsRow_row p10
    have p10b : w10.ownsRow base 3 1 (.slice a10 (ls.length + 1) c10) (ls ++ [X]).length ((ls ++ [X]).map (Value.int .i64)) := by
      have e : (ls ++ [X]).length = ls.length + 1 := by simp
      rw [e, List.map_append]
      exact p10
    have hu8 := hu7.addLev g10 m10 p10b
    have bk10 := hu7.blk.gr g10 hu7.lb
    have fz := bk10.frozen 2
    have C8 : Chg (BuS bb mb (.slice ga gs.length gc) (.slice (some ⟨lb, 0, none⟩) ls.length lc)) w (w10.setCell ⟨bb, 2, none⟩ (.slice a10 (ls.length + 1) c10)) :=
      Chg.set (C6.trans (Chg.trans (T := BuS bb mb (.slice ga gs.length gc) (.slice (some ⟨lb, 0, none⟩) ls.length lc)) (S := BuS bb mb (.slice ga gs.length gc) (.slice (some ⟨lb, 0, none⟩) ls.length lc)) (Chg.ext (((Ext.refl W6).alloc (.cells #[.int .i64 X] 3)).drew')) (Chg.of_gr (S := BuS bb mb (.slice ga gs.length gc) (.slice (some ⟨lb, 0, none⟩) ls.length lc)) g10 (fun k hk _ => .inr (.inr (.inr hk)))) (fun _ _ h => h)) (fun _ _ h => h)) (p := ⟨bb, 2, none⟩) (fun _ => .inl rfl) _
    have m10' : RowMoved w (.slice (some ⟨lb, 0, none⟩) ls.length lc) (.slice a10 (ls.length + 1) c10) := rowMoved_le m10 (by simp; omega)
    have hS4 := And.intro (bk10.cell (i := 2) rfl) (And.intro (app_kept ho6 p10 k10 hea) (app_kept ho6 p10 k10 heb))
    clear hS0 hS1
    (refine hK _ _ hS4 ?_; clear hK K; (try simp only [Act.put, List.setIfInBounds_toArray, List.set_cons_zero, List.set_cons_succ]))
    ((refine wpAnyT_take 25 (v := ?_) rfl (by kernel_rfl) (fun _ _ _ h => h) (Or.inl ⟨by kernel_rfl, ?_⟩) (by assumption) ?_; rotate_left; (intro wS hSw; (try dsimp only at hSw); go_simp; (try with_reducible rfl)); (try simp only [Act.put, List.setIfInBounds_toArray, List.set_cons_zero, List.set_cons_succ])); (refine wpAnyT_take 26 (v := ?_) rfl (by kernel_rfl) (fun _ _ _ h => h) (Or.inl ⟨by kernel_rfl, ?_⟩) (by assumption) ?_; rotate_left; (intro wS hSw; (try dsimp only at hSw); go_simp; (try with_reducible rfl)); (try simp only [Act.put, List.setIfInBounds_toArray, List.set_cons_zero, List.set_cons_succ])))
    (refine wpAnyT_lastB 27 (by kernel_rfl) rfl (by decide) (by kernel_rfl) (fun K hK => ?_))
    refine Bx.mk ?_
    go_simp
    (refine hK _ _ ?_; clear hK K; (try simp only [Act.put, List.setIfInBounds_toArray, List.set_cons_zero, List.set_cons_succ]))
    clear hS4 fz bk10 hr6 ho6 hs6 hn6 c2 r1 r2 k10 p10 g10 m10 hu7 hu6
    go_wp2
    all_goals
      go_ret
      rw [HRR.out]
      refine ⟨_, _, ls ++ [X], rfl, ?_, ?_, m9', m10', C8⟩
      · exact hu8
      · have := LG.out
        simp only [List.length_append, List.length_cons, List.length_nil]
        omega
end Go.Proofs.Ytpfhlodlefcomaa
