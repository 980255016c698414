/- Contracts of FindDifference and Equivalent. -/
import Derived.Test.YtpfhlodlefcomaaDet
import Derived.Test.YtpfhlodlefcomaaStep
import Derived.Test.YtpfhlodlefcomaaSame
namespace Go.Proofs.Ytpfhlodlefcomaa
open Go.RowKit
set_option maxRecDepth 100000
set_option linter.unusedVariables false
set_option linter.unusedSimpArgs false
/-- Two slices of truth values that a call has given back, in blocks of their own. -/
structure RepTwo (w : World) (b N : Nat) (v1 v2 : Value) (x : List Bool × List Bool) : Prop where
  own1 : OwnB w b v1 x.1
  own2 : OwnB w b v2 x.2
  up1 : ∀ k, v1.ownBlock = some k → k < N
  up2 : ∀ k, v2.ownBlock = some k → k < N
  ne : ∀ k, v1.ownBlock = some k → v2.ownBlock = some k → False
  small1 : x.1.length ≤ 1048576
  small2 : x.2.length ≤ 1048576
section
variable {w w' : World} {b b2 N N2 : Nat} {v1 v2 : Value} {x : List Bool × List Bool}
theorem RepTwo.ext (h : RepTwo w b N v1 v2 x) (e : Ext w w') : RepTwo w' b N v1 v2 x := ⟨h.own1.ext e, h.own2.ext e, h.up1, h.up2, h.ne, h.small1, h.small2⟩
theorem RepTwo.le (h : RepTwo w b N v1 v2 x) (hb : b2 ≤ b) : RepTwo w b2 N v1 v2 x := ⟨h.own1.le hb, h.own2.le hb, h.up1, h.up2, h.ne, h.small1, h.small2⟩
theorem RepTwo.up (h : RepTwo w b N v1 v2 x) (hb : N ≤ N2) : RepTwo w b N2 v1 v2 x := ⟨h.own1, h.own2, fun k hk => Nat.lt_of_lt_of_le (h.up1 k hk) hb, fun k hk => Nat.lt_of_lt_of_le (h.up2 k hk) hb, h.ne, h.small1, h.small2⟩
theorem RepTwo.nil : RepTwo w b N (.slice none 0 0) (.slice none 0 0) ([], []) := ⟨OwnB.nil, OwnB.nil, fun k hk => (by cases hk), fun k hk => (by cases hk), fun k hk => (by cases hk), by simp, by simp⟩
theorem RepTwo.set (h : RepTwo w b N v1 v2 x) {p : Addr} (hp : p.block < b) (u : Value) : RepTwo (w.setCell p u) b N v1 v2 x :=
  ⟨h.own1.setOther (by intro hh; have := (h.own1.lt' _ hh).1; omega) u, h.own2.setOther (by intro hh; have := (h.own2.lt' _ hh).1; omega) u, h.up1, h.up2, h.ne, h.small1, h.small2⟩
theorem RepStep.opened (h : RepStep w b N v1 v2 x) : ∃ a1 c1 a2 c2, v1 = .slice a1 x.1.length c1 ∧ BoolsAt w a1 x.1 ∧ v2 = .slice a2 x.2.length c2 ∧ BoolsAt w a2 x.2 := by
  obtain ⟨⟨m, h1, h2, h3, h4, h5, h6⟩, s1, s2⟩ := h
  obtain ⟨a1, c1, e1, r1⟩ := h1.opened
  obtain ⟨a2, c2, e2, r2⟩ := h3.opened
  exact ⟨a1, c1, a2, c2, e1, r1, e2, r2⟩
end
def GiveCex (w : World) (x : Bool × List Bool × List Bool) (e : Ending) (w' : World) : Prop := ∃ a1 n1 c1 a2 n2 c2, e = .returned (.agg #[.bool x.1, .slice a1 n1 c1, .slice a2 n2 c2]) ∧ RepTwo w' w.heap.size w'.heap.size (.slice a1 n1 c1) (.slice a2 n2 c2) x.2 ∧ Ext w w'
def diffV (a b : Circ) (x : Nat) : Bool := resV a (-1) false x != resV b (-1) false x
noncomputable def cexV (a b : Circ) : Bool × List Bool × List Bool :=
  if sameI a b = true ∧ 0 ≤ firstD (diffV a b) (assigns a) then (true, stB a (firstD (diffV a b) (assigns a)).toNat, inB a (firstD (diffV a b) (assigns a)).toNat) else (false, [], [])
theorem cexV_no {a b : Circ} (h : ¬ sameI a b = true) : cexV a b = (false, [], []) := by unfold cexV; rw [if_neg (fun hh => h hh.1)]
theorem cexV_hit {a b : Circ} (h : sameI a b = true) (k : Nat) (hk : k < assigns a) (h1 : ∀ y, y < k → diffV a b y = false) (h2 : diffV a b k = true) : cexV a b = (true, stB a k, inB a k) := by
  have e := firstD_hit _ _ k hk h1 h2
  unfold cexV
  rw [e, if_pos ⟨h, by omega⟩]; rfl
theorem cexV_none {a b : Circ} (h1 : ∀ y, y < assigns a → diffV a b y = false) : cexV a b = (false, [], []) := by
  have e := firstD_none _ _ h1
  unfold cexV
  rw [e, if_neg (by omega)]
theorem sb_small (a : Circ) (x : Nat) (V : a.Valid) : (stB a x).length ≤ 3 ∧ (inB a x).length ≤ 4 := by
  have := V.ln; have := V.i4; have := V.i0
  unfold stB inB
  rw [bitsN_length, bitsN_length]; omega
def DiffRel (w : World) (a b : Circ) (p q : Where3) (u : Value) (wr : World) : Prop :=
  ∃ k : Nat, k ≤ assigns a ∧ u = .int .i64 k ∧ Hid (∀ y, y < k → diffV a b y = false) ∧ CircBox wr w.heap.size a p ∧ CircBox wr (w.heap.size + 1) b q ∧ Blk wr (w.heap.size + 2) 49 [.bool false, .slice none 0 0, .slice none 0 0] ∧ Ext w wr
set_option maxHeartbeats 4000000 in
theorem implFindDifference_c (a b : Circ) (p q : Where3) (w : World) (hc : CircAt w a p) (hd : CircAt w b q) :
    Calls Try.prog 29 #[.agg #[.int .i64 a.inputs, .slice p.an a.next.length p.cn, .slice p.ag a.gates.length p.cg, .slice p.ao a.outs.length p.co], .agg #[.int .i64 b.inputs, .slice q.an b.next.length q.cn, .slice q.ag b.gates.length q.cg, .slice q.ao b.outs.length q.co]] w (GiveCex w (cexV a b)) := by
  have hno := cexV_no (a := a) (b := b)
  have hhit := cexV_hit (a := a) (b := b)
  have hnone := cexV_none (a := a) (b := b)
  obtain ⟨X, hX⟩ : ∃ X, X = cexV a b := ⟨_, rfl⟩
  rw [← hX] at hno hhit hnone ⊢
  clear hX
  have HNO := Lib.hid hno
  have HHIT := Lib.hid hhit
  have HNONE := Lib.hid hnone
  clear hno hhit hnone
  have y := ((CircBox.made w a p 26).ext ((Ext.refl _).alloc (.cells #[.int .i64 b.inputs, .slice q.an b.next.length q.cn, .slice q.ag b.gates.length q.cg, .slice q.ao b.outs.length q.co] 26))).ext ((Ext.refl _).alloc (.cells #[.bool false, .slice none 0 0, .slice none 0 0] 49))
  have x := (CircBox.at (w.alloc (.cells #[.int .i64 a.inputs, .slice p.an a.next.length p.cn, .slice p.ag a.gates.length p.cg, .slice p.ao a.outs.length p.co] 26)) b q 26 (B := w.heap.size + 1) (by simp)).ext ((Ext.refl _).alloc (.cells #[.bool false, .slice none 0 0, .slice none 0 0] 49))
  have r := Blk.at ((w.alloc (.cells #[.int .i64 a.inputs, .slice p.an a.next.length p.cn, .slice p.ag a.gates.length p.cg, .slice p.ao a.outs.length p.co] 26)).alloc (.cells #[.int .i64 b.inputs, .slice q.an b.next.length q.cn, .slice q.ag b.gates.length q.cg, .slice q.ao b.outs.length q.co] 26)) [.bool false, .slice none 0 0, .slice none 0 0] 49 (B := w.heap.size + 2) (by simp)
  cases hS : sameI a b
  · have HS := Lib.hid hS
    clear hS
    go_enter Try.func29, Try.ntmps29
    go_wp2_with fail
    refine (implSame_c a b _ _ _ (hc.ext (by (repeat (first | with_reducible assumption | with_reducible exact Ext.refl _ | with_reducible refine Ext.drew' ?_ | with_reducible refine Ext.drewN' ?_ _ | with_reducible refine Ext.alloc ?_ _ | (with_reducible refine Ext.setNew ?_ (by first | exact Nat.le_refl _ | (simp; done) | (simp; omega) | omega) _))))) (hd.ext (by (repeat (first | with_reducible assumption | with_reducible exact Ext.refl _ | with_reducible refine Ext.drew' ?_ | with_reducible refine Ext.drewN' ?_ _ | with_reducible refine Ext.alloc ?_ _ | (with_reducible refine Ext.setNew ?_ (by first | exact Nat.le_refl _ | (simp; done) | (simp; omega) | omega) _)))))).mono ?_
    rw [HS.out]
    rintro e w1 ⟨rfl, hE1⟩
    have E1 := Ext.trans (a := w) (by (repeat (first | with_reducible assumption | with_reducible exact Ext.refl _ | with_reducible refine Ext.drew' ?_ | with_reducible refine Ext.drewN' ?_ _ | with_reducible refine Ext.alloc ?_ _ | (with_reducible refine Ext.setNew ?_ (by first | exact Nat.le_refl _ | (simp; done) | (simp; omega) | omega) _)))) hE1
    have r1 := r.ext hE1
    have rl := r1.lt
    have z0 := r1.cell (i := 0) rfl
    have z1 := r1.cell (i := 1) rfl
    have z2 := r1.cell (i := 2) rfl
    have zf := fun i => r1.frozen i
    have rF := ((r1.set 0 (.bool false)).set 1 (.slice none 0 0)).set 2 (.slice none 0 0)
    have rf0 := rF.cell (i := 0) rfl
    have rf1 := rF.cell (i := 1) rfl
    have rf2 := rF.cell (i := 2) rfl
    go_wp2
    refine bodyPost_ret (v := .agg #[.bool false, .slice none 0 0, .slice none 0 0]) (by simp [results, Try.results29, go_sem, rf0, rf1, rf2]) rfl ?_
    rw [HNO.out (by rw [HS.out]; simp)]
    exact ⟨_, _, _, _, _, _, rfl, RepTwo.nil, Ext.setNew (Ext.setNew (Ext.setNew E1 (by first | omega | (simp; done) | (simp; omega)) _) (by first | omega | (simp; done) | (simp; omega)) _) (by first | omega | (simp; done) | (simp; omega)) _⟩
  have HS := Lib.hid hS
  obtain ⟨VA, VB, hin, hnx, hou⟩ := sameI_iff.1 hS
  clear hS
  have al := assigns_le VA
  have va := (vars_le VA).2
  have vb := (vars_le VB).2
  have rla := resV_length a (-1) false
  have rlb := resV_length b (-1) false
  have RLA := Lib.hid rla
  have RLB := Lib.hid rlb
  have la3 := VA.ln
  have lo3 := VA.lo
  have lb3 := VB.ln
  have lp3 := VB.lo
  clear rla rlb hin hnx hou
  go_enter Try.func29, Try.ntmps29
  go_wp2_with fail
  refine (implSame_c a b _ _ _ (hc.ext (by (repeat (first | with_reducible assumption | with_reducible exact Ext.refl _ | with_reducible refine Ext.drew' ?_ | with_reducible refine Ext.drewN' ?_ _ | with_reducible refine Ext.alloc ?_ _ | (with_reducible refine Ext.setNew ?_ (by first | exact Nat.le_refl _ | (simp; done) | (simp; omega) | omega) _))))) (hd.ext (by (repeat (first | with_reducible assumption | with_reducible exact Ext.refl _ | with_reducible refine Ext.drew' ?_ | with_reducible refine Ext.drewN' ?_ _ | with_reducible refine Ext.alloc ?_ _ | (with_reducible refine Ext.setNew ?_ (by first | exact Nat.le_refl _ | (simp; done) | (simp; omega) | omega) _)))))).mono ?_
  rw [HS.out]
  rintro e w1 ⟨rfl, hE1⟩
  have E1 := Ext.trans (a := w) (by (repeat (first | with_reducible assumption | with_reducible exact Ext.refl _ | with_reducible refine Ext.drew' ?_ | with_reducible refine Ext.drewN' ?_ _ | with_reducible refine Ext.alloc ?_ _ | (with_reducible refine Ext.setNew ?_ (by first | exact Nat.le_refl _ | (simp; done) | (simp; omega) | omega) _)))) hE1
  replace y := y.ext hE1
  replace x := x.ext hE1
  replace r := r.ext hE1
  clear hE1
  go_wp2_with fail
  refine (assignments_c w.heap.size a p _ y VA).mono ?_
  rintro e w2 ⟨rfl, hE2⟩
  have E2 := E1.trans hE2
  replace y := y.ext hE2
  replace x := x.ext hE2
  replace r := r.ext hE2
  clear hE2 E1
  go_wp2_with fail
  go_loopw [12] (DiffRel w a b p q) (fun i _ => assigns a - (intOf i).toNat)
  case atStart => exact ⟨0, Nat.zero_le _, rfl, Lib.hid (fun y hy => by omega), y, x, r, E2⟩
  case round =>
    obtain ⟨k, hk, rfl, hpre, hy, hx, hr, hE⟩ := hrel
    clear x y r E2
    by_cases hlt : k < assigns a
    · have DD : Hid (diffV a b k = (resV a (-1) false k != resV b (-1) false k)) := Lib.hid rfl
      have r1 := RLA.out k
      have r2 := RLB.out k
      obtain ⟨R1, hR1⟩ : ∃ R, R = resV a (-1) false k := ⟨_, rfl⟩
      obtain ⟨R2, hR2⟩ : ∃ R, R = resV b (-1) false k := ⟨_, rfl⟩
      rw [← hR1] at r1 DD
      rw [← hR2] at r2 DD
      have H1 := Lib.hid hR1
      have H2 := Lib.hid hR2
      have n1 : R1.length ≤ 6 := by omega
      have n2 : R2.length ≤ 6 := by omega
      clear hR1 hR2 r1 r2
      cases hd2 : R1 == R2
      all_goals
        have HD := Lib.hid hd2
        clear hd2
        go_wp2_with fail
        refine (results_c w.heap.size a p k (-1) false (by omega) _ hy (hc.ext hE) VA (by omega)).mono ?_
        rw [← H1.out]
        rintro e w3 ⟨v3, rfl, hO3, hE3⟩
        obtain ⟨a3, c3, rfl, hB3⟩ := hO3.opened
        go_wp2_with fail
        refine (results_c (w.heap.size + 1) b q k (-1) false (by omega) _ (hx.ext hE3) ((hd.ext hE).ext hE3) VB (by omega)).mono ?_
        rw [← H2.out]
        rintro e w4 ⟨v4, rfl, hO4, hE4⟩
        obtain ⟨a4, c4, rfl, hB4⟩ := hO4.opened
        go_wp2_with fail
        refine (equalB_c _ _ _ _ _ _ R1 R2 rfl rfl _ (hB3.ext hE4) hB4 (by omega) (by omega)).mono ?_
        rw [HD.out]
        rintro e w5 ⟨rfl, hE5⟩
        have F5 := (hE3.trans hE4).trans hE5
      · have hdiff : diffV a b k = true := by rw [DD.out]; simpa [bne] using HD.out
        have hX := HHIT.out HS.out k hlt hpre.out hdiff
        have HXX := Lib.hid hX
        have sm := sb_small a k VA
        have y5 := hy.ext F5
        have r5 := hr.ext F5
        have E5 := hE.trans F5
        clear hX hdiff
        go_wp2_with fail
        refine (latchBits_c w.heap.size a p k (by omega) _ y5 VA).mono ?_
        rintro e w6 ⟨v6, rfl, hO6, hE6⟩
        go_wp2_with fail
        refine (inputBits_c w.heap.size a p k (by omega) _ (y5.ext hE6) VA).mono ?_
        rintro e w7 ⟨v7, rfl, hO7, hE7⟩
        obtain ⟨a6, c6, rfl, hB6⟩ := hO6.opened
        obtain ⟨a7, c7, rfl, hB7⟩ := hO7.opened
        have r7 := (r5.ext hE6).ext hE7
        have z0 := r7.cell (i := 0) rfl
        have z1 := r7.cell (i := 1) rfl
        have z2 := r7.cell (i := 2) rfl
        have zf := fun i => r7.frozen i
        have rl := r5.lt
        have rF := ((r7.set 0 (.bool true)).set 1 (.slice a6 (stB a k).length c6)).set 2 (.slice a7 (inB a k).length c7)
        have rf0 := rF.cell (i := 0) rfl
        have rf1 := rF.cell (i := 1) rfl
        have rf2 := rF.cell (i := 2) rfl
        have E7 := (E5.trans hE6).trans hE7
        have s5 := E5.size
        have s6 := hE6.size
        have RT : RepTwo w7 w5.heap.size w7.heap.size (.slice a6 (stB a k).length c6) (.slice a7 (inB a k).length c7) (stB a k, inB a k) :=
          ⟨hO6.ext hE7, hO7.le s6, fun k hk => Nat.lt_of_lt_of_le (hO6.lt' k hk).2 hE7.size, fun k hk => (hO7.lt' k hk).2, fun k h1 h2 => by have q1 := (hO6.lt' k h1).2; have q2 := (hO7.lt' k h2).1; omega, by have := sm.1; show (stB a k).length ≤ _; omega, by have := sm.2; show (inB a k).length ≤ _; omega⟩
        go_wp2
        refine bodyPost_ret (v := .agg #[.bool true, .slice a6 (stB a k).length c6, .slice a7 (inB a k).length c7]) (by simp [results, Try.results29, go_sem, rf0, rf1, rf2]) rfl ?_
        rw [HXX.out]
        exact ⟨_, _, _, _, _, _, rfl, ((((RT.set (by first | omega | (simp; done) | (simp; omega)) _).set (by first | omega | (simp; done) | (simp; omega)) _).set (by first | omega | (simp; done) | (simp; omega)) _).le s5).up (by first | omega | (simp; done) | (simp; omega)), Ext.setNew (Ext.setNew (Ext.setNew E7 (by first | omega | (simp; done) | (simp; omega)) _) (by first | omega | (simp; done) | (simp; omega)) _) (by first | omega | (simp; done) | (simp; omega)) _⟩
      · have hdiff : diffV a b k = false := by rw [DD.out]; simpa [bne] using HD.out
        have HDF := Lib.hid hdiff
        clear hdiff
        go_wp2
        go_roundw
        case rel =>
          refine ⟨k + 1, by omega, by go_num, Lib.hid (fun y hy => ?_), hy.ext F5, hx.ext F5, hr.ext F5, hE.trans F5⟩
          rcases Nat.lt_or_ge y k with h | h
          · exact hpre.out y h
          · have : y = k := by omega
            subst this; exact HDF.out
        case measure => simp [intOf]; omega
    · have hX := HNONE.out (fun y hy => hpre.out y (by omega))
      have HXX := Lib.hid hX
      clear hX
      have rl := hr.lt
      have z0 := hr.cell (i := 0) rfl
      have z1 := hr.cell (i := 1) rfl
      have z2 := hr.cell (i := 2) rfl
      have zf := fun i => hr.frozen i
      have rF := ((hr.set 0 (.bool false)).set 1 (.slice none 0 0)).set 2 (.slice none 0 0)
      have rf0 := rF.cell (i := 0) rfl
      have rf1 := rF.cell (i := 1) rfl
      have rf2 := rF.cell (i := 2) rfl
      go_wp2
      refine bodyPost_ret (v := .agg #[.bool false, .slice none 0 0, .slice none 0 0]) (by simp [results, Try.results29, go_sem, rf0, rf1, rf2]) rfl ?_
      rw [HXX.out]
      exact ⟨_, _, _, _, _, _, rfl, RepTwo.nil, Ext.setNew (Ext.setNew (Ext.setNew hE (by first | omega | (simp; done) | (simp; omega)) _) (by first | omega | (simp; done) | (simp; omega)) _) (by first | omega | (simp; done) | (simp; omega)) _⟩
end Go.Proofs.Ytpfhlodlefcomaa
