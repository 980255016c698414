/- Contracts: StepFabric of both libraries. -/
import Derived.Test.YtgialedmbmfejaaBFc
import Derived.Test.YtgialedmbmfejaaBFb
namespace Go.Proofs.Ytgialedmbmfejaa
open Go.RowKit
set_option maxRecDepth 100000
set_option linter.unusedVariables false
set_option linter.unusedSimpArgs false
noncomputable def stepV (k : Conf) (regs ins : List Bool) : List Bool × List Bool := if acyV k = true ∧ regs.length = 25 ∧ ins.length ≤ 4 then (outsV k regs ins 3, nextV k regs ins 25) else ([], [])
set_option maxHeartbeats 4000000 in
theorem specStepFabric_c (k : Conf) (ta pa ra ia : Option Addr) (tc pc rc ic : Nat) (regs ins : List Bool) (w : World) (hF : FabAt w k ta pa ra regs ia ins) (rl : regs.length ≤ 1048576) (il : ins.length ≤ 1048576) :
  Calls Try.prog 47 #[.agg #[.slice ta k.ts.length tc, .slice pa k.ps.length pc], .agg #[.slice ra regs.length rc], .slice ia ins.length ic] w (GiveF w (stepV k regs ins).1 (stepV k regs ins).2) := by
 have T1 := Lib.hid (specConfigAcyclic_c k ta pa tc pc)
 have y := ((Blk.at w [.slice ta k.ts.length tc, .slice pa k.ps.length pc] 52 rfl).alloc (.cells #[.slice ra regs.length rc] 67)).alloc (.cells #[.slice none 0 0, .slice none 0 0] 71)
 have s := (Blk.at (w.alloc (.cells #[.slice ta k.ts.length tc, .slice pa k.ps.length pc] 52)) [.slice ra regs.length rc] 67 (B := w.heap.size + 1) (by simp)).alloc (.cells #[.slice none 0 0, .slice none 0 0] 71)
 have r := Blk.at ((w.alloc (.cells #[.slice ta k.ts.length tc, .slice pa k.ps.length pc] 52)).alloc (.cells #[.slice ra regs.length rc] 67)) [.slice none 0 0, .slice none 0 0] 71 (B := w.heap.size + 1 + 1) (by simp)
 have E0 : Ext w (((w.alloc (.cells #[.slice ta k.ts.length tc, .slice pa k.ps.length pc] 52)).alloc (.cells #[.slice ra regs.length rc] 67)).alloc (.cells #[.slice none 0 0, .slice none 0 0] 71)) := by (repeat (first | with_reducible assumption | with_reducible exact Ext.refl _ | with_reducible refine Ext.drew' ?_ | with_reducible refine Ext.drewN' ?_ _ | with_reducible refine Ext.alloc ?_ _ | (with_reducible refine Ext.setNew ?_ (by first | exact Nat.le_refl _ | (simp; done) | (simp; omega) | omega) _)))
 cases ha : acyV k
 ·have hsv : stepV k regs ins = ([], []) := by unfold stepV; rw [if_neg (by rw [ha]; simp)]
  rw [hsv]
  rw [ha] at T1
  clear hsv ha
  go_enter Try.func47, Try.ntmps47
  go_wp2_with fail
  refine (T1.out _ (hF.k.ext E0)).mono ?_
  rintro e w1 ⟨rfl, hE1⟩
  have r1 := r.ext hE1
  have E1 := E0.trans hE1
  have u0 := r1.cell (i := 0) rfl
  have u1 := r1.cell (i := 1) rfl
  have ul := r1.lt
  have fz := fun i => r1.frozen i
  go_wp2
  refine bodyPost_ret (v := .agg #[.slice none 0 0, .slice none 0 0]) (by simp [results, Try.results47, go_sem, u0, u1]) rfl ?_
  exact ⟨_, _, rfl, OwnB.nil, OwnB.nil, fun q hq => (by cases hq), Ext.setNew (Ext.setNew E1 (by simp; omega) _) (by simp; omega) _⟩
 rw [ha] at T1
 by_cases hr : regs.length = 25
 ·obtain ⟨hr1, hr2⟩ : 25 ≤ regs.length ∧ regs.length ≤ 25 := by omega
  by_cases hil : ins.length ≤ 4
  ·have hsv : stepV k regs ins = (outsV k regs ins 3, nextV k regs ins 25) := by unfold stepV; rw [if_pos ⟨ha, hr, hil⟩]
   have hok := acy_ok ha
   have hf : ∀ x : Wire, x.Ok → ∃ n, FinN k n x := fun x hx => acy_fin ha hx
   rw [hsv]
   have hne : ((regs.length : Int) != 25) = false := by simp; omega
   have hge : ¬ (4 : Int) < (ins.length : Int) := by omega
   have hre : ((ins.length : Int) > 4) = False := by simp; omega
   obtain ⟨O, HO⟩ : ∃ O, Hid (O = outsV k regs ins 3) := ⟨_, Lib.hid rfl⟩
   obtain ⟨N, HN⟩ : ∃ N, Hid (N = nextV k regs ins 25) := ⟨_, Lib.hid rfl⟩
   rw [← HO.out, ← HN.out]
   clear hsv ha hr hre
   go_enter Try.func47, Try.ntmps47
   go_wp2_with fail
   refine (T1.out _ (hF.k.ext E0)).mono ?_
   rintro e w1 ⟨rfl, hE1⟩
   have y1 := y.ext hE1
   have s1 := s.ext hE1
   have r1 := r.ext hE1
   have E1 := E0.trans hE1
   have c0 := y1.cell (i := 0) rfl
   have c1 := y1.cell (i := 1) rfl
   have c2 := s1.cell (i := 0) rfl
   have yl := y1.lt
   have sl := s1.lt
   go_wp2_with fail
   refine (l10Step_c k ta pa ra ia tc pc rc ic regs ins hok hf ⟨hr1, hr2⟩ hil _ (hF.ext E1)).mono ?_
   rw [← HO.out, ← HN.out]
   rintro e w2 ⟨ov, rv, rfl, hO, hN, hd, hE2⟩
   obtain ⟨oa, oc, rfl, _⟩ := hO.len
   obtain ⟨na, nc, rfl, _⟩ := hN.len
   have r2 := r1.ext hE2
   have u0 := r2.cell (i := 0) rfl
   have u1 := r2.cell (i := 1) rfl
   have ul := r2.lt
   have fz := fun i => r2.frozen i
   have E2 := E1.trans hE2
   have hz := hE1.size
   simp at hz
   have HO2 := Lib.hid hO
   have HN2 := Lib.hid hN
   clear hO hN
   go_wp2
   refine bodyPost_ret (v := .agg #[.slice oa O.length oc, .slice na N.length nc]) (by simp [results, Try.results47, go_sem, u0, u1]) rfl ?_
   have e1 : ∀ q, (Value.slice oa O.length oc).ownBlock = some q → q ≠ w.heap.size + 1 + 1 := fun q hq => by have := (HO2.out.lt' q hq).1; omega
   have e2 : ∀ q, (Value.slice na N.length nc).ownBlock = some q → q ≠ w.heap.size + 1 + 1 := fun q hq => by have := (HN2.out.lt' q hq).1; omega
   refine ⟨_, _, rfl, ?_, ?_, hd, Ext.setNew (Ext.setNew E2 (by simp; omega) _) (by simp; omega) _⟩
   ·exact (OwnB.setOther (OwnB.setOther HO2.out (fun q => e1 _ q rfl) _) (fun q => e1 _ q rfl) _).le (by omega)
   ·exact (OwnB.setOther (OwnB.setOther HN2.out (fun q => e2 _ q rfl) _) (fun q => e2 _ q rfl) _).le (by omega)
  ·have hsv : stepV k regs ins = ([], []) := by unfold stepV; rw [if_neg (fun h => hil h.2.2)]
   rw [hsv]
   have hne : ((regs.length : Int) != 25) = false := by simp; omega
   have hgt : (4 : Int) < (ins.length : Int) := by omega
   clear hsv ha hr
   go_enter Try.func47, Try.ntmps47
   go_wp2_with fail
   refine (T1.out _ (hF.k.ext E0)).mono ?_
   rintro e w1 ⟨rfl, hE1⟩
   have r1 := r.ext hE1
   have s1 := s.ext hE1
   have c2 := s1.cell (i := 0) rfl
   have sl := s1.lt
   have E1 := E0.trans hE1
   have u0 := r1.cell (i := 0) rfl
   have u1 := r1.cell (i := 1) rfl
   have ul := r1.lt
   have fz := fun i => r1.frozen i
   go_wp2
   refine bodyPost_ret (v := .agg #[.slice none 0 0, .slice none 0 0]) (by simp [results, Try.results47, go_sem, u0, u1]) rfl ?_
   exact ⟨_, _, rfl, OwnB.nil, OwnB.nil, fun q hq => (by cases hq), Ext.setNew (Ext.setNew E1 (by simp; omega) _) (by simp; omega) _⟩
 ·have hsv : stepV k regs ins = ([], []) := by unfold stepV; rw [if_neg (fun h => hr h.2.1)]
  rw [hsv]
  have hne : ((regs.length : Int) != 25) = true := by simp; omega
  clear hsv ha
  go_enter Try.func47, Try.ntmps47
  go_wp2_with fail
  refine (T1.out _ (hF.k.ext E0)).mono ?_
  rintro e w1 ⟨rfl, hE1⟩
  have r1 := r.ext hE1
  have s1 := s.ext hE1
  have c2 := s1.cell (i := 0) rfl
  have sl := s1.lt
  have E1 := E0.trans hE1
  have u0 := r1.cell (i := 0) rfl
  have u1 := r1.cell (i := 1) rfl
  have ul := r1.lt
  have fz := fun i => r1.frozen i
  go_wp2
  refine bodyPost_ret (v := .agg #[.slice none 0 0, .slice none 0 0]) (by simp [results, Try.results47, go_sem, u0, u1]) rfl ?_
  exact ⟨_, _, rfl, OwnB.nil, OwnB.nil, fun q hq => (by cases hq), Ext.setNew (Ext.setNew E1 (by simp; omega) _) (by simp; omega) _⟩
set_option maxHeartbeats 4000000 in
theorem implStepFabric_c (k : Conf) (ta pa ra ia : Option Addr) (tc pc rc ic : Nat) (regs ins : List Bool) (w : World) (hF : FabAt w k ta pa ra regs ia ins) (rl : regs.length ≤ 1048576) (il : ins.length ≤ 1048576) :
  Calls Try.prog 46 #[.agg #[.slice ta k.ts.length tc, .slice pa k.ps.length pc], .agg #[.slice ra regs.length rc], .slice ia ins.length ic] w (GiveF w (stepV k regs ins).1 (stepV k regs ins).2) := by
 have T1 := Lib.hid (implConfigAcyclic_c k ta pa tc pc)
 have y := ((Blk.at w [.slice ta k.ts.length tc, .slice pa k.ps.length pc] 52 rfl).alloc (.cells #[.slice ra regs.length rc] 67)).alloc (.cells #[.slice none 0 0, .slice none 0 0] 71)
 have s := (Blk.at (w.alloc (.cells #[.slice ta k.ts.length tc, .slice pa k.ps.length pc] 52)) [.slice ra regs.length rc] 67 (B := w.heap.size + 1) (by simp)).alloc (.cells #[.slice none 0 0, .slice none 0 0] 71)
 have r := Blk.at ((w.alloc (.cells #[.slice ta k.ts.length tc, .slice pa k.ps.length pc] 52)).alloc (.cells #[.slice ra regs.length rc] 67)) [.slice none 0 0, .slice none 0 0] 71 (B := w.heap.size + 1 + 1) (by simp)
 have E0 : Ext w (((w.alloc (.cells #[.slice ta k.ts.length tc, .slice pa k.ps.length pc] 52)).alloc (.cells #[.slice ra regs.length rc] 67)).alloc (.cells #[.slice none 0 0, .slice none 0 0] 71)) := by (repeat (first | with_reducible assumption | with_reducible exact Ext.refl _ | with_reducible refine Ext.drew' ?_ | with_reducible refine Ext.drewN' ?_ _ | with_reducible refine Ext.alloc ?_ _ | (with_reducible refine Ext.setNew ?_ (by first | exact Nat.le_refl _ | (simp; done) | (simp; omega) | omega) _)))
 cases ha : acyV k
 ·have hsv : stepV k regs ins = ([], []) := by unfold stepV; rw [if_neg (by rw [ha]; simp)]
  rw [hsv]
  rw [ha] at T1
  clear hsv ha
  go_enter Try.func46, Try.ntmps46
  go_wp2_with fail
  refine (T1.out _ (hF.k.ext E0)).mono ?_
  rintro e w1 ⟨rfl, hE1⟩
  have r1 := r.ext hE1
  have E1 := E0.trans hE1
  have u0 := r1.cell (i := 0) rfl
  have u1 := r1.cell (i := 1) rfl
  have ul := r1.lt
  have fz := fun i => r1.frozen i
  go_wp2
  refine bodyPost_ret (v := .agg #[.slice none 0 0, .slice none 0 0]) (by simp [results, Try.results46, go_sem, u0, u1]) rfl ?_
  exact ⟨_, _, rfl, OwnB.nil, OwnB.nil, fun q hq => (by cases hq), Ext.setNew (Ext.setNew E1 (by simp; omega) _) (by simp; omega) _⟩
 rw [ha] at T1
 by_cases hr : regs.length = 25
 ·obtain ⟨hr1, hr2⟩ : 25 ≤ regs.length ∧ regs.length ≤ 25 := by omega
  by_cases hil : ins.length ≤ 4
  ·have hsv : stepV k regs ins = (outsV k regs ins 3, nextV k regs ins 25) := by unfold stepV; rw [if_pos ⟨ha, hr, hil⟩]
   have hok := acy_ok ha
   have hf : ∀ x : Wire, x.Ok → ∃ n, FinN k n x := fun x hx => acy_fin ha hx
   rw [hsv]
   have hne : ((regs.length : Int) != 25) = false := by simp; omega
   have hge : ¬ (4 : Int) < (ins.length : Int) := by omega
   have hre : ((ins.length : Int) > 4) = False := by simp; omega
   obtain ⟨O, HO⟩ : ∃ O, Hid (O = outsV k regs ins 3) := ⟨_, Lib.hid rfl⟩
   obtain ⟨N, HN⟩ : ∃ N, Hid (N = nextV k regs ins 25) := ⟨_, Lib.hid rfl⟩
   rw [← HO.out, ← HN.out]
   clear hsv ha hr hre
   go_enter Try.func46, Try.ntmps46
   go_wp2_with fail
   refine (T1.out _ (hF.k.ext E0)).mono ?_
   rintro e w1 ⟨rfl, hE1⟩
   have y1 := y.ext hE1
   have s1 := s.ext hE1
   have r1 := r.ext hE1
   have E1 := E0.trans hE1
   have c0 := y1.cell (i := 0) rfl
   have c1 := y1.cell (i := 1) rfl
   have c2 := s1.cell (i := 0) rfl
   have yl := y1.lt
   have sl := s1.lt
   go_wp2_with fail
   refine (stepFabric_c k ta pa ra ia tc pc rc ic w.heap.size regs ins hok hf ⟨hr1, hr2⟩ hil _ (hF.ext E1) y1).mono ?_
   rw [← HO.out, ← HN.out]
   rintro e w2 ⟨ov, rv, rfl, hO, hN, hd, hE2⟩
   obtain ⟨oa, oc, rfl, _⟩ := hO.len
   obtain ⟨na, nc, rfl, _⟩ := hN.len
   have r2 := r1.ext hE2
   have u0 := r2.cell (i := 0) rfl
   have u1 := r2.cell (i := 1) rfl
   have ul := r2.lt
   have fz := fun i => r2.frozen i
   have E2 := E1.trans hE2
   have hz := hE1.size
   simp at hz
   have HO2 := Lib.hid hO
   have HN2 := Lib.hid hN
   clear hO hN
   go_wp2
   refine bodyPost_ret (v := .agg #[.slice oa O.length oc, .slice na N.length nc]) (by simp [results, Try.results46, go_sem, u0, u1]) rfl ?_
   have e1 : ∀ q, (Value.slice oa O.length oc).ownBlock = some q → q ≠ w.heap.size + 1 + 1 := fun q hq => by have := (HO2.out.lt' q hq).1; omega
   have e2 : ∀ q, (Value.slice na N.length nc).ownBlock = some q → q ≠ w.heap.size + 1 + 1 := fun q hq => by have := (HN2.out.lt' q hq).1; omega
   refine ⟨_, _, rfl, ?_, ?_, hd, Ext.setNew (Ext.setNew E2 (by simp; omega) _) (by simp; omega) _⟩
   ·exact (OwnB.setOther (OwnB.setOther HO2.out (fun q => e1 _ q rfl) _) (fun q => e1 _ q rfl) _).le (by omega)
   ·exact (OwnB.setOther (OwnB.setOther HN2.out (fun q => e2 _ q rfl) _) (fun q => e2 _ q rfl) _).le (by omega)
  ·have hsv : stepV k regs ins = ([], []) := by unfold stepV; rw [if_neg (fun h => hil h.2.2)]
   rw [hsv]
   have hne : ((regs.length : Int) != 25) = false := by simp; omega
   have hgt : (4 : Int) < (ins.length : Int) := by omega
   clear hsv ha hr
   go_enter Try.func46, Try.ntmps46
   go_wp2_with fail
   refine (T1.out _ (hF.k.ext E0)).mono ?_
   rintro e w1 ⟨rfl, hE1⟩
   have r1 := r.ext hE1
   have s1 := s.ext hE1
   have c2 := s1.cell (i := 0) rfl
   have sl := s1.lt
   have E1 := E0.trans hE1
   have u0 := r1.cell (i := 0) rfl
   have u1 := r1.cell (i := 1) rfl
   have ul := r1.lt
   have fz := fun i => r1.frozen i
   go_wp2
   refine bodyPost_ret (v := .agg #[.slice none 0 0, .slice none 0 0]) (by simp [results, Try.results46, go_sem, u0, u1]) rfl ?_
   exact ⟨_, _, rfl, OwnB.nil, OwnB.nil, fun q hq => (by cases hq), Ext.setNew (Ext.setNew E1 (by simp; omega) _) (by simp; omega) _⟩
 ·have hsv : stepV k regs ins = ([], []) := by unfold stepV; rw [if_neg (fun h => hr h.2.1)]
  rw [hsv]
  have hne : ((regs.length : Int) != 25) = true := by simp; omega
  clear hsv ha
  go_enter Try.func46, Try.ntmps46
  go_wp2_with fail
  refine (T1.out _ (hF.k.ext E0)).mono ?_
  rintro e w1 ⟨rfl, hE1⟩
  have r1 := r.ext hE1
  have s1 := s.ext hE1
  have c2 := s1.cell (i := 0) rfl
  have sl := s1.lt
  have E1 := E0.trans hE1
  have u0 := r1.cell (i := 0) rfl
  have u1 := r1.cell (i := 1) rfl
  have ul := r1.lt
  have fz := fun i => r1.frozen i
  go_wp2
  refine bodyPost_ret (v := .agg #[.slice none 0 0, .slice none 0 0]) (by simp [results, Try.results46, go_sem, u0, u1]) rfl ?_
  exact ⟨_, _, rfl, OwnB.nil, OwnB.nil, fun q hq => (by cases hq), Ext.setNew (Ext.setNew E1 (by simp; omega) _) (by simp; omega) _⟩
end Go.Proofs.Ytgialedmbmfejaa
