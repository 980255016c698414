/- Contracts of the reference's functions on circuits (valid or not, number of variables), and of the program's VarCount. -/
import Derived.Test.YtgialedmbmfejaaLib2
namespace Go.Proofs.Ytgialedmbmfejaa
open Go.RowKit
set_option maxRecDepth 100000
set_option linter.unusedVariables false
set_option linter.unusedSimpArgs false
open Classical in
noncomputable def litsB (xs : List Int) (n : Int) : Bool := decide (LitsOk xs n)
theorem litsB_true {xs : List Int} {n : Int} (h : LitsOk xs n) : litsB xs n = true := by unfold litsB; exact @decide_eq_true _ (_) h
theorem litsB_false {xs : List Int} {n : Int} (h : ¬ LitsOk xs n) : litsB xs n = false := by unfold litsB; exact @decide_eq_false _ (_) h
theorem litsB_iff {xs : List Int} {n : Int} : litsB xs n = true ↔ LitsOk xs n := by unfold litsB; exact @decide_eq_true_iff _ (_)
theorem litsB_niff {xs : List Int} {n : Int} : litsB xs n = false ↔ ¬ LitsOk xs n := by unfold litsB; exact @decide_eq_false_iff_not _ (_)
theorem l1In_c (n lo hi : Int) (w : World) :
    Calls Try.prog 68 #[.int .i64 n, .int .i64 lo, .int .i64 hi] w fun e w' => e = .returned (.bool (decide (lo ≤ n) && decide (n ≤ hi))) ∧ w = w' := by
  go_enter Try.func68, Try.ntmps68
  go_wp2
  · have h : lo ≤ n := by assumption
    go_ret
    exact ⟨by simp [h], rfl⟩
  · have h : n < lo := by assumption
    go_ret
    exact ⟨by have h' : ¬ lo ≤ n := by omega
              simp [h'], rfl⟩
theorem l1In_lit (l n : Int) (w : World) :
  Calls Try.prog 68 #[.int .i64 l, .int .i64 0, .int .i64 (2 * n - 1)] w fun e w' => e = .returned (.bool (litB l n)) ∧ w = w' := by
 refine (l1In_c l 0 (2 * n - 1) w).mono ?_
 rintro e w' ⟨rfl, hw⟩
 refine ⟨?_, hw⟩
 have : decide (l ≤ 2 * n - 1) = decide (l < 2 * n) := by simp only [decide_eq_decide]; omega
 rw [this]; rfl
set_option maxHeartbeats 400000 in
theorem l1Lits_c (a : Option Addr) (c : Nat) (xs : List Int) (n : Int) (w : World) (hx : IntsAt w a xs) (hl : xs.length ≤ 1048576) (hn : 0 ≤ n) (hn2 : n ≤ 100000) :
  Calls Try.prog 70 #[.slice a xs.length c, .int .i64 n] w fun e w' => e = .returned (.bool (litsB xs n)) ∧ w = w' := by
 go_enter Try.func70, Try.ntmps70
 go_wp2_with fail
 go_loop [5] (fun i => ∃ k : Nat, k ≤ xs.length ∧ i = .int .i64 k ∧ Hid (∀ i, i < k → litB (xs.getD i 0) n = true)) (fun i => xs.length - (intOf i).toNat)
 case atStart => exact ⟨0, Nat.zero_le _, rfl, Lib.hid (fun i hi => by omega)⟩
 case round =>
  obtain ⟨k, hk, rfl, hpre⟩ := hrel
  by_cases hlt : k < xs.length
  ·obtain ⟨b, o, rfl, hb, hc⟩ := hx.get (by omega)
   have q := hc k hlt
   obtain ⟨x, hxx⟩ : ∃ x, x = xs.getD k 0 := ⟨_, rfl⟩
   rw [← hxx] at q
   have HX := Lib.hid hxx
   clear hc hxx
   cases h1 : litB x n
   all_goals go_wp2_with (go_at_call 68; refine (l1In_lit _ _ _).mono ?_; rintro e w' ⟨rfl, rfl⟩)
   ·go_ret
    have hf : litsB xs n = false := litsB_false (fun h => by have := h k hlt; rw [← HX.out, h1] at this; cases this)
    exact ⟨by rw [hf]; rfl, rfl⟩
   ·go_round
    case rel =>
     refine ⟨k + 1, by omega, by go_num, Lib.hid (fun i hi => ?_)⟩
     rcases Nat.lt_or_ge i k with h | h
     ·exact hpre.out i h
     ·have : i = k := by omega
      subst this
      rw [← HX.out]; exact h1
    case measure => simp [intOf]; omega
  ·go_wp2
   go_ret
   have hf : litsB xs n = true := litsB_true (fun i hi => hpre.out i (by omega))
   exact ⟨by rw [hf]; rfl, rfl⟩
theorem l1Lits2_c (a : Option Addr) (c : Nat) (x y : Int) (n : Int) (w : World) (hx : IntsAt w a [x, y]) (hn : 0 ≤ n) (hn2 : n ≤ 100000) :
  Calls Try.prog 70 #[.slice a 2 c, .int .i64 n] w fun e w' => e = .returned (.bool (litsB [x, y] n)) ∧ w = w' :=
 l1Lits_c a c [x, y] n w hx (by simp) hn hn2
theorem l1First_c (c : Circ) (p : Where3) (w : World) (h0 : -1000 ≤ c.inputs) (h1 : c.inputs ≤ 1000) (h2 : c.next.length ≤ 1000) :
  Calls Try.prog 69 #[.agg #[.int .i64 c.inputs, .slice p.an c.next.length p.cn, .slice p.ag c.gates.length p.cg, .slice p.ao c.outs.length p.co]] w fun e w' => e = .returned (.int .i64 c.first) ∧ Ext w w' := by
 have e : c.inputs + c.next.length + 1 = c.first := by unfold Circ.first; omega
 have E := Lib.hid e
 clear e
 go_enter Try.func69, Try.ntmps69
 go_wp2
 go_ret
 refine ⟨by rw [← E.out]; rfl, ?_⟩
 (repeat (first | assumption | (with_reducible refine Ext.drew' ?_) | exact Ext.refl _ | exact Ext.drew _ | exact Ext.drewN _ _ | (refine Ext.alloc ?_ _) | (refine Ext.drewN' ?_ _) | (refine Ext.setNew ?_ (by first | exact Nat.le_refl _ | (simp; done) | (simp; omega) | omega) _)))
theorem intsAt_new2 (w : World) (a b : Int) (t : TypeId) : IntsAt (w.alloc (.cells #[.int .i64 a, .int .i64 b] t)) (some ⟨w.heap.size, 0, none⟩) [a, b] := intsAt_of_row (xs := [a, b]) (RowAt.new w #[.int .i64 a, .int .i64 b] t)
theorem lits2 {a b n : Int} : LitsOk [a, b] n ↔ litB a n = true ∧ litB b n = true := by
 constructor
 ·intro h
  exact ⟨h 0 (by simp), h 1 (by simp)⟩
 ·rintro ⟨h0, h1⟩ i hi
  match i, hi with
  | 0, _ => exact h0
  | 1, _ => exact h1
theorem litsOk_append {xs ys : List Int} {n : Int} : LitsOk (xs ++ ys) n ↔ LitsOk xs n ∧ LitsOk ys n := by
 constructor
 ·intro h
  refine ⟨fun i hi => ?_, fun i hi => ?_⟩
  ·have := h i (by simp; omega)
   simpa [List.getD_eq_getElem?_getD, List.getElem?_append_left hi] using this
  ·have := h (xs.length + i) (by simp; omega)
   simpa [List.getD_eq_getElem?_getD, List.getElem?_append_right] using this
 ·rintro ⟨h1, h2⟩ i hi
  rcases Nat.lt_or_ge i xs.length with h | h
  ·have := h1 i h
   simpa [List.getD_eq_getElem?_getD, List.getElem?_append_left h] using this
  ·have := h2 (i - xs.length) (by simp at hi; omega)
   simpa [List.getD_eq_getElem?_getD, List.getElem?_append_right h] using this
set_option maxHeartbeats 2000000 in
theorem specCircuitValid_c (c : Circ) (p : Where3) (w : World) (hc : CircAt w c p) :
  Calls Try.prog 17 #[.agg #[.int .i64 c.inputs, .slice p.an c.next.length p.cn, .slice p.ag c.gates.length p.cg, .slice p.ao c.outs.length p.co]] w fun e w' => e = .returned (.bool (validB c)) ∧ Ext w w' := by
 have ln := hc.ln
 have lg := hc.lg
 have lo := hc.lo
 have made := CircBox.made w c p 26
 obtain ⟨an, cn, ag, cg, ao, co⟩ := p
 dsimp only at made ⊢
 by_cases b1 : 0 ≤ c.inputs ∧ c.inputs ≤ 4 ∧ c.next.length ≤ 3 ∧ c.gates.length ≤ 14 ∧ c.outs.length ≤ 3
 ·obtain ⟨i0, i4, n3, g14, o3⟩ := b1
  have HF : Hid (c.first = 1 + c.inputs + c.next.length) := Lib.hid rfl
  have hf : 1 ≤ c.first ∧ c.first ≤ 8 := by rw [HF.out]; omega
  go_enter Try.func17, Try.ntmps17
  go_wp2_with (first | (go_at_call 68; refine (l1In_c _ _ _ _).mono ?_; rintro e w' ⟨rfl, rfl⟩) | (go_at_call 69; refine (l1First_c c ⟨an, cn, ag, cg, ao, co⟩ _ (by omega) (by omega) (by omega)).mono ?_; rintro e w1 ⟨rfl, hE1⟩))
  go_loopw [4] (fun i wr => ∃ k : Nat, k ≤ c.gates.length ∧ i = .int .i64 k ∧ Hid (∀ i, i < k → litB (c.gates.getD i (0, 0)).1 (c.first + i) = true ∧ litB (c.gates.getD i (0, 0)).2 (c.first + i) = true) ∧ CircBox wr w.heap.size c ⟨an, cn, ag, cg, ao, co⟩ ∧ Ext w wr) (fun i _ => c.gates.length - (intOf i).toNat)
  case atStart => exact ⟨0, Nat.zero_le _, rfl, Lib.hid (fun i hi => by omega), made.ext hE1, ((Ext.refl w).alloc _).trans hE1⟩
  case round =>
   clear hE1
   obtain ⟨k, hk, rfl, hpre, hbox, hE⟩ := hrel
   obtain ⟨hbl, b0, b1, b2, b3⟩ := hbox
   dsimp only at b1 b2 b3
   by_cases hlt : k < c.gates.length
   ·obtain ⟨b, o, hag, hb, hg1, hg2⟩ := (hc.ext hE).gs.get (by omega)
    dsimp only at hag
    subst hag
    have q1 := hg1 k hlt
    have q2 := hg2 k hlt
    obtain ⟨ga, hga⟩ : ∃ x, x = (c.gates.getD k (0, 0)).1 := ⟨_, rfl⟩
    obtain ⟨gb, hgb⟩ : ∃ x, x = (c.gates.getD k (0, 0)).2 := ⟨_, rfl⟩
    rw [← hga] at q1
    rw [← hgb] at q2
    have HA := Lib.hid hga
    have HB := Lib.hid hgb
    clear hg1 hg2 hga hgb
    have hw1 : IntKind.i64.wrap (c.first + k) = c.first + k := IntWalk.i64_in _ (by omega)
    cases h1 : litsB [ga, gb] (c.first + k)
    all_goals
     go_wp2_with fail
     go_region_held3 (fun w' => (∀ b o, b < wr.heap.size → w'.cell? ⟨b, o, none⟩ = wr.cell? ⟨b, o, none⟩) ∧ Ext wr w') ((first | assumption | (with_reducible exact held_mk (Ext.drew wr)) | (with_reducible exact held_mk (((Ext.refl wr).alloc _).drew')) | (with_reducible exact held_mk ((Ext.drew wr).alloc _)))) (first | (go_simp; go_at_call 70; refine (l1Lits2_c _ _ ga gb _ _ (intsAt_new2 wr.drew ga gb _) (by omega) (by omega)).mono ?_; rintro e w' ⟨rfl, rfl⟩))
     go_wp2
    ·go_ret
     have hvf : validB c = false := validB_false (fun hv => by have := hv.gs k hlt; rw [← HA.out, ← HB.out] at this; have h2 := litsB_true (lits2.2 this); rw [h1] at h2; cases h2)
     refine ⟨by rw [hvf]; rfl, ?_⟩
     refine hE.trans ?_
     (repeat (first | assumption | (with_reducible refine Ext.drew' ?_) | exact Ext.refl _ | exact Ext.drew _ | exact Ext.drewN _ _ | (refine Ext.alloc ?_ _) | (refine Ext.drewN' ?_ _) | (refine Ext.setNew ?_ (by first | exact Nat.le_refl _ | (simp; done) | (simp; omega) | omega) _)))
    ·go_roundw
     case rel =>
      refine ⟨k + 1, by omega, by go_num, Lib.hid (fun i hi => ?_), ?_, ?_⟩
      ·rcases Nat.lt_or_ge i k with h | h
       ·exact hpre.out i h
       ·have : i = k := by omega
        subst this
        rw [← HA.out, ← HB.out]
        exact lits2.1 (litsB_iff.1 h1)
      ·refine CircBox.ext ⟨hbl, b0, b1, b2, b3⟩ ?_
       (repeat (first | assumption | (with_reducible refine Ext.drew' ?_) | exact Ext.refl _ | exact Ext.drew _ | exact Ext.drewN _ _ | (refine Ext.alloc ?_ _) | (refine Ext.drewN' ?_ _) | (refine Ext.setNew ?_ (by first | exact Nat.le_refl _ | (simp; done) | (simp; omega) | omega) _)))
      ·refine hE.trans ?_
       (repeat (first | assumption | (with_reducible refine Ext.drew' ?_) | exact Ext.refl _ | exact Ext.drew _ | exact Ext.drewN _ _ | (refine Ext.alloc ?_ _) | (refine Ext.drewN' ?_ _) | (refine Ext.setNew ?_ (by first | exact Nat.le_refl _ | (simp; done) | (simp; omega) | omega) _)))
     case measure => simp [intOf]; omega
   ·have hg : GatesOk c := fun i hi => hpre.out i (by omega)
    have HG := Lib.hid hg
    clear hg
    have nx := hc.nx.ext hE
    have ou := hc.ou.ext hE
    dsimp only at nx ou
    have hvv : Hid (c.first + c.gates.length = c.vars) := Lib.hid rfl
    cases h1 : litsB c.next (c.first + c.gates.length)
    all_goals cases h2 : litsB c.outs (c.first + c.gates.length)
    all_goals
     go_wp2_with (go_at_call 70; refine (l1Lits_c _ _ _ _ _ (by first | exact nx | exact ou) (by omega) (by omega) (by omega)).mono ?_; rintro e w' ⟨rfl, rfl⟩)
     go_ret
    ·have hvf : validB c = false := validB_false (fun hv => by have h3 := litsB_true (litsOk_append.1 hv.rs).1; rw [← hvv.out, h1] at h3; cases h3)
     exact ⟨by rw [hvf]; rfl, hE⟩
    ·have hvf : validB c = false := validB_false (fun hv => by have h3 := litsB_true (litsOk_append.1 hv.rs).1; rw [← hvv.out, h1] at h3; cases h3)
     exact ⟨by rw [hvf]; rfl, hE⟩
    ·have hvf : validB c = false := validB_false (fun hv => by have h3 := litsB_true (litsOk_append.1 hv.rs).2; rw [← hvv.out, h2] at h3; cases h3)
     exact ⟨by rw [hvf]; rfl, hE⟩
    ·have hvt : validB c = true := validB_true ⟨i0, i4, n3, g14, o3, HG.out, litsOk_append.2 ⟨litsB_iff.1 h1, litsB_iff.1 h2⟩⟩
     exact ⟨by rw [hvt]; rfl, hE⟩
 ·have hvf : validB c = false := validB_false (fun hv => b1 ⟨hv.i0, hv.i4, hv.ln, hv.lg, hv.lo⟩)
  have HV := Lib.hid hvf
  clear hvf made
  by_cases i0 : 0 ≤ c.inputs
  ·by_cases i4 : c.inputs ≤ 4
   ·by_cases n3 : c.next.length ≤ 3
    ·by_cases g14 : c.gates.length ≤ 14
     ·have o3 : ¬ c.outs.length ≤ 3 := fun h => b1 ⟨i0, i4, n3, g14, h⟩
      clear b1
      go_enter Try.func17, Try.ntmps17; go_wp2_with (go_at_call 68; refine (l1In_c _ _ _ _).mono ?_; rintro e w' ⟨rfl, rfl⟩); go_ret; refine ⟨by rw [HV.out]; rfl, ?_⟩; (repeat (first | assumption | (with_reducible refine Ext.drew' ?_) | exact Ext.refl _ | exact Ext.drew _ | exact Ext.drewN _ _ | (refine Ext.alloc ?_ _) | (refine Ext.drewN' ?_ _) | (refine Ext.setNew ?_ (by first | exact Nat.le_refl _ | (simp; done) | (simp; omega) | omega) _)))
     ·clear b1
      go_enter Try.func17, Try.ntmps17; go_wp2_with (go_at_call 68; refine (l1In_c _ _ _ _).mono ?_; rintro e w' ⟨rfl, rfl⟩); go_ret; refine ⟨by rw [HV.out]; rfl, ?_⟩; (repeat (first | assumption | (with_reducible refine Ext.drew' ?_) | exact Ext.refl _ | exact Ext.drew _ | exact Ext.drewN _ _ | (refine Ext.alloc ?_ _) | (refine Ext.drewN' ?_ _) | (refine Ext.setNew ?_ (by first | exact Nat.le_refl _ | (simp; done) | (simp; omega) | omega) _)))
    ·clear b1
     go_enter Try.func17, Try.ntmps17; go_wp2_with (go_at_call 68; refine (l1In_c _ _ _ _).mono ?_; rintro e w' ⟨rfl, rfl⟩); go_ret; refine ⟨by rw [HV.out]; rfl, ?_⟩; (repeat (first | assumption | (with_reducible refine Ext.drew' ?_) | exact Ext.refl _ | exact Ext.drew _ | exact Ext.drewN _ _ | (refine Ext.alloc ?_ _) | (refine Ext.drewN' ?_ _) | (refine Ext.setNew ?_ (by first | exact Nat.le_refl _ | (simp; done) | (simp; omega) | omega) _)))
   ·clear b1
    go_enter Try.func17, Try.ntmps17; go_wp2_with (go_at_call 68; refine (l1In_c _ _ _ _).mono ?_; rintro e w' ⟨rfl, rfl⟩); go_ret; refine ⟨by rw [HV.out]; rfl, ?_⟩; (repeat (first | assumption | (with_reducible refine Ext.drew' ?_) | exact Ext.refl _ | exact Ext.drew _ | exact Ext.drewN _ _ | (refine Ext.alloc ?_ _) | (refine Ext.drewN' ?_ _) | (refine Ext.setNew ?_ (by first | exact Nat.le_refl _ | (simp; done) | (simp; omega) | omega) _)))
  ·clear b1
   go_enter Try.func17, Try.ntmps17; go_wp2_with (go_at_call 68; refine (l1In_c _ _ _ _).mono ?_; rintro e w' ⟨rfl, rfl⟩); go_ret; refine ⟨by rw [HV.out]; rfl, ?_⟩; (repeat (first | assumption | (with_reducible refine Ext.drew' ?_) | exact Ext.refl _ | exact Ext.drew _ | exact Ext.drewN _ _ | (refine Ext.alloc ?_ _) | (refine Ext.drewN' ?_ _) | (refine Ext.setNew ?_ (by first | exact Nat.le_refl _ | (simp; done) | (simp; omega) | omega) _)))
/-- The number of variables; 0 for what is not valid. -/
noncomputable def varCount (c : Circ) : Int := if validB c then c.vars else 0
theorem implVarCount_c (c : Circ) (p : Where3) (w : World) (hc : CircAt w c p) :
  Calls Try.prog 56 #[.agg #[.int .i64 c.inputs, .slice p.an c.next.length p.cn, .slice p.ag c.gates.length p.cg, .slice p.ao c.outs.length p.co]] w fun e w' => e = .returned (.int .i64 (varCount c)) ∧ Ext w w' := by
 cases hv : validB c
 ·have e : varCount c = 0 := by simp [varCount, hv]
  have E := Lib.hid e
  clear e
  go_enter Try.func56, Try.ntmps56
  go_wp2_with (go_at_call 60; refine (implCircuitValid_c c p _ (hc.ext ((Ext.refl w).alloc _))).mono ?_; rintro e w1 ⟨rfl, hE1⟩)
  go_ret
  exact ⟨by rw [E.out]; rfl, ((Ext.refl w).alloc _).trans hE1⟩
 ·have e : varCount c = c.vars := by simp [varCount, hv]
  have E := Lib.hid e
  have V := validB_iff.1 hv
  obtain ⟨i0, i4, n3, g14, o3, _, _⟩ := V
  have made := CircBox.made w c p 26
  clear e
  go_enter Try.func56, Try.ntmps56
  go_wp2_with (first | (go_at_call 60; refine (implCircuitValid_c c p _ (hc.ext ((Ext.refl w).alloc _))).mono ?_; rintro e w1 ⟨rfl, hE1⟩) | (go_at_call 102; refine (vars_c _ c p _ (made.ext hE1) (by omega) (by omega) (by omega) (by omega)).mono ?_; rintro e w2 ⟨rfl, nv, rfl⟩))
  go_ret
  refine ⟨by rw [E.out]; rfl, (((Ext.refl w).alloc _).trans hE1).drewN' _⟩
end Go.Proofs.Ytgialedmbmfejaa
