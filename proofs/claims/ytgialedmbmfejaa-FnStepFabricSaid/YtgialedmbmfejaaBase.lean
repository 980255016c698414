/- Contracts of the smallest functions on circuits. -/
import Derived.Test.YtgialedmbmfejaaLib
namespace Go.Proofs.Ytgialedmbmfejaa
open Go.RowKit
set_option maxRecDepth 100000
set_option linter.unusedVariables false
set_option linter.unusedSimpArgs false
def litB (l n : Int) : Bool := decide (0 ≤ l) && decide (l < 2 * n)
def Circ.first (c : Circ) : Int := 1 + c.inputs + c.next.length
def Circ.vars (c : Circ) : Int := c.first + c.gates.length
theorem isLit_c (l n : Int) (w : World) (hn : 0 ≤ n) (hn2 : n ≤ 1000000000) :
  Calls Try.prog 103 #[.int .i64 l, .int .i64 n] w fun e w' => e = .returned (.bool (litB l n)) ∧ w = w' := by
 go_enter Try.func103, Try.ntmps103
 go_wp2
 ·have h : 0 ≤ l := by assumption
  go_ret
  exact ⟨by simp [litB, h], rfl⟩
 ·have h : l < 0 := by assumption
  go_ret
  exact ⟨by simp [litB]; omega, rfl⟩
theorem firstGate_c (b : Nat) (c : Circ) (p : Where3) (w : World) (hb : CircBox w b c p) (h0 : 0 ≤ c.inputs) (h1 : c.inputs ≤ 1000) (h2 : c.next.length ≤ 1000) :
  Calls Try.prog 126 #[.pointer (some ⟨b, 0, none⟩)] w fun e w' => e = .returned (.int .i64 c.first) ∧ ∃ n, w' = w.drewN n := by
 obtain ⟨hlt, g0, g1, g2, g3⟩ := hb
 go_enter Try.func126, Try.ntmps126
 go_wp2
 go_quiet (fail)
 go_wp2
 go_ret
 exact ⟨rfl, _, rfl⟩

theorem vars_c (b : Nat) (c : Circ) (p : Where3) (w : World) (hb : CircBox w b c p) (h0 : 0 ≤ c.inputs) (h1 : c.inputs ≤ 1000) (h2 : c.next.length ≤ 1000) (h3 : c.gates.length ≤ 1000) :
  Calls Try.prog 102 #[.pointer (some ⟨b, 0, none⟩)] w fun e w' => e = .returned (.int .i64 c.vars) ∧ ∃ n, w' = w.drewN n := by
 obtain ⟨hlt, g0, g1, g2, g3⟩ := hb
 have hf : 0 ≤ c.first ∧ c.first ≤ 3000 := by unfold Circ.first; omega
 go_enter Try.func102, Try.ntmps102
 go_wp2_with fail
 go_quiet ((go_at_call 126; exact Calls.quiet_of (firstGate_c b c p _ ⟨hlt, g0, g1, g2, g3⟩ h0 h1 h2)))
 go_wp2
 go_ret
 exact ⟨rfl, _, rfl⟩
theorem tyInts : RowTy Try.prog 23 3 1 8 := RowTy.mk' (z := .int .i64 0) Try.underlying23 (by kernel_rfl) rfl (by decide) (by decide)
/-- What the call makes reads as the next-state literals and then the outputs. -/
def RootsPost (w : World) (c : Circ) (e : Ending) (w' : World) : Prop := ∃ v xs, e = .returned v ∧ Hid (xs = c.next ++ c.outs) ∧ OwnInts w' w.heap.size 3 v xs ∧ Ext w w'
theorem roots_c (b : Nat) (c : Circ) (p : Where3) (w : World) (hb : CircBox w b c p) (hc : CircAt w c p) :
  Calls Try.prog 104 #[.pointer (some ⟨b, 0, none⟩)] w (RootsPost w c) := by
 obtain ⟨hlt, g0, g1, g2, g3⟩ := hb
 have hn : RowAt w p.an (c.next.map (Value.int .i64)) := hc.nx.row
 have ho : RowAt w p.ao (c.outs.map (Value.int .i64)) := hc.ou.row
 have ln := hc.ln
 have lo := hc.lo
 clear hc
 go_enter Try.func104, Try.ntmps104
 go_wp2
 go_region_held3 (fun w' => (∀ b o, b < w.heap.size → w'.cell? ⟨b, o, none⟩ = w.cell? ⟨b, o, none⟩) ∧ Ext w w') (first | exact held_mk (Ext.drew w) | (exact held_mk (ext_grown (held_ext (by assumption)) (by assumption) (by intro k hk; first | (cases hk; done) | exact (World.ownsRow.lt (by assumption) k hk).1)))) (first | (refine wp_app tyInts o1 (ho.ext (held_ext (by assumption))) (by simp) (oneCell_ints _) (by simp; omega) (Ext.size (held_ext (by assumption))) rfl rfl rfl ?_; intro v2 w2 o2 hg2 _) | (refine wp_app tyInts (base := w.heap.size) (ownsRow_nil) (hn.ext (held_ext (by assumption))) (by simp) (oneCell_ints _) (by omega) (Ext.size (held_ext (by assumption))) rfl rfl rfl ?_; intro v1 w1 o1 hg1 _))
 go_wp2
 go_ret
 exact ⟨v2, _, rfl, Lib.hid rfl, by simpa [OwnInts] using o2, held_ext (by assumption)⟩

def LitsOk (xs : List Int) (n : Int) : Prop := ∀ i, i < xs.length → litB (xs.getD i 0) n = true
def GatesOk (c : Circ) : Prop := ∀ i, i < c.gates.length → litB (c.gates.getD i (0, 0)).1 (c.first + i) = true ∧ litB (c.gates.getD i (0, 0)).2 (c.first + i) = true
/-- What it is for a circuit to be valid. -/
structure Circ.Valid (c : Circ) : Prop where
 i0 : 0 ≤ c.inputs
 i4 : c.inputs ≤ 4
 ln : c.next.length ≤ 3
 lg : c.gates.length ≤ 14
 lo : c.outs.length ≤ 3
 gs : GatesOk c
 rs : LitsOk (c.next ++ c.outs) c.vars
open Classical in
noncomputable def validB (c : Circ) : Bool := decide c.Valid
theorem validB_true {c : Circ} (h : c.Valid) : validB c = true := by unfold validB; exact @decide_eq_true _ (_) h
theorem validB_false {c : Circ} (h : ¬ c.Valid) : validB c = false := by unfold validB; exact @decide_eq_false _ (_) h
theorem validB_iff {c : Circ} : validB c = true ↔ c.Valid := by unfold validB; exact @decide_eq_true_iff _ (_)
theorem validB_niff {c : Circ} : validB c = false ↔ ¬ c.Valid := by unfold validB; exact @decide_eq_false_iff_not _ (_)
set_option maxHeartbeats 1000000 in
theorem implCircuitValid_c (c : Circ) (p : Where3) (w : World) (hc : CircAt w c p) :
  Calls Try.prog 60 #[.agg #[.int .i64 c.inputs, .slice p.an c.next.length p.cn, .slice p.ag c.gates.length p.cg, .slice p.ao c.outs.length p.co]] w fun e w' => e = .returned (.bool (validB c)) ∧ Ext w w' := by
 have ln := hc.ln
 have lg := hc.lg
 have lo := hc.lo
 obtain ⟨an, cn, ag, cg, ao, co⟩ := p
 have made := CircBox.made w c ⟨an, cn, ag, cg, ao, co⟩ 26
 dsimp only at made ⊢
 by_cases b1 : 0 ≤ c.inputs ∧ c.inputs ≤ 4 ∧ c.next.length ≤ 3 ∧ c.gates.length ≤ 14 ∧ c.outs.length ≤ 3
 ·obtain ⟨i0, i4, n3, g14, o3⟩ := b1
  have HF : Hid (c.first = 1 + c.inputs + c.next.length) := Lib.hid rfl
  go_enter Try.func60, Try.ntmps60
  go_wp2_with fail
  go_loopw [44] (fun i wr => ∃ k : Nat, k ≤ c.gates.length ∧ i = .int .i64 k ∧ Hid (∀ i, i < k → litB (c.gates.getD i (0, 0)).1 (c.first + i) = true ∧ litB (c.gates.getD i (0, 0)).2 (c.first + i) = true) ∧ CircBox wr w.heap.size c ⟨an, cn, ag, cg, ao, co⟩ ∧ Ext w wr) (fun i _ => c.gates.length - (intOf i).toNat)
  case atStart => exact ⟨0, Nat.zero_le _, rfl, Lib.hid (fun i hi => by omega), made, (Ext.refl w).alloc _⟩
  case round =>
   obtain ⟨k, hk, rfl, hpre, hbox, hE⟩ := hrel
   by_cases hlt : k < c.gates.length
   ·obtain ⟨b, o, hag, hb, hg1, hg2⟩ := (hc.ext hE).gs.get (by omega)
    dsimp only at hag
    subst hag
    have q1 := hg1 k hlt
    have q2 := hg2 k hlt
    obtain ⟨ga, hga⟩ : ∃ x, x = (c.gates.getD k (0, 0)).1 := ⟨_, rfl⟩
    obtain ⟨gb, hgb⟩ : ∃ x, x = (c.gates.getD k (0, 0)).2 := ⟨_, rfl⟩
    rw [← hga] at q1
    rw [← hgb] at q2
    have HA := Lib.hid hga
    have HB := Lib.hid hgb
    clear hg1 hg2 hga hgb
    cases h1 : litB ga (1 + c.inputs + c.next.length + k)
    all_goals cases h2 : litB gb (1 + c.inputs + c.next.length + k)
    all_goals go_wp2_with (go_at_call 103; refine (isLit_c _ _ _ (by omega) (by omega)).mono ?_; rintro e w' ⟨rfl, rfl⟩)
    ·go_ret
     have hvf : validB c = false := validB_false (by intro hv; have := (hv.gs k hlt).1; rw [← HA.out, HF.out, h1] at this; cases this)
     refine ⟨by rw [hvf]; rfl, ?_⟩
     (repeat (first | assumption | (with_reducible refine Ext.drew' ?_) | exact Ext.refl _ | exact Ext.drew _ | exact Ext.drewN _ _ | (refine Ext.alloc ?_ _) | (refine Ext.drewN' ?_ _) | (refine Ext.setNew ?_ (by first | exact Nat.le_refl _ | (simp; done) | (simp; omega) | omega) _)))
    ·go_ret
     have hvf : validB c = false := validB_false (by intro hv; have := (hv.gs k hlt).1; rw [← HA.out, HF.out, h1] at this; cases this)
     refine ⟨by rw [hvf]; rfl, ?_⟩
     (repeat (first | assumption | (with_reducible refine Ext.drew' ?_) | exact Ext.refl _ | exact Ext.drew _ | exact Ext.drewN _ _ | (refine Ext.alloc ?_ _) | (refine Ext.drewN' ?_ _) | (refine Ext.setNew ?_ (by first | exact Nat.le_refl _ | (simp; done) | (simp; omega) | omega) _)))
    ·go_ret
     have hvf : validB c = false := validB_false (by intro hv; have := (hv.gs k hlt).2; rw [← HB.out, HF.out, h2] at this; cases this)
     refine ⟨by rw [hvf]; rfl, ?_⟩
     (repeat (first | assumption | (with_reducible refine Ext.drew' ?_) | exact Ext.refl _ | exact Ext.drew _ | exact Ext.drewN _ _ | (refine Ext.alloc ?_ _) | (refine Ext.drewN' ?_ _) | (refine Ext.setNew ?_ (by first | exact Nat.le_refl _ | (simp; done) | (simp; omega) | omega) _)))
    ·go_roundw
     case rel =>
      refine ⟨k + 1, by omega, by go_num, Lib.hid (fun i hi => ?_), ?_, ?_⟩
      ·rcases Nat.lt_or_ge i k with h | h
       ·exact hpre.out i h
       ·have : i = k := by omega
        subst this
        rw [← HA.out, ← HB.out, HF.out]
        exact ⟨h1, h2⟩
      ·refine hbox.ext ?_
       (repeat (first | assumption | (with_reducible refine Ext.drew' ?_) | exact Ext.refl _ | exact Ext.drew _ | exact Ext.drewN _ _ | (refine Ext.alloc ?_ _) | (refine Ext.drewN' ?_ _) | (refine Ext.setNew ?_ (by first | exact Nat.le_refl _ | (simp; done) | (simp; omega) | omega) _)))
      ·(repeat (first | assumption | (with_reducible refine Ext.drew' ?_) | exact Ext.refl _ | exact Ext.drew _ | exact Ext.drewN _ _ | (refine Ext.alloc ?_ _) | (refine Ext.drewN' ?_ _) | (refine Ext.setNew ?_ (by first | exact Nat.le_refl _ | (simp; done) | (simp; omega) | omega) _)))
     case measure => simp [intOf]; omega
   ·go_wp2_with (go_at_call 104; refine (roots_c _ c ⟨an, cn, ag, cg, ao, co⟩ _ hbox (hc.ext hE)).mono ?_; rintro e w1 ⟨v, xs, rfl, HX, hO, hE1⟩; obtain ⟨ra, rc, rfl, hI, hra⟩ := hO.opened)
    go_loopw [68] (fun i wr => ∃ k : Nat, k ≤ xs.length ∧ i = .int .i64 k ∧ Hid (∀ i, i < k → litB (xs.getD i 0) c.vars = true) ∧ CircBox wr w.heap.size c ⟨an, cn, ag, cg, ao, co⟩ ∧ Ext w wr ∧ IntsAt wr ra xs) (fun i _ => xs.length - (intOf i).toNat)
    case atStart => exact ⟨0, Nat.zero_le _, rfl, Lib.hid (fun i hi => by omega), hbox.ext hE1, hE.trans hE1, hI⟩
    case round =>
     obtain ⟨k2, hk2, rfl, hpre2, hbox2, hE2, hI2⟩ := hrel
     have hlen : xs.length ≤ 6 := by rw [HX.out]; simp; omega
     have hv : 1 ≤ c.vars ∧ c.vars ≤ 100 := by unfold Circ.vars; rw [HF.out]; omega
     by_cases hlt2 : k2 < xs.length
     ·obtain ⟨b, o, rfl, hb, hg1⟩ := hI2.get (by omega)
      have q1 := hg1 k2 hlt2
      obtain ⟨gl, hgl⟩ : ∃ x, x = xs.getD k2 0 := ⟨_, rfl⟩
      rw [← hgl] at q1
      have HL := Lib.hid hgl
      clear hg1 hgl
      cases h1 : litB gl c.vars
      all_goals go_wp2_with (first | (go_at_call 103; refine (isLit_c _ _ _ (by omega) (by omega)).mono ?_; rintro e w' ⟨rfl, rfl⟩) | (go_at_call 102; refine (vars_c _ c ⟨an, cn, ag, cg, ao, co⟩ _ hbox2 i0 (by omega) (by omega) (by omega)).mono ?_; rintro e w' ⟨rfl, nv, rfl⟩))
      ·go_ret
       have hvf : validB c = false := validB_false (by intro hv; have := hv.rs k2 (by rw [← HX.out]; exact hlt2); rw [← HX.out, ← HL.out, h1] at this; cases this)
       refine ⟨by rw [hvf]; rfl, ?_⟩
       (repeat (first | assumption | (with_reducible refine Ext.drew' ?_) | exact Ext.refl _ | exact Ext.drew _ | exact Ext.drewN _ _ | (refine Ext.alloc ?_ _) | (refine Ext.drewN' ?_ _) | (refine Ext.setNew ?_ (by first | exact Nat.le_refl _ | (simp; done) | (simp; omega) | omega) _)))
      ·go_roundw
       case rel =>
        refine ⟨k2 + 1, by omega, by go_num, Lib.hid (fun i hi => ?_), ?_, ?_, ?_⟩
        ·rcases Nat.lt_or_ge i k2 with h | h
         ·exact hpre2.out i h
         ·have : i = k2 := by omega
          subst this
          rw [← HL.out]
          exact h1
        ·refine hbox2.ext ?_
         (repeat (first | assumption | (with_reducible refine Ext.drew' ?_) | exact Ext.refl _ | exact Ext.drew _ | exact Ext.drewN _ _ | (refine Ext.alloc ?_ _) | (refine Ext.drewN' ?_ _) | (refine Ext.setNew ?_ (by first | exact Nat.le_refl _ | (simp; done) | (simp; omega) | omega) _)))
        ·(repeat (first | assumption | (with_reducible refine Ext.drew' ?_) | exact Ext.refl _ | exact Ext.drew _ | exact Ext.drewN _ _ | (refine Ext.alloc ?_ _) | (refine Ext.drewN' ?_ _) | (refine Ext.setNew ?_ (by first | exact Nat.le_refl _ | (simp; done) | (simp; omega) | omega) _)))
        ·refine hI2.ext ?_
         (repeat (first | assumption | (with_reducible refine Ext.drew' ?_) | exact Ext.refl _ | exact Ext.drew _ | exact Ext.drewN _ _ | (refine Ext.alloc ?_ _) | (refine Ext.drewN' ?_ _) | (refine Ext.setNew ?_ (by first | exact Nat.le_refl _ | (simp; done) | (simp; omega) | omega) _)))
       case measure => simp [intOf]; omega
     ·go_wp2
      go_ret
      have hvt : validB c = true := validB_true ⟨i0, i4, n3, g14, o3, fun i hi => hpre.out i (by omega), by rw [← HX.out]; exact fun i hi => hpre2.out i (by omega)⟩
      refine ⟨by rw [hvt]; rfl, ?_⟩
      (repeat (first | assumption | (with_reducible refine Ext.drew' ?_) | exact Ext.refl _ | exact Ext.drew _ | exact Ext.drewN _ _ | (refine Ext.alloc ?_ _) | (refine Ext.drewN' ?_ _) | (refine Ext.setNew ?_ (by first | exact Nat.le_refl _ | (simp; done) | (simp; omega) | omega) _)))
 ·have hvf : validB c = false := validB_false (fun hv => b1 ⟨hv.i0, hv.i4, hv.ln, hv.lg, hv.lo⟩)
  have HV := Lib.hid hvf
  clear hvf made
  by_cases i0 : 0 ≤ c.inputs
  ·by_cases i4 : c.inputs ≤ 4
   ·by_cases n3 : c.next.length ≤ 3
    ·by_cases g14 : c.gates.length ≤ 14
     ·have o3 : ¬ c.outs.length ≤ 3 := fun h => b1 ⟨i0, i4, n3, g14, h⟩
      clear b1
      go_enter Try.func60, Try.ntmps60
      go_wp2
      go_ret
      refine ⟨by rw [HV.out]; rfl, ?_⟩
      (repeat (first | assumption | (with_reducible refine Ext.drew' ?_) | exact Ext.refl _ | exact Ext.drew _ | exact Ext.drewN _ _ | (refine Ext.alloc ?_ _) | (refine Ext.drewN' ?_ _) | (refine Ext.setNew ?_ (by first | exact Nat.le_refl _ | (simp; done) | (simp; omega) | omega) _)))
     ·clear b1
      go_enter Try.func60, Try.ntmps60
      go_wp2
      go_ret
      refine ⟨by rw [HV.out]; rfl, ?_⟩
      (repeat (first | assumption | (with_reducible refine Ext.drew' ?_) | exact Ext.refl _ | exact Ext.drew _ | exact Ext.drewN _ _ | (refine Ext.alloc ?_ _) | (refine Ext.drewN' ?_ _) | (refine Ext.setNew ?_ (by first | exact Nat.le_refl _ | (simp; done) | (simp; omega) | omega) _)))
    ·clear b1
     go_enter Try.func60, Try.ntmps60
     go_wp2
     go_ret
     refine ⟨by rw [HV.out]; rfl, ?_⟩
     (repeat (first | assumption | (with_reducible refine Ext.drew' ?_) | exact Ext.refl _ | exact Ext.drew _ | exact Ext.drewN _ _ | (refine Ext.alloc ?_ _) | (refine Ext.drewN' ?_ _) | (refine Ext.setNew ?_ (by first | exact Nat.le_refl _ | (simp; done) | (simp; omega) | omega) _)))
   ·clear b1
    go_enter Try.func60, Try.ntmps60
    go_wp2
    go_ret
    refine ⟨by rw [HV.out]; rfl, ?_⟩
    (repeat (first | assumption | (with_reducible refine Ext.drew' ?_) | exact Ext.refl _ | exact Ext.drew _ | exact Ext.drewN _ _ | (refine Ext.alloc ?_ _) | (refine Ext.drewN' ?_ _) | (refine Ext.setNew ?_ (by first | exact Nat.le_refl _ | (simp; done) | (simp; omega) | omega) _)))
  ·clear b1
   go_enter Try.func60, Try.ntmps60
   go_wp2
   go_ret
   refine ⟨by rw [HV.out]; rfl, ?_⟩
   (repeat (first | assumption | (with_reducible refine Ext.drew' ?_) | exact Ext.refl _ | exact Ext.drew _ | exact Ext.drewN _ _ | (refine Ext.alloc ?_ _) | (refine Ext.drewN' ?_ _) | (refine Ext.setNew ?_ (by first | exact Nat.le_refl _ | (simp; done) | (simp; omega) | omega) _)))
end Go.Proofs.Ytgialedmbmfejaa
