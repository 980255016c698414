/- Contracts: bits of numbers; comparisons of slices of truth values. -/
import Derived.Test.YtgialedmbmfejaaLits
namespace Go.Proofs.Ytgialedmbmfejaa
open Go.RowKit
set_option maxRecDepth 100000
set_option linter.unusedVariables false
set_option linter.unusedSimpArgs false
def BitsRel (w : World) (x : Nat) (n : Nat) (u5 u6 : Value) (wr : World) : Prop :=
  ∃ k : Nat, k ≤ n ∧ u6 = .int .i64 k ∧ OwnB wr w.heap.size u5 (bitsN x k) ∧ Ext w wr
theorem sameBools_c (a b : Option Addr) (c d n m : Nat) (xs ys : List Bool) (hn : xs.length = n) (hm : ys.length = m) (w : World) (hx : BoolsAt w a xs) (hy : BoolsAt w b ys) (hl : n ≤ 1048576) (hl2 : m ≤ 1048576) :
    Calls Try.prog 48 #[.slice a n c, .slice b m d] w fun e w' => e = .returned (.bool (xs == ys)) ∧ Ext w w' := by
  by_cases hnm : n = m
  · subst hnm
    have HN := Lib.hid hn
    have HM := Lib.hid hm
    have hn1 : xs.length ≤ n ∧ n ≤ xs.length := by omega
    have hm1 : ys.length ≤ n ∧ n ≤ ys.length := by omega
    obtain ⟨n1, n2⟩ := hn1
    obtain ⟨m1, m2⟩ := hm1
    clear hn hm
    go_enter Try.func48, Try.ntmps48
    go_wp2_with fail
    go_loopw [5] (fun i wr => ∃ k : Nat, k ≤ n ∧ i = .int .i64 k ∧ Hid (∀ j, j < k → xs.getD j false = ys.getD j false) ∧ Ext w wr) (fun i _ => n - (intOf i).toNat)
    case atStart => exact ⟨0, Nat.zero_le _, rfl, Lib.hid (fun j hj => by omega), Ext.refl w⟩
    case round =>
      obtain ⟨k, hk, rfl, hpre, hE⟩ := hrel
      by_cases hlt : k < n
      · obtain ⟨b1, o1, rfl, hb1, hc1⟩ := (hx.ext hE).get (by omega)
        obtain ⟨b2, o2, rfl, hb2, hc2⟩ := (hy.ext hE).get (by omega)
        have q1 := hc1 k (by omega)
        have q2 := hc2 k (by omega)
        obtain ⟨x, hxx⟩ : ∃ x, x = xs.getD k false := ⟨_, rfl⟩
        obtain ⟨y, hyy⟩ : ∃ x, x = ys.getD k false := ⟨_, rfl⟩
        rw [← hxx] at q1
        rw [← hyy] at q2
        have HX := Lib.hid hxx
        have HY := Lib.hid hyy
        clear hc1 hc2 hxx hyy
        cases x <;> cases y
        all_goals
          go_wp2
          go_quiet (fail)
          go_wp2
          first
          | (go_ret
             have hf : (xs == ys) = false := beq_no_at k (by rw [← HX.out, ← HY.out]; simp)
             exact ⟨by rw [hf]; rfl, by (repeat (first | assumption | (with_reducible refine Ext.drew' ?_) | exact Ext.refl _ | exact Ext.drew _ | exact Ext.drewN _ _ | (refine Ext.alloc ?_ _) | (refine Ext.drewN' ?_ _) | (refine Ext.setNew ?_ (by first | exact Nat.le_refl _ | (simp; done) | (simp; omega) | omega) _)))⟩)
          | (go_roundw
             case rel =>
               refine ⟨k + 1, by omega, by go_num, Lib.hid (fun j hj => ?_), by (repeat (first | assumption | (with_reducible refine Ext.drew' ?_) | exact Ext.refl _ | exact Ext.drew _ | exact Ext.drewN _ _ | (refine Ext.alloc ?_ _) | (refine Ext.drewN' ?_ _) | (refine Ext.setNew ?_ (by first | exact Nat.le_refl _ | (simp; done) | (simp; omega) | omega) _)))⟩
               rcases Nat.lt_or_ge j k with h | h
               · exact hpre.out j h
               · have : j = k := by omega
                 subst this
                 rw [← HX.out, ← HY.out]
             case measure => simp [intOf]; omega)
      · go_wp2
        go_ret
        have ht : (xs == ys) = true := beq_of_getD (by rw [HN.out, HM.out]) (fun j hj => hpre.out j (by omega))
        exact ⟨by rw [ht]; rfl, hE⟩
  · have hf : (xs == ys) = false := beq_no_len (by omega)
    have HF := Lib.hid hf
    have hnm2 : ((n : Int) != (m : Int)) = true := by simp; omega
    clear hf hn hm
    go_enter Try.func48, Try.ntmps48
    go_wp2
    go_ret
    exact ⟨by rw [HF.out]; rfl, Ext.refl w⟩
end Go.Proofs.Ytgialedmbmfejaa
