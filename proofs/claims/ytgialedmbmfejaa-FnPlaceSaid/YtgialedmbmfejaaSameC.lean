/- Contracts: the laws' comparison of circuits. -/
import Derived.Test.YtgialedmbmfejaaOwn
import Derived.Test.YtgialedmbmfejaaBits
namespace Go.Proofs.Ytgialedmbmfejaa
open Go.RowKit
set_option maxRecDepth 100000
set_option linter.unusedVariables false
set_option linter.unusedSimpArgs false
theorem sameInts_c (a b : Option Addr) (c d : Nat) (xs : List Int) (w : World) (hx : IntsAt w a xs) (hy : IntsAt w b xs) (hl : xs.length ≤ 1048576) :
    Calls Try.prog 15 #[.slice a xs.length c, .slice b xs.length d] w fun e w' => e = .returned (.bool true) ∧ Ext w w' := by
  go_enter Try.func15, Try.ntmps15
  go_wp2_with fail
  go_loopw [5] (fun i wr => ∃ k : Nat, k ≤ xs.length ∧ i = .int .i64 k ∧ Ext w wr) (fun i _ => xs.length - (intOf i).toNat)
  case atStart => exact ⟨0, Nat.zero_le _, rfl, Ext.refl w⟩
  case round =>
    obtain ⟨k, hk, rfl, hE⟩ := hrel
    by_cases hlt : k < xs.length
    · obtain ⟨b1, o1, rfl, hb1, hc1⟩ := (hx.ext hE).get (by omega)
      obtain ⟨b2, o2, rfl, hb2, hc2⟩ := (hy.ext hE).get (by omega)
      have q1 := hc1 k hlt
      have q2 := hc2 k hlt
      obtain ⟨x, hxx⟩ : ∃ x, x = xs.getD k 0 := ⟨_, rfl⟩
      rw [← hxx] at q1 q2
      clear hc1 hc2 hxx
      go_wp2
      go_quiet (fail)
      go_wp2
      go_roundw
      case rel => exact ⟨k + 1, by omega, by go_num, by (repeat (first | assumption | (with_reducible refine Ext.drew' ?_) | exact Ext.refl _ | exact Ext.drew _ | exact Ext.drewN _ _ | (refine Ext.alloc ?_ _) | (refine Ext.drewN' ?_ _) | (refine Ext.setNew ?_ (by first | exact Nat.le_refl _ | (simp; done) | (simp; omega) | omega) _)))⟩
      case measure => simp [intOf]; omega
    · go_wp2
      go_ret
      exact ⟨rfl, hE⟩
end Go.Proofs.Ytgialedmbmfejaa
