/- Contracts of the exact laws' helpers on slices of truth values: compare, mark, look at the marks. -/
import Derived.Test.YtkdiniaddnhkdaaOwn
namespace Go.Proofs.Ytkdiniaddnhkdaa
open Go.RowKit
set_option maxRecDepth 100000
set_option linter.unusedVariables false
set_option linter.unusedSimpArgs false
theorem eqBoolS_c (a b : Option Addr) (c d : Nat) (xs : List Bool) (w : World) (hx : BoolsAt w a xs) (hy : BoolsAt w b xs) (hl : xs.length ≤ 1048576) :
    Calls Try.prog 46 #[.slice a xs.length c, .slice b xs.length d] w fun e w' => e = .returned (.bool true) ∧ Ext w w' := by
  go_enter Try.func46, Try.ntmps46
  go_wp2_with fail
  go_loopw [5] (fun i wr => ∃ k : Nat, k ≤ xs.length ∧ i = .int .i64 k ∧ Ext w wr) (fun i _ => xs.length - (intOf i).toNat)
  case atStart => exact ⟨0, Nat.zero_le _, rfl, Ext.refl w⟩
  case round =>
    obtain ⟨k, hk, rfl, hE⟩ := hrel
    by_cases hlt : k < xs.length
    · obtain ⟨b1, o1, rfl, hb1, hc1⟩ := (hx.ext hE).get (by omega)
      obtain ⟨b2, o2, rfl, hb2, hc2⟩ := (hy.ext hE).get (by omega)
      have q1 := hc1 k hlt
      have q2 := hc2 k hlt
      obtain ⟨x, hxx⟩ : ∃ x, x = xs.getD k false := ⟨_, rfl⟩
      rw [← hxx] at q1 q2
      clear hc1 hc2 hxx
      go_wp2
      go_quiet (fail)
      go_wp2
      go_roundw
      case rel => exact ⟨k + 1, by omega, by go_num, by (repeat (first | assumption | (with_reducible refine Ext.drew' ?_) | exact Ext.refl _ | exact Ext.drew _ | exact Ext.drewN _ _ | (refine Ext.alloc ?_ _) | (refine Ext.drewN' ?_ _) | (refine Ext.setNew ?_ (by first | exact Nat.le_refl _ | (simp; done) | (simp; omega) | omega) _)))⟩
      case measure => simp [intOf]; omega
    · go_wp2
      go_ret
      exact ⟨rfl, hE⟩
def MarkBRel (w : World) (base : Nat) (a : Option Addr) (c : Nat) (xs : List Bool) (k : Int) (u1 u5 : Value) (wr : World) : Prop :=
  ∃ j : Nat, j ≤ xs.length ∧ u5 = .int .i64 j ∧ u1 = .int .i64 (k + j) ∧ wr.ownsRow base 4 1 (.slice a xs.length c) xs.length ((over (mkB k) xs j).map Value.bool) ∧ w.grownBy wr (Value.slice a xs.length c).ownBlock
theorem markBoolS_c (base : Nat) (a : Option Addr) (c : Nat) (xs : List Bool) (k : Int) (w : World) (ho : w.ownsRow base 4 1 (.slice a xs.length c) xs.length (xs.map Value.bool)) (h0 : 0 ≤ k) (h1 : k ≤ 1000000000) (hl : xs.length ≤ 1048576) :
    Calls Try.prog 48 #[.slice a xs.length c, .int .i64 k] w fun e w' => e = .returned (.int .i64 (k + xs.length)) ∧ w'.ownsRow base 4 1 (.slice a xs.length c) xs.length ((mksB k xs.length).map Value.bool) ∧ w.grownBy w' (Value.slice a xs.length c).ownBlock := by
  go_enter Try.func48, Try.ntmps48
  go_wp2_with fail
  go_loopw [1, 5] (MarkBRel w base a c xs k) (fun _ i _ => xs.length - (intOf i).toNat)
  case atStart => exact ⟨0, Nat.zero_le _, rfl, by simp, by rw [over_zero]; exact ho, Gr.refl _ _⟩
  case round =>
    obtain ⟨j, hj, rfl, rfl, hO, hG⟩ := hrel
    by_cases hlt : j < xs.length
    · obtain ⟨g, rfl, hbg, hg⟩ := ownsRow_block hO (by omega)
      have hs := over_set (mkB k) xs j hlt
      have hlen := over_length (mkB k) xs j hj
      obtain ⟨u, q⟩ : ∃ u, wr.cell? ⟨g, j, none⟩ = some u := ⟨_, ownsRow_cell hO (List.getElem?_eq_getElem (by rw [List.length_map]; omega))⟩
      have fz := ownsRow_frozen hO j
      have HO := ownsRow_setAt hO j (by rw [List.length_map]; omega) (.bool (mkB k j))
      have em : (k + (j : Int)).tmod 3 = (k + (j : Int)) % 3 := Int.tmod_eq_emod_of_nonneg (by omega)
      have HS : Hid (((over (mkB k) xs j).map Value.bool).set j (.bool (mkB k j)) = (over (mkB k) xs (j + 1)).map Value.bool) := Lib.hid (by rw [← map_set, hs])
      clear hs hlen em
      go_wp2
      go_roundw
      case rel =>
        refine ⟨j + 1, by omega, by go_num, by go_num, ?_, ?_⟩
        · rw [← HS.out]
          exact HO
        · exact gr_setOwn hG _ _
      case measure => simp [intOf]; omega
    · obtain rfl : j = xs.length := by omega
      rw [over_all] at hO
      go_wp2
      go_ret
      exact ⟨rfl, hO, hG⟩
theorem mksB_get (k : Int) (n j : Nat) (h : j < n) : (mksB k n).getD j false = mkB k j := by
  simp [mksB, List.getD_eq_getElem?_getD, h]
theorem mksB_length (k : Int) (n : Nat) : (mksB k n).length = n := by simp [mksB]
theorem heldBoolS_c (a : Option Addr) (c n : Nat) (k : Int) (w : World) (hx : BoolsAt w a (mksB k n)) (h0 : 0 ≤ k) (h1 : k ≤ 1000000000) (hl : n ≤ 1048576) :
    Calls Try.prog 101 #[.slice a n c, .int .i64 k] w fun e w' => e = .returned (.int .i64 (k + n)) ∧ w = w' := by
  go_enter Try.func101, Try.ntmps101
  go_wp2_with fail
  go_loop [1, 5] (fun u1 i => ∃ j : Nat, j ≤ n ∧ i = .int .i64 j ∧ u1 = .int .i64 (k + j)) (fun _ i => n - (intOf i).toNat)
  case atStart => exact ⟨0, Nat.zero_le _, rfl, by simp⟩
  case round =>
    obtain ⟨j, hj, rfl, rfl⟩ := hrel
    by_cases hlt : j < n
    · obtain ⟨b1, o1, rfl, hb1, hc1⟩ := hx.get (by rw [mksB_length]; omega)
      have q1 := hc1 j (by rw [mksB_length]; omega)
      rw [mksB_get _ _ _ hlt] at q1
      have em : (k + (j : Int)).tmod 3 = (k + (j : Int)) % 3 := Int.tmod_eq_emod_of_nonneg (by omega)
      unfold mkB at q1
      clear hc1 em
      go_wp2
      go_round
      case rel => exact ⟨j + 1, by omega, by go_num, by go_num⟩
      case measure => simp [intOf]; omega
    · obtain rfl : j = n := by omega
      go_wp2
      go_ret
      exact ⟨rfl, rfl⟩
end Go.Proofs.Ytkdiniaddnhkdaa
