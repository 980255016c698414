/- How the exact laws mark rows of numbers that the call owns, and look at the marks. -/
import Derived.Test.YtgialedmbmfejaaExInt
namespace Go.Proofs.Ytgialedmbmfejaa
open Go.RowKit
set_option maxRecDepth 100000
set_option linter.unusedVariables false
set_option linter.unusedSimpArgs false
theorem mksI_get (k : Int) (n j : Nat) (h : j < n) : (mksI k n).getD j 0 = mkI k j := by simp [mksI, List.getD_eq_getElem?_getD, h]
theorem mksI_length (k : Int) (n : Nat) : (mksI k n).length = n := by simp [mksI]
theorem map_setI {xs : List Int} {i : Nat} {x : Int} : (xs.set i x).map (Value.int .i64) = (xs.map (Value.int .i64)).set i (.int .i64 x) := by rw [List.map_set]
theorem markIntS_o (base : Nat) (a : Option Addr) (c : Nat) (xs : List Int) (k : Int) (w : World) (ho : w.ownsRow base 3 1 (.slice a xs.length c) xs.length (xs.map (Value.int .i64))) (h0 : 0 ≤ k) (h1 : k ≤ 1000000000) (hl : xs.length ≤ 1048576) :
  Calls Try.prog 26 #[.slice a xs.length c, .int .i64 k] w fun e w' => e = .returned (.int .i64 (k + xs.length)) ∧ w'.ownsRow base 3 1 (.slice a xs.length c) xs.length ((mksI k xs.length).map (Value.int .i64)) ∧ w.grownBy w' (Value.slice a xs.length c).ownBlock := by
 go_enter Try.func26, Try.ntmps26
 go_wp2_with fail
 go_loopw [1, 5] (fun u1 u5 wr => ∃ j : Nat, j ≤ xs.length ∧ u5 = .int .i64 j ∧ u1 = .int .i64 (k + j) ∧ wr.ownsRow base 3 1 (.slice a xs.length c) xs.length ((over (mkI k) xs j).map (Value.int .i64)) ∧ w.grownBy wr (Value.slice a xs.length c).ownBlock) (fun _ i _ => xs.length - (intOf i).toNat)
 case atStart => exact ⟨0, Nat.zero_le _, rfl, by simp, by rw [over_zero]; exact ho, Gr.refl _ _⟩
 case round =>
  obtain ⟨j, hj, rfl, rfl, hO, hG⟩ := hrel
  by_cases hlt : j < xs.length
  ·obtain ⟨g, rfl, hbg, hg⟩ := ownsRow_block hO (by omega)
   have hs := over_set (mkI k) xs j hlt
   have hlen := over_length (mkI k) xs j hj
   obtain ⟨u, q⟩ : ∃ u, wr.cell? ⟨g, j, none⟩ = some u := ⟨_, ownsRow_cell hO (List.getElem?_eq_getElem (by rw [List.length_map]; omega))⟩
   have fz := ownsRow_frozen hO j
   have HO := ownsRow_setAt hO j (by rw [List.length_map]; omega) (.int .i64 (k + j))
   have HS : Hid (((over (mkI k) xs j).map (Value.int .i64)).set j (.int .i64 (k + j)) = (over (mkI k) xs (j + 1)).map (Value.int .i64)) := Lib.hid (by rw [← hs, map_setI]; rfl)
   clear hs hlen
   go_wp2
   go_roundw
   case rel =>
    refine ⟨j + 1, by omega, by go_num, by go_num, ?_, ?_⟩
    ·rw [← HS.out]
     exact HO
    ·exact gr_setOwn hG _ _
   case measure => simp [intOf]; omega
  ·obtain rfl : j = xs.length := by omega
   rw [over_all] at hO
   go_wp2
   go_ret
   exact ⟨rfl, hO, hG⟩
theorem heldIntS_c (a : Option Addr) (c n : Nat) (k : Int) (w : World) (hx : IntsAt w a (mksI k n)) (h0 : 0 ≤ k) (h1 : k ≤ 1000000000) (hl : n ≤ 1048576) :
  Calls Try.prog 27 #[.slice a n c, .int .i64 k] w fun e w' => e = .returned (.int .i64 (k + n)) ∧ w = w' := by
 go_enter Try.func27, Try.ntmps27
 go_wp2_with fail
 go_loop [1, 5] (fun u1 i => ∃ j : Nat, j ≤ n ∧ i = .int .i64 j ∧ u1 = .int .i64 (k + j)) (fun _ i => n - (intOf i).toNat)
 case atStart => exact ⟨0, Nat.zero_le _, rfl, by simp⟩
 case round =>
  obtain ⟨j, hj, rfl, rfl⟩ := hrel
  by_cases hlt : j < n
  ·obtain ⟨b1, o1, rfl, hb1, hc1⟩ := hx.get (by rw [mksI_length]; omega)
   have q1 := hc1 j (by rw [mksI_length]; omega)
   rw [mksI_get _ _ _ hlt] at q1
   unfold mkI at q1
   clear hc1
   go_wp2
   go_round
   case rel => exact ⟨j + 1, by omega, by go_num, by go_num⟩
   case measure => simp [intOf]; omega
  ·obtain rfl : j = n := by omega
   go_wp2
   go_ret
   exact ⟨rfl, rfl⟩
end Go.Proofs.Ytgialedmbmfejaa
