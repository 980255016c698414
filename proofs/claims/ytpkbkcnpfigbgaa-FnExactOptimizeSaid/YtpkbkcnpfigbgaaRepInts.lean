/- How the exact laws mark rows of numbers and of gates that a call has given back. -/
import Derived.Test.YtpkbkcnpfigbgaaRep
namespace Go.Proofs.Ytpkbkcnpfigbgaa
open Go.RowKit
set_option maxRecDepth 100000
set_option linter.unusedVariables false
set_option linter.unusedSimpArgs false
theorem mksI_get (k : Int) (n j : Nat) (h : j < n) : (mksI k n).getD j 0 = mkI k j := by simp [mksI, List.getD_eq_getElem?_getD, h]
theorem mksI_length (k : Int) (n : Nat) : (mksI k n).length = n := by simp [mksI]
theorem map_setI {xs : List Int} {i : Nat} {x : Int} : (xs.set i x).map (Value.int .i64) = (xs.map (Value.int .i64)).set i (.int .i64 x) := by rw [List.map_set]
theorem markIntS_o (base : Nat) (a : Option Addr) (c : Nat) (xs : List Int) (k : Int) (w : World) (ho : w.ownsRow base 3 1 (.slice a xs.length c) xs.length (xs.map (Value.int .i64))) (h0 : 0 ≤ k) (h1 : k ≤ 1000000000) (hl : xs.length ≤ 1048576) :
    Calls Try.prog 94 #[.slice a xs.length c, .int .i64 k] w fun e w' => e = .returned (.int .i64 (k + xs.length)) ∧ w'.ownsRow base 3 1 (.slice a xs.length c) xs.length ((mksI k xs.length).map (Value.int .i64)) ∧ w.grownBy w' (Value.slice a xs.length c).ownBlock := by
  go_enter Try.func94, Try.ntmps94
  go_wp2_with fail
  go_loopw [1, 5] (fun u1 u5 wr => ∃ j : Nat, j ≤ xs.length ∧ u5 = .int .i64 j ∧ u1 = .int .i64 (k + j) ∧ wr.ownsRow base 3 1 (.slice a xs.length c) xs.length ((over (mkI k) xs j).map (Value.int .i64)) ∧ w.grownBy wr (Value.slice a xs.length c).ownBlock) (fun _ i _ => xs.length - (intOf i).toNat)
  case atStart => exact ⟨0, Nat.zero_le _, rfl, by simp, by rw [over_zero]; exact ho, Gr.refl _ _⟩
  case round =>
    obtain ⟨j, hj, rfl, rfl, hO, hG⟩ := hrel
    by_cases hlt : j < xs.length
    · obtain ⟨g, rfl, hbg, hg⟩ := ownsRow_block hO (by omega)
      have hs := over_set (mkI k) xs j hlt
      have hlen := over_length (mkI k) xs j hj
      obtain ⟨u, q⟩ : ∃ u, wr.cell? ⟨g, j, none⟩ = some u := ⟨_, ownsRow_cell hO (List.getElem?_eq_getElem (by rw [List.length_map]; omega))⟩
      have fz := ownsRow_frozen hO j
      have HO := ownsRow_setAt hO j (by rw [List.length_map]; omega) (.int .i64 (k + j))
      have HS : Hid (((over (mkI k) xs j).map (Value.int .i64)).set j (.int .i64 (k + j)) = (over (mkI k) xs (j + 1)).map (Value.int .i64)) := Lib.hid (by rw [← hs, map_setI]; rfl)
      clear hs hlen
      go_wp2
      go_roundw
      case rel =>
        refine ⟨j + 1, by omega, by go_num, by go_num, ?_, ?_⟩
        · rw [← HS.out]
          exact HO
        · exact gr_setOwn hG _ _
      case measure => simp [intOf]; omega
    · obtain rfl : j = xs.length := by omega
      rw [over_all] at hO
      go_wp2
      go_ret
      exact ⟨rfl, hO, hG⟩
theorem heldIntS_c (a : Option Addr) (c n : Nat) (k : Int) (w : World) (hx : IntsAt w a (mksI k n)) (h0 : 0 ≤ k) (h1 : k ≤ 1000000000) (hl : n ≤ 1048576) :
    Calls Try.prog 105 #[.slice a n c, .int .i64 k] w fun e w' => e = .returned (.int .i64 (k + n)) ∧ w = w' := by
  go_enter Try.func105, Try.ntmps105
  go_wp2_with fail
  go_loop [1, 5] (fun u1 i => ∃ j : Nat, j ≤ n ∧ i = .int .i64 j ∧ u1 = .int .i64 (k + j)) (fun _ i => n - (intOf i).toNat)
  case atStart => exact ⟨0, Nat.zero_le _, rfl, by simp⟩
  case round =>
    obtain ⟨j, hj, rfl, rfl⟩ := hrel
    by_cases hlt : j < n
    · obtain ⟨b1, o1, rfl, hb1, hc1⟩ := hx.get (by rw [mksI_length]; omega)
      have q1 := hc1 j (by rw [mksI_length]; omega)
      rw [mksI_get _ _ _ hlt] at q1
      unfold mkI at q1
      clear hc1
      go_wp2
      go_round
      case rel => exact ⟨j + 1, by omega, by go_num, by go_num⟩
      case measure => simp [intOf]; omega
    · obtain rfl : j = n := by omega
      go_wp2
      go_ret
      exact ⟨rfl, rfl⟩
def mkG (k : Int) (i : Nat) : Int × Int := (k + i * 2, k + i * 2 + 1)
def mksG (k : Int) (n : Nat) : List (Int × Int) := (List.range n).map (mkG k)
theorem mksG_get (k : Int) (n j : Nat) (h : j < n) : (mksG k n).getD j (0, 0) = mkG k j := by simp [mksG, List.getD_eq_getElem?_getD, h]
theorem mksG_length (k : Int) (n : Nat) : (mksG k n).length = n := by simp [mksG]
theorem flat_setG (xs : List (Int × Int)) (j : Nat) (x : Int × Int) : ((flat xs).set (j * 2) (.int .i64 x.1)).set (j * 2 + 1) (.int .i64 x.2) = flat (xs.set j x) := by
  induction xs generalizing j with
  | nil => simp [flat]
  | cons y ys ih =>
    have e : ∀ (z : Int × Int) (zs : List (Int × Int)), flat (z :: zs) = .int .i64 z.1 :: .int .i64 z.2 :: flat zs := fun _ _ => rfl
    cases j with
    | zero => rw [e]; simp [e]
    | succ j =>
      have h1 : (j + 1) * 2 = j * 2 + 1 + 1 := by omega
      rw [List.set_cons_succ, e, e, h1, List.set_cons_succ, List.set_cons_succ, List.set_cons_succ, List.set_cons_succ, ih]
theorem markGateS_o (base : Nat) (a : Option Addr) (c : Nat) (xs : List (Int × Int)) (k : Int) (w : World) (ho : w.ownsRow base 133 2 (.slice a xs.length c) xs.length (flat xs)) (h0 : 0 ≤ k) (h1 : k ≤ 1000000000) (hl : xs.length ≤ 1048576) :
    Calls Try.prog 95 #[.slice a xs.length c, .int .i64 k] w fun e w' => e = .returned (.int .i64 (k + xs.length * 2)) ∧ w'.ownsRow base 133 2 (.slice a xs.length c) xs.length (flat (mksG k xs.length)) ∧ w.grownBy w' (Value.slice a xs.length c).ownBlock := by
  go_enter Try.func95, Try.ntmps95
  go_wp2_with fail
  go_loopw [1, 5] (fun u1 u5 wr => ∃ j : Nat, j ≤ xs.length ∧ u5 = .int .i64 j ∧ u1 = .int .i64 (k + j * 2) ∧ wr.ownsRow base 133 2 (.slice a xs.length c) xs.length (flat (over (mkG k) xs j)) ∧ w.grownBy wr (Value.slice a xs.length c).ownBlock) (fun _ i _ => xs.length - (intOf i).toNat)
  case atStart => exact ⟨0, Nat.zero_le _, rfl, by simp, by rw [over_zero]; exact ho, Gr.refl _ _⟩
  case round =>
    obtain ⟨j, hj, rfl, rfl, hO, hG⟩ := hrel
    by_cases hlt : j < xs.length
    · obtain ⟨g, rfl, hbg, hg⟩ := ownsRow_block hO (by omega)
      have hs := over_set (mkG k) xs j hlt
      have hlen := over_length (mkG k) xs j hj
      have hfl := flat_length (over (mkG k) xs j)
      obtain ⟨u, q⟩ : ∃ u, wr.cell? ⟨g, j * 2, none⟩ = some u := ⟨_, ownsRow_cell hO (List.getElem?_eq_getElem (by omega))⟩
      obtain ⟨u2, q2⟩ : ∃ u, wr.cell? ⟨g, j * 2 + 1, none⟩ = some u := ⟨_, ownsRow_cell hO (List.getElem?_eq_getElem (by omega))⟩
      have fz := fun i => ownsRow_frozen hO i
      have HO := ownsRow_setAt (ownsRow_setAt hO (j * 2) (by omega) (.int .i64 (k + j * 2))) (j * 2 + 1) (by rw [List.length_set]; omega) (.int .i64 (k + j * 2 + 1))
      have HS : Hid (((flat (over (mkG k) xs j)).set (j * 2) (.int .i64 (k + j * 2))).set (j * 2 + 1) (.int .i64 (k + j * 2 + 1)) = flat (over (mkG k) xs (j + 1))) := Lib.hid (by
        rw [← hs]; exact flat_setG (over (mkG k) xs j) j (mkG k j))
      clear hs hlen hfl
      go_wp2
      go_roundw
      case rel =>
        refine ⟨j + 1, by omega, by go_num, by go_num, ?_, ?_⟩
        · rw [← HS.out]
          exact HO
        · exact gr_setOwn (gr_setOwn hG _ _) _ _
      case measure => simp [intOf]; omega
    · obtain rfl : j = xs.length := by omega
      rw [over_all] at hO
      go_wp2
      go_ret
      exact ⟨rfl, hO, hG⟩
theorem heldGateS_c (a : Option Addr) (c n : Nat) (k : Int) (w : World) (hx : PairsAt w a (mksG k n)) (h0 : 0 ≤ k) (h1 : k ≤ 1000000000) (hl : n ≤ 1048576) :
    Calls Try.prog 106 #[.slice a n c, .int .i64 k] w fun e w' => e = .returned (.int .i64 (k + n * 2)) ∧ w = w' := by
  go_enter Try.func106, Try.ntmps106
  go_wp2_with fail
  go_loop [1, 5] (fun u1 i => ∃ j : Nat, j ≤ n ∧ i = .int .i64 j ∧ u1 = .int .i64 (k + j * 2)) (fun _ i => n - (intOf i).toNat)
  case atStart => exact ⟨0, Nat.zero_le _, rfl, by simp⟩
  case round =>
    obtain ⟨j, hj, rfl, rfl⟩ := hrel
    by_cases hlt : j < n
    · obtain ⟨b1, o1, rfl, hb1, hc1, hc2⟩ := hx.get (by rw [mksG_length]; omega)
      have q1 := hc1 j (by rw [mksG_length]; omega)
      have q2 := hc2 j (by rw [mksG_length]; omega)
      rw [mksG_get _ _ _ hlt] at q1 q2
      unfold mkG at q1 q2
      dsimp only at q1 q2
      clear hc1 hc2
      go_wp2
      go_round
      case rel => exact ⟨j + 1, by omega, by go_num, by go_num⟩
      case measure => simp [intOf]; omega
    · obtain rfl : j = n := by omega
      go_wp2
      go_ret
      exact ⟨rfl, rfl⟩
end Go.Proofs.Ytpkbkcnpfigbgaa
