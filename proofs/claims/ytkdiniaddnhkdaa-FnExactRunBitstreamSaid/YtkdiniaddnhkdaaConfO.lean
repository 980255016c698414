/- How the exact laws mark rows of pads, and look at the marks of tiles and pads. -/
import Derived.Test.YtkdiniaddnhkdaaConfN
namespace Go.Proofs.Ytkdiniaddnhkdaa
open Go.RowKit
set_option maxRecDepth 100000
set_option linter.unusedVariables false
set_option linter.unusedSimpArgs false
def mkP (k : Int) (i : Nat) : Int × Bool := (k + 2 * i, (k + 2 * i + 1) % 3 == 0)
def mksP (k : Int) (n : Nat) : List (Int × Bool) := (List.range n).map (mkP k)
theorem mksP_get (k : Int) (n j : Nat) (h : j < n) : (mksP k n).getD j (0, false) = mkP k j := by simp [mksP, List.getD_eq_getElem?_getD, h]
theorem mksP_length (k : Int) (n : Nat) : (mksP k n).length = n := by simp [mksP]
theorem mkTs_at : ∀ (ts : List Tile) (k : Int) (j : Nat), j < ts.length → (mkTs k ts).getD j tile0 = mkT (k + totM (ts.take j)) (ts.getD j tile0)
  | [], _, j, h => by simp at h
  | x :: xs, k, 0, _ => by simp [mkTs, totM]
  | x :: xs, k, j + 1, h => by
    have := mkTs_at xs (k + szM x) j (by simpa using h)
    have e : totM ((x :: xs).take (j + 1)) = szM x + totM (xs.take j) := rfl
    rw [e]
    have e2 : k + ((szM x + totM (xs.take j) : Nat) : Int) = k + (szM x : Int) + (totM (xs.take j) : Int) := by omega
    rw [e2]
    exact this
theorem markPadConfigS_c (base : Nat) (a : Option Addr) (c : Nat) (xs : List (Int × Bool)) (k : Int) (w : World) (ho : w.ownsRow base 87 2 (.slice a xs.length c) xs.length (flatP xs)) (h0 : 0 ≤ k) (h1 : k ≤ 1000000000) (hl : xs.length ≤ 1048576) :
    Calls Try.prog 64 #[.slice a xs.length c, .int .i64 k] w fun e w' => e = .returned (.int .i64 (k + 2 * xs.length)) ∧ w'.ownsRow base 87 2 (.slice a xs.length c) xs.length (flatP (mksP k xs.length)) ∧ w.grownBy w' (Value.slice a xs.length c).ownBlock := by
  go_enter Try.func64, Try.ntmps64
  go_wp2_with fail
  go_loopw [1, 5] (fun u1 u5 wr => ∃ j : Nat, j ≤ xs.length ∧ u5 = .int .i64 j ∧ u1 = .int .i64 (k + 2 * j) ∧ wr.ownsRow base 87 2 (.slice a xs.length c) xs.length (flatP (over (mkP k) xs j)) ∧ w.grownBy wr (Value.slice a xs.length c).ownBlock) (fun _ i _ => xs.length - (intOf i).toNat)
  case atStart => exact ⟨0, Nat.zero_le _, rfl, by simp, by rw [over_zero]; exact ho, Gr.refl _ _⟩
  case round =>
    obtain ⟨j, hj, rfl, rfl, hO, hG⟩ := hrel
    by_cases hlt : j < xs.length
    · obtain ⟨g, rfl, hbg, hg⟩ := ownsRow_block hO (by omega)
      have hs := over_set (mkP k) xs j hlt
      have hlen := over_length (mkP k) xs j hj
      have hfl := flatP_length (over (mkP k) xs j)
      rw [hlen] at hfl
      have q0 := ownsRow_cell hO (flatP_get (over (mkP k) xs j) j (by omega)).1
      have q1 := ownsRow_cell hO (flatP_get (over (mkP k) xs j) j (by omega)).2
      have fz := fun i => ownsRow_frozen hO i
      have HO := ownsRow_setAt (ownsRow_setAt hO (j * 2) (by omega) (.int .i64 (mkP k j).1)) (j * 2 + 1) (by rw [List.length_set]; omega) (.bool (mkP k j).2)
      rw [flatP_set, hs] at HO
      have HOO := Lib.hid HO
      clear hs hlen hfl HO
      go_wp2
      go_roundw
      case rel =>
        refine ⟨j + 1, by omega, by go_num, by go_num, ?_, ?_⟩
        · exact HOO.out
        · exact gr_setOwn (gr_setOwn hG _ _) _ _
      case measure => simp [intOf]; omega
    · obtain rfl : j = xs.length := by omega
      rw [over_all] at hO
      go_wp2
      go_ret
      exact ⟨rfl, hO, hG⟩
theorem heldPadConfigS_c (a : Option Addr) (c n : Nat) (k : Int) (w : World) (hx : PadsAt w a (mksP k n)) (h0 : 0 ≤ k) (h1 : k ≤ 1000000000) (hl : n ≤ 1048576) :
    Calls Try.prog 66 #[.slice a n c, .int .i64 k] w fun e w' => e = .returned (.int .i64 (k + 2 * n)) ∧ Ext w w' := by
  go_enter Try.func66, Try.ntmps66
  go_wp2_with fail
  go_loop [1, 5] (fun u1 i => ∃ j : Nat, j ≤ n ∧ i = .int .i64 j ∧ u1 = .int .i64 (k + 2 * j)) (fun _ i => n - (intOf i).toNat)
  case atStart => exact ⟨0, Nat.zero_le _, rfl, by simp⟩
  case round =>
    obtain ⟨j, hj, rfl, rfl⟩ := hrel
    by_cases hlt : j < n
    · obtain ⟨b1, o1, rfl, hb1, hc1⟩ := hx.get (by rw [mksP_length]; omega)
      obtain ⟨q0, q1⟩ := hc1 j (by rw [mksP_length]; omega)
      rw [mksP_get _ _ _ hlt] at q0 q1
      unfold mkP at q0 q1
      dsimp only at q0 q1
      clear hc1
      go_wp2
      go_round
      case rel => exact ⟨j + 1, by omega, by go_num, by go_num⟩
      case measure => simp [intOf]; omega
    · obtain rfl : j = n := by omega
      go_wp2
      go_ret
      exact ⟨rfl, by (repeat (first | with_reducible assumption | with_reducible exact Ext.refl _ | with_reducible refine Ext.drew' ?_ | with_reducible refine Ext.drewN' ?_ _ | with_reducible refine Ext.alloc ?_ _ | (with_reducible refine Ext.setNew ?_ (by first | exact Nat.le_refl _ | (simp; done) | (simp; omega) | omega) _)))⟩
set_option maxHeartbeats 1000000 in
theorem heldTileConfigS_c (a : Option Addr) (c : Nat) (ts : List Tile) (k : Int) (w : World) (hx : TilesAt w a (mkTs k ts)) (h0 : 0 ≤ k) (h1 : k + totM ts ≤ 100000000) (hl : ts.length ≤ 1048576) (hls : ∀ j, j < ts.length → (ts.getD j tile0).sl.length ≤ 1048576 ∧ (ts.getD j tile0).dr.length ≤ 1048576) :
    Calls Try.prog 65 #[.slice a ts.length c, .int .i64 k] w fun e w' => e = .returned (.int .i64 (k + totM ts)) ∧ Ext w w' := by
  have HT := Lib.hid (totM_le ts)
  have HLS := Lib.hid hls
  clear hls
  have HML := Lib.hid (mkTs_length ts k)
  go_enter Try.func65, Try.ntmps65
  go_wp2_with fail
  go_loopw [1, 5] (fun u1 u5 wr => ∃ j : Nat, j ≤ ts.length ∧ u5 = .int .i64 j ∧ u1 = .int .i64 (k + totM (ts.take j)) ∧ Ext w wr) (fun _ i _ => ts.length - (intOf i).toNat)
  case atStart => exact ⟨0, Nat.zero_le _, rfl, by simp [totM], Ext.refl _⟩
  case round =>
    obtain ⟨j, hj, rfl, rfl, hE⟩ := hrel
    have htl := HT.out j
    by_cases hlt : j < ts.length
    · obtain ⟨b, o, rfl, hb, hc⟩ := (hx.ext hE).get (by rw [HML.out]; omega)
      obtain ⟨sa, sc, da, dc, q0, q1, q2, q3, hsl, hdr⟩ := hc j (by rw [HML.out]; exact hlt)
      rw [mkTs_at ts k j hlt] at q0 q1 q2 q3 hsl hdr
      have hts := totM_take ts j hlt
      have hts1 := HT.out (j + 1)
      have hlsj := HLS.out j hlt
      obtain ⟨x, hx2⟩ : ∃ x, x = ts.getD j tile0 := ⟨_, rfl⟩
      rw [← hx2] at q0 q1 q2 q3 hsl hdr hts hlsj
      obtain ⟨T, hT⟩ : ∃ T, T = totM (ts.take j) := ⟨_, rfl⟩
      rw [← hT] at hts htl q0 q1 q2 q3 hsl hdr ⊢
      have hlen : szM x = 2 + x.sl.length + x.dr.length := rfl
      simp only [mkT, mksI_length] at q0 q1 q2 q3 hsl hdr
      have HTS := Lib.hid hts
      obtain ⟨n1, n2⟩ := hlsj
      obtain ⟨w2, rfl⟩ : ∃ x : World, x = wr := ⟨_, rfl⟩
      clear hts hT hx2 hc
      go_wp2_with fail
      refine (heldIntS_c sa sc x.sl.length (k + T + 1) _ hsl (by omega) (by omega) n1).mono ?_
      rintro e w3 ⟨rfl, rfl⟩
      go_wp2_with fail
      refine (heldIntS_c da dc x.dr.length (k + T + 1 + x.sl.length + 1) _ hdr (by omega) (by omega) n2).mono ?_
      rintro e w3 ⟨rfl, rfl⟩
      go_wp2
      go_roundw
      case rel => exact ⟨j + 1, by omega, by go_num, by rw [HTS.out]; simp [hlen]; omega, hE⟩
      case measure => simp [intOf]; omega
    · have hk2 : j = ts.length := by omega
      subst hk2
      rw [List.take_length]
      go_wp2
      go_ret
      exact ⟨rfl, hE⟩
end Go.Proofs.Ytkdiniaddnhkdaa
