/- Contracts of the exact laws' helpers on configurations: sizes, comparisons. -/
import Derived.Test.YtkdiniaddnhkdaaConfT
namespace Go.Proofs.Ytkdiniaddnhkdaa
open Go.RowKit
set_option maxRecDepth 100000
set_option linter.unusedVariables false
set_option linter.unusedSimpArgs false
/-! ### sizes -/
def szT (x : Tile) (l : Int) : Int := if szL x.sl.length l < 0 then -1 else szL x.dr.length (szL x.sl.length l)
def szTl : List Tile → Int → Int
  | [], l => l
  | x :: xs, l => if szT x l < 0 then -1 else szTl xs (szT x l)
def szTs (ts : List Tile) (l : Int) : Int := if l - (ts.length : Int) < 0 then -1 else szTl ts (l - ts.length)
def szK (k : Conf) (l : Int) : Int := if szTs k.ts l < 0 then -1 else szL k.ps.length (szTs k.ts l)
theorem szL_le (n : Nat) (l : Int) : szL n l ≤ l ∨ szL n l = -1 := by
  unfold szL; split
  · exact .inr rfl
  · exact .inl (by omega)
theorem szL_m1 (n : Nat) (l : Int) : -1 ≤ szL n l := by unfold szL; split <;> omega
theorem szT_ok {x : Tile} {l : Int} (h : ¬ szT x l < 0) : (x.sl.length : Int) + x.dr.length + szT x l = l ∧ 0 ≤ szT x l := by
  unfold szT at *
  split at h <;> rename_i h1
  · omega
  · rw [if_neg h1]
    have := szL_ok h1
    have := szL_ok h
    omega
theorem szTl_ok : ∀ (ts : List Tile) (l : Int), 0 ≤ l → ¬ szTl ts l < 0 → 0 ≤ szTl ts l ∧ szTl ts l ≤ l ∧ ∀ j, j < ts.length → ((ts.getD j tile0).sl.length : Int) ≤ l ∧ ((ts.getD j tile0).dr.length : Int) ≤ l
  | [], l, h0, _ => ⟨h0, Int.le_refl _, fun j hj => absurd hj (Nat.not_lt_zero j)⟩
  | x :: xs, l, h0, h => by
    unfold szTl at *
    split at h <;> rename_i h1
    · omega
    · rw [if_neg h1]
      have h2 := szT_ok h1
      have h3 := szTl_ok xs (szT x l) (by omega) h
      refine ⟨h3.1, by omega, fun j hj => ?_⟩
      cases j with
      | zero => simp; omega
      | succ j => have := h3.2.2 j (by simpa using hj); simp at this ⊢; omega
theorem szK_ok {k : Conf} {l : Int} (h : ¬ szK k l < 0) (hl : l ≤ 1048576) : 0 ≤ szK k l ∧ szK k l ≤ l ∧ k.ts.length ≤ 1048576 ∧ k.ps.length ≤ 1048576 ∧ ∀ j, j < k.ts.length → (k.ts.getD j tile0).sl.length ≤ 1048576 ∧ (k.ts.getD j tile0).dr.length ≤ 1048576 := by
  unfold szK at *
  split at h <;> rename_i h1
  · omega
  · rw [if_neg h1]
    have h2 := szL_ok h
    unfold szTs at h1 h2
    split at h1 <;> rename_i h3
    · omega
    · rw [if_neg h3] at h2
      have h4 := szTl_ok k.ts _ (by omega) h1
      have e : szTs k.ts l = szTl k.ts (l - k.ts.length) := by unfold szTs; rw [if_neg h3]
      rw [e]
      exact ⟨by omega, by omega, by omega, by omega, fun j hj => by have := h4.2.2 j hj; omega⟩
theorem szTileConfig_c (x : Tile) (sa da : Option Addr) (sc dc : Nat) (l : Int) (w : World) (n1 : x.sl.length ≤ maxLen) (n2 : x.dr.length ≤ maxLen) (h0 : 0 ≤ l) (h1 : l ≤ 1048576) :
    Calls Try.prog 109 #[.agg #[.int .i64 x.tb, .slice sa x.sl.length sc, .bool x.rg, .slice da x.dr.length dc], .int .i64 l] w fun e w' => e = .returned (.int .i64 (szT x l)) ∧ Ext w w' := by
  obtain ⟨R, hR⟩ : ∃ R, R = szT x l := ⟨_, rfl⟩
  rw [← hR]
  by_cases hn : szL x.sl.length l < 0
  · have hf : R = -1 := by rw [hR]; unfold szT; rw [if_pos hn]
    subst hf
    clear hR
    go_enter Try.func109, Try.ntmps109
    go_wp2_with fail
    refine (szIntS_c _ _ _ _ _ n1 h0 h1).mono ?_
    rintro e w1 ⟨rfl, rfl⟩
    go_wp2
    go_ret
    exact ⟨rfl, by (repeat (first | with_reducible assumption | with_reducible exact Ext.refl _ | with_reducible refine Ext.drew' ?_ | with_reducible refine Ext.drewN' ?_ _ | with_reducible refine Ext.alloc ?_ _ | (with_reducible refine Ext.setNew ?_ (by first | exact Nat.le_refl _ | (simp; done) | (simp; omega) | omega) _)))⟩
  · have hf : R = szL x.dr.length (szL x.sl.length l) := by rw [hR]; unfold szT; rw [if_neg hn]
    have HF := Lib.hid hf
    have hk := szL_ok hn
    clear hf hR
    obtain ⟨m, hm⟩ : ∃ m, m = szL x.sl.length l := ⟨_, rfl⟩
    rw [← hm] at hn hk HF
    have HM := Lib.hid hm
    clear hm
    obtain ⟨hk1, hk2⟩ := hk
    go_enter Try.func109, Try.ntmps109
    go_wp2_with fail
    refine (szIntS_c _ _ _ _ _ n1 h0 h1).mono ?_
    rw [← HM.out]
    rintro e w1 ⟨rfl, rfl⟩
    go_wp2_with fail
    refine (szIntS_c _ _ _ _ _ n2 hk2 (by omega)).mono ?_
    rw [← HF.out]
    rintro e w2 ⟨rfl, rfl⟩
    by_cases hr : R < 0
    · have hr1 : R = -1 := by
        have h3 := HF.out
        unfold szL at h3
        split at h3 <;> omega
      subst hr1
      go_wp2
      go_ret
      exact ⟨rfl, by (repeat (first | with_reducible assumption | with_reducible exact Ext.refl _ | with_reducible refine Ext.drew' ?_ | with_reducible refine Ext.drewN' ?_ _ | with_reducible refine Ext.alloc ?_ _ | (with_reducible refine Ext.setNew ?_ (by first | exact Nat.le_refl _ | (simp; done) | (simp; omega) | omega) _)))⟩
    · go_wp2
      go_ret
      exact ⟨rfl, by (repeat (first | with_reducible assumption | with_reducible exact Ext.refl _ | with_reducible refine Ext.drew' ?_ | with_reducible refine Ext.drewN' ?_ _ | with_reducible refine Ext.alloc ?_ _ | (with_reducible refine Ext.setNew ?_ (by first | exact Nat.le_refl _ | (simp; done) | (simp; omega) | omega) _)))⟩
set_option maxHeartbeats 1000000 in
theorem szTileConfigS_c (a : Option Addr) (c : Nat) (ts : List Tile) (l : Int) (w : World) (ht : TilesAt w a ts) (hn : ts.length ≤ maxLen) (hls : ∀ j, j < ts.length → (ts.getD j tile0).sl.length ≤ maxLen ∧ (ts.getD j tile0).dr.length ≤ maxLen) (h0 : 0 ≤ l) (h1 : l ≤ 1048576) :
    Calls Try.prog 67 #[.slice a ts.length c, .int .i64 l] w fun e w' => e = .returned (.int .i64 (szTs ts l)) ∧ Ext w w' := by
  unfold maxLen at hn
  have HL := Lib.hid hls
  obtain ⟨R, hR⟩ : ∃ R, R = szTs ts l := ⟨_, rfl⟩
  rw [← hR]
  have HR := Lib.hid hR
  clear hR hls
  by_cases h : l - (ts.length : Int) < 0
  · have hRR : R = -1 := by rw [HR.out]; unfold szTs; rw [if_pos h]
    subst hRR
    go_enter Try.func67, Try.ntmps67
    go_wp2
    go_ret
    exact ⟨rfl, by (repeat (first | with_reducible assumption | with_reducible exact Ext.refl _ | with_reducible refine Ext.drew' ?_ | with_reducible refine Ext.drewN' ?_ _ | with_reducible refine Ext.alloc ?_ _ | (with_reducible refine Ext.setNew ?_ (by first | exact Nat.le_refl _ | (simp; done) | (simp; omega) | omega) _)))⟩
  · have hRR : R = szTl ts (l - ts.length) := by rw [HR.out]; unfold szTs; rw [if_neg h]
    have HRR := Lib.hid hRR
    clear hRR
    go_enter Try.func67, Try.ntmps67
    go_wp2_with fail
    go_loopw [1, 5] (fun u1 u5 wr => ∃ (k : Nat) (m : Int), k ≤ ts.length ∧ u5 = .int .i64 k ∧ u1 = .int .i64 m ∧ 0 ≤ m ∧ m ≤ 1048576 ∧ Hid (R = szTl (ts.drop k) m) ∧ Ext w wr) (fun _ i _ => ts.length - (intOf i).toNat)
    case atStart => exact ⟨0, l - ts.length, Nat.zero_le _, rfl, rfl, by omega, by omega, HRR, Ext.refl w⟩
    case round =>
      obtain ⟨k, m, hk, rfl, rfl, hm0, hm1, hp, hE⟩ := hrel
      by_cases hlt : k < ts.length
      · obtain ⟨b, o, rfl, hb, hcc⟩ := (ht.ext hE).get (by omega)
        obtain ⟨n1, n2⟩ := HL.out k hlt
        obtain ⟨sa, sc, da, dc, q0, q1, q2, q3, _, _⟩ := hcc k hlt
        have hdr : R = szTl (ts.getD k tile0 :: ts.drop (k + 1)) m := by
          rw [hp.out, List.drop_eq_getElem_cons hlt, List.getD_eq_getElem?_getD, List.getElem?_eq_getElem hlt]; rfl
        unfold szTl at hdr
        obtain ⟨x, hx⟩ : ∃ x, x = ts.getD k tile0 := ⟨_, rfl⟩
        rw [← hx] at q0 q1 q2 q3 n1 n2 hdr
        have hok := szT_ok (x := x) (l := m)
        have hmin : szT x m < 0 → szT x m = -1 := by
          intro h3
          unfold szT at *
          split
          · rfl
          · rename_i h4
            rw [if_neg h4] at h3
            have := szL_m1 x.dr.length (szL x.sl.length m); omega
        obtain ⟨w2, rfl⟩ : ∃ x : World, x = wr := ⟨_, rfl⟩
        clear hcc hx
        have HD := Lib.hid hdr
        have HOK := Lib.hid hok
        have HMIN := Lib.hid hmin
        clear hdr hok hmin
        go_wp2_with fail
        refine (szTileConfig_c x sa da sc dc m _ n1 n2 hm0 hm1).mono ?_
        obtain ⟨r, hr⟩ : ∃ r, r = szT x m := ⟨_, rfl⟩
        rw [← hr] at HD HOK HMIN ⊢
        clear hr
        rintro e w3 ⟨rfl, hE3⟩
        have F3 := hE.trans hE3
        by_cases hneg : r < 0
        · have hRR : R = -1 := by rw [HD.out, if_pos hneg]
          subst hRR
          go_wp2
          go_ret
          exact ⟨rfl, F3⟩
        · obtain ⟨g1, g2⟩ := HOK.out (by omega)
          go_wp2_with fail
          go_roundw
          case rel => exact ⟨k + 1, r, by omega, by go_num, rfl, g2, by omega, Lib.hid (by rw [HD.out, if_neg (by omega)]), F3⟩
          case measure => simp [intOf]; omega
      · have hk2 : k = ts.length := by omega
        subst hk2
        have hRR : R = m := by rw [hp.out, List.drop_length]; rfl
        subst hRR
        go_wp2
        go_ret
        exact ⟨rfl, hE⟩
theorem szTs_m1 (ts : List Tile) (l : Int) : szTs ts l < 0 → szTs ts l = -1 := by
  have aux : ∀ (ts : List Tile) (l : Int), 0 ≤ l → szTl ts l < 0 → szTl ts l = -1 := by
    intro ts
    induction ts with
    | nil => intro l h0 h; unfold szTl at h; omega
    | cons x xs ih =>
      intro l h0 h
      unfold szTl at h ⊢
      split
      · rfl
      · rename_i h1
        rw [if_neg h1] at h
        exact ih _ (by omega) h
  intro h
  unfold szTs at *
  split
  · rfl
  · rename_i h1
    rw [if_neg h1] at h
    exact aux ts _ (by omega) h
theorem szConfig_c (k : Conf) (ta pa : Option Addr) (tc pc : Nat) (l : Int) (w : World) (hk : ConfIn w k ta tc pa pc) (h0 : 0 ≤ l) (h1 : l ≤ 1048576) :
    Calls Try.prog 17 #[.agg #[.slice ta k.ts.length tc, .slice pa k.ps.length pc], .int .i64 l] w fun e w' => e = .returned (.int .i64 (szK k l)) ∧ Ext w w' := by
  have y := Blk.at w [.slice ta k.ts.length tc, .slice pa k.ps.length pc] 33 rfl
  have Ey : Ext w (w.alloc (.cells #[.slice ta k.ts.length tc, .slice pa k.ps.length pc] 33)) := (Ext.refl w).alloc _
  have ln : k.ts.length ≤ maxLen := Nat.le_trans hk.lt.1 hk.lt.2
  have lp : k.ps.length ≤ maxLen := Nat.le_trans hk.lp.1 hk.lp.2
  have hts := hk.ts
  have HLS := Lib.hid hk.ls
  have HM1 := Lib.hid (szTs_m1 k.ts l)
  have hle : szTs k.ts l ≤ 1048576 := by
    by_cases h : szTs k.ts l < 0
    · omega
    · have e := h
      unfold szTs at e
      split at e <;> rename_i h3
      · omega
      · have h4 := szTl_ok k.ts _ (by omega) e
        unfold szTs; rw [if_neg h3]; omega
  obtain ⟨R, hR⟩ : ∃ R, R = szK k l := ⟨_, rfl⟩
  rw [← hR]
  have HR : Hid (R = if szTs k.ts l < 0 then -1 else szL k.ps.length (szTs k.ts l)) := Lib.hid hR
  obtain ⟨m, hm⟩ : ∃ m, m = szTs k.ts l := ⟨_, rfl⟩
  rw [← hm] at HR HM1 hle
  have HM := Lib.hid hm
  clear hR hk hm
  go_enter Try.func17, Try.ntmps17
  go_wp2_with fail
  refine (szTileConfigS_c _ _ k.ts l _ (hts.ext Ey) ln HLS.out h0 h1).mono ?_
  rw [← HM.out]
  rintro e w1 ⟨rfl, hE1⟩
  have y1 := y.ext hE1
  have E1 := Ey.trans hE1
  have c1 := y1.cell (i := 1) rfl
  have cl := y1.lt
  by_cases hneg : m < 0
  · have hRR : R = -1 := by rw [HR.out, if_pos hneg]
    subst hRR
    go_wp2
    go_ret
    exact ⟨rfl, E1⟩
  · have hRR : R = szL k.ps.length m := by rw [HR.out, if_neg hneg]
    have HRR := Lib.hid hRR
    clear hRR HR
    go_wp2_with fail
    refine (szPadConfigS_c _ _ _ _ _ lp (by omega) hle).mono ?_
    rw [← HRR.out]
    rintro e w2 ⟨rfl, rfl⟩
    by_cases hr : R < 0
    · have hr1 : R = -1 := by
        have h3 := HRR.out
        unfold szL at h3
        split at h3 <;> omega
      subst hr1
      go_wp2
      go_ret
      exact ⟨rfl, E1⟩
    · go_wp2
      go_ret
      exact ⟨rfl, E1⟩
/-! ### comparisons -/
theorem eqTileConfig_c (x : Tile) (sa da sb db : Option Addr) (sc dc sd dd : Nat) (w : World) (h1 : IntsAt w sa x.sl) (h2 : IntsAt w da x.dr) (h3 : IntsAt w sb x.sl) (h4 : IntsAt w db x.dr) (l1 : x.sl.length ≤ 1048576) (l2 : x.dr.length ≤ 1048576) :
    Calls Try.prog 105 #[.agg #[.int .i64 x.tb, .slice sa x.sl.length sc, .bool x.rg, .slice da x.dr.length dc], .agg #[.int .i64 x.tb, .slice sb x.sl.length sd, .bool x.rg, .slice db x.dr.length dd]] w fun e w' => e = .returned (.bool true) ∧ Ext w w' := by
  have Ey : Ext w ((w.alloc (.cells #[.int .i64 x.tb, .slice sa x.sl.length sc, .bool x.rg, .slice da x.dr.length dc] 85)).alloc (.cells #[.int .i64 x.tb, .slice sb x.sl.length sd, .bool x.rg, .slice db x.dr.length dd] 85)) := ((Ext.refl w).alloc _).alloc _
  have y := (Blk.at w [.int .i64 x.tb, .slice sa x.sl.length sc, .bool x.rg, .slice da x.dr.length dc] 85 rfl).alloc (.cells #[.int .i64 x.tb, .slice sb x.sl.length sd, .bool x.rg, .slice db x.dr.length dd] 85)
  have z := Blk.at (w.alloc (.cells #[.int .i64 x.tb, .slice sa x.sl.length sc, .bool x.rg, .slice da x.dr.length dc] 85)) [.int .i64 x.tb, .slice sb x.sl.length sd, .bool x.rg, .slice db x.dr.length dd] 85 (B := w.heap.size + 1) (by simp)
  go_enter Try.func105, Try.ntmps105
  go_wp2_with fail
  refine (eqIntS_c _ _ _ _ _ _ (h1.ext Ey) (h3.ext Ey) l1).mono ?_
  rintro e w1 ⟨rfl, hE1⟩
  have E1 := Ey.trans hE1
  have y1 := y.ext hE1
  have z1 := z.ext hE1
  have c2 := y1.cell (i := 2) rfl
  have c3 := y1.cell (i := 3) rfl
  have cl := y1.lt
  have d2 := z1.cell (i := 2) rfl
  have d3 := z1.cell (i := 3) rfl
  have dl := z1.lt
  have hb : (x.rg != x.rg) = false := by simp
  go_wp2_with fail
  refine (eqIntS_c _ _ _ _ _ _ (h2.ext E1) (h4.ext E1) l2).mono ?_
  rintro e w2 ⟨rfl, hE2⟩
  go_wp2
  go_ret
  exact ⟨rfl, E1.trans hE2⟩
theorem eqPadConfig_c (x : Int) (b : Bool) (w : World) :
    Calls Try.prog 106 #[.agg #[.int .i64 x, .bool b], .agg #[.int .i64 x, .bool b]] w fun e w' => e = .returned (.bool true) ∧ Ext w w' := by
  have hb : (b != b) = false := by simp
  go_enter Try.func106, Try.ntmps106
  go_wp2
  go_ret
  exact ⟨rfl, ((Ext.refl w).alloc _).alloc _⟩
set_option maxHeartbeats 1000000 in
theorem eqTileConfigS_c (a b : Option Addr) (c d : Nat) (ts : List Tile) (w : World) (hx : TilesAt w a ts) (hy : TilesAt w b ts) (hl : ts.length ≤ 1048576) (hls : ∀ j, j < ts.length → (ts.getD j tile0).sl.length ≤ 1048576 ∧ (ts.getD j tile0).dr.length ≤ 1048576) :
    Calls Try.prog 61 #[.slice a ts.length c, .slice b ts.length d] w fun e w' => e = .returned (.bool true) ∧ Ext w w' := by
  have HL := Lib.hid hls
  clear hls
  go_enter Try.func61, Try.ntmps61
  go_wp2_with fail
  go_loopw [5] (fun i wr => ∃ k : Nat, k ≤ ts.length ∧ i = .int .i64 k ∧ Ext w wr) (fun i _ => ts.length - (intOf i).toNat)
  case atStart => exact ⟨0, Nat.zero_le _, rfl, Ext.refl w⟩
  case round =>
    obtain ⟨k, hk, rfl, hE⟩ := hrel
    by_cases hlt : k < ts.length
    · obtain ⟨b1, o1, rfl, hb1, hc1⟩ := (hx.ext hE).get (by omega)
      obtain ⟨b2, o2, rfl, hb2, hc2⟩ := (hy.ext hE).get (by omega)
      obtain ⟨sa, sc, da, dc, q0, q1, q2, q3, hs1, hd1⟩ := hc1 k hlt
      obtain ⟨sb, sd, db, dd, p0, p1, p2, p3, hs2, hd2⟩ := hc2 k hlt
      obtain ⟨l1, l2⟩ := HL.out k hlt
      obtain ⟨x, hx⟩ : ∃ x, x = ts.getD k tile0 := ⟨_, rfl⟩
      rw [← hx] at q0 q1 q2 q3 hs1 hd1 p0 p1 p2 p3 hs2 hd2 l1 l2
      obtain ⟨w1, rfl⟩ : ∃ x : World, x = wr := ⟨_, rfl⟩
      clear hc1 hc2 hx
      go_wp2_with fail
      go_region_held3 ((fun w' => (∀ b o, b < w1.heap.size → w'.cell? ⟨b, o, none⟩ = w1.cell? ⟨b, o, none⟩) ∧ Ext w1 w')) ((first | assumption | (with_reducible exact held_mk (Ext.drew w1)) | (with_reducible exact held_mk (((Ext.refl w1).alloc _).drew')) | (with_reducible exact held_mk ((Ext.drew w1).alloc _)))) (first | (go_simp; go_at_call 105; refine (eqTileConfig_c x sa da sb db sc dc sd dd _ (hs1.ext (Ext.drew w1)) (hd1.ext (Ext.drew w1)) (hs2.ext (Ext.drew w1)) (hd2.ext (Ext.drew w1)) l1 l2).mono ?_; rintro e w2 ⟨rfl, hE2⟩; have hK1 := held_mk ((Ext.drew w1).trans hE2)))
      have hE3 := held_ext hK1
      go_wp2
      go_roundw
      case rel => exact ⟨k + 1, by omega, by go_num, hE.trans hE3⟩
      case measure => simp [intOf]; omega
    · go_wp2
      go_ret
      exact ⟨rfl, hE⟩
set_option maxHeartbeats 1000000 in
theorem eqPadConfigS_c (a b : Option Addr) (c d : Nat) (ps : List (Int × Bool)) (w : World) (hx : PadsAt w a ps) (hy : PadsAt w b ps) (hl : ps.length ≤ 1048576) :
    Calls Try.prog 62 #[.slice a ps.length c, .slice b ps.length d] w fun e w' => e = .returned (.bool true) ∧ Ext w w' := by
  go_enter Try.func62, Try.ntmps62
  go_wp2_with fail
  go_loopw [5] (fun i wr => ∃ k : Nat, k ≤ ps.length ∧ i = .int .i64 k ∧ Ext w wr) (fun i _ => ps.length - (intOf i).toNat)
  case atStart => exact ⟨0, Nat.zero_le _, rfl, Ext.refl w⟩
  case round =>
    obtain ⟨k, hk, rfl, hE⟩ := hrel
    by_cases hlt : k < ps.length
    · obtain ⟨b1, o1, rfl, hb1, hc1⟩ := (hx.ext hE).get (by omega)
      obtain ⟨b2, o2, rfl, hb2, hc2⟩ := (hy.ext hE).get (by omega)
      obtain ⟨q0, q1⟩ := hc1 k hlt
      obtain ⟨p0, p1⟩ := hc2 k hlt
      obtain ⟨x, hx⟩ : ∃ x, x = ps.getD k (0, false) := ⟨_, rfl⟩
      rw [← hx] at q0 q1 p0 p1
      obtain ⟨n, v⟩ := x
      dsimp only at q0 q1 p0 p1
      obtain ⟨w1, rfl⟩ : ∃ x : World, x = wr := ⟨_, rfl⟩
      clear hc1 hc2 hx
      go_wp2_with fail
      go_region_held3 ((fun w' => (∀ b o, b < w1.heap.size → w'.cell? ⟨b, o, none⟩ = w1.cell? ⟨b, o, none⟩) ∧ Ext w1 w')) ((first | assumption | (with_reducible exact held_mk (Ext.drew w1)) | (with_reducible exact held_mk (((Ext.refl w1).alloc _).drew')) | (with_reducible exact held_mk ((Ext.drew w1).alloc _)))) (first | (go_simp; go_at_call 106; refine (eqPadConfig_c n v _).mono ?_; rintro e w2 ⟨rfl, hE2⟩; have hK1 := held_mk ((Ext.drew w1).trans hE2)))
      have hE3 := held_ext hK1
      go_wp2
      go_roundw
      case rel => exact ⟨k + 1, by omega, by go_num, hE.trans hE3⟩
      case measure => simp [intOf]; omega
    · go_wp2
      go_ret
      exact ⟨rfl, hE⟩
theorem eqConfig_c (k : Conf) (ta pa tb pb : Option Addr) (tc pc td pd : Nat) (w : World) (hx : ConfAt w k ta pa) (hy : ConfAt w k tb pb) :
    Calls Try.prog 14 #[.agg #[.slice ta k.ts.length tc, .slice pa k.ps.length pc], .agg #[.slice tb k.ts.length td, .slice pb k.ps.length pd]] w fun e w' => e = .returned (.bool true) ∧ Ext w w' := by
  have Ey : Ext w ((w.alloc (.cells #[.slice ta k.ts.length tc, .slice pa k.ps.length pc] 25)).alloc (.cells #[.slice tb k.ts.length td, .slice pb k.ps.length pd] 25)) := ((Ext.refl w).alloc _).alloc _
  have y := (Blk.at w [.slice ta k.ts.length tc, .slice pa k.ps.length pc] 25 rfl).alloc (.cells #[.slice tb k.ts.length td, .slice pb k.ps.length pd] 25)
  have z := Blk.at (w.alloc (.cells #[.slice ta k.ts.length tc, .slice pa k.ps.length pc] 25)) [.slice tb k.ts.length td, .slice pb k.ps.length pd] 25 (B := w.heap.size + 1) (by simp)
  have lt := hx.lt
  have lp := hx.lp
  go_enter Try.func14, Try.ntmps14
  go_wp2_with fail
  refine (eqTileConfigS_c _ _ _ _ _ _ (hx.ts.ext Ey) (hy.ts.ext Ey) lt hx.ls).mono ?_
  rintro e w1 ⟨rfl, hE1⟩
  have E1 := Ey.trans hE1
  have y1 := y.ext hE1
  have z1 := z.ext hE1
  have c1 := y1.cell (i := 1) rfl
  have cl := y1.lt
  have d1 := z1.cell (i := 1) rfl
  have dl := z1.lt
  go_wp2_with fail
  refine (eqPadConfigS_c _ _ _ _ _ _ (hx.ps.ext E1) (hy.ps.ext E1) lp).mono ?_
  rintro e w2 ⟨rfl, hE2⟩
  go_wp2
  go_ret
  exact ⟨rfl, E1.trans hE2⟩
end Go.Proofs.Ytkdiniaddnhkdaa
