/- Contract: is a tile's configuration valid, in the reference. -/
import Derived.Test.YtkdiniaddnhkdaaConfW
namespace Go.Proofs.Ytkdiniaddnhkdaa
open Go.RowKit
set_option maxRecDepth 100000
set_option linter.unusedVariables false
set_option linter.unusedSimpArgs false
theorem l1In_v (n lo hi : Int) (b : Bool) (hb : (decide (lo ≤ n) && decide (n ≤ hi)) = b) (w : World) :
    Calls Try.prog 110 #[.int .i64 n, .int .i64 lo, .int .i64 hi] w fun e w' => e = .returned (.bool b) ∧ w = w' := by
  subst hb; exact l1In_c n lo hi w
set_option maxHeartbeats 4000000 in
theorem l9Tile_c (x : Tile) (t : Nat) (ht : t < 25) (sa da : Option Addr) (sc dc : Nat) (w : World) (hs : IntsAt w sa x.sl) (hd : IntsAt w da x.dr) (ll : x.sl.length ≤ 1048576) (ld : x.dr.length ≤ 1048576) :
    Calls Try.prog 69 #[.agg #[.int .i64 x.tb, .slice sa x.sl.length sc, .bool x.rg, .slice da x.dr.length dc], .int .i64 t] w fun e w' => e = .returned (.bool (tileB x t)) ∧ Ext w w' := by
  have y := Blk.at w [.int .i64 x.tb, .slice sa x.sl.length sc, .bool x.rg, .slice da x.dr.length dc] 85 rfl
  have hcase : (x.tb < 0) ∨ (0 ≤ x.tb ∧ 256 ≤ x.tb) ∨ (0 ≤ x.tb ∧ x.tb < 256 ∧ ((x.sl.length : Int) != 3) = true) ∨ (0 ≤ x.tb ∧ x.tb < 256 ∧ ((x.sl.length : Int) != 3) = false ∧ ((x.dr.length : Int) != 8) = true) ∨ (0 ≤ x.tb ∧ x.tb < 256 ∧ ((x.sl.length : Int) != 3) = false ∧ ((x.dr.length : Int) != 8) = false) := by
    by_cases h1 : x.tb < 0
    · exact .inl h1
    by_cases h2 : 256 ≤ x.tb
    · exact .inr (.inl ⟨by omega, h2⟩)
    by_cases h3 : x.sl.length = 3
    · by_cases h4 : x.dr.length = 8
      · exact .inr (.inr (.inr (.inr ⟨by omega, by omega, by simp; omega, by simp; omega⟩)))
      · exact .inr (.inr (.inr (.inl ⟨by omega, by omega, by simp; omega, by simp; omega⟩)))
    · exact .inr (.inr (.inl ⟨by omega, by omega, by simp; omega⟩))
  have Ey : Ext w (w.alloc (.cells #[.int .i64 x.tb, .slice sa x.sl.length sc, .bool x.rg, .slice da x.dr.length dc] 85)) := (Ext.refl w).alloc _
  obtain ⟨R, hR⟩ : ∃ R, R = tileB x t := ⟨_, rfl⟩
  rw [← hR]
  have HR := Lib.hid hR
  clear hR
  rcases hcase with h1 | ⟨h1, h2⟩ | ⟨h1, h2, h3⟩ | ⟨h1, h2, h3, h4⟩ | ⟨h1, h2, h3, h4⟩
  · have hf : R = false := by
      rw [HR.out]
      refine tileB_false (fun h => ?_)
      have q1 := h.t0; have q2 := h.t1; have q3 := h.ls; have q4 := h.ld
      first | omega | (simp at h3; omega) | (simp at h4; omega)
    subst hf
    go_enter Try.func69, Try.ntmps69
    go_wp2_with fail
    refine (l1In_v x.tb 0 255 false (by simp; omega) _).mono ?_
    rintro e w' ⟨rfl, rfl⟩
    go_wp2
    go_ret
    exact ⟨rfl, by (repeat (first | with_reducible assumption | with_reducible exact Ext.refl _ | with_reducible refine Ext.drew' ?_ | with_reducible refine Ext.drewN' ?_ _ | with_reducible refine Ext.alloc ?_ _ | (with_reducible refine Ext.setNew ?_ (by first | exact Nat.le_refl _ | (simp; done) | (simp; omega) | omega) _)))⟩
  · have hf : R = false := by
      rw [HR.out]
      refine tileB_false (fun h => ?_)
      have q1 := h.t0; have q2 := h.t1; have q3 := h.ls; have q4 := h.ld
      first | omega | (simp at h3; omega) | (simp at h4; omega)
    subst hf
    go_enter Try.func69, Try.ntmps69
    go_wp2_with fail
    refine (l1In_v x.tb 0 255 false (by simp; omega) _).mono ?_
    rintro e w' ⟨rfl, rfl⟩
    go_wp2
    go_ret
    exact ⟨rfl, by (repeat (first | with_reducible assumption | with_reducible exact Ext.refl _ | with_reducible refine Ext.drew' ?_ | with_reducible refine Ext.drewN' ?_ _ | with_reducible refine Ext.alloc ?_ _ | (with_reducible refine Ext.setNew ?_ (by first | exact Nat.le_refl _ | (simp; done) | (simp; omega) | omega) _)))⟩
  · have hf : R = false := by
      rw [HR.out]
      refine tileB_false (fun h => ?_)
      have q1 := h.t0; have q2 := h.t1; have q3 := h.ls; have q4 := h.ld
      first | omega | (simp at h3; omega) | (simp at h4; omega)
    subst hf
    go_enter Try.func69, Try.ntmps69
    go_wp2_with fail
    refine (l1In_v x.tb 0 255 true (by simp; omega) _).mono ?_
    rintro e w' ⟨rfl, rfl⟩
    go_wp2
    go_ret
    exact ⟨rfl, by (repeat (first | with_reducible assumption | with_reducible exact Ext.refl _ | with_reducible refine Ext.drew' ?_ | with_reducible refine Ext.drewN' ?_ _ | with_reducible refine Ext.alloc ?_ _ | (with_reducible refine Ext.setNew ?_ (by first | exact Nat.le_refl _ | (simp; done) | (simp; omega) | omega) _)))⟩
  · have hf : R = false := by
      rw [HR.out]
      refine tileB_false (fun h => ?_)
      have q1 := h.t0; have q2 := h.t1; have q3 := h.ls; have q4 := h.ld
      first | omega | (simp at h3; omega) | (simp at h4; omega)
    subst hf
    go_enter Try.func69, Try.ntmps69
    go_wp2_with fail
    refine (l1In_v x.tb 0 255 true (by simp; omega) _).mono ?_
    rintro e w' ⟨rfl, rfl⟩
    go_wp2
    go_ret
    exact ⟨rfl, by (repeat (first | with_reducible assumption | with_reducible exact Ext.refl _ | with_reducible refine Ext.drew' ?_ | with_reducible refine Ext.drewN' ?_ _ | with_reducible refine Ext.alloc ?_ _ | (with_reducible refine Ext.setNew ?_ (by first | exact Nat.le_refl _ | (simp; done) | (simp; omega) | omega) _)))⟩
  · have l3 : x.sl.length ≤ 3 ∧ 3 ≤ x.sl.length := by simp at h3; omega
    have l8 : x.dr.length ≤ 8 ∧ 8 ≤ x.dr.length := by simp at h4; omega
    obtain ⟨l31, l32⟩ := l3
    obtain ⟨l81, l82⟩ := l8
    go_enter Try.func69, Try.ntmps69
    go_wp2_with fail
    refine (l1In_v x.tb 0 255 true (by simp; omega) _).mono ?_
    rintro e w1 ⟨rfl, rfl⟩
    go_wp2_with fail
    go_loopw [5] (fun u wr => ∃ k : Nat, k ≤ 3 ∧ u = .int .i64 k ∧ Hid (∀ j, j < k → trackB (x.sl.getD j 0) = true) ∧ Ext w wr ∧ Blk wr w.heap.size 85 [.int .i64 x.tb, .slice sa x.sl.length sc, .bool x.rg, .slice da x.dr.length dc]) (fun i _ => 3 - (intOf i).toNat)
    case atStart => exact ⟨0, Nat.zero_le _, rfl, Lib.hid (fun j hj => absurd hj (Nat.not_lt_zero j)), Ey, y⟩
    case round =>
      obtain ⟨k, hk, rfl, hP, hE, hy⟩ := hrel
      have y1 := hy.cell (i := 1) rfl
      have yl := hy.lt
      by_cases hlt : k < 3
      · obtain ⟨b1, o1, rfl, hb1, hcc⟩ := (hs.ext hE).get (by omega)
        have q1 := hcc k (by omega)
        have hkl : (k : Int) < (x.sl.length : Int) := by omega
        obtain ⟨n, hn⟩ : ∃ n, n = x.sl.getD k 0 := ⟨_, rfl⟩
        rw [← hn] at q1
        have HN := Lib.hid hn
        obtain ⟨w2, rfl⟩ : ∃ x : World, x = wr := ⟨_, rfl⟩
        clear hcc hn
        go_wp2_with fail
        refine (l9Track_c n w2).mono ?_
        rintro e w3 ⟨rfl, rfl⟩
        cases hb : trackB n
        · have hf : R = false := by
            rw [HR.out]
            refine tileB_false (fun h => ?_)
            have := h.ss k (by omega)
            rw [← HN.out, hb] at this; cases this
          subst hf
          go_wp2
          go_ret
          exact ⟨rfl, hE⟩
        · go_wp2_with fail
          go_roundw
          case rel =>
            refine ⟨k + 1, by omega, by go_num, Lib.hid (fun j hj => ?_), hE, hy⟩
            rcases Nat.lt_or_ge j k with h | h
            · exact hP.out j h
            · have : j = k := by omega
              subst this; rw [← HN.out]; exact hb
          case measure => simp [intOf]; omega
      · have hPall : Hid (∀ j, j < 3 → trackB (x.sl.getD j 0) = true) := Lib.hid (fun j hj => hP.out j (by omega))
        obtain ⟨w2, rfl⟩ : ∃ x : World, x = wr := ⟨_, rfl⟩
        clear hP
        go_wp2_with fail
        go_loopw [6] (fun u wr => ∃ k : Nat, k ≤ 8 ∧ u = .int .i64 k ∧ Hid (∀ j, j < k → drvB t (x.dr.getD j 0) = true) ∧ Ext w wr ∧ Blk wr w.heap.size 85 [.int .i64 x.tb, .slice sa x.sl.length sc, .bool x.rg, .slice da x.dr.length dc]) (fun i _ => 8 - (intOf i).toNat)
        case atStart => exact ⟨0, Nat.zero_le _, rfl, Lib.hid (fun j hj => absurd hj (Nat.not_lt_zero j)), hE, hy⟩
        case round =>
          clear y1 yl
          obtain ⟨k, hk, rfl, hP, hEk, hz⟩ := hrel
          have z3 := hz.cell (i := 3) rfl
          have zl := hz.lt
          by_cases hlt2 : k < 8
          · obtain ⟨b1, o1, rfl, hb1, hcc⟩ := (hd.ext hEk).get (by omega)
            have q1 := hcc k (by omega)
            have hkl : (k : Int) < (x.dr.length : Int) := by omega
            obtain ⟨d, hdd⟩ : ∃ n, n = x.dr.getD k 0 := ⟨_, rfl⟩
            rw [← hdd] at q1
            have HD := Lib.hid hdd
            have stop_ : Hid (drvB t d = false → R = false) := Lib.hid (fun hb => by
              rw [HR.out]
              refine tileB_false (fun h => ?_)
              have := h.ds k (by omega)
              rw [← HD.out, hb] at this; cases this)
            have go_ : Hid (drvB t d = true → ∀ j, j < k + 1 → drvB t (x.dr.getD j 0) = true) := Lib.hid (fun hb j hj => by
              rcases Nat.lt_or_ge j k with h | h
              · exact hP.out j h
              · have : j = k := by omega
                subst this; rw [← HD.out]; exact hb)
            obtain ⟨w4, rfl⟩ : ∃ x : World, x = wr := ⟨_, rfl⟩
            have hcd : (d < 0 ∨ 6 < d) ∨ (d = 0 ∨ d = 1) ∨ d = 2 ∨ d = 3 ∨ d = 4 ∨ d = 5 ∨ d = 6 := by omega
            clear hcc hdd hP
            rcases hcd with h | h | h | h | h | h | h
            · have hf := stop_.out (drvB_low h)
              subst hf
              go_wp2_with fail
              refine (l1In_v d 0 6 false (by simp; omega) _).mono ?_
              rintro e w5 ⟨rfl, rfl⟩
              go_wp2
              go_ret
              exact ⟨rfl, hEk⟩
            · have hg := Lib.hid (go_.out (drvB_one h))
              rcases h with h | h
              all_goals
                subst h
                go_wp2_with fail
                refine (l1In_v _ 0 6 true (by decide) _).mono ?_
                rintro e w5 ⟨rfl, rfl⟩
                go_wp2_with fail
                refine (l1In_v _ 2 5 false (by decide) _).mono ?_
                rintro e w6 ⟨rfl, rfl⟩
                go_wp2_with fail
                go_roundw
                case rel => exact ⟨k + 1, by omega, by go_num, hg, hEk, hz⟩
                case measure => simp [intOf]; omega
            · subst h
              have hb := drvB_near (t := t) (d := 2) (by omega) (by omega)
              have hn := l9Neighbour_c t ht 2 (by omega) (by omega)
              obtain ⟨n, hnn⟩ : ∃ n, n = nbV t 2 := ⟨_, rfl⟩
              rw [← hnn] at hb hn
              have HN := Lib.hid hn
              clear hn hnn
              go_wp2_with fail
              refine (l1In_v _ 0 6 true (by decide) _).mono ?_
              rintro e w5 ⟨rfl, rfl⟩
              go_wp2_with fail
              refine (l1In_v _ 2 5 true (by decide) _).mono ?_
              rintro e w6 ⟨rfl, rfl⟩
              go_wp2_with fail
              refine (HN.out _).mono ?_
              rintro e w7 ⟨rfl, rfl⟩
              by_cases hneg : n < 0
              · have hf := stop_.out (by rw [hb, decide_eq_false (by omega)])
                subst hf
                clear hb
                go_wp2
                go_ret
                exact ⟨rfl, hEk⟩
              · have hg := Lib.hid (go_.out (by rw [hb, decide_eq_true (by omega)]))
                clear hb
                go_wp2_with fail
                go_roundw
                case rel => exact ⟨k + 1, by omega, by go_num, hg, hEk, hz⟩
                case measure => simp [intOf]; omega
            · subst h
              have hb := drvB_near (t := t) (d := 3) (by omega) (by omega)
              have hn := l9Neighbour_c t ht 3 (by omega) (by omega)
              obtain ⟨n, hnn⟩ : ∃ n, n = nbV t 3 := ⟨_, rfl⟩
              rw [← hnn] at hb hn
              have HN := Lib.hid hn
              clear hn hnn
              go_wp2_with fail
              refine (l1In_v _ 0 6 true (by decide) _).mono ?_
              rintro e w5 ⟨rfl, rfl⟩
              go_wp2_with fail
              refine (l1In_v _ 2 5 true (by decide) _).mono ?_
              rintro e w6 ⟨rfl, rfl⟩
              go_wp2_with fail
              refine (HN.out _).mono ?_
              rintro e w7 ⟨rfl, rfl⟩
              by_cases hneg : n < 0
              · have hf := stop_.out (by rw [hb, decide_eq_false (by omega)])
                subst hf
                clear hb
                go_wp2
                go_ret
                exact ⟨rfl, hEk⟩
              · have hg := Lib.hid (go_.out (by rw [hb, decide_eq_true (by omega)]))
                clear hb
                go_wp2_with fail
                go_roundw
                case rel => exact ⟨k + 1, by omega, by go_num, hg, hEk, hz⟩
                case measure => simp [intOf]; omega
            · subst h
              have hb := drvB_near (t := t) (d := 4) (by omega) (by omega)
              have hn := l9Neighbour_c t ht 4 (by omega) (by omega)
              obtain ⟨n, hnn⟩ : ∃ n, n = nbV t 4 := ⟨_, rfl⟩
              rw [← hnn] at hb hn
              have HN := Lib.hid hn
              clear hn hnn
              go_wp2_with fail
              refine (l1In_v _ 0 6 true (by decide) _).mono ?_
              rintro e w5 ⟨rfl, rfl⟩
              go_wp2_with fail
              refine (l1In_v _ 2 5 true (by decide) _).mono ?_
              rintro e w6 ⟨rfl, rfl⟩
              go_wp2_with fail
              refine (HN.out _).mono ?_
              rintro e w7 ⟨rfl, rfl⟩
              by_cases hneg : n < 0
              · have hf := stop_.out (by rw [hb, decide_eq_false (by omega)])
                subst hf
                clear hb
                go_wp2
                go_ret
                exact ⟨rfl, hEk⟩
              · have hg := Lib.hid (go_.out (by rw [hb, decide_eq_true (by omega)]))
                clear hb
                go_wp2_with fail
                go_roundw
                case rel => exact ⟨k + 1, by omega, by go_num, hg, hEk, hz⟩
                case measure => simp [intOf]; omega
            · subst h
              have hb := drvB_near (t := t) (d := 5) (by omega) (by omega)
              have hn := l9Neighbour_c t ht 5 (by omega) (by omega)
              obtain ⟨n, hnn⟩ : ∃ n, n = nbV t 5 := ⟨_, rfl⟩
              rw [← hnn] at hb hn
              have HN := Lib.hid hn
              clear hn hnn
              go_wp2_with fail
              refine (l1In_v _ 0 6 true (by decide) _).mono ?_
              rintro e w5 ⟨rfl, rfl⟩
              go_wp2_with fail
              refine (l1In_v _ 2 5 true (by decide) _).mono ?_
              rintro e w6 ⟨rfl, rfl⟩
              go_wp2_with fail
              refine (HN.out _).mono ?_
              rintro e w7 ⟨rfl, rfl⟩
              by_cases hneg : n < 0
              · have hf := stop_.out (by rw [hb, decide_eq_false (by omega)])
                subst hf
                clear hb
                go_wp2
                go_ret
                exact ⟨rfl, hEk⟩
              · have hg := Lib.hid (go_.out (by rw [hb, decide_eq_true (by omega)]))
                clear hb
                go_wp2_with fail
                go_roundw
                case rel => exact ⟨k + 1, by omega, by go_num, hg, hEk, hz⟩
                case measure => simp [intOf]; omega
            · subst h
              have hb := drvB_in t
              by_cases ha : t % 5 = 0
              · by_cases hc4 : t / 5 < 4
                · have hg := Lib.hid (go_.out (by rw [hb, decide_eq_true ha, decide_eq_true hc4]; rfl))
                  have e1 : ¬ (0 : Int) < (t : Int) % 5 := by omega
                  have e2 : (t : Int) / 5 < 4 := by omega
                  have e3 : ¬ (4 : Int) ≤ (t : Int) / 5 := by omega
                  clear hb ha hc4
                  go_wp2_with fail
                  refine (l1In_v _ 0 6 true (by decide) _).mono ?_
                  rintro e w5 ⟨rfl, rfl⟩
                  go_wp2_with fail
                  refine (l1In_v _ 2 5 false (by decide) _).mono ?_
                  rintro e w6 ⟨rfl, rfl⟩
                  go_wp2_with fail
                  go_roundw
                  case rel => exact ⟨k + 1, by omega, by go_num, hg, hEk, hz⟩
                  case measure => simp [intOf]; omega
                · have hf := stop_.out (by rw [hb, decide_eq_false hc4, Bool.and_false])
                  subst hf
                  have e1 : ¬ (0 : Int) < (t : Int) % 5 := by omega
                  have e2 : (4 : Int) ≤ (t : Int) / 5 := by omega
                  clear hb ha hc4
                  go_wp2_with fail
                  refine (l1In_v _ 0 6 true (by decide) _).mono ?_
                  rintro e w5 ⟨rfl, rfl⟩
                  go_wp2
                  go_ret
                  exact ⟨rfl, hEk⟩
              · have hf := stop_.out (by rw [hb, decide_eq_false ha, Bool.false_and])
                subst hf
                have e1 : (0 : Int) < (t : Int) % 5 := by omega
                clear hb ha
                go_wp2_with fail
                refine (l1In_v _ 0 6 true (by decide) _).mono ?_
                rintro e w5 ⟨rfl, rfl⟩
                go_wp2
                go_ret
                exact ⟨rfl, hEk⟩
          · have hT : R = true := by
              rw [HR.out]
              exact tileB_true ⟨h1, h2, by omega, by omega, hPall.out, fun j hj => hP.out j (by omega)⟩
            subst hT
            go_wp2
            go_ret
            exact ⟨rfl, hEk⟩
end Go.Proofs.Ytkdiniaddnhkdaa
