/- Contracts: is a tile's configuration valid, in both libraries. -/
import Derived.Test.YtkdiniaddnhkdaaConfV
import Derived.Test.YtkdiniaddnhkdaaExInt
namespace Go.Proofs.Ytkdiniaddnhkdaa
open Go.RowKit
set_option maxRecDepth 100000
set_option linter.unusedVariables false
set_option linter.unusedSimpArgs false
/-- May source d drive a wire of tile t? -/
def drvB (t : Nat) (d : Int) : Bool := decide (0 ≤ d) && decide (d ≤ 6) && !(decide (2 ≤ d) && decide (d ≤ 5) && decide (nbV t d < 0)) && !(decide (d = 6) && (decide (0 < t % 5) || decide (4 ≤ t / 5)))
structure Tile.Ok (x : Tile) (t : Nat) : Prop where
  t0 : 0 ≤ x.tb
  t1 : x.tb < 256
  ls : x.sl.length = 3
  ld : x.dr.length = 8
  ss : ∀ j, j < 3 → trackB (x.sl.getD j 0) = true
  ds : ∀ j, j < 8 → drvB t (x.dr.getD j 0) = true
open Classical in
noncomputable def tileB (x : Tile) (t : Nat) : Bool := decide (x.Ok t)
theorem tileB_true {x : Tile} {t : Nat} (h : x.Ok t) : tileB x t = true := by unfold tileB; exact @decide_eq_true _ (_) h
theorem tileB_false {x : Tile} {t : Nat} (h : ¬ x.Ok t) : tileB x t = false := by unfold tileB; exact @decide_eq_false _ (_) h
theorem tileB_iff {x : Tile} {t : Nat} : tileB x t = true ↔ x.Ok t := by unfold tileB; exact @decide_eq_true_iff _ (_)
theorem drvB_low {t : Nat} {d : Int} (h : d < 0 ∨ 6 < d) : drvB t d = false := by
  unfold drvB
  rcases h with h | h
  · rw [decide_eq_false (by omega)]; rfl
  · rw [decide_eq_true (p := 0 ≤ d) (by omega), decide_eq_false (p := d ≤ 6) (by omega)]; rfl
theorem drvB_near {t : Nat} {d : Int} (h2 : 2 ≤ d) (h5 : d ≤ 5) : drvB t d = decide (0 ≤ nbV t d) := by
  unfold drvB
  rw [decide_eq_true (p := 0 ≤ d) (by omega), decide_eq_true (p := d ≤ 6) (by omega), decide_eq_true (p := 2 ≤ d) h2, decide_eq_true (p := d ≤ 5) h5, decide_eq_false (p := d = 6) (by omega)]
  by_cases h : nbV t d < 0
  · rw [decide_eq_true h, decide_eq_false (p := 0 ≤ nbV t d) (by omega)]; rfl
  · rw [decide_eq_false h, decide_eq_true (p := 0 ≤ nbV t d) (by omega)]; rfl
theorem drvB_one {t : Nat} {d : Int} (h : d = 0 ∨ d = 1) : drvB t d = true := by
  rcases h with rfl | rfl <;> simp [drvB]
theorem drvB_in (t : Nat) : drvB t 6 = (decide (t % 5 = 0) && decide (t / 5 < 4)) := by
  unfold drvB
  by_cases h1 : t % 5 = 0
  · by_cases h2 : t / 5 < 4
    · simp [h1, h2]
    · simp [h1, h2] <;> omega
  · simp [h1] <;> omega
set_option maxHeartbeats 4000000 in
theorem tileValid_c (x : Tile) (t : Nat) (ht : t < 25) (sa da : Option Addr) (sc dc : Nat) (w : World) (hs : IntsAt w sa x.sl) (hd : IntsAt w da x.dr) (ll : x.sl.length ≤ 1048576) (ld : x.dr.length ≤ 1048576) :
    Calls Try.prog 74 #[.agg #[.int .i64 x.tb, .slice sa x.sl.length sc, .bool x.rg, .slice da x.dr.length dc], .int .i64 t] w fun e w' => e = .returned (.bool (tileB x t)) ∧ Ext w w' := by
  have y := Blk.at w [.int .i64 x.tb, .slice sa x.sl.length sc, .bool x.rg, .slice da x.dr.length dc] 85 rfl
  have hcase : (x.tb < 0) ∨ (0 ≤ x.tb ∧ 256 ≤ x.tb) ∨ (0 ≤ x.tb ∧ x.tb < 256 ∧ ((x.sl.length : Int) != 3) = true) ∨ (0 ≤ x.tb ∧ x.tb < 256 ∧ ((x.sl.length : Int) != 3) = false ∧ ((x.dr.length : Int) != 8) = true) ∨ (0 ≤ x.tb ∧ x.tb < 256 ∧ ((x.sl.length : Int) != 3) = false ∧ ((x.dr.length : Int) != 8) = false) := by
    by_cases h1 : x.tb < 0
    · exact .inl h1
    by_cases h2 : 256 ≤ x.tb
    · exact .inr (.inl ⟨by omega, h2⟩)
    by_cases h3 : x.sl.length = 3
    · by_cases h4 : x.dr.length = 8
      · exact .inr (.inr (.inr (.inr ⟨by omega, by omega, by simp; omega, by simp; omega⟩)))
      · exact .inr (.inr (.inr (.inl ⟨by omega, by omega, by simp; omega, by simp; omega⟩)))
    · exact .inr (.inr (.inl ⟨by omega, by omega, by simp; omega⟩))
  obtain ⟨R, hR⟩ : ∃ R, R = tileB x t := ⟨_, rfl⟩
  rw [← hR]
  have HR := Lib.hid hR
  clear hR
  rcases hcase with h1 | ⟨h1, h2⟩ | ⟨h1, h2, h3⟩ | ⟨h1, h2, h3, h4⟩ | ⟨h1, h2, h3, h4⟩
  · have hf : R = false := by
      rw [HR.out]
      refine tileB_false (fun h => ?_)
      have q1 := h.t0; have q2 := h.t1; have q3 := h.ls; have q4 := h.ld
      first | omega | (simp at h3; omega) | (simp at h4; omega)
    subst hf
    go_enter Try.func74, Try.ntmps74
    go_wp2
    go_ret
    exact ⟨rfl, by (repeat (first | with_reducible assumption | with_reducible exact Ext.refl _ | with_reducible refine Ext.drew' ?_ | with_reducible refine Ext.drewN' ?_ _ | with_reducible refine Ext.alloc ?_ _ | (with_reducible refine Ext.setNew ?_ (by first | exact Nat.le_refl _ | (simp; done) | (simp; omega) | omega) _)))⟩
  · have hf : R = false := by
      rw [HR.out]
      refine tileB_false (fun h => ?_)
      have q1 := h.t0; have q2 := h.t1; have q3 := h.ls; have q4 := h.ld
      first | omega | (simp at h3; omega) | (simp at h4; omega)
    subst hf
    go_enter Try.func74, Try.ntmps74
    go_wp2
    go_ret
    exact ⟨rfl, by (repeat (first | with_reducible assumption | with_reducible exact Ext.refl _ | with_reducible refine Ext.drew' ?_ | with_reducible refine Ext.drewN' ?_ _ | with_reducible refine Ext.alloc ?_ _ | (with_reducible refine Ext.setNew ?_ (by first | exact Nat.le_refl _ | (simp; done) | (simp; omega) | omega) _)))⟩
  · have hf : R = false := by
      rw [HR.out]
      refine tileB_false (fun h => ?_)
      have q1 := h.t0; have q2 := h.t1; have q3 := h.ls; have q4 := h.ld
      first | omega | (simp at h3; omega) | (simp at h4; omega)
    subst hf
    go_enter Try.func74, Try.ntmps74
    go_wp2
    go_ret
    exact ⟨rfl, by (repeat (first | with_reducible assumption | with_reducible exact Ext.refl _ | with_reducible refine Ext.drew' ?_ | with_reducible refine Ext.drewN' ?_ _ | with_reducible refine Ext.alloc ?_ _ | (with_reducible refine Ext.setNew ?_ (by first | exact Nat.le_refl _ | (simp; done) | (simp; omega) | omega) _)))⟩
  · have hf : R = false := by
      rw [HR.out]
      refine tileB_false (fun h => ?_)
      have q1 := h.t0; have q2 := h.t1; have q3 := h.ls; have q4 := h.ld
      first | omega | (simp at h3; omega) | (simp at h4; omega)
    subst hf
    go_enter Try.func74, Try.ntmps74
    go_wp2
    go_ret
    exact ⟨rfl, by (repeat (first | with_reducible assumption | with_reducible exact Ext.refl _ | with_reducible refine Ext.drew' ?_ | with_reducible refine Ext.drewN' ?_ _ | with_reducible refine Ext.alloc ?_ _ | (with_reducible refine Ext.setNew ?_ (by first | exact Nat.le_refl _ | (simp; done) | (simp; omega) | omega) _)))⟩
  · have l3 : x.sl.length ≤ 3 ∧ 3 ≤ x.sl.length := by simp at h3; omega
    have l8 : x.dr.length ≤ 8 ∧ 8 ≤ x.dr.length := by simp at h4; omega
    obtain ⟨l31, l32⟩ := l3
    obtain ⟨l81, l82⟩ := l8
    have Ey : Ext w (w.alloc (.cells #[.int .i64 x.tb, .slice sa x.sl.length sc, .bool x.rg, .slice da x.dr.length dc] 85)) := (Ext.refl w).alloc _
    go_enter Try.func74, Try.ntmps74
    go_wp2_with fail
    go_loopw [33] (fun u wr => ∃ k : Nat, k ≤ x.sl.length ∧ u = .int .i64 k ∧ Hid (∀ j, j < k → trackB (x.sl.getD j 0) = true) ∧ Ext w wr ∧ Blk wr w.heap.size 85 [.int .i64 x.tb, .slice sa x.sl.length sc, .bool x.rg, .slice da x.dr.length dc]) (fun i _ => x.sl.length - (intOf i).toNat)
    case atStart => exact ⟨0, Nat.zero_le _, rfl, Lib.hid (fun j hj => absurd hj (Nat.not_lt_zero j)), Ey, y⟩
    case round =>
      obtain ⟨k, hk, rfl, hP, hE, hy⟩ := hrel
      by_cases hlt : k < x.sl.length
      · obtain ⟨b1, o1, rfl, hb1, hcc⟩ := (hs.ext hE).get (by omega)
        have q1 := hcc k hlt
        obtain ⟨n, hn⟩ : ∃ n, n = x.sl.getD k 0 := ⟨_, rfl⟩
        rw [← hn] at q1
        have HN := Lib.hid hn
        obtain ⟨w2, rfl⟩ : ∃ x : World, x = wr := ⟨_, rfl⟩
        clear hcc hn
        go_wp2_with fail
        refine (isTrack_c n w2).mono ?_
        rintro e w3 ⟨rfl, rfl⟩
        cases hb : trackB n
        · have hf : R = false := by
            rw [HR.out]
            refine tileB_false (fun h => ?_)
            have := h.ss k (by omega)
            rw [← HN.out, hb] at this; cases this
          subst hf
          go_wp2
          go_ret
          exact ⟨rfl, hE⟩
        · go_wp2_with fail
          go_roundw
          case rel =>
            refine ⟨k + 1, by omega, by go_num, Lib.hid (fun j hj => ?_), hE, hy⟩
            rcases Nat.lt_or_ge j k with h | h
            · exact hP.out j h
            · have : j = k := by omega
              subst this; rw [← HN.out]; exact hb
          case measure => simp [intOf]; omega
      · have hPall : Hid (∀ j, j < 3 → trackB (x.sl.getD j 0) = true) := Lib.hid (fun j hj => hP.out j (by omega))
        have y0 := hy.cell (i := 0) rfl
        have y1 := hy.cell (i := 1) rfl
        have y3 := hy.cell (i := 3) rfl
        have yl := hy.lt
        obtain ⟨w2, rfl⟩ : ∃ x : World, x = wr := ⟨_, rfl⟩
        clear hP
        go_wp2_with fail
        refine (neighbours_c t ht _).mono ?_
        rintro e w3 ⟨rfl, hE3⟩
        have hy3 := hy.ext hE3
        clear y0 y1 y3 yl
        have y3 := hy3.cell (i := 3) rfl
        have yl := hy3.lt
        obtain ⟨n2, hn2⟩ : ∃ n, n = nbV t 2 := ⟨_, rfl⟩
        obtain ⟨n3, hn3⟩ : ∃ n, n = nbV t 3 := ⟨_, rfl⟩
        obtain ⟨n4, hn4⟩ : ∃ n, n = nbV t 4 := ⟨_, rfl⟩
        obtain ⟨n5, hn5⟩ : ∃ n, n = nbV t 5 := ⟨_, rfl⟩
        rw [← hn2, ← hn3, ← hn4, ← hn5]
        have H2 := Lib.hid hn2
        have H3 := Lib.hid hn3
        have H4 := Lib.hid hn4
        have H5 := Lib.hid hn5
        have z := Blk.at w3 [.int .i64 n2, .int .i64 n3, .int .i64 n4, .int .i64 n5] 135 rfl
        have Ez : Ext w3 (w3.alloc (.cells #[.int .i64 n2, .int .i64 n3, .int .i64 n4, .int .i64 n5] 135)) := (Ext.refl w3).alloc _
        have hE4 := (hE.trans hE3).trans Ez
        clear hn2 hn3 hn4 hn5
        go_wp2_with fail
        go_loopw [46] (fun u wr => ∃ k : Nat, k ≤ x.dr.length ∧ u = .int .i64 k ∧ Hid (∀ j, j < k → drvB t (x.dr.getD j 0) = true) ∧ Ext w wr ∧ Blk wr w3.heap.size 135 [.int .i64 n2, .int .i64 n3, .int .i64 n4, .int .i64 n5]) (fun i _ => x.dr.length - (intOf i).toNat)
        case atStart => exact ⟨0, Nat.zero_le _, rfl, Lib.hid (fun j hj => absurd hj (Nat.not_lt_zero j)), hE4, z⟩
        case round =>
          obtain ⟨k, hk, rfl, hP, hEk, hz⟩ := hrel
          have z0 := hz.cell (i := 0) rfl
          have z1 := hz.cell (i := 1) rfl
          have z2 := hz.cell (i := 2) rfl
          have z3 := hz.cell (i := 3) rfl
          have zl := hz.lt
          by_cases hlt2 : k < x.dr.length
          · obtain ⟨b1, o1, rfl, hb1, hcc⟩ := (hd.ext hEk).get (by omega)
            have q1 := hcc k hlt2
            obtain ⟨d, hdd⟩ : ∃ n, n = x.dr.getD k 0 := ⟨_, rfl⟩
            rw [← hdd] at q1
            have HD := Lib.hid hdd
            have stop_ : Hid (drvB t d = false → R = false) := Lib.hid (fun hb => by
              rw [HR.out]
              refine tileB_false (fun h => ?_)
              have := h.ds k (by omega)
              rw [← HD.out, hb] at this; cases this)
            have go_ : Hid (drvB t d = true → ∀ j, j < k + 1 → drvB t (x.dr.getD j 0) = true) := Lib.hid (fun hb j hj => by
              rcases Nat.lt_or_ge j k with h | h
              · exact hP.out j h
              · have : j = k := by omega
                subst this; rw [← HD.out]; exact hb)
            obtain ⟨w4, rfl⟩ : ∃ x : World, x = wr := ⟨_, rfl⟩
            have hcd : (d < 0 ∨ 6 < d) ∨ (d = 0 ∨ d = 1) ∨ d = 2 ∨ d = 3 ∨ d = 4 ∨ d = 5 ∨ d = 6 := by omega
            clear hcc hdd hP
            rcases hcd with h | h | h | h | h | h | h
            · have hf := stop_.out (drvB_low h)
              subst hf
              have f0 : (d == 0) = false := by simp; omega
              have f1 : (d == 1) = false := by simp; omega
              have f2 : (d == 2) = false := by simp; omega
              have f3 : (d == 3) = false := by simp; omega
              have f4 : (d == 4) = false := by simp; omega
              have f5 : (d == 5) = false := by simp; omega
              have f6 : (d == 6) = false := by simp; omega
              clear h
              go_wp2
              go_ret
              exact ⟨rfl, hEk⟩
            · have hg := Lib.hid (go_.out (drvB_one h))
              rcases h with h | h
              all_goals
                subst h
                go_wp2_with fail
                go_roundw
                case rel => exact ⟨k + 1, by omega, by go_num, hg, hEk, hz⟩
                case measure => simp [intOf]; omega
            · subst h
              have hb := drvB_near (t := t) (d := 2) (by omega) (by omega)
              rw [← H2.out] at hb
              by_cases hneg : n2 < 0
              · have hf := stop_.out (by rw [hb, decide_eq_false (by omega)])
                subst hf
                clear hb
                go_wp2
                go_ret
                exact ⟨rfl, hEk⟩
              · have hg := Lib.hid (go_.out (by rw [hb, decide_eq_true (by omega)]))
                clear hb
                go_wp2_with fail
                go_roundw
                case rel => exact ⟨k + 1, by omega, by go_num, hg, hEk, hz⟩
                case measure => simp [intOf]; omega
            · subst h
              have hb := drvB_near (t := t) (d := 3) (by omega) (by omega)
              rw [← H3.out] at hb
              by_cases hneg : n3 < 0
              · have hf := stop_.out (by rw [hb, decide_eq_false (by omega)])
                subst hf
                clear hb
                go_wp2
                go_ret
                exact ⟨rfl, hEk⟩
              · have hg := Lib.hid (go_.out (by rw [hb, decide_eq_true (by omega)]))
                clear hb
                go_wp2_with fail
                go_roundw
                case rel => exact ⟨k + 1, by omega, by go_num, hg, hEk, hz⟩
                case measure => simp [intOf]; omega
            · subst h
              have hb := drvB_near (t := t) (d := 4) (by omega) (by omega)
              rw [← H4.out] at hb
              by_cases hneg : n4 < 0
              · have hf := stop_.out (by rw [hb, decide_eq_false (by omega)])
                subst hf
                clear hb
                go_wp2
                go_ret
                exact ⟨rfl, hEk⟩
              · have hg := Lib.hid (go_.out (by rw [hb, decide_eq_true (by omega)]))
                clear hb
                go_wp2_with fail
                go_roundw
                case rel => exact ⟨k + 1, by omega, by go_num, hg, hEk, hz⟩
                case measure => simp [intOf]; omega
            · subst h
              have hb := drvB_near (t := t) (d := 5) (by omega) (by omega)
              rw [← H5.out] at hb
              by_cases hneg : n5 < 0
              · have hf := stop_.out (by rw [hb, decide_eq_false (by omega)])
                subst hf
                clear hb
                go_wp2
                go_ret
                exact ⟨rfl, hEk⟩
              · have hg := Lib.hid (go_.out (by rw [hb, decide_eq_true (by omega)]))
                clear hb
                go_wp2_with fail
                go_roundw
                case rel => exact ⟨k + 1, by omega, by go_num, hg, hEk, hz⟩
                case measure => simp [intOf]; omega
            · subst h
              have hb := drvB_in t
              by_cases ha : t % 5 = 0
              · by_cases hc4 : t / 5 < 4
                · have hg := Lib.hid (go_.out (by rw [hb, decide_eq_true ha, decide_eq_true hc4]; rfl))
                  have e1 : ((t : Int) % 5 != 0) = false := by simp; omega
                  have e2 : (t : Int) / 5 < 4 := by omega
                  have e3 : ¬ (4 : Int) ≤ (t : Int) / 5 := by omega
                  clear hb ha hc4
                  go_wp2_with fail
                  go_roundw
                  case rel => exact ⟨k + 1, by omega, by go_num, hg, hEk, hz⟩
                  case measure => simp [intOf]; omega
                · have hf := stop_.out (by rw [hb, decide_eq_false hc4, Bool.and_false])
                  subst hf
                  have e1 : ((t : Int) % 5 != 0) = false := by simp; omega
                  have e2 : (4 : Int) ≤ (t : Int) / 5 := by omega
                  clear hb ha hc4
                  go_wp2
                  go_ret
                  exact ⟨rfl, hEk⟩
              · have hf := stop_.out (by rw [hb, decide_eq_false ha, Bool.false_and])
                subst hf
                have e1 : ((t : Int) % 5 != 0) = true := by simp; omega
                clear hb ha
                go_wp2
                go_ret
                exact ⟨rfl, hEk⟩
          · have hT : R = true := by
              rw [HR.out]
              exact tileB_true ⟨h1, h2, by omega, by omega, hPall.out, fun j hj => hP.out j (by omega)⟩
            subst hT
            go_wp2
            go_ret
            exact ⟨rfl, hEk⟩
end Go.Proofs.Ytkdiniaddnhkdaa
