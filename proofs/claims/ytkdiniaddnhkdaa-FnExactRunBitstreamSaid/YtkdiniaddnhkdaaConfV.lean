/- Contracts: tracks and neighbours of the fabric, in both libraries. -/
import Derived.Test.YtkdiniaddnhkdaaConf
import Derived.Test.YtkdiniaddnhkdaaSpec1
namespace Go.Proofs.Ytkdiniaddnhkdaa
open Go.RowKit
set_option maxRecDepth 100000
set_option linter.unusedVariables false
set_option linter.unusedSimpArgs false
def trackB (n : Int) : Bool := (decide (0 ≤ n) && decide (n ≤ 7)) || n == 15
/-- The neighbour of a tile in a direction. -/
def nbV (t d : Int) : Int :=
  if d = 2 then (if 5 ≤ t then t - 5 else -1) else if d = 3 then (if 0 < t % 5 then t - 1 else -1) else if d = 4 then (if t % 5 < 4 then t + 1 else -1) else if d = 5 then (if t < 20 then t + 5 else -1) else -1
theorem isTrack_c (n : Int) (w : World) : Calls Try.prog 114 #[.int .i64 n] w fun e w' => e = .returned (.bool (trackB n)) ∧ w = w' := by
  have hcase : n < 0 ∨ (0 ≤ n ∧ n < 8) ∨ (8 ≤ n) := by omega
  have HT : Hid (trackB n = ((decide (0 ≤ n) && decide (n ≤ 7)) || n == 15)) := Lib.hid rfl
  rcases hcase with h | ⟨h, h2⟩ | h
  · have h3 : (n == 15) = false := by simp; omega
    go_enter Try.func114, Try.ntmps114
    go_wp2
    go_ret
    exact ⟨by rw [HT.out, h3, decide_eq_false (by omega)]; rfl, rfl⟩
  · go_enter Try.func114, Try.ntmps114
    go_wp2
    go_ret
    exact ⟨by rw [HT.out, decide_eq_true (by omega), decide_eq_true (by omega)]; rfl, rfl⟩
  · have h0 : 0 ≤ n := by omega
    have h3 : ¬ n < 8 := by omega
    go_enter Try.func114, Try.ntmps114
    go_wp2
    go_ret
    exact ⟨by rw [HT.out, decide_eq_true (by omega), decide_eq_false (by omega)]; rfl, rfl⟩
theorem l9Track_c (n : Int) (w : World) : Calls Try.prog 70 #[.int .i64 n] w fun e w' => e = .returned (.bool (trackB n)) ∧ w = w' := by
  have HT : Hid (trackB n = ((decide (0 ≤ n) && decide (n ≤ 7)) || n == 15)) := Lib.hid rfl
  cases hd : (decide ((0 : Int) ≤ n) && decide (n ≤ 7))
  · have HD := Lib.hid hd
    clear hd
    go_enter Try.func70, Try.ntmps70
    go_wp2_with fail
    refine (l1In_c n 0 7 _).mono ?_
    rw [HD.out]
    rintro e w' ⟨rfl, rfl⟩
    go_wp2
    go_ret
    exact ⟨by rw [HT.out, HD.out]; rfl, rfl⟩
  · have HD := Lib.hid hd
    clear hd
    go_enter Try.func70, Try.ntmps70
    go_wp2_with fail
    refine (l1In_c n 0 7 _).mono ?_
    rw [HD.out]
    rintro e w' ⟨rfl, rfl⟩
    go_wp2
    go_ret
    exact ⟨by rw [HT.out, HD.out]; rfl, rfl⟩
theorem nb_cases (t : Nat) (ht : t < 25) : (5 ≤ (t : Int) ∨ (t : Int) < 5) ∧ (0 < (t : Int) % 5 ∨ (t : Int) % 5 = 0) ∧ ((t : Int) % 5 < 4 ∨ (t : Int) % 5 = 4) ∧ ((t : Int) < 20 ∨ 20 ≤ (t : Int)) := by omega
set_option maxHeartbeats 2000000 in
theorem neighbours_c (t : Nat) (ht : t < 25) (w : World) : Calls Try.prog 115 #[.int .i64 t] w fun e w' => e = .returned (.agg #[.int .i64 (nbV t 2), .int .i64 (nbV t 3), .int .i64 (nbV t 4), .int .i64 (nbV t 5)]) ∧ Ext w w' := by
  obtain ⟨h1, h2, h3, h4⟩ := nb_cases t ht
  have e2 : Hid (nbV t 2 = if 5 ≤ (t : Int) then (t : Int) - 5 else -1) := Lib.hid (by simp [nbV])
  have e3 : Hid (nbV t 3 = if 0 < (t : Int) % 5 then (t : Int) - 1 else -1) := Lib.hid (by simp [nbV])
  have e4 : Hid (nbV t 4 = if (t : Int) % 5 < 4 then (t : Int) + 1 else -1) := Lib.hid (by simp [nbV])
  have e5 : Hid (nbV t 5 = if (t : Int) < 20 then (t : Int) + 5 else -1) := Lib.hid (by simp [nbV])
  obtain ⟨n2, hn2⟩ : ∃ n, n = nbV t 2 := ⟨_, rfl⟩
  obtain ⟨n3, hn3⟩ : ∃ n, n = nbV t 3 := ⟨_, rfl⟩
  obtain ⟨n4, hn4⟩ : ∃ n, n = nbV t 4 := ⟨_, rfl⟩
  obtain ⟨n5, hn5⟩ : ∃ n, n = nbV t 5 := ⟨_, rfl⟩
  rw [← hn2] at e2
  rw [← hn3] at e3
  rw [← hn4] at e4
  rw [← hn5] at e5
  rw [← hn2, ← hn3, ← hn4, ← hn5]
  clear hn2 hn3 hn4 hn5
  rcases h1 with h1 | h1 <;> rcases h2 with h2 | h2 <;> rcases h3 with h3 | h3 <;> rcases h4 with h4 | h4
  all_goals
    first
    | (exfalso; omega)
    | (go_enter Try.func115, Try.ntmps115
       go_wp2
       refine bodyPost_ret (v := .agg #[.int .i64 n2, .int .i64 n3, .int .i64 n4, .int .i64 n5]) (by rw [e2.out, e3.out, e4.out, e5.out]; simp [results, Try.results115, go_sem, *] <;> omega) rfl ?_
       exact ⟨rfl, by (repeat (first | with_reducible assumption | with_reducible exact Ext.refl _ | with_reducible refine Ext.drew' ?_ | with_reducible refine Ext.drewN' ?_ _ | with_reducible refine Ext.alloc ?_ _ | (with_reducible refine Ext.setNew ?_ (by first | exact Nat.le_refl _ | (simp; done) | (simp; omega) | omega) _)))⟩)
theorem l9Neighbour_c (t : Nat) (ht : t < 25) (d : Int) (h2 : 2 ≤ d) (h5 : d ≤ 5) (w : World) : Calls Try.prog 111 #[.int .i64 t, .int .i64 d] w fun e w' => e = .returned (.int .i64 (nbV t d)) ∧ w = w' := by
  obtain ⟨g1, g2, g3, g4⟩ := nb_cases t ht
  have hd : d = 2 ∨ d = 3 ∨ d = 4 ∨ d = 5 := by omega
  rcases hd with rfl | rfl | rfl | rfl
  · have e : Hid (nbV t 2 = if 5 ≤ (t : Int) then (t : Int) - 5 else -1) := Lib.hid (by simp [nbV])
    clear g2 g3 g4
    rcases g1 with g | g
    all_goals
      go_enter Try.func111, Try.ntmps111
      go_wp2
      go_ret
      refine ⟨?_, rfl⟩
      rw [e.out]
      first | (rw [if_pos (by omega)]; rfl) | (rw [if_neg (by omega)]; rfl)
  · have e : Hid (nbV t 3 = if 0 < (t : Int) % 5 then (t : Int) - 1 else -1) := Lib.hid (by simp [nbV])
    clear g1 g3 g4
    rcases g2 with g | g
    all_goals
      go_enter Try.func111, Try.ntmps111
      go_wp2
      go_ret
      refine ⟨?_, rfl⟩
      rw [e.out]
      first | (rw [if_pos (by omega)]; rfl) | (rw [if_neg (by omega)]; rfl)
  · have e : Hid (nbV t 4 = if (t : Int) % 5 < 4 then (t : Int) + 1 else -1) := Lib.hid (by simp [nbV])
    clear g1 g2 g4
    rcases g3 with g | g
    all_goals
      go_enter Try.func111, Try.ntmps111
      go_wp2
      go_ret
      refine ⟨?_, rfl⟩
      rw [e.out]
      first | (rw [if_pos (by omega)]; rfl) | (rw [if_neg (by omega)]; rfl)
  · have e : Hid (nbV t 5 = if (t : Int) < 20 then (t : Int) + 5 else -1) := Lib.hid (by simp [nbV])
    clear g1 g2 g3
    rcases g4 with g | g
    all_goals
      go_enter Try.func111, Try.ntmps111
      go_wp2
      go_ret
      refine ⟨?_, rfl⟩
      rw [e.out]
      first | (rw [if_pos (by omega)]; rfl) | (rw [if_neg (by omega)]; rfl)
end Go.Proofs.Ytkdiniaddnhkdaa
