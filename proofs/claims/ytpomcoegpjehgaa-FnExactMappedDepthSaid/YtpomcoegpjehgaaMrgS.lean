/- Contract: the reference's union of two ascending lists. -/
import Derived.Test.YtpomcoegpjehgaaNest
import Derived.Test.YtpomcoegpjehgaaCut0
import Derived.Deep.QuietTactic
import Derived.BigQuiet
import Derived.Outline
namespace Go.Proofs.Ytpomcoegpjehgaa
open Go.RowKit
set_option maxRecDepth 100000
set_option linter.unusedVariables false
set_option linter.unusedSimpArgs false
theorem drop_getI (xs : List Int) (k : Nat) (h : k < xs.length) : xs.drop k = xs.getD k 0 :: xs.drop (k + 1) := by
  rw [List.drop_eq_getElem_cons h, List.getD_eq_getElem?_getD, List.getElem?_eq_getElem h]; rfl
set_option maxHeartbeats 1000000 in
theorem l5Merge_c (a b : Option Addr) (ca cb : Nat) (xs ys : List Int) (w : World) (hx : IntsAt w a xs) (hy : IntsAt w b ys) (lx : xs.length ≤ 1000) (ly : ys.length ≤ 1000) :
    Calls Try.prog 105 #[.slice a xs.length ca, .slice b ys.length cb] w (GiveNL w (mrg xs ys)) := by
  obtain ⟨U, hU⟩ : ∃ U, U = mrg xs ys := ⟨_, rfl⟩
  rw [← hU]
  have HU : Hid (U = [] ++ mrg (xs.drop 0) (ys.drop 0)) := Lib.hid (by simpa using hU)
  clear hU
  go_enter Try.func105, Try.ntmps105
  go_wp2_with fail
  go_loopw [5, 6, 7] (fun u5 u6 u7 wr => ∃ (i j : Nat) (out : List Int), i ≤ xs.length ∧ j ≤ ys.length ∧ u6 = .int .i64 i ∧ u7 = .int .i64 j ∧ OwnInts wr w.heap.size 3 u5 out ∧ Hid (U = out ++ mrg (xs.drop i) (ys.drop j)) ∧ out.length ≤ i + j ∧ Ext w wr) (fun _ i j _ => xs.length + ys.length - (intOf i).toNat - (intOf j).toNat)
  case atStart => exact ⟨0, 0, [], Nat.zero_le _, Nat.zero_le _, rfl, rfl, (Blk.new w [] 3).owns (n := 0) rfl (Nat.le_refl _) (by decide), HU, by simp, (Ext.refl w).alloc _⟩
  case round =>
    clear HU
    obtain ⟨i, j, out, hi, hj, rfl, rfl, hO, HI, hol, hE⟩ := hrel
    have hor : wr.ownsRow w.heap.size 3 1 _ out.length (out.map (Value.int .i64)) := hO
    have hsz := hE.size
    have hOb := fun k hk => (own_lo hO k hk).1
    obtain ⟨oa, oc, rfl, _⟩ := hO.opened
    by_cases hlx : i < xs.length
    · obtain ⟨b1, o1, rfl, hb1, hc1⟩ := (hx.ext hE).get (by omega)
      have q1 := hc1 i hlx
      have dx := drop_getI xs i hlx
      obtain ⟨x, hxx⟩ : ∃ x, x = xs.getD i 0 := ⟨_, rfl⟩
      rw [← hxx] at q1 dx
      have DX := Lib.hid dx
      clear hc1 hxx dx
      by_cases hly : j < ys.length
      · obtain ⟨b2, o2, rfl, hb2, hc2⟩ := (hy.ext hE).get (by omega)
        have q2 := hc2 j hly
        have dy := drop_getI ys j hly
        obtain ⟨y, hyy⟩ : ∃ y, y = ys.getD j 0 := ⟨_, rfl⟩
        rw [← hyy] at q2 dy
        have DY := Lib.hid dy
        clear hc2 hyy dy
        by_cases h1 : x < y
        · go_wp2_with fail
          have g1 : ((j : Int) == (ys.length : Int)) = false := by simp; omega
          have g2 : decide ((i : Int) < xs.length) = true := by simp; omega
          have g3 : decide (x < y) = true := by simp; omega
          go_quiet (fail)
          go_wp2_with (at_builtin; refine wpList_app tyInts (ownsRow_ext hor (by (repeat (first | with_reducible assumption | with_reducible exact Ext.refl _ | with_reducible refine Ext.drew' ?_ | with_reducible refine Ext.drewN' ?_ _ | with_reducible refine Ext.alloc ?_ _ | (with_reducible refine Ext.setNew ?_ (by first | exact Nat.le_refl _ | (simp; done) | (simp; omega) | omega) _))))) (RowAt.new _ #[.int .i64 x] _) rfl (by simp [Value.oneCell']) (by omega) (by simp; omega) rfl rfl rfl rfl ?_; intro v9 w9 o9 g9 m9; obtain ⟨a9, c9, rfl, _⟩ := ownsRow_row o9)
          go_roundw
          case rel => exact ⟨i + 1, j, out ++ [x], by omega, by omega, by go_num, by first | rfl | (congr 1; omega), own_app (ys := [x]) rfl rfl o9, Lib.hid (by rw [HI.out, DX.out, DY.out, mrg, if_pos h1]; simp), by simp; omega, ext_grown (hE.trans (by (repeat (first | with_reducible assumption | with_reducible exact Ext.refl _ | with_reducible refine Ext.drew' ?_ | with_reducible refine Ext.drewN' ?_ _ | with_reducible refine Ext.alloc ?_ _ | (with_reducible refine Ext.setNew ?_ (by first | exact Nat.le_refl _ | (simp; done) | (simp; omega) | omega) _))))) g9 hOb⟩
          case measure => simp [intOf]; omega
        · by_cases h2 : y < x
          · go_wp2_with fail
            have g1 : ((j : Int) == (ys.length : Int)) = false := by simp; omega
            have g2 : decide ((i : Int) < xs.length) = true := by simp; omega
            have g3 : decide (x < y) = false := by simp; omega
            go_quiet (fail)
            go_wp2_with fail
            have g4 : ((i : Int) == (xs.length : Int)) = false := by simp; omega
            have g5 : decide (y < x) = true := by simp; omega
            go_quiet (fail)
            go_wp2_with (at_builtin; refine wpList_app tyInts (ownsRow_ext hor (by (repeat (first | with_reducible assumption | with_reducible exact Ext.refl _ | with_reducible refine Ext.drew' ?_ | with_reducible refine Ext.drewN' ?_ _ | with_reducible refine Ext.alloc ?_ _ | (with_reducible refine Ext.setNew ?_ (by first | exact Nat.le_refl _ | (simp; done) | (simp; omega) | omega) _))))) (RowAt.new _ #[.int .i64 y] _) rfl (by simp [Value.oneCell']) (by omega) (by simp; omega) rfl rfl rfl rfl ?_; intro v9 w9 o9 g9 m9; obtain ⟨a9, c9, rfl, _⟩ := ownsRow_row o9)
            go_roundw
            case rel => exact ⟨i, j + 1, out ++ [y], by omega, by omega, by first | rfl | (congr 1; omega), by go_num, own_app (ys := [y]) rfl rfl o9, Lib.hid (by rw [HI.out, DX.out, DY.out, mrg, if_neg (by omega), if_pos h2]; simp), by simp; omega, ext_grown (hE.trans (by (repeat (first | with_reducible assumption | with_reducible exact Ext.refl _ | with_reducible refine Ext.drew' ?_ | with_reducible refine Ext.drewN' ?_ _ | with_reducible refine Ext.alloc ?_ _ | (with_reducible refine Ext.setNew ?_ (by first | exact Nat.le_refl _ | (simp; done) | (simp; omega) | omega) _))))) g9 hOb⟩
            case measure => simp [intOf]; omega
          · go_wp2_with fail
            have g1 : ((j : Int) == (ys.length : Int)) = false := by simp; omega
            have g2 : decide ((i : Int) < xs.length) = true := by simp; omega
            have g3 : decide (x < y) = false := by simp; omega
            go_quiet (fail)
            go_wp2_with fail
            have g4 : ((i : Int) == (xs.length : Int)) = false := by simp; omega
            have g5 : decide (y < x) = false := by simp; omega
            go_quiet (fail)
            go_wp2_with (at_builtin; refine wpList_app tyInts (ownsRow_ext hor (by (repeat (first | with_reducible assumption | with_reducible exact Ext.refl _ | with_reducible refine Ext.drew' ?_ | with_reducible refine Ext.drewN' ?_ _ | with_reducible refine Ext.alloc ?_ _ | (with_reducible refine Ext.setNew ?_ (by first | exact Nat.le_refl _ | (simp; done) | (simp; omega) | omega) _))))) (RowAt.new _ #[.int .i64 x] _) rfl (by simp [Value.oneCell']) (by omega) (by simp; omega) rfl rfl rfl rfl ?_; intro v9 w9 o9 g9 m9; obtain ⟨a9, c9, rfl, _⟩ := ownsRow_row o9)
            go_roundw
            case rel => exact ⟨i + 1, j + 1, out ++ [x], by omega, by omega, by go_num, by go_num, own_app (ys := [x]) rfl rfl o9, Lib.hid (by rw [HI.out, DX.out, DY.out, mrg, if_neg (by omega), if_neg (by omega)]; simp), by simp; omega, ext_grown (hE.trans (by (repeat (first | with_reducible assumption | with_reducible exact Ext.refl _ | with_reducible refine Ext.drew' ?_ | with_reducible refine Ext.drewN' ?_ _ | with_reducible refine Ext.alloc ?_ _ | (with_reducible refine Ext.setNew ?_ (by first | exact Nat.le_refl _ | (simp; done) | (simp; omega) | omega) _))))) g9 hOb⟩
            case measure => simp [intOf]; omega
      · have hjl : j = ys.length := by omega
        go_wp2_with fail
        have g1 : ((j : Int) == (ys.length : Int)) = true := by simp; omega
        go_quiet (fail)
        go_wp2_with (at_builtin; refine wpList_app tyInts (ownsRow_ext hor (by (repeat (first | with_reducible assumption | with_reducible exact Ext.refl _ | with_reducible refine Ext.drew' ?_ | with_reducible refine Ext.drewN' ?_ _ | with_reducible refine Ext.alloc ?_ _ | (with_reducible refine Ext.setNew ?_ (by first | exact Nat.le_refl _ | (simp; done) | (simp; omega) | omega) _))))) (RowAt.new _ #[.int .i64 x] _) rfl (by simp [Value.oneCell']) (by omega) (by simp; omega) rfl rfl rfl rfl ?_; intro v9 w9 o9 g9 m9; obtain ⟨a9, c9, rfl, _⟩ := ownsRow_row o9)
        go_roundw
        case rel => exact ⟨i + 1, j, out ++ [x], by omega, by omega, by go_num, by first | rfl | (congr 1; omega), own_app (ys := [x]) rfl rfl o9, Lib.hid (by rw [HI.out, DX.out, show ys.drop j = [] from List.drop_eq_nil_of_le (by omega), mrg_nil, mrg_nil]; simp), by simp; omega, ext_grown (hE.trans (by (repeat (first | with_reducible assumption | with_reducible exact Ext.refl _ | with_reducible refine Ext.drew' ?_ | with_reducible refine Ext.drewN' ?_ _ | with_reducible refine Ext.alloc ?_ _ | (with_reducible refine Ext.setNew ?_ (by first | exact Nat.le_refl _ | (simp; done) | (simp; omega) | omega) _))))) g9 hOb⟩
        case measure => simp [intOf]; omega
    · have hil : i = xs.length := by omega
      by_cases hly : j < ys.length
      · obtain ⟨b2, o2, rfl, hb2, hc2⟩ := (hy.ext hE).get (by omega)
        have q2 := hc2 j hly
        have dy := drop_getI ys j hly
        obtain ⟨y, hyy⟩ : ∃ y, y = ys.getD j 0 := ⟨_, rfl⟩
        rw [← hyy] at q2 dy
        have DY := Lib.hid dy
        clear hc2 hyy dy
        have HIL := Lib.hid hil
        clear hil
        go_wp2_with fail
        have g1 : ((j : Int) == (ys.length : Int)) = false := by simp; omega
        have g2 : decide ((i : Int) < xs.length) = false := by simp; omega
        go_quiet (fail)
        go_wp2_with fail
        have g4 : ((i : Int) == (xs.length : Int)) = true := by rw [HIL.out]; simp
        go_quiet (fail)
        go_wp2_with (at_builtin; refine wpList_app tyInts (ownsRow_ext hor (by (repeat (first | with_reducible assumption | with_reducible exact Ext.refl _ | with_reducible refine Ext.drew' ?_ | with_reducible refine Ext.drewN' ?_ _ | with_reducible refine Ext.alloc ?_ _ | (with_reducible refine Ext.setNew ?_ (by first | exact Nat.le_refl _ | (simp; done) | (simp; omega) | omega) _))))) (RowAt.new _ #[.int .i64 y] _) rfl (by simp [Value.oneCell']) (by omega) (by simp; omega) rfl rfl rfl rfl ?_; intro v9 w9 o9 g9 m9; obtain ⟨a9, c9, rfl, _⟩ := ownsRow_row o9)
        go_roundw
        case rel => exact ⟨i, j + 1, out ++ [y], by omega, by omega, by first | rfl | (congr 1; omega), by go_num, own_app (ys := [y]) rfl rfl o9, Lib.hid (by rw [HI.out, DY.out, show xs.drop i = [] from List.drop_eq_nil_of_le (by omega), mrg, mrg]; simp), by simp; omega, ext_grown (hE.trans (by (repeat (first | with_reducible assumption | with_reducible exact Ext.refl _ | with_reducible refine Ext.drew' ?_ | with_reducible refine Ext.drewN' ?_ _ | with_reducible refine Ext.alloc ?_ _ | (with_reducible refine Ext.setNew ?_ (by first | exact Nat.le_refl _ | (simp; done) | (simp; omega) | omega) _))))) g9 hOb⟩
        case measure => simp [intOf]; omega
      · have hjl : j = ys.length := by omega
        have e : U = out := by rw [HI.out, hil, hjl, List.drop_length, List.drop_length]; simp [mrg]
        subst e
        clear HI hil hjl
        go_wp2
        go_ret
        exact ⟨_, rfl, hO, hE⟩
end Go.Proofs.Ytpomcoegpjehgaa
