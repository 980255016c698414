/- Contract: whether the reference's list of cuts holds a cut. -/
import Derived.Test.YtpomcoegpjehgaaMrgS
namespace Go.Proofs.Ytpomcoegpjehgaa
open Go.RowKit
set_option maxRecDepth 100000
set_option linter.unusedVariables false
set_option linter.unusedSimpArgs false
theorem eq_getN0 {xs ys : List Int} (hl : xs.length = ys.length) (h : ∀ j, j < ys.length → xs.getD j 0 = ys.getD j 0) : xs = ys := by
  refine List.ext_getElem hl (fun j h1 h2 => ?_)
  have := h j h2
  rwa [List.getD_eq_getElem?_getD, List.getD_eq_getElem?_getD, List.getElem?_eq_getElem h1, List.getElem?_eq_getElem h2] at this
theorem mem_getN {α : Type} {xs : List α} {x d : α} (h : x ∈ xs) : ∃ j, j < xs.length ∧ xs.getD j d = x := by
  obtain ⟨j, hj, rfl⟩ := List.mem_iff_getElem.1 h
  exact ⟨j, hj, by rw [List.getD_eq_getElem?_getD, List.getElem?_eq_getElem hj]; rfl⟩
theorem getN_mem {α : Type} {xs : List α} {d : α} {j : Nat} (hj : j < xs.length) : xs.getD j d ∈ xs := by
  rw [List.getD_eq_getElem?_getD, List.getElem?_eq_getElem hj]; exact List.getElem_mem hj
set_option maxHeartbeats 1000000 in
theorem l5Has_c (oa a : Option Addr) (oc ca : Nat) (out : List (List Int)) (F : List Nat) (cut : List Int) (w : World) (ho : NstI w (.slice oa out.length oc) out F) (hx : IntsAt w a cut) (lo : out.length ≤ 1000) (lx : cut.length ≤ 1000) (le : ∀ x ∈ out, x.length ≤ 1000) :
    Calls Try.prog 106 #[.slice oa out.length oc, .slice a cut.length ca] w fun e w' => e = .returned (.bool (decide (cut ∈ out))) ∧ Ext w w' := by
  have LE := Lib.hid le
  clear le
  obtain ⟨R, hR⟩ : ∃ R, R = decide (cut ∈ out) := ⟨_, rfl⟩
  rw [← hR]
  have HR := Lib.hid hR
  clear hR
  go_enter Try.func106, Try.ntmps106
  go_wp2_with fail
  go_loopw [5] (fun u5 wr => ∃ i : Nat, i ≤ out.length ∧ u5 = .int .i64 i ∧ Hid (∀ j, j < i → out.getD j [] ≠ cut) ∧ Ext w wr) (fun i _ => out.length - (intOf i).toNat)
  case atStart => exact ⟨0, Nat.zero_le _, rfl, Lib.hid (fun j hj => absurd hj (Nat.not_lt_zero j)), Ext.refl w⟩
  case round =>
    obtain ⟨i, hi, rfl, HP, hE⟩ := hrel
    by_cases hlt : i < out.length
    · obtain ⟨g, rfl, hgl, hg⟩ := NstI.get (Nst.ext goodInts ho hE) (by omega)
      obtain ⟨aj, cj, q, hA⟩ := hg i hlt
      have ly := LE.out _ (getN_mem (d := []) hlt)
      obtain ⟨y, hyy⟩ : ∃ y, y = out.getD i [] := ⟨_, rfl⟩
      rw [← hyy] at q hA ly
      have HY := Lib.hid hyy
      have hX := hx.ext hE
      have LY := Lib.hid ly
      clear hg hyy
      obtain ⟨w1, rfl⟩ : ∃ x : World, x = wr := ⟨_, rfl⟩
      by_cases hll : y.length = cut.length
      · have hHL := Lib.hid hll
        have hl2 : ((y.length : Int) == (cut.length : Int)) = true := by rw [hll]; simp
        clear hll
        go_wp2_with fail
        go_loopw [6, 7] (fun u6 u7 wq => ∃ (k : Nat) (s : Bool), k ≤ cut.length ∧ u7 = .int .i64 k ∧ u6 = .bool s ∧ Hid (s = true → ∀ j, j < k → y.getD j 0 = cut.getD j 0) ∧ Hid (s = false → y ≠ cut) ∧ Ext w1 wq) (fun _ k _ => cut.length - (intOf k).toNat)
        case atStart => exact ⟨0, true, Nat.zero_le _, rfl, by first | rfl | rw [hl2], Lib.hid (fun _ j hj => absurd hj (Nat.not_lt_zero j)), Lib.hid (fun h => by cases h), Ext.refl _⟩
        case round =>
          obtain ⟨k, s, hk, rfl, rfl, H1, H2, hE2⟩ := hrel
          cases s
          · go_wp2
            go_roundw
            case rel =>
              refine ⟨i + 1, by omega, by go_num, Lib.hid (fun j hj => ?_), hE.trans (by (repeat (first | with_reducible assumption | with_reducible exact Ext.refl _ | with_reducible refine Ext.drew' ?_ | with_reducible refine Ext.drewN' ?_ _ | with_reducible refine Ext.alloc ?_ _ | (with_reducible refine Ext.setNew ?_ (by first | exact Nat.le_refl _ | (simp; done) | (simp; omega) | omega) _))))⟩
              rcases Nat.lt_or_ge j i with h | h
              · exact HP.out j h
              · have : j = i := by omega
                subst this
                rw [← HY.out]; exact H2.out rfl
            case measure => simp [intOf]; omega
          · by_cases hkl : k < cut.length
            · obtain ⟨b1, o1, rfl, hb1, hc1⟩ := (hA.ext hE2).get (by rw [hHL.out]; omega)
              obtain ⟨b2, o2, rfl, hb2, hc2⟩ := (hX.ext hE2).get (by omega)
              have q1 := hc1 k (by rw [hHL.out]; omega)
              have q2 := hc2 k hkl
              have q3 := (ecell hE2).1 g i hgl
              rw [q] at q3
              have hky : k < y.length := by rw [hHL.out]; exact hkl
              obtain ⟨x, hxx⟩ : ∃ x, x = y.getD k 0 := ⟨_, rfl⟩
              obtain ⟨z, hzz⟩ : ∃ z, z = cut.getD k 0 := ⟨_, rfl⟩
              rw [← hxx] at q1
              rw [← hzz] at q2
              have HX := Lib.hid hxx
              have HZ := Lib.hid hzz
              clear hc1 hc2 hxx hzz
              go_wp2_with fail
              go_quiet (fail)
              go_wp2_with fail
              go_roundw
              case rel =>
                refine ⟨k + 1, x == z, by omega, by go_num, by first | rfl | simp, Lib.hid (fun h j hj => ?_), Lib.hid (fun h e => ?_), by (repeat (first | with_reducible assumption | with_reducible exact Ext.refl _ | with_reducible refine Ext.drew' ?_ | with_reducible refine Ext.drewN' ?_ _ | with_reducible refine Ext.alloc ?_ _ | (with_reducible refine Ext.setNew ?_ (by first | exact Nat.le_refl _ | (simp; done) | (simp; omega) | omega) _)))⟩
                · rcases Nat.lt_or_ge j k with h3 | h3
                  · exact H1.out (by first | rfl | trivial) j h3
                  · have : j = k := by omega
                    subst this
                    rw [← HX.out, ← HZ.out]; simpa using h
                · rw [HX.out, HZ.out, e] at h; simp at h
              case measure => simp [intOf]; omega
            · have hkk : k = cut.length := by omega
              have e : y = cut := eq_getN0 hHL.out (fun j hj => H1.out (by first | rfl | trivial) j (by omega))
              have hRR : R = true := by rw [HR.out]; simp; rw [← e, HY.out]; exact getN_mem hlt
              subst hRR
              clear hkk e
              go_wp2
              go_ret
              exact ⟨rfl, hE.trans (by (repeat (first | with_reducible assumption | with_reducible exact Ext.refl _ | with_reducible refine Ext.drew' ?_ | with_reducible refine Ext.drewN' ?_ _ | with_reducible refine Ext.alloc ?_ _ | (with_reducible refine Ext.setNew ?_ (by first | exact Nat.le_refl _ | (simp; done) | (simp; omega) | omega) _))))⟩
      · have hl2 : ((y.length : Int) == (cut.length : Int)) = false := by simp; omega
        have HLL := Lib.hid hll
        clear hll
        go_wp2_with fail
        go_loopw [6, 7] (fun u6 u7 wq => u7 = .int .i64 0 ∧ u6 = .bool false ∧ Ext w1 wq) (fun _ k _ => 0)
        case atStart => exact ⟨rfl, by first | rfl | rw [hl2], Ext.refl _⟩
        case round =>
          obtain ⟨rfl, rfl, hE2⟩ := hrel
          go_wp2
          go_roundw
          case rel =>
            refine ⟨i + 1, by omega, by go_num, Lib.hid (fun j hj e => ?_), hE.trans (by (repeat (first | with_reducible assumption | with_reducible exact Ext.refl _ | with_reducible refine Ext.drew' ?_ | with_reducible refine Ext.drewN' ?_ _ | with_reducible refine Ext.alloc ?_ _ | (with_reducible refine Ext.setNew ?_ (by first | exact Nat.le_refl _ | (simp; done) | (simp; omega) | omega) _))))⟩
            rcases Nat.lt_or_ge j i with h | h
            · exact HP.out j h e
            · have : j = i := by omega
              subst this
              rw [← HY.out] at e
              exact HLL.out (by rw [e])
          case measure => simp [intOf]; omega
    · have hRR : R = false := by
        rw [HR.out]
        simp
        intro hm
        obtain ⟨j, hj, e⟩ := mem_getN (d := []) hm
        exact HP.out j (by omega) e
      subst hRR
      go_wp2
      go_ret
      exact ⟨rfl, hE⟩
end Go.Proofs.Ytpomcoegpjehgaa
