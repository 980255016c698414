/- Contracts: ConfigValid of both libraries. -/
import Derived.Test.YtkdiniaddnhkdaaConfT
import Derived.Test.YtkdiniaddnhkdaaConfWS
namespace Go.Proofs.Ytkdiniaddnhkdaa
open Go.RowKit
set_option maxRecDepth 100000
set_option linter.unusedVariables false
set_option linter.unusedSimpArgs false
structure Conf.Ok (k : Conf) : Prop where
  lt : k.ts.length = 25
  lp : k.ps.length = 3
  ts : ∀ j, j < 25 → tileB (k.ts.getD j tile0) j = true
  ps : ∀ j, j < 3 → trackB (k.ps.getD j (0, false)).1 = true
open Classical in
noncomputable def confB (k : Conf) : Bool := decide k.Ok
theorem confB_true {k : Conf} (h : k.Ok) : confB k = true := by unfold confB; exact @decide_eq_true _ (_) h
theorem confB_false {k : Conf} (h : ¬ k.Ok) : confB k = false := by unfold confB; exact @decide_eq_false _ (_) h
theorem confB_iff {k : Conf} : confB k = true ↔ k.Ok := by unfold confB; exact @decide_eq_true_iff _ (_)
def padsB (ps : List (Int × Bool)) : Bool := ps.all (fun p => trackB p.1) && ps.length == 3
set_option maxHeartbeats 1000000 in
theorem padsValid_c (a : Option Addr) (c : Nat) (ps : List (Int × Bool)) (w : World) (hp : PadsAt w a ps) (hl : ps.length ≤ 1048576) :
    Calls Try.prog 73 #[.slice a ps.length c] w fun e w' => e = .returned (.bool (padsB ps)) ∧ Ext w w' := by
  obtain ⟨R, hR⟩ : ∃ R, R = padsB ps := ⟨_, rfl⟩
  rw [← hR]
  have HR := Lib.hid hR
  clear hR
  go_enter Try.func73, Try.ntmps73
  go_wp2_with fail
  go_loopw [7] (fun u wr => ∃ k : Nat, k ≤ ps.length ∧ u = .int .i64 k ∧ Hid (∀ j, j < k → trackB (ps.getD j (0, false)).1 = true) ∧ Ext w wr) (fun i _ => ps.length - (intOf i).toNat)
  case atStart => exact ⟨0, Nat.zero_le _, rfl, Lib.hid (fun j hj => absurd hj (Nat.not_lt_zero j)), Ext.refl _⟩
  case round =>
    obtain ⟨k, hk, rfl, hP, hE⟩ := hrel
    by_cases hlt : k < ps.length
    · obtain ⟨b, o, rfl, hb, hcc⟩ := (hp.ext hE).get (by omega)
      obtain ⟨q0, q1⟩ := hcc k hlt
      have hm : ps.getD k (0, false) ∈ ps := by rw [List.getD_eq_getElem?_getD, List.getElem?_eq_getElem hlt]; exact List.getElem_mem hlt
      obtain ⟨x, hx⟩ : ∃ x, x = ps.getD k (0, false) := ⟨_, rfl⟩
      rw [← hx] at q0 q1 hm
      obtain ⟨n, v⟩ := x
      dsimp only at q0 q1
      have HX := Lib.hid hx
      have HM := Lib.hid hm
      obtain ⟨w2, rfl⟩ : ∃ x : World, x = wr := ⟨_, rfl⟩
      clear hcc hx hm
      go_wp2_with fail
      refine (isTrack_c n _).mono ?_
      rintro e w3 ⟨rfl, rfl⟩
      cases hb : trackB n
      · have hf : R = false := by
          rw [HR.out]
          unfold padsB
          have : ps.all (fun p => trackB p.1) = false := by
            rw [List.all_eq_false]
            exact ⟨_, HM.out, by simp [hb]⟩
          rw [this]; rfl
        subst hf
        go_wp2
        go_ret
        exact ⟨rfl, hE.trans (by (repeat (first | with_reducible assumption | with_reducible exact Ext.refl _ | with_reducible refine Ext.drew' ?_ | with_reducible refine Ext.drewN' ?_ _ | with_reducible refine Ext.alloc ?_ _ | (with_reducible refine Ext.setNew ?_ (by first | exact Nat.le_refl _ | (simp; done) | (simp; omega) | omega) _))))⟩
      · go_wp2_with fail
        go_roundw
        case rel =>
          refine ⟨k + 1, by omega, by go_num, Lib.hid (fun j hj => ?_), hE.trans (by (repeat (first | with_reducible assumption | with_reducible exact Ext.refl _ | with_reducible refine Ext.drew' ?_ | with_reducible refine Ext.drewN' ?_ _ | with_reducible refine Ext.alloc ?_ _ | (with_reducible refine Ext.setNew ?_ (by first | exact Nat.le_refl _ | (simp; done) | (simp; omega) | omega) _))))⟩
          rcases Nat.lt_or_ge j k with h | h
          · exact hP.out j h
          · have : j = k := by omega
            subst this; rw [← HX.out]; exact hb
        case measure => simp [intOf]; omega
    · have hall : ps.all (fun p => trackB p.1) = true := by
        rw [List.all_eq_true]
        intro x hx
        obtain ⟨j, hj, rfl⟩ := List.mem_iff_getElem.1 hx
        have := hP.out j (by omega)
        rwa [List.getD_eq_getElem?_getD, List.getElem?_eq_getElem hj] at this
      have hf : R = (ps.length == 3) := by rw [HR.out]; unfold padsB; rw [hall]; rfl
      have HF := Lib.hid hf
      have e3 : ((ps.length : Int) == 3) = (ps.length == 3) := by
        rw [Bool.eq_iff_iff]; simp only [beq_iff_eq]; omega
      have HE3 := Lib.hid e3
      clear hf hall e3
      go_wp2
      go_ret
      exact ⟨by rw [HF.out, ← HE3.out]; rfl, hE⟩
theorem padsB_iff {ps : List (Int × Bool)} : padsB ps = true ↔ ps.length = 3 ∧ ∀ j, j < 3 → trackB (ps.getD j (0, false)).1 = true := by
  unfold padsB
  rw [Bool.and_eq_true, List.all_eq_true, beq_iff_eq]
  constructor
  · rintro ⟨h1, h2⟩
    refine ⟨h2, fun j hj => ?_⟩
    have hj2 : j < ps.length := by omega
    rw [List.getD_eq_getElem?_getD, List.getElem?_eq_getElem hj2]
    exact h1 _ (List.getElem_mem hj2)
  · rintro ⟨h1, h2⟩
    refine ⟨fun x hx => ?_, h1⟩
    obtain ⟨j, hj, rfl⟩ := List.mem_iff_getElem.1 hx
    have := h2 j (by omega)
    rwa [List.getD_eq_getElem?_getD, List.getElem?_eq_getElem hj] at this
set_option maxHeartbeats 2000000 in
theorem implConfigValid_c (k : Conf) (ta pa : Option Addr) (tc pc : Nat) (w : World) (hk : ConfAt w k ta pa) :
    Calls Try.prog 20 #[.agg #[.slice ta k.ts.length tc, .slice pa k.ps.length pc]] w fun e w' => e = .returned (.bool (confB k)) ∧ Ext w w' := by
  have y := Blk.at w [.slice ta k.ts.length tc, .slice pa k.ps.length pc] 25 rfl
  have Ey : Ext w (w.alloc (.cells #[.slice ta k.ts.length tc, .slice pa k.ps.length pc] 25)) := (Ext.refl w).alloc _
  have lt := hk.lt
  have lp := hk.lp
  have HLS := Lib.hid hk.ls
  have hts := hk.ts
  have hps := hk.ps
  obtain ⟨R, hR⟩ : ∃ R, R = confB k := ⟨_, rfl⟩
  rw [← hR]
  have HR := Lib.hid hR
  clear hR hk
  cases h25 : ((k.ts.length : Int) != 25)
  · have l25 : k.ts.length ≤ 25 ∧ 25 ≤ k.ts.length := by simp at h25; omega
    obtain ⟨l251, l252⟩ := l25
    have HPI := Lib.hid (padsB_iff (ps := k.ps))
    go_enter Try.func20, Try.ntmps20
    go_wp2_with fail
    refine (padsValid_c pa pc k.ps _ (hps.ext Ey) lp).mono ?_
    obtain ⟨pb, hpb⟩ : ∃ b, b = padsB k.ps := ⟨_, rfl⟩
    rw [← hpb] at HPI ⊢
    clear hpb
    rintro e w1 ⟨rfl, hE1⟩
    have y1 := y.ext hE1
    have E1 := Ey.trans hE1
    cases pb
    · have hf : R = false := by
        rw [HR.out]
        refine confB_false (fun h => ?_)
        have := HPI.out.2 ⟨h.lp, h.ps⟩
        simp at this
      subst hf
      go_wp2
      go_ret
      exact ⟨rfl, E1⟩
    · have HP := Lib.hid (HPI.out.1 (by first | rfl | trivial))
      have c0 := y1.cell (i := 0) rfl
      have cl := y1.lt
      clear HPI
      go_wp2_with fail
      go_loopw [18] (fun u wr => ∃ j : Nat, j ≤ k.ts.length ∧ u = .int .i64 j ∧ Hid (∀ i, i < j → tileB (k.ts.getD i tile0) i = true) ∧ Ext w wr) (fun i _ => k.ts.length - (intOf i).toNat)
      case atStart => exact ⟨0, Nat.zero_le _, rfl, Lib.hid (fun j hj => absurd hj (Nat.not_lt_zero j)), E1⟩
      case round =>
        obtain ⟨j, hj, rfl, hP, hE⟩ := hrel
        by_cases hlt : j < k.ts.length
        · obtain ⟨b, o, rfl, hb, hcc⟩ := (hts.ext hE).get (by omega)
          obtain ⟨s1, s2⟩ := HLS.out j hlt
          obtain ⟨sa, sc, da, dc, q0, q1, q2, q3, hsl, hdr⟩ := hcc j hlt
          obtain ⟨x, hx⟩ : ∃ x, x = k.ts.getD j tile0 := ⟨_, rfl⟩
          rw [← hx] at q0 q1 q2 q3 hsl hdr s1 s2
          have HX := Lib.hid hx
          obtain ⟨w2, rfl⟩ : ∃ x : World, x = wr := ⟨_, rfl⟩
          clear hcc hx
          go_wp2_with fail
          refine (tileValid_c x j (by omega) sa da sc dc _ (hsl.ext (by (repeat (first | with_reducible assumption | with_reducible exact Ext.refl _ | with_reducible refine Ext.drew' ?_ | with_reducible refine Ext.drewN' ?_ _ | with_reducible refine Ext.alloc ?_ _ | (with_reducible refine Ext.setNew ?_ (by first | exact Nat.le_refl _ | (simp; done) | (simp; omega) | omega) _))))) (hdr.ext (by (repeat (first | with_reducible assumption | with_reducible exact Ext.refl _ | with_reducible refine Ext.drew' ?_ | with_reducible refine Ext.drewN' ?_ _ | with_reducible refine Ext.alloc ?_ _ | (with_reducible refine Ext.setNew ?_ (by first | exact Nat.le_refl _ | (simp; done) | (simp; omega) | omega) _))))) s1 s2).mono ?_
          rintro e w3 ⟨rfl, hE3⟩
          have F3 := Ext.trans (a := w2) (by (repeat (first | with_reducible assumption | with_reducible exact Ext.refl _ | with_reducible refine Ext.drew' ?_ | with_reducible refine Ext.drewN' ?_ _ | with_reducible refine Ext.alloc ?_ _ | (with_reducible refine Ext.setNew ?_ (by first | exact Nat.le_refl _ | (simp; done) | (simp; omega) | omega) _)))) hE3
          cases hb : tileB x j
          · have hf : R = false := by
              rw [HR.out]
              refine confB_false (fun h => ?_)
              have := h.ts j (by omega)
              rw [← HX.out, hb] at this; cases this
            subst hf
            go_wp2
            go_ret
            exact ⟨rfl, hE.trans F3⟩
          · go_wp2_with fail
            go_roundw
            case rel =>
              refine ⟨j + 1, by omega, by go_num, Lib.hid (fun i hi => ?_), hE.trans F3⟩
              rcases Nat.lt_or_ge i j with h | h
              · exact hP.out i h
              · have : i = j := by omega
                subst this; rw [← HX.out]; exact hb
            case measure => simp [intOf]; omega
        · have hT : R = true := by
            rw [HR.out]
            exact confB_true ⟨by omega, HP.out.1, fun i hi => hP.out i (by omega), HP.out.2⟩
          subst hT
          go_wp2
          go_ret
          exact ⟨rfl, hE⟩
  · have hf : R = false := by
      rw [HR.out]
      refine confB_false (fun h => ?_)
      have := h.lt
      simp at h25; omega
    subst hf
    go_enter Try.func20, Try.ntmps20
    go_wp2
    go_ret
    exact ⟨rfl, by (repeat (first | with_reducible assumption | with_reducible exact Ext.refl _ | with_reducible refine Ext.drew' ?_ | with_reducible refine Ext.drewN' ?_ _ | with_reducible refine Ext.alloc ?_ _ | (with_reducible refine Ext.setNew ?_ (by first | exact Nat.le_refl _ | (simp; done) | (simp; omega) | omega) _)))⟩
set_option maxHeartbeats 2000000 in
theorem specConfigValid_c (k : Conf) (ta pa : Option Addr) (tc pc : Nat) (w : World) (hk : ConfAt w k ta pa) :
    Calls Try.prog 18 #[.agg #[.slice ta k.ts.length tc, .slice pa k.ps.length pc]] w fun e w' => e = .returned (.bool (confB k)) ∧ Ext w w' := by
  have y := Blk.at w [.slice ta k.ts.length tc, .slice pa k.ps.length pc] 25 rfl
  have Ey : Ext w (w.alloc (.cells #[.slice ta k.ts.length tc, .slice pa k.ps.length pc] 25)) := (Ext.refl w).alloc _
  have lt := hk.lt
  have lp := hk.lp
  have HLS := Lib.hid hk.ls
  have hts := hk.ts
  have hps := hk.ps
  obtain ⟨R, hR⟩ : ∃ R, R = confB k := ⟨_, rfl⟩
  rw [← hR]
  have HR := Lib.hid hR
  clear hR hk
  cases h25 : ((k.ts.length : Int) != 25)
  · have l25 : k.ts.length ≤ 25 ∧ 25 ≤ k.ts.length := by simp at h25; omega
    obtain ⟨l251, l252⟩ := l25
    cases h3 : ((k.ps.length : Int) != 3)
    · have l3 : k.ps.length ≤ 3 ∧ 3 ≤ k.ps.length := by simp at h3; omega
      obtain ⟨l31, l32⟩ := l3
      go_enter Try.func18, Try.ntmps18
      go_wp2_with fail
      go_loopw [3] (fun u wr => ∃ j : Nat, j ≤ k.ts.length ∧ u = .int .i64 j ∧ Hid (∀ i, i < j → tileB (k.ts.getD i tile0) i = true) ∧ Ext w wr ∧ Blk wr w.heap.size 25 [.slice ta k.ts.length tc, .slice pa k.ps.length pc]) (fun i _ => k.ts.length - (intOf i).toNat)
      case atStart => exact ⟨0, Nat.zero_le _, rfl, Lib.hid (fun j hj => absurd hj (Nat.not_lt_zero j)), Ey, y⟩
      case round =>
        obtain ⟨j, hj, rfl, hP, hE, hy⟩ := hrel
        have c0 := hy.cell (i := 0) rfl
        have c1 := hy.cell (i := 1) rfl
        have cl := hy.lt
        by_cases hlt : j < k.ts.length
        · obtain ⟨b, o, rfl, hb, hcc⟩ := (hts.ext hE).get (by omega)
          obtain ⟨s1, s2⟩ := HLS.out j hlt
          obtain ⟨sa, sc, da, dc, q0, q1, q2, q3, hsl, hdr⟩ := hcc j hlt
          obtain ⟨x, hx⟩ : ∃ x, x = k.ts.getD j tile0 := ⟨_, rfl⟩
          rw [← hx] at q0 q1 q2 q3 hsl hdr s1 s2
          have HX := Lib.hid hx
          obtain ⟨w2, rfl⟩ : ∃ x : World, x = wr := ⟨_, rfl⟩
          clear hcc hx
          go_wp2_with fail
          refine (l9Tile_c x j (by omega) sa da sc dc _ (hsl.ext (by (repeat (first | with_reducible assumption | with_reducible exact Ext.refl _ | with_reducible refine Ext.drew' ?_ | with_reducible refine Ext.drewN' ?_ _ | with_reducible refine Ext.alloc ?_ _ | (with_reducible refine Ext.setNew ?_ (by first | exact Nat.le_refl _ | (simp; done) | (simp; omega) | omega) _))))) (hdr.ext (by (repeat (first | with_reducible assumption | with_reducible exact Ext.refl _ | with_reducible refine Ext.drew' ?_ | with_reducible refine Ext.drewN' ?_ _ | with_reducible refine Ext.alloc ?_ _ | (with_reducible refine Ext.setNew ?_ (by first | exact Nat.le_refl _ | (simp; done) | (simp; omega) | omega) _))))) s1 s2).mono ?_
          rintro e w3 ⟨rfl, hE3⟩
          have F3 := Ext.trans (a := w2) (by (repeat (first | with_reducible assumption | with_reducible exact Ext.refl _ | with_reducible refine Ext.drew' ?_ | with_reducible refine Ext.drewN' ?_ _ | with_reducible refine Ext.alloc ?_ _ | (with_reducible refine Ext.setNew ?_ (by first | exact Nat.le_refl _ | (simp; done) | (simp; omega) | omega) _)))) hE3
          cases hb : tileB x j
          · have hf : R = false := by
              rw [HR.out]
              refine confB_false (fun h => ?_)
              have := h.ts j (by omega)
              rw [← HX.out, hb] at this; cases this
            subst hf
            go_wp2
            go_ret
            exact ⟨rfl, hE.trans F3⟩
          · go_wp2_with fail
            go_roundw
            case rel =>
              refine ⟨j + 1, by omega, by go_num, Lib.hid (fun i hi => ?_), hE.trans F3, hy.ext F3⟩
              rcases Nat.lt_or_ge i j with h | h
              · exact hP.out i h
              · have : i = j := by omega
                subst this; rw [← HX.out]; exact hb
            case measure => simp [intOf]; omega
        · have HTS : Hid (∀ i, i < 25 → tileB (k.ts.getD i tile0) i = true) := Lib.hid (fun i hi => hP.out i (by omega))
          obtain ⟨w2, rfl⟩ : ∃ x : World, x = wr := ⟨_, rfl⟩
          clear hP
          go_wp2_with fail
          go_loopw [4] (fun u wr => ∃ j : Nat, j ≤ k.ps.length ∧ u = .int .i64 j ∧ Hid (∀ i, i < j → trackB (k.ps.getD i (0, false)).1 = true) ∧ Ext w wr ∧ Blk wr w.heap.size 25 [.slice ta k.ts.length tc, .slice pa k.ps.length pc]) (fun i _ => k.ps.length - (intOf i).toNat)
          case atStart => exact ⟨0, Nat.zero_le _, rfl, Lib.hid (fun j hj => absurd hj (Nat.not_lt_zero j)), hE, hy⟩
          case round =>
            clear c0 c1 cl
            obtain ⟨j2, hj2, rfl, hP, hE2, hy2⟩ := hrel
            have c1 := hy2.cell (i := 1) rfl
            have cl := hy2.lt
            by_cases hlt2 : j2 < k.ps.length
            · obtain ⟨b, o, rfl, hb, hcc⟩ := (hps.ext hE2).get (by omega)
              obtain ⟨q0, q1⟩ := hcc j2 hlt2
              obtain ⟨n, hn⟩ : ∃ x, x = (k.ps.getD j2 (0, false)).1 := ⟨_, rfl⟩
              rw [← hn] at q0
              have HN := Lib.hid hn
              obtain ⟨w3, rfl⟩ : ∃ x : World, x = wr := ⟨_, rfl⟩
              clear hcc hn q1
              go_wp2_with fail
              refine (l9Track_c n _).mono ?_
              rintro e w4 ⟨rfl, rfl⟩
              cases hb : trackB n
              · have hf : R = false := by
                  rw [HR.out]
                  refine confB_false (fun h => ?_)
                  have := h.ps j2 (by omega)
                  rw [← HN.out, hb] at this; cases this
                subst hf
                go_wp2
                go_ret
                exact ⟨rfl, hE2⟩
              · go_wp2_with fail
                go_roundw
                case rel =>
                  refine ⟨j2 + 1, by omega, by go_num, Lib.hid (fun i hi => ?_), hE2, hy2⟩
                  rcases Nat.lt_or_ge i j2 with h | h
                  · exact hP.out i h
                  · have : i = j2 := by omega
                    subst this; rw [← HN.out]; exact hb
                case measure => simp [intOf]; omega
            · have hT : R = true := by
                rw [HR.out]
                exact confB_true ⟨by omega, by omega, HTS.out, fun i hi => hP.out i (by omega)⟩
              subst hT
              go_wp2
              go_ret
              exact ⟨rfl, hE2⟩
    · have hf : R = false := by
        rw [HR.out]
        refine confB_false (fun h => ?_)
        have := h.lp
        simp at h3; omega
      subst hf
      go_enter Try.func18, Try.ntmps18
      go_wp2
      go_ret
      exact ⟨rfl, by (repeat (first | with_reducible assumption | with_reducible exact Ext.refl _ | with_reducible refine Ext.drew' ?_ | with_reducible refine Ext.drewN' ?_ _ | with_reducible refine Ext.alloc ?_ _ | (with_reducible refine Ext.setNew ?_ (by first | exact Nat.le_refl _ | (simp; done) | (simp; omega) | omega) _)))⟩
  · have hf : R = false := by
      rw [HR.out]
      refine confB_false (fun h => ?_)
      have := h.lt
      simp at h25; omega
    subst hf
    go_enter Try.func18, Try.ntmps18
    go_wp2
    go_ret
    exact ⟨rfl, by (repeat (first | with_reducible assumption | with_reducible exact Ext.refl _ | with_reducible refine Ext.drew' ?_ | with_reducible refine Ext.drewN' ?_ _ | with_reducible refine Ext.alloc ?_ _ | (with_reducible refine Ext.setNew ?_ (by first | exact Nat.le_refl _ | (simp; done) | (simp; omega) | omega) _)))⟩
end Go.Proofs.Ytkdiniaddnhkdaa
