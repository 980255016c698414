/- Contract: the program's ConfigAcyclic. -/
import Derived.Test.YtkdiniaddnhkdaaAcyC
namespace Go.Proofs.Ytkdiniaddnhkdaa
open Go.RowKit Go.Maps
set_option maxRecDepth 100000
set_option linter.unusedVariables false
set_option linter.unusedSimpArgs false
set_option maxHeartbeats 4000000 in
theorem implConfigAcyclic_c (k : Conf) (ta pa : Option Addr) (tc pc : Nat) (w : World) (hk : ConfAt w k ta pa) :
    Calls Try.prog 30 #[.agg #[.slice ta k.ts.length tc, .slice pa k.ps.length pc]] w fun e w' => e = .returned (.bool (acyV k)) ∧ Ext w w' := by
  have y := Blk.at w [.slice ta k.ts.length tc, .slice pa k.ps.length pc] 25 rfl
  have Ey : Ext w (w.alloc (.cells #[.slice ta k.ts.length tc, .slice pa k.ps.length pc] 25)) := (Ext.refl w).alloc _
  have T1 := Lib.hid (implConfigValid_c k ta pa tc pc)
  have HA : Hid (acyV k = (confB k && (visL k 201 (wiresFrom 0) mark0).1)) := Lib.hid rfl
  obtain ⟨A, hA⟩ : ∃ A, A = acyV k := ⟨_, rfl⟩
  rw [← hA] at HA ⊢
  clear hA
  cases hb : confB k
  · rw [hb] at T1 HA
    have hf : A = false := HA.out
    subst hf
    clear hb HA
    go_enter Try.func30, Try.ntmps30
    go_wp2_with fail
    refine (T1.out _ (hk.ext Ey)).mono ?_
    rintro e w1 ⟨rfl, hE1⟩
    go_wp2
    go_ret
    exact ⟨rfl, Ey.trans hE1⟩
  · rw [hb] at T1 HA
    have hok := confB_iff.1 hb
    have hf : A = (visL k 201 (wiresFrom 0) mark0).1 := HA.out
    obtain ⟨V, hV⟩ : ∃ V, V = visL k 201 (wiresFrom 0) mark0 := ⟨_, rfl⟩
    rw [← hV] at hf
    subst hf
    have HV := Lib.hid hV
    clear hb HA hV
    go_enter Try.func30, Try.ntmps30
    go_wp2_with fail
    refine (T1.out _ (hk.ext Ey)).mono ?_
    rintro e w1 ⟨rfl, hE1⟩
    have y1 := y.ext hE1
    have E1 := Ey.trans hE1
    have zb := y1.lt
    have M1 := MkM.made w1
    have T2 := Lib.hid (cyclic_c k ta pa tc pc w.heap.size w1.heap.size w1 (hk.ext E1) hok (by omega) (Nat.le_refl _) 201)
    have y2 := y1.alloc (.map #[] 0)
    have E2 : Ext w1 (w1.alloc (.map #[] 0)) := (Ext.refl w1).alloc _
    clear y y1 Ey T1 hE1
    have hmm := @run_makeMap Try.prog
    go_wp2_with fail
    go_loopw [10] (fun u5 wr => ∃ (i : Nat) (m : Marks), i ≤ 25 ∧ u5 = .int .i64 i ∧ Hid (V = visL k 201 (wiresFrom (i * 8)) m) ∧ Mk3 m ∧ MkM wr w1.heap.size 400 m ∧ Blk wr w.heap.size 25 [.slice ta k.ts.length tc, .slice pa k.ps.length pc] ∧ Ext w1 wr) (fun i _ => 25 - (intOf i).toNat)
    case atStart => exact ⟨0, mark0, Nat.zero_le _, rfl, HV, mk3_0, M1, y2, E2⟩
    case round =>
      clear M1 y2 E2 HV
      obtain ⟨i, m, hi, rfl, hVi, h3, M0, y, hE⟩ := hrel
      by_cases hlt : i < 25
      · obtain ⟨w2, rfl⟩ : ∃ z : World, z = wr := ⟨_, rfl⟩
        have hiI : (i : Int) < 25 := by omega
        go_wp2_with fail
        go_loopw [13] (fun u6 wr => ∃ (c : Nat) (m : Marks), c ≤ 8 ∧ u6 = .int .i64 c ∧ Hid (V = visL k 201 (wiresFrom (i * 8 + c)) m) ∧ Mk3 m ∧ MkM wr w1.heap.size 400 m ∧ Blk wr w.heap.size 25 [.slice ta k.ts.length tc, .slice pa k.ps.length pc] ∧ Ext w1 wr) (fun i _ => 8 - (intOf i).toNat)
        case atStart => exact ⟨0, m, Nat.zero_le _, rfl, hVi, h3, M0, y, hE⟩
        case round =>
          clear M0 y hE hVi h3
          obtain ⟨c, m, hc, rfl, hVi, h3, M0, y, hE⟩ := hrel
          by_cases hc8 : c < 8
          · have hcall := T2.out m (i, c) 400 wr ⟨hlt, hc8⟩ (by have := zeros0_le m 200; omega) h3 (Nat.le_refl _) M0 y hE
            have h3v := vis_mk3 k 201 m (i, c) h3
            have hVV := hVi.out
            have hwf : wireOf (i * 8 + c) = (i, c) := by simp only [wireOf]; congr 1 <;> omega
            rw [wiresFrom_cons (by omega), hwf, visL_cons] at hVV
            obtain ⟨R, hR⟩ : ∃ R, R = vis k 201 m (i, c) := ⟨_, rfl⟩
            rw [← hR] at hVV hcall h3v
            obtain ⟨ok, m2⟩ := R
            have HVV := Lib.hid hVV
            have HC := Lib.hid hcall
            clear hVV hR hcall hwf hVi
            go_wp2_with fail
            refine HC.out.mono ?_
            rintro e w3 ⟨rfl, M3, G3⟩
            have y3 := y.gr G3 (someNe (by omega))
            have E3 := Gr.behind G3 hE (Nat.le_refl _)
            cases ok
            · have hVf : V = (false, m2) := HVV.out
              subst hVf
              go_wp2
              go_ret
              exact ⟨rfl, E1.trans E3⟩
            · have hVf : V = visL k 201 (wiresFrom (i * 8 + (c + 1))) m2 := HVV.out
              have HVF := Lib.hid hVf
              clear hVf
              go_wp2_with fail
              go_roundw
              case rel => exact ⟨c + 1, m2, by omega, by go_num, HVF, h3v, M3, y3, E3⟩
              case measure => simp [intOf]; omega
          · have hc9 : c = 8 := by omega
            subst hc9
            have hVf : V = visL k 201 (wiresFrom ((i + 1) * 8)) m := by rw [hVi.out]; congr 2; omega
            have HVF := Lib.hid hVf
            clear hVf hVi
            go_wp2
            go_roundw
            case rel => exact ⟨i + 1, m, by omega, by go_num, HVF, h3, M0, y, hE⟩
            case measure => simp [intOf]; omega
      · have hi2 : i = 25 := by omega
        subst hi2
        have hVf : V = (true, m) := by rw [hVi.out, show 25 * 8 = 200 from rfl, wiresFrom_end, visL_nil]
        subst hVf
        go_wp2
        go_ret
        exact ⟨rfl, E1.trans hE⟩
end Go.Proofs.Ytkdiniaddnhkdaa
