/- Contracts: the laws' helpers: a search in a list. -/
import Derived.Test.YtpomcoegpjehgaaNest
import Derived.Test.YtpomcoegpjehgaaBCut
namespace Go.Proofs.Ytpomcoegpjehgaa
open Go.RowKit
set_option maxRecDepth 100000
set_option linter.unusedVariables false
set_option linter.unusedSimpArgs false
set_option maxHeartbeats 2000000 in
theorem lawContains_c (a : Option Addr) (cap : Nat) (S : List Int) (v : Int) (w : World) (hS : IntsAt w a S) (hl : S.length ≤ 1000000) :
    Calls Try.prog 37 #[.slice a S.length cap, .int .i64 v] w fun e w' => e = .returned (.bool (S.contains v)) ∧ Ext w w' := by
  have HM : Hid (∀ j, j < S.length → S.getD j 0 = v → S.contains v = true) := Lib.hid (fun j hj e => by
    have := getN_mem (d := 0) hj
    rw [e] at this
    simpa using this)
  obtain ⟨D, hD⟩ : ∃ D, D = S.contains v := ⟨_, rfl⟩
  rw [← hD] at HM ⊢
  have HD := Lib.hid hD
  clear hD
  go_enter Try.func37, Try.ntmps37
  go_wp2_with fail
  go_loopw [5] (fun u8 wr => ∃ j : Nat, j ≤ S.length ∧ u8 = .int .i64 j ∧ Hid (∀ i, i < j → S.getD i 0 ≠ v) ∧ Ext w wr) (fun u _ => S.length - (intOf u).toNat)
  case atStart => exact ⟨0, Nat.zero_le _, rfl, Lib.hid (fun i hi => absurd hi (Nat.not_lt_zero i)), Ext.refl _⟩
  case round =>
    obtain ⟨j, hj, rfl, HN, hE⟩ := hrel
    by_cases hlt : j < S.length
    · obtain ⟨b, o, rfl, hb, hc⟩ := (hS.ext hE).get (by omega)
      have q1 := hc j hlt
      have hm : S.getD j 0 = v → D = true := HM.out j hlt
      obtain ⟨z, hz⟩ : ∃ z, z = S.getD j 0 := ⟨_, rfl⟩
      rw [← hz] at q1 hm
      have HZ := Lib.hid hz
      have HMM := Lib.hid hm
      clear hc hz hm
      by_cases he : z = v
      · have hd := HMM.out he
        subst hd he
        clear HMM
        go_wp2_with fail
        go_ret
        exact ⟨rfl, hE⟩
      · have he2 : (z == v) = false := by simp [he]
        go_wp2_with fail
        go_roundw
        case rel => exact ⟨j + 1, by omega, by go_num, Lib.hid (fun i hi => by
          rcases Nat.lt_or_ge i j with h | h
          · exact HN.out i h
          · have : i = j := by omega
            subst this
            rw [← HZ.out]; exact he), hE⟩
        case measure => simp [intOf]; omega
    · have hd : D = false := by
        rw [HD.out, Bool.eq_false_iff]
        intro h
        have hm : v ∈ S := by simpa using h
        obtain ⟨i, hi, e⟩ := mem_getN (d := 0) hm
        exact HN.out i (by omega) e
      subst hd
      go_wp2_with fail
      go_ret
      exact ⟨rfl, hE⟩
end Go.Proofs.Ytpomcoegpjehgaa
