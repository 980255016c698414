/- Contracts: RunBitstream of both libraries. -/
import Derived.Test.YtgialedmbmfejaaBDcs
import Derived.Test.YtgialedmbmfejaaBFc
namespace Go.Proofs.Ytgialedmbmfejaa
open Go.RowKit
set_option maxRecDepth 100000
set_option linter.unusedVariables false
set_option linter.unusedSimpArgs false
noncomputable def bitV (bs : List Int) (xss : List (List Bool)) : List (List Bool) := if decB bs then runFV (decV bs) xss else []
theorem implRunBitstream_c (bs : List Int) (xss : List (List Bool)) (a a1 : Option Addr) (c c1 : Nat) (w : World) (hB : BytAt w a bs) (hb : AllB bs) (hl : bs.length ≤ 1048576) (hc : bs.length ≤ c) (hc2 : c ≤ maxLen) (hr : RowsAt w a1 xss) (hl1 : xss.length ≤ 1048576) (hlr : ∀ j, j < xss.length → (xss.getD j []).length ≤ 1048576) :
  Calls Try.prog 29 #[.slice a bs.length c, .slice a1 xss.length c1] w (GiveRows w (bitV bs xss)) := by
 have T1 := Lib.hid (implDecodeConfig_c bs a c w hB hb hl hc hc2)
 have HL := Lib.hid hlr
 clear hlr hB
 cases hd : decB bs
 ·rw [hd] at T1
  have HV : Hid (bitV bs xss = []) := Lib.hid (by unfold bitV; rw [hd]; rfl)
  clear hd
  go_enter Try.func29, Try.ntmps29
  go_wp2_with fail
  refine (T1.out).mono ?_
  rintro e w1 ⟨tv, pv, us, rfl, hO, hE⟩
  obtain ⟨ta, tc, pa, pc, rfl, rfl⟩ := hO.sl
  go_wp2
  go_ret
  rw [HV.out]
  exact ⟨_, [], rfl, OwnR.nil, by (repeat (first | with_reducible assumption | with_reducible exact Ext.refl _ | with_reducible refine Ext.drew' ?_ | with_reducible refine Ext.drewN' ?_ _ | with_reducible refine Ext.alloc ?_ _ | (with_reducible refine Ext.setNew ?_ (by first | exact Nat.le_refl _ | (simp; done) | (simp; omega) | omega) _)))⟩
 ·rw [hd] at T1
  have HV : Hid (bitV bs xss = runFV (pK bs) xss) := Lib.hid (by unfold bitV decV; rw [hd]; rfl)
  have HK : Hid (decV bs = pK bs) := Lib.hid (by unfold decV; rw [hd]; rfl)
  rw [HK.out] at T1
  clear hd
  go_enter Try.func29, Try.ntmps29
  go_wp2_with fail
  refine (T1.out).mono ?_
  rintro e w1 ⟨tv, pv, us, rfl, hO, hE⟩
  obtain ⟨ta, tc, pa, pc, rfl, rfl⟩ := hO.sl
  have A := (Ext.refl w1).alloc (.cells #[.slice ta (pK bs).ts.length tc, .slice pa (pK bs).ps.length pc] 52)
  have T2 := Lib.hid (implRunFabric_c (pK bs) ta pa tc pc a1 c1 xss _ ((hO.ext A).at_ (by show (pTs bs 25).length ≤ _; rw [pTs_len]; omega) (by show (pPs bs 3).length ≤ _; rw [pPs_len]; omega) (confAt_pK_lens bs)) (hr.ext (hE.trans A)) hl1 HL.out)
  go_wp2_with fail
  refine (T2.out).mono ?_
  rintro e w2 ⟨v, us2, rfl, hR, hE2⟩
  have HR := Lib.hid hR
  have hz := hE.size
  clear hR
  go_wp2
  go_ret
  rw [HV.out]
  exact ⟨_, us2, rfl, HR.out.le (by simp; omega), (hE.trans A).trans hE2⟩
theorem ownR_new {W : World} {base B : Nat} (hB : Blk W B 65 []) (hb : base ≤ B) : OwnR W base (.slice (some ⟨B, 0, none⟩) 0 0) [] [] :=
 ⟨rfl, hB.owns (n := 0) (size := 1) rfl hb (by decide), fun j hj => by simp at hj, fun j k hj => by simp at hj, fun i j k _ hj => by simp at hj⟩
theorem specRunBitstream_c (bs : List Int) (xss : List (List Bool)) (a a1 : Option Addr) (c c1 : Nat) (w : World) (hB : BytAt w a bs) (hb : AllB bs) (hl : bs.length ≤ 1048576) (hr : RowsAt w a1 xss) (hl1 : xss.length ≤ 1048576) (hlr : ∀ j, j < xss.length → (xss.getD j []).length ≤ 1048576) :
  Calls Try.prog 31 #[.slice a bs.length c, .slice a1 xss.length c1] w (GiveRows w (bitV bs xss)) := by
 have T1 := Lib.hid (specDecodeConfig_c bs a c w hB hb hl)
 have HL := Lib.hid hlr
 clear hlr hB
 cases hd : decB bs
 ·rw [hd] at T1
  have HV : Hid (bitV bs xss = []) := Lib.hid (by unfold bitV; rw [hd]; rfl)
  clear hd
  go_enter Try.func31, Try.ntmps31
  go_wp2_with fail
  refine (T1.out).mono ?_
  rintro e w1 ⟨tv, pv, us, rfl, hO, hE⟩
  obtain ⟨ta, tc, pa, pc, rfl, rfl⟩ := hO.sl
  have hz := hE.size
  have A := (Ext.refl w1).alloc (.cells #[.slice ta (decV bs).ts.length tc, .slice pa (decV bs).ps.length pc] 52)
  have b0 := Blk.at (w1.alloc (.cells #[.slice ta (decV bs).ts.length tc, .slice pa (decV bs).ps.length pc] 52)) [] 65 (B := w1.heap.size + 1) (by simp)
  have HB := Lib.hid b0
  have HE := Lib.hid ((hE.trans A).alloc (.cells #[] 65))
  clear b0 A hE hO
  go_wp2
  go_ret
  rw [HV.out]
  exact ⟨_, [], rfl, ownR_new HB.out (by omega), HE.out⟩
 ·rw [hd] at T1
  have HV : Hid (bitV bs xss = runFV (pK bs) xss) := Lib.hid (by unfold bitV decV; rw [hd]; rfl)
  have HK : Hid (decV bs = pK bs) := Lib.hid (by unfold decV; rw [hd]; rfl)
  rw [HK.out] at T1
  clear hd
  go_enter Try.func31, Try.ntmps31
  go_wp2_with fail
  refine (T1.out).mono ?_
  rintro e w1 ⟨tv, pv, us, rfl, hO, hE⟩
  obtain ⟨ta, tc, pa, pc, rfl, rfl⟩ := hO.sl
  have A := (Ext.refl w1).alloc (.cells #[.slice ta (pK bs).ts.length tc, .slice pa (pK bs).ps.length pc] 52)
  have T2 := Lib.hid (specRunFabric_c (pK bs) ta pa tc pc a1 c1 xss _ ((hO.ext A).at_ (by show (pTs bs 25).length ≤ _; rw [pTs_len]; omega) (by show (pPs bs 3).length ≤ _; rw [pPs_len]; omega) (confAt_pK_lens bs)) (hr.ext (hE.trans A)) hl1 HL.out)
  go_wp2_with fail
  refine (T2.out).mono ?_
  rintro e w2 ⟨v, us2, rfl, hR, hE2⟩
  have HR := Lib.hid hR
  have hz := hE.size
  clear hR
  go_wp2
  go_ret
  rw [HV.out]
  exact ⟨_, us2, rfl, HR.out.le (by simp; omega), (hE.trans A).trans hE2⟩
end Go.Proofs.Ytgialedmbmfejaa
