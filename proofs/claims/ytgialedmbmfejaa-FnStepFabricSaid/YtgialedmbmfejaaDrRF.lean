/- The drawing of the arguments of RunFabric. -/
import Derived.Test.YtgialedmbmfejaaBDk
import Derived.Test.YtgialedmbmfejaaBFa
import Derived.Deep.DeepCutAuto
namespace Go.Proofs.Ytgialedmbmfejaa
open Go.RowKit
set_option maxRecDepth 100000
set_option linter.unusedVariables false
set_option linter.unusedSimpArgs false
def lenF : Value → Nat
 | .slice _ n _ => n
 | _ => 0
def DrawnKR (w : World) (e : Ending) (w' : World) : Prop := ∃ ta tc pa pc K ra rc xss, e = .returned (.tuple #[.agg #[.slice ta (Conf.ts K).length tc, .slice pa K.ps.length pc], .slice ra (List.length xss) rc]) ∧ ConfAt w' K ta pa ∧ RowsAt w' ra xss ∧ xss.length ≤ 41 ∧ (∀ r ∈ xss, r.length ≤ 8) ∧ xss.length ≤ rc ∧ rc ≤ maxLen ∧ Ext w w'
/-- What was drawn of a configuration stays, while only the reader and one older box change. -/
theorem KeptK.on {b rb B : Nat} {w2 w3 w9 : World} {K : Conf} {ta pa : Option Addr} (h : KeptK b w2 K ta pa) (e : Ext w2 w3) (g : w3.grownBy w9 (some rb)) (hr : rb < b) (hB : B < b) (v0 v1 : Value) : ConfAt ((w9.setCell ⟨B, 0, none⟩ v0).setCell ⟨B, 1, none⟩ v1) K ta pa :=
 (h _ (fun k h1 h2 => by
  rw [heap_setCell_other _ _ k _ (fun e => by have : k = B := e; omega), heap_setCell_other _ _ k _ (fun e => by have : k = B := e; omega)]
  rw [g.block k (Nat.lt_of_lt_of_le h2 e.size) (fun e => by have := Option.some.inj e; omega)]
  exact e.block k h2)).1
set_option maxHeartbeats 4000000 in
theorem DrawRunFabric_c (a : Option Addr) (c : Nat) (bs : List Int) (w : World) (hB : BytesAt w a bs) (hl : bs.length ≤ 1048576) (hc : bs.length ≤ c) (hcm : c ≤ maxLen) :
  Calls Try.prog 50 #[.slice a bs.length c] w (DrawnKR w) := by
 have R0 := Blk.at w [.slice none 0 0, .slice none 0 0] 52 rfl
 have E0 : Ext w (w.alloc (.cells #[.slice none 0 0, .slice none 0 0] 52)) := (Ext.refl w).alloc _
 have s0 : w.heap.size < (w.alloc (.cells #[.slice none 0 0, .slice none 0 0] 52)).heap.size := by simp
 go_enter Try.func50, Try.ntmps50
 go_upto_region 1 with fail
 obtain ⟨W0, hW0⟩ : ∃ x : World, x = w.alloc (.cells #[.slice none 0 0, .slice none 0 0] 52) := ⟨_, rfl⟩
 rw [← hW0] at R0 E0 s0
 rw [← hW0]
 clear hW0
 go_wp2_with fail
 refine (open_c a c bs _ (hB.ext E0) hl hc hcm).mono ?_
 rintro e w1 ⟨rb, bs', rfl, hR1, hrb, hE1⟩
 have rl1 := hR1.lt
 go_wp2_with fail
 refine (l20Config_c rb bs' 0 12 _ hR1 (by omega) (by omega) (by omega)).mono ?_
 rintro e w2 ⟨ta, tc, pa, pc, K, rfl, hK, hcaps, _, hR2, hG2⟩
 have s1 := hE1.size
 have s2 := hG2.size
 have R2 := (R0.ext hE1).gr hG2 (fun e => by have := Option.some.inj e; omega)
 have E2 := E0.trans (ext_of_gr hE1 hG2 hrb)
 have bk := Blk.at w2 [.slice ta K.ts.length tc, .slice pa K.ps.length pc] 52 rfl
 have E23 := (Ext.refl w2).alloc (.cells #[.slice ta K.ts.length tc, .slice pa K.ps.length pc] 52)
 have s3 : (w2.alloc (.cells #[.slice ta K.ts.length tc, .slice pa K.ps.length pc] 52)).heap.size = w2.heap.size + 1 := by simp
 go_upto_region 3 with fail
 obtain ⟨w3, hw3⟩ : ∃ x : World, x = w2.alloc (.cells #[.slice ta K.ts.length tc, .slice pa K.ps.length pc] 52) := ⟨_, rfl⟩
 rw [← hw3] at bk E23 s3
 rw [← hw3]
 have S3 := Lib.hid s3
 have hrl : rb < w3.heap.size := by omega
 have hb3 : w.heap.size < w3.heap.size := by omega
 have hbk : w2.heap.size < w3.heap.size := by omega
 clear hw3 s3
 have hR3 := hR2.ext E23
 have R3 := R2.ext E23
 clear R0 R2 hR1 hR2 hE1
 go_wp2_with fail
 refine (l20Rows_i rb bs' (0 + 500) 4 4 rfl _ hR3 (by omega) (by omega)).mono ?_
 rintro e w4 ⟨v4, vals, xss, rfl, hxl, hxr, hI⟩
 replace hI := (hI.up (m := 8) (by omega)).mono (M2 := 700) (by omega)
 clear hxr hR3
 go_wp2_with fail
 refine (odd_c rb bs' _ 9 _ hI.rd (by omega) (by omega) (by omega)).mono ?_
 rintro e w5 ⟨k5, rfl, _, hR5, hG5⟩
 have hI5 := hI.draw hrl hR5 hG5
 clear hI hR5 hG5
 go_upto_if 14 with fail
 go_cut [6] (fun v wx => ∃ vals xss, RInv w3 w3.heap.size rb bs' 800 8 v vals xss wx ∧ xss.length ≤ 12)
 case first =>
  cases k5
  ·go_wp2_with fail
   go_meet
   exact ⟨vals, xss, hI5.mono (by omega), by omega⟩
  ·obtain ⟨oa, oc, rfl, _⟩ := ownsRow_row hI5.own.row
   go_wp2_with fail
   refine (l20Bools_i rb bs' _ 5 5 rfl _ hI5.rd (by omega) (by omega)).mono ?_
   rintro e w6 hD6
   obtain ⟨a6, c6, xs, rfl, hx6, hO6, hR6, hG6⟩ := hD6.i
   have hlb := hI5.lb
   have sz6 := hG6.size
   have hoA := ((hI5.own.drawn hG6 hrl).ext ((Ext.refl w6).alloc (.cells #[.slice a6 xs.length c6] 65))).row
   have hx1 : xs.length ≤ 8 := by omega
   clear hx6 hD6
   go_wp2_with (at_builtin; refine wpList_app tyRows hoA (RowAt.new w6 #[.slice a6 xs.length c6] _) rfl (by simp [Value.oneCell']) (by omega) (by simp; omega) rfl rfl rfl rfl ?_; intro v7 w7 o7 g7 m7)
   go_meet
   exact ⟨_, _, (hI5.add hrl (Nat.le_refl _) hx1 hO6 hR6 hG6 g7 m7 rfl (by exact o7)).mono (by omega), by simp; omega⟩
 obtain ⟨vals2, xss2, hI6, hx12⟩ := hcut
 clear hI5
 obtain ⟨w6, rfl⟩ : ∃ x : World, x = wc := ⟨_, rfl⟩
 go_wp2_with fail
 refine (odd_c rb bs' _ 30 _ hI6.rd (by omega) (by omega) (by omega)).mono ?_
 rintro e w8 ⟨k8, rfl, _, hR8, hG8⟩
 have hI8 := hI6.draw hrl hR8 hG8
 clear hI6 hR8 hG8
 go_upto_if 21 with fail
 go_cut [6] (fun v wx => ∃ vals xss, RInv w3 w3.heap.size rb bs' 2000 8 v vals xss wx ∧ xss.length ≤ 41)
 case first =>
  cases k8
  ·go_wp2_with fail
   go_meet
   exact ⟨vals2, xss2, hI8.mono (by omega), by omega⟩
  ·go_wp2_with fail
   go_loopw [6] (fun v wr => ∃ (vals : List Value) (xss : List (List Bool)), xss.length ≤ 41 ∧ RInv w3 w3.heap.size rb bs' 1900 8 v vals xss wr) (fun v _ => 41 - lenF v)
   case atStart => exact ⟨vals2, xss2, by omega, hI8.mono (by omega)⟩
   case round =>
    clear hI8
    obtain ⟨vals, xss, hx41, hI9⟩ := hrel
    obtain ⟨w9, rfl⟩ : ∃ x : World, x = wr := ⟨_, rfl⟩
    obtain ⟨oa, oc, rfl, _⟩ := ownsRow_row hI9.own.row
    by_cases hlt : xss.length ≤ 40
    ·have hu : OwnB (w9.alloc (.cells #[] 4)) w9.heap.size (.slice (some ⟨w9.heap.size, 0, none⟩) 0 0) [] := (Blk.at w9 [] 4 rfl).owns (n := 0) (size := 1) rfl (Nat.le_refl _) (by decide)
     have e9 : Ext w9 (w9.alloc (.cells #[] 4)) := (Ext.refl w9).alloc _
     have hlb := hI9.lb
     have hoA := (hI9.own.ext (e9.alloc (.cells #[.slice (some ⟨w9.heap.size, 0, none⟩) 0 0] 65))).row
     go_wp2_with (at_builtin; refine wpList_app tyRows hoA (rowNew _ _ _ (by simp)) rfl (by simp [Value.oneCell']) (by omega) (by simp; omega) rfl rfl rfl rfl ?_; intro v7 w7 o7 g7 m7; obtain ⟨oa7, oc7, rfl, _⟩ := ownsRow_row o7)
     go_roundw
     case rel => exact ⟨_, xss ++ [[]], by simp; omega, hI9.add hrl (Nat.le_refl _) (by simp) hu (hI9.rd.ext e9) (Gr.alloc (Gr.refl _ _) _) g7 m7 rfl (by exact o7)⟩
     case measure => simp [lenF]; omega
    ·go_wp2_with fail
     go_meet
     exact ⟨vals, xss, hI9.mono (by omega), hx41⟩
 obtain ⟨vals3, xss3, hI9, hx41⟩ := hcut
 obtain ⟨w9, rfl⟩ : ∃ x : World, x = wc := ⟨_, rfl⟩
 obtain ⟨oa, oc, rfl, _, hoc, hocm, _⟩ := ownsRow_row hI9.own.row
 have b9 := bk.gr hI9.gr (fun e => by have := Option.some.inj e; omega)
 have R9 := R3.gr hI9.gr (fun e => by have := Option.some.inj e; omega)
 have z0 := b9.cell (i := 0) rfl
 have z1 := b9.cell (i := 1) rfl
 have zl := b9.lt
 have r0 := R9.cell (i := 0) rfl
 have r1 := R9.cell (i := 1) rfl
 have rf := fun i => R9.frozen i
 have rl := R9.lt
 have RC := (R9.set 0 (.slice ta K.ts.length tc)).set 1 (.slice pa K.ps.length pc)
 have d0 := RC.cell (i := 0) rfl
 have d1 := RC.cell (i := 1) rfl
 have HK := Lib.hid (hK.on (B := w.heap.size) E23 hI9.gr rl1 (by omega) (.slice ta K.ts.length tc) (.slice pa K.ps.length pc))
 have HX := Lib.hid (((hI9.own.set hb3 0 (.slice ta K.ts.length tc)).set hb3 1 (.slice pa K.ps.length pc)).at_)
 have HE := Lib.hid (Ext.setNew (Ext.setNew (ext_of_gr (E2.trans E23) hI9.gr (by omega)) (p := ⟨w.heap.size, 0, none⟩) (Nat.le_refl _) (.slice ta K.ts.length tc)) (p := ⟨w.heap.size, 1, none⟩) (Nat.le_refl _) (.slice pa K.ps.length pc))
 have HSM := Lib.hid hI9.sm
 clear R9 RC hI9 hK R3 E23 E2 bk b9 hG2
 go_wp2
 refine bodyPost_ret (v := .tuple #[.agg #[.slice ta K.ts.length tc, .slice pa K.ps.length pc], .slice oa xss3.length oc]) (by simp [results, Try.results50, go_sem, d0, d1]) rfl ?_
 exact ⟨ta, tc, pa, pc, K, oa, oc, xss3, rfl, HK.out, HX.out, hx41, HSM.out, hoc, hocm, HE.out⟩
end Go.Proofs.Ytgialedmbmfejaa
