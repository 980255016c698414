/- The drawing of a placement. -/
import Derived.Test.YtgialedmbmfejaaDraw3
import Derived.Test.YtgialedmbmfejaaBlk
import Derived.Test.YtgialedmbmfejaaDraw1
import Derived.Test.YtgialedmbmfejaaCircG
import Derived.Test.YtgialedmbmfejaaBCel
import Derived.Test.YtgialedmbmfejaaBSnk
import Derived.Test.YtgialedmbmfejaaRegion2
import Derived.Test.YtgialedmbmfejaaOwn
import Derived.RegionTactic
import Derived.Deep.DeepCutAuto
namespace Go.Proofs.Ytgialedmbmfejaa
open Go.RowKit
set_option maxRecDepth 100000
set_option linter.unusedVariables false
set_option linter.unusedSimpArgs false
theorem intSizeP : (Try.prog.info? 3).map (·.size) = some 1 := by kernel_rfl
theorem ints_drop {w : World} {g o cap : Nat} {fs : List Int} {i : Nat} (hI : IntsAt w (some ⟨g, 0, none⟩) fs) (hcap : fs.length ≤ cap) (ho : (i : Int) + 1 < (cap : Int) → o = i + 1) (hi : i < fs.length) : IntsAt w (some ⟨g, o, none⟩) (fs.drop (i + 1)) := by
  by_cases h : i + 1 < fs.length
  · have e := ho (by omega)
    subst e
    obtain ⟨b, o2, ha, hb, hc⟩ := hI.get (by omega)
    cases ha
    refine .inr ⟨g, i + 1, rfl, hb, fun j hj => ?_⟩
    rw [List.length_drop] at hj
    have := hc (i + 1 + j) (by omega)
    rw [Nat.zero_add] at this
    rw [this, List.getD_eq_getElem?_getD, List.getD_eq_getElem?_getD, List.getElem?_drop]
  · left
    rw [List.drop_eq_nil_iff]; omega
theorem ints_take {w : World} {a : Option Addr} {fs : List Int} (hI : IntsAt w a fs) (i : Nat) : IntsAt w a (fs.take i) := by
  rcases hI with h | ⟨b, o, ha, hb, hc⟩
  · subst h; exact .inl (by simp)
  · refine .inr ⟨b, o, ha, hb, fun j hj => ?_⟩
    rw [List.length_take] at hj
    rw [hc j (by omega), List.getD_eq_getElem?_getD, List.getD_eq_getElem?_getD, List.getElem?_take_of_lt (by omega)]
theorem off_none {B k : Nat} {v : Value} {w : World} (h : ∀ q, v.ownBlock = some q → B ≤ q ∧ q < w.heap.size) (hk : k < B) : v.ownBlock = none ∨ v.ownBlock ≠ some k := by
  cases e : v.ownBlock with
  | none => exact .inl rfl
  | some q => exact .inr (fun e2 => by have := (h q e).1; have := Option.some.inj e2; omega)
def PlacePost (w : World) (rb : Nat) (bs : List Int) (N : Nat) (e : Ending) (w' : World) : Prop :=
  ∃ v xs, e = .returned v ∧ OwnInts w' w.heap.size 3 v xs ∧ xs.length ≤ 18 ∧ Rdr w' rb bs (N + 100) ∧ w.grownBy w' (some rb)
set_option maxHeartbeats 8000000 in
theorem l20Place_c (rb : Nat) (bs : List Int) (N : Nat) (c : Circ) (p : Where3) (n : Int) (w : World) (hr : Rdr w rb bs N) (hN : N ≤ 1000000) (hc : CircAt w c p) (hn0 : 0 ≤ n) (hn1 : n ≤ 100) :
    Calls Try.prog 99 #[.pointer (some ⟨rb, 0, none⟩), .agg #[.int .i64 c.inputs, .slice p.an c.next.length p.cn, .slice p.ag c.gates.length p.cg, .slice p.ao c.outs.length p.co], .int .i64 n] w (PlacePost w rb bs N) := by
  have rb0 := hr.lt
  have y := CircBox.made w c p 26
  have EA : Ext w (w.alloc (.cells #[.int .i64 c.inputs, .slice p.an c.next.length p.cn, .slice p.ag c.gates.length p.cg, .slice p.ao c.outs.length p.co] 26)) := (Ext.refl w).alloc _
  obtain ⟨WA, hWA⟩ : ∃ W, W = w.alloc (.cells #[.int .i64 c.inputs, .slice p.an c.next.length p.cn, .slice p.ag c.gates.length p.cg, .slice p.ao c.outs.length p.co] 26) := ⟨_, rfl⟩
  have sA : WA.heap.size = w.heap.size + 1 := by rw [hWA]; simp
  rw [← hWA] at y EA
  have OB := (Blk.at WA [] 3 rfl).owns (base := WA.heap.size) (size := 1) (n := 0) rfl (Nat.le_refl _) (by decide)
  have EB : Ext WA (WA.alloc (.cells #[] 3)) := (Ext.refl WA).alloc _
  obtain ⟨WB, hWB⟩ : ∃ W, W = WA.alloc (.cells #[] 3) := ⟨_, rfl⟩
  have sB : WB.heap.size = WA.heap.size + 1 := by rw [hWB]; simp
  have OBB : OwnInts WB WA.heap.size 3 (.slice (some ⟨WA.heap.size, 0, none⟩) 0 0) [] := by rw [hWB]; exact OB
  rw [← hWB] at EB
  have OC := (Blk.at WB [] 3 rfl).owns (base := WB.heap.size) (size := 1) (n := 0) rfl (Nat.le_refl _) (by decide)
  have EC : Ext WB (WB.alloc (.cells #[] 3)) := (Ext.refl WB).alloc _
  have HSA := Lib.hid sA
  have HSB := Lib.hid sB
  obtain ⟨hc17, _⟩ := cells_sm c
  have T1 := Lib.hid (specCells_c c p)
  obtain ⟨cs, hcs⟩ : ∃ cs, cs = cellsV c := ⟨_, rfl⟩
  rw [← hcs] at hc17 T1
  have HY := Lib.hid y
  have HCC := Lib.hid hc
  have HR := Lib.hid hr
  have HOB := Lib.hid OBB
  have lA : w.heap.size < WA.heap.size := by omega
  have lB : WA.heap.size < WB.heap.size := by omega
  clear hcs sA sB y hc hr OB OBB
  go_enter Try.func99, Try.ntmps99
  go_upto_region 3 with fail
  rw [← hWA]
  try rw [← HSA.out]
  rw [← hWB]
  try rw [← HSB.out]
  clear hWA hWB
  go_wp2_with fail
  go_loopw [8, 9] (fun u8 u9 wr => ∃ fs : List Int, fs.length ≤ 25 ∧ u9 = .int .i64 fs.length ∧ OwnInts wr WB.heap.size 3 u8 fs ∧ Ext WB wr) (fun _ u _ => 25 - (intOf u).toNat)
  case atStart => exact ⟨[], by simp, rfl, OC, EC⟩
  case round =>
    clear OC EC
    obtain ⟨fs, hfs, rfl, hO, hE⟩ := hrel
    obtain ⟨w1, rfl⟩ : ∃ z : World, z = wr := ⟨_, rfl⟩
    by_cases hlt : fs.length < 25
    · have hsz := hE.size
      go_wp2_with (at_builtin; refine wpList_app tyInts (ownsRow_ext hO (by (repeat (first | with_reducible assumption | with_reducible exact Ext.refl _ | with_reducible refine Ext.drew' ?_ | with_reducible refine Ext.drewN' ?_ _ | with_reducible refine Ext.alloc ?_ _ | (with_reducible refine Ext.setNew ?_ (by first | exact Nat.le_refl _ | (simp; done) | (simp; omega) | omega) _))))) (rowNew _ _ _ (by simp)) rfl (by simp [Value.oneCell']) (by omega) (by simp; omega) rfl rfl rfl rfl ?_; intro v9 w9 o9 g9 m9)
      have E9 : Ext WB w9 := ext_grown (w1 := _) (Ext.trans hE (by (repeat (first | with_reducible assumption | with_reducible exact Ext.refl _ | with_reducible refine Ext.drew' ?_ | with_reducible refine Ext.drewN' ?_ _ | with_reducible refine Ext.alloc ?_ _ | (with_reducible refine Ext.setNew ?_ (by first | exact Nat.le_refl _ | (simp; done) | (simp; omega) | omega) _))))) g9 (fun q hq => (own_lo hO q hq).1)
      have O9 : OwnInts w9 WB.heap.size 3 v9 (fs ++ [(fs.length : Int)]) := own_app (xs := fs) (ys := [(fs.length : Int)]) rfl rfl o9
      go_roundw
      case rel => exact ⟨fs ++ [(fs.length : Int)], by simp; omega, by simp, O9, E9⟩
      case measure => simp [intOf]; omega
    · have hf25 : 25 ≤ fs.length := by omega
      have E1 := (EA.trans EB).trans hE
      have y1 := HY.out.ext (EB.trans hE)
      have hO7 : OwnInts w1 WA.heap.size 3 (.slice (some ⟨WA.heap.size, 0, none⟩) 0 0) [] := ownsRow_ext HOB.out hE
      have HO := Lib.hid (row_leN hO (Nat.le_of_lt lB))
      have hlo := own_lo hO
      (obtain ⟨lb, b0, b1, b2, b3⟩ := (id y1))
      go_wp2_with fail
      refine (T1.out _ (HCC.out.ext E1)).mono ?_
      rintro e w2 ⟨v2, F2, rfl, hN2, _, hE2⟩
      obtain ⟨ca, cc, rfl, _⟩ := hN2.sl
      have hO8 : OwnInts w2 WA.heap.size 3 u8 fs := ownsRow_ext HO.out hE2
      have hO7 : OwnInts w2 WA.heap.size 3 (.slice (some ⟨WA.heap.size, 0, none⟩) 0 0) [] := ownsRow_ext hO7 hE2
      have hoff : ∀ q, u8.ownBlock = some q → (Value.slice (some ⟨WA.heap.size, 0, none⟩) 0 0).ownBlock ≠ some q := fun q hq e => by
        have := (hlo q hq).1
        simp [Value.ownBlock] at e
        omega
      have hR2 := HR.out.ext (E1.trans hE2)
      have hs2 : WA.heap.size ≤ w2.heap.size := Nat.le_of_lt (own_lo hO7 WA.heap.size rfl).2
      have G2 : w.grownBy w2 (some rb) := Gr.ext (E1.trans hE2) _
      clear b0 b1 b2 b3 lb y1 hN2 hO hE HO hlo E1 hE2 T1 HOB HY HCC HR EA EB
      go_wp2_with fail
      go_loopw [7, 8, 10] (fun u7 u8 u10 wr => ∃ (k : Nat) (os fs : List Int), k ≤ 17 ∧ u10 = .int .i64 k ∧ os.length + k ≤ 17 ∧ k + 8 ≤ fs.length ∧ fs.length ≤ 25 ∧ OwnInts wr WA.heap.size 3 u7 os ∧ OwnInts wr WA.heap.size 3 u8 fs ∧ (∀ q, u8.ownBlock = some q → u7.ownBlock ≠ some q) ∧ Rdr wr rb bs (N + 17 - k) ∧ w.grownBy wr (some rb) ∧ WA.heap.size ≤ wr.heap.size) (fun _ _ u _ => (intOf u).toNat)
      case atStart => exact ⟨cs.length, [], fs, hc17, rfl, by simpa using hc17, by omega, hfs, hO7, hO8, hoff, hR2.mono (by omega), G2, hs2⟩
      case round =>
        clear hO7 hO8 hoff hR2 G2 hs2 hc17 hfs hf25 hlt
        obtain ⟨k, os, fs, hk, rfl, hok, hf1, hf2, hO7, hO8, hoff, hR, hG, hs3⟩ := hrel
        obtain ⟨w3, rfl⟩ : ∃ z : World, z = wr := ⟨_, rfl⟩
        by_cases hlt : 0 < k
        · obtain ⟨va, vc, rfl, hI8, _⟩ := hO8.opened
          have HO8 := Lib.hid hO8
          have HO7 := Lib.hid hO7
          have HOF := Lib.hid hoff
          have l7 := own_lo hO7
          have l8 := own_lo hO8
          have L7 := Lib.hid l7
          have L8 := Lib.hid l8
          clear hO8 hO7 hoff l7 l8 hI8
          go_wp2_with fail
          refine (pick_c rb bs _ fs.length _ hR (by omega) (by omega)).mono ?_
          rintro e w4 ⟨kn, rfl, kn0, kn1, hR4, hG4⟩
          obtain ⟨i, rfl⟩ : ∃ i : Nat, kn = (i : Int) := ⟨kn.toNat, by omega⟩
          have hi : i < fs.length := by rcases kn1 with h | h <;> omega
          have O8 : OwnInts w4 WA.heap.size 3 (.slice va fs.length vc) fs := ownsRow_gr HO8.out hG4 (off_none L8.out (by omega))
          have O7 : OwnInts w4 WA.heap.size 3 u7 os := ownsRow_gr HO7.out hG4 (off_none L7.out (by omega))
          have GG := Gr.trans hG hG4
          have hsz4 := hG4.size
          have hszw := hG.size
          obtain ⟨g, rfl, hgl, hgh⟩ := ownsRow_block O8 (by omega)
          obtain ⟨va2, vc2, e2, hI, _⟩ := O8.opened
          cases e2
          obtain ⟨b5, o5, ea5, hb5, hc5⟩ := hI.get (by omega)
          cases ea5
          have q1 := hc5 i hi
          rw [Nat.zero_add] at q1
          have hwi : IntKind.i64.wrap ((i : Int) + 1) = (i : Int) + 1 := IntWalk.i64_in _ (by omega)
          obtain ⟨z, hz⟩ : ∃ z, z = fs.getD i 0 := ⟨_, rfl⟩
          rw [← hz] at q1
          obtain ⟨cap8, hcap8, hcm8⟩ : ∃ q : Nat, fs.length ≤ vc ∧ vc ≤ maxLen := by
            obtain ⟨_, _, e3, _, h4, h5, _⟩ := ownsRow_row O8
            cases e3
            exact ⟨0, h4, h5⟩
          have hbase4 : WA.heap.size ≤ w4.heap.size := by have := (L8.out g rfl).2; omega
          have HRI := Lib.hid hI
          clear hz kn1 hR hc5 hI
          have lo7 := own_lo O7
          have lo8 := own_lo O8
          go_wp2_with (at_builtin; refine wpList_app tyInts (ownsRow_ext O7 (by (repeat (first | with_reducible assumption | with_reducible exact Ext.refl _ | with_reducible refine Ext.drew' ?_ | with_reducible refine Ext.drewN' ?_ _ | with_reducible refine Ext.alloc ?_ _ | (with_reducible refine Ext.setNew ?_ (by first | exact Nat.le_refl _ | (simp; done) | (simp; omega) | omega) _))))) (rowNew _ _ _ (by simp)) rfl (by simp [Value.oneCell']) (by omega) (by simp; omega) rfl rfl rfl rfl ?_; intro v9 w9 o9 g9 m9)
          obtain ⟨W5, EW5, g5, m5⟩ : ∃ W5, Ext w4 W5 ∧ W5.grownBy w9 u7.ownBlock ∧ RowMoved W5 u7 v9 := ⟨_, by (repeat (first | with_reducible assumption | with_reducible exact Ext.refl _ | with_reducible refine Ext.drew' ?_ | with_reducible refine Ext.drewN' ?_ _ | with_reducible refine Ext.alloc ?_ _ | (with_reducible refine Ext.setNew ?_ (by first | exact Nat.le_refl _ | (simp; done) | (simp; omega) | omega) _))), g9, m9⟩
          have O79 : OwnInts w9 WA.heap.size 3 v9 (os ++ [z]) := own_app (xs := os) (ys := [z]) rfl rfl o9
          have O89 : OwnInts w9 WA.heap.size 3 (.slice (some ⟨g, 0, none⟩) fs.length vc) fs := ownsRow_gr (ownsRow_ext O8 EW5) g5 (by
            refine .inr (fun e => ?_)
            exact HOF.out g rfl (by rw [← e]; rfl))
          have G9 : w.grownBy w9 (some rb) := Gr.row (Gr.trans GG (Gr.ext EW5 _)) g5 (fun q hq => by have := (lo7 q hq).1; omega)
          have R9 : Rdr w9 rb bs (N + 17 - k + 1) := by
            refine (hR4.ext EW5).below (B := WA.heap.size) ⟨g5.os, g5.tape, g5.output, g5.size, fun q hq => g5.block q (by have := EW5.size; omega) (fun e => ?_)⟩ (by omega)
            have := (lo7 q e.symm).1; omega
          have hmv := moved_offN m5 (u := .slice (some ⟨g, 0, none⟩) fs.length vc) (fun q hq => by have := (lo8 q hq).2; have := EW5.size; omega) HOF.out
          have s9 : W5.heap.size ≤ w9.heap.size := g5.size
          have s5 := EW5.size
          have hI9 := ints_take (intsAt_of_row (ownsRow_at O89)) i
          obtain ⟨o6, ho6, _, hsl⟩ := run_from (P := Try.prog) (t := 23) (e := 3) (sz := 1) Try.underlying23 intSizeP g fs.length vc ((i : Int) + 1) (by omega) (by omega)
          have e7 : ((i : Int) + 1).toNat = i + 1 := by omega
          rw [e7] at hsl ho6
          have hI9b := ints_drop (o := o6) (i := i) (intsAt_of_row (ownsRow_at O89)) hcap8 (fun h => by have := ho6 (by omega); omega) hi
          have r1 : RowAt w9 (some ⟨g, 0, none⟩) ((fs.take i).map (Value.int .i64)) := hI9.row
          have r2 : RowAt w9 (some ⟨g, o6, none⟩) ((fs.drop (i + 1)).map (Value.int .i64)) := hI9b.row
          have OD := (Blk.at w9 [] 3 rfl).owns (base := w9.heap.size) (size := 1) (n := 0) rfl (Nat.le_refl _) (by decide)
          have OA : World.ownsRow ((w9.alloc (.cells #[] 3)).drew) w9.heap.size 3 1 (.slice (some ⟨w9.heap.size, 0, none⟩) 0 0) 0 [] := ownsRow_ext OD (Ext.drew _)
          have EAd : Ext w9 ((w9.alloc (.cells #[] 3)).drew) := ((Ext.refl w9).alloc _).drew'
          have r1A := r1.ext EAd
          have ht1 : (fs.take i).length = i := by rw [List.length_take]; omega
          have ht2 : (fs.drop (i + 1)).length = fs.length - (i + 1) := by rw [List.length_drop]
          have HT1 := Lib.hid ht1
          have HT2 := Lib.hid ht2
          have hi0 : (0 : Int) ≤ (i : Int) := by omega
          have hi1 : (i : Int) ≤ (vc : Int) := by omega
          have hi2 : (i : Int) + 1 ≤ (fs.length : Int) := by omega
          have HMV := Lib.hid hmv
          have HG9 := Lib.hid G9
          have HR9 := Lib.hid R9
          have HO79 := Lib.hid O79
          have HLE := Lib.hid (show w.heap.size ≤ w9.heap.size ∧ WA.heap.size ≤ w9.heap.size from ⟨G9.size, by omega⟩)
          clear hI9 hI9b O89 O7 O8 lo7 lo8 o9 g9 m9 g5 m5 hmv G9 R9 O79 GG hG hG4 hR4 HRI ht1 ht2 e7 OD q1 ho6 EW5
          go_wp2_with fail
          go_region_law (first | (refine step_app tyInts OA r1A (by rw [List.length_map, HT1.out, Nat.mul_one]) (oneCell_ints _) (by omega) (by simp) rfl rfl rfl rfl ?_; intro v3 w10 o3 g3 m3; simp only [Nat.zero_add, List.nil_append] at o3; have E3 := ext_grown EAd g3 (by intro k hk; simp [Value.ownBlock] at hk; omega); obtain ⟨a3, c3, rfl, _, _, _, ob3⟩ := ownsRow_row o3; have r2A := r2.ext E3) | (refine step_app tyInts o3 r2A (by rw [List.length_map, HT2.out, Nat.mul_one]) (oneCell_ints _) (by omega) (by have := E3.size; omega) rfl rfl rfl rfl ?_; intro v4 w11 o4 g4 m4))
          have hl2 : (fs.take i ++ fs.drop (i + 1)).length + 1 = fs.length := by rw [List.length_append, HT1.out, HT2.out]; omega
          have hO2 : OwnInts w11 w9.heap.size 3 v4 (fs.take i ++ fs.drop (i + 1)) := own_app (n := i) (m := fs.length - (i + 1)) HT1.out.symm HT2.out.symm o4
          have hE11 : Ext w9 w11 := ext_grown E3 g4 (by intro k hk; have := (o3.lt _ hk).1; omega)
          obtain ⟨fs2, hfs2⟩ : ∃ q, q = fs.take i ++ fs.drop (i + 1) := ⟨_, rfl⟩
          rw [← hfs2] at hl2 hO2
          have HL2 := Lib.hid hl2
          have hk1 : IntKind.i64.wrap ((k : Int) - 1) = ((k - 1 : Nat) : Int) := by rw [IntWalk.i64_in _ (by omega)]; omega
          have hk2 : (k : Int) - 1 = ((k - 1 : Nat) : Int) := by omega
          clear hl2 hsl r1 r2 r1A OA EAd hfs2 E3 o3 g3 m3 o4 g4 m4 r2A ob3
          go_wp2_with fail
          go_roundw
          case rel =>
            refine ⟨k - 1, os ++ [z], fs2, by omega, by first | rfl | rw [hk2] | rw [hk1], by simp; omega, by have := HL2.out; omega, by have := HL2.out; omega, ownsRow_ext HO79.out hE11, ownsRow_base hO2 HLE.out.2, fun q hq e => ?_, (HR9.out.ext hE11).mono (by omega), Gr.trans HG9.out (Gr.ext hE11 _), by have := hE11.size; have := HLE.out.2; omega⟩
            have h1 := (own_lo hO2 q hq).1
            have h2 := (own_lo HO79.out q e).2
            omega
          case measure => simp [intOf]; omega
        · have hk0 : k = 0 := by omega
          subst hk0
          have HO7 := Lib.hid hO7
          have L7 := Lib.hid (own_lo hO7)
          clear hO8 hoff hf1 hf2 hO7
          go_wp2_with fail
          refine (odd_c rb bs _ n _ hR (by omega) (by omega) (by omega)).mono ?_
          rintro e w4 ⟨B, rfl, _, hR4, hG4⟩
          have O7 : OwnInts w4 WA.heap.size 3 u7 os := ownsRow_gr HO7.out hG4 (off_none L7.out (by omega))
          have G4 := Gr.trans hG hG4
          have hsz4 := G4.size
          have hszw := hG.size
          have hs34 := hG4.size
          clear hG hR hG4
          cases B
          · go_wp2_with fail
            go_ret
            exact ⟨u7, os, rfl, ownsRow_base O7 (Nat.le_of_lt lA), by omega, hR4.mono (by omega), G4⟩
          · obtain ⟨va, vc, rfl, hI7, _⟩ := O7.opened
            have lo7 := own_lo O7
            have hb4 : WA.heap.size ≤ w4.heap.size := by omega
            have rbA : rb < WA.heap.size := by omega
            have hol : os.length ≤ 17 := by omega
            have HFIN : Hid (∀ (M : Nat) (w5 : World), M ≤ N + 50 → Rdr w5 rb bs M → w.grownBy w5 (some rb) → WA.heap.size ≤ w5.heap.size → OwnInts w5 WA.heap.size 3 (.slice va os.length vc) os → ∀ r3 : Int, ∀ W9 v9 w9, Ext w5 W9 → W9.grownBy w9 (Value.slice va os.length vc).ownBlock → w9.ownsRow WA.heap.size 3 1 v9 (os.length + 1) (os.map (Value.int .i64) ++ [r3].map (Value.int .i64)) → PlacePost w rb bs N (.returned v9) w9) := Lib.hid (by
              intro M w5 hM hR5 hG5 hs5 O5 r3 W9 v9 w9 e9 g9 o9
              have l5 := own_lo O5
              refine ⟨v9, os ++ [r3], rfl, ownsRow_base (own_app (xs := os) (ys := [r3]) rfl rfl o9) (Nat.le_of_lt lA), by simp; omega, ?_, Gr.row (Gr.trans hG5 (Gr.ext e9 _)) g9 (fun q hq => by have := (l5 q hq).1; omega)⟩
              refine ((hR5.ext e9).below (B := WA.heap.size) ⟨g9.os, g9.tape, g9.output, g9.size, fun q hq => g9.block q ?_ (fun e => ?_)⟩ rbA).mono (by omega)
              · have h1 := e9.size; omega
              · have := (l5 q e.symm).1; omega)
            by_cases hz : os.length = 0
            · have hbz : ((os.length : Int) == 0) = true := by rw [hz]; rfl
              have HZ := Lib.hid hz
              clear hz hI7
              go_wp2_with fail
              refine (pick_c rb bs _ 3 _ hR4 (by omega) (by omega)).mono ?_
              rintro e w5 ⟨r3, rfl, r30, r31, hR5, hG5⟩
              have O75 : OwnInts w5 WA.heap.size 3 (.slice va os.length vc) os := ownsRow_gr O7 hG5 (off_none lo7 rbA)
              have hsz5 := hG5.size
              clear r31
              go_wp2_with (at_builtin; refine wpList_app tyInts (ownsRow_ext O75 (by (repeat (first | with_reducible assumption | with_reducible exact Ext.refl _ | with_reducible refine Ext.drew' ?_ | with_reducible refine Ext.drewN' ?_ _ | with_reducible refine Ext.alloc ?_ _ | (with_reducible refine Ext.setNew ?_ (by first | exact Nat.le_refl _ | (simp; done) | (simp; omega) | omega) _))))) (rowNew _ _ _ (by simp)) rfl (by simp [Value.oneCell']) (by omega) (by simp; omega) rfl rfl rfl rfl ?_; intro v9 w9 o9 g9 m9)
              go_ret
              exact HFIN.out _ w5 (by omega) hR5 (Gr.trans G4 hG5) (by omega) O75 r3 _ _ _ (by (repeat (first | with_reducible assumption | with_reducible exact Ext.refl _ | with_reducible refine Ext.drew' ?_ | with_reducible refine Ext.drewN' ?_ _ | with_reducible refine Ext.alloc ?_ _ | (with_reducible refine Ext.setNew ?_ (by first | exact Nat.le_refl _ | (simp; done) | (simp; omega) | omega) _)))) g9 o9
            · have hbz : ((os.length : Int) == 0) = false := by rw [beq_eq_false_iff_ne]; omega
              obtain ⟨g, rfl, hgl, hgh⟩ := ownsRow_block O7 (by omega)
              clear hI7
              go_wp2_with fail
              refine (pick_c rb bs _ 2 _ hR4 (by omega) (by omega)).mono ?_
              rintro e w6 ⟨r2, rfl, r20, r21, hR6, hG6⟩
              have O76 : OwnInts w6 WA.heap.size 3 (.slice (some ⟨g, 0, none⟩) os.length vc) os := ownsRow_gr O7 hG6 (off_none lo7 rbA)
              have hsz6 := hG6.size
              have G6 := Gr.trans G4 hG6
              clear r21 G4 O7 hR4 hG6
              by_cases hr2 : r2 = 0
              · subst hr2
                have HZ := Lib.hid hz
                clear hz
                go_wp2_with fail
                refine (pick_c rb bs _ 3 _ hR6 (by omega) (by omega)).mono ?_
                rintro e w5 ⟨r3, rfl, r30, r31, hR5, hG5⟩
                have O75 : OwnInts w5 WA.heap.size 3 (.slice (some ⟨g, 0, none⟩) os.length vc) os := ownsRow_gr O76 hG5 (off_none (own_lo O76) rbA)
                have hsz5 := hG5.size
                clear r31
                go_wp2_with (at_builtin; refine wpList_app tyInts (ownsRow_ext O75 (by (repeat (first | with_reducible assumption | with_reducible exact Ext.refl _ | with_reducible refine Ext.drew' ?_ | with_reducible refine Ext.drewN' ?_ _ | with_reducible refine Ext.alloc ?_ _ | (with_reducible refine Ext.setNew ?_ (by first | exact Nat.le_refl _ | (simp; done) | (simp; omega) | omega) _))))) (rowNew _ _ _ (by simp)) rfl (by simp [Value.oneCell']) (by omega) (by simp; omega) rfl rfl rfl rfl ?_; intro v9 w9 o9 g9 m9)
                go_ret
                exact HFIN.out _ w5 (by omega) hR5 (Gr.trans G6 hG5) (by omega) O75 r3 _ _ _ (by (repeat (first | with_reducible assumption | with_reducible exact Ext.refl _ | with_reducible refine Ext.drew' ?_ | with_reducible refine Ext.drewN' ?_ _ | with_reducible refine Ext.alloc ?_ _ | (with_reducible refine Ext.setNew ?_ (by first | exact Nat.le_refl _ | (simp; done) | (simp; omega) | omega) _)))) g9 o9
              · have hr2b : (r2 == 0) = false := by simp [hr2]
                obtain ⟨x0, hx0⟩ : ∃ x, x = os.getD 0 0 := ⟨_, rfl⟩
                have q0 : w6.cell? ⟨g, 0, none⟩ = some (.int .i64 x0) := by
                  have := ownsRow_cell O76 (j := 0) (u := .int .i64 x0) (by rw [hx0, List.getElem?_map, List.getD_eq_getElem?_getD, List.getElem?_eq_getElem (by omega)]; rfl)
                  exact this
                have hol0 : (0 : Int) < (os.length : Int) := by omega
                have HFS : Hid (∀ (M : Nat) (w5 : World) (j : Nat) (x : Int), M ≤ N + 50 → Rdr w5 rb bs M → w.grownBy w5 (some rb) → OwnInts w5 WA.heap.size 3 (.slice (some ⟨g, 0, none⟩) os.length vc) os → j < os.length → PlacePost w rb bs N (.returned (.slice (some ⟨g, 0, none⟩) os.length vc)) (w5.setCell ⟨g, j, none⟩ (.int .i64 x))) := Lib.hid (by
                  intro M w5 j x hM hR5 hG5 O5 hj
                  refine ⟨_, os.set j x, rfl, ?_, by rw [List.length_set]; omega, ?_, Gr.setNew hG5 (by show w.heap.size ≤ g; omega) _⟩
                  · unfold OwnInts
                    rw [List.length_set, List.map_set]
                    exact ownsRow_base (ownsRow_setAt O5 j (by rw [List.length_map]; exact hj) _) (Nat.le_of_lt lA)
                  · exact (hR5.below (B := WA.heap.size) (Below.setCell (Below.refl _ _) (by show WA.heap.size ≤ g; omega) _) rbA).mono (by omega))
                have HO6 := Lib.hid O76
                clear hx0 O76 HFIN lo7
                go_wp2_with fail
                refine wp_regionT (fun w' => ∀ o, w'.cell? ⟨g, o, none⟩ = w6.cell? ⟨g, o, none⟩) 14 (by kernel_rfl) ?_
                have hS0 : ∀ o, (World.drew w6).cell? ⟨g, o, none⟩ = w6.cell? ⟨g, o, none⟩ := fun o => rfl
                have hol0n : 0 < os.length := by omega
                have eD : Ext w6 (World.drew w6) := Ext.drew w6
                have hRD := hR6.ext eD
                have GD := Gr.trans G6 (Gr.ext eD _)
                have OD : OwnInts (World.drew w6) WA.heap.size 3 (.slice (some ⟨g, 0, none⟩) os.length vc) os := ownsRow_ext HO6.out eD
                ((refine wpAnyT_take 0 (v := ?_) rfl (by kernel_rfl) (fun _ _ _ h => h) (Or.inl ⟨by kernel_rfl, ?_⟩) (by assumption) ?_; rotate_left; (intro wS hSw; (try dsimp only at hSw); go_simp; (try with_reducible rfl)); (try simp only [Act.put, List.setIfInBounds_toArray, List.set_cons_zero, List.set_cons_succ])); (refine wpAnyT_take 1 (v := ?_) rfl (by kernel_rfl) (fun _ _ _ h => h) (Or.inl ⟨by kernel_rfl, ?_⟩) (by assumption) ?_; rotate_left; (intro wS hSw; (try dsimp only at hSw); go_simp; (try with_reducible rfl)); (try simp only [Act.put, List.setIfInBounds_toArray, List.set_cons_zero, List.set_cons_succ])); (refine wpAnyT_take 2 (v := ?_) rfl (by kernel_rfl) (fun _ _ _ h => h) (Or.inl ⟨by kernel_rfl, ?_⟩) (by assumption) ?_; rotate_left; (intro wS hSw; (try dsimp only at hSw); go_simp; (try with_reducible rfl)); (try simp only [Act.put, List.setIfInBounds_toArray, List.set_cons_zero, List.set_cons_succ])); (refine wpAnyT_take 3 (v := ?_) rfl (by kernel_rfl) (fun _ _ _ h => h) (Or.inl ⟨by kernel_rfl, ?_⟩) (by assumption) ?_; rotate_left; (intro wS hSw; (try dsimp only at hSw); go_simp; (try with_reducible rfl)); (try simp only [Act.put, List.setIfInBounds_toArray, List.set_cons_zero, List.set_cons_succ])); (refine wpAnyT_take 5 (v := ?_) rfl (by kernel_rfl) (fun _ _ _ h => h) (Or.inl ⟨by kernel_rfl, ?_⟩) (by assumption) ?_; rotate_left; (intro wS hSw; (try dsimp only at hSw); go_simp; (try with_reducible rfl)); (try simp only [Act.put, List.setIfInBounds_toArray, List.set_cons_zero, List.set_cons_succ])); (refine wpAnyT_take 6 (v := ?_) rfl (by kernel_rfl) (fun _ _ _ h => h) (Or.inl ⟨by kernel_rfl, ?_⟩) (by assumption) ?_; rotate_left; (intro wS hSw; (try dsimp only at hSw); go_simp; (try with_reducible rfl)); (try simp only [Act.put, List.setIfInBounds_toArray, List.set_cons_zero, List.set_cons_succ])); (refine wpAnyT_take 7 (v := ?_) rfl (by kernel_rfl) (fun _ _ _ h => h) (Or.inl ⟨by kernel_rfl, ?_⟩) (by assumption) ?_; rotate_left; (intro wS hSw; (try dsimp only at hSw); go_simp; (try with_reducible rfl)); (try simp only [Act.put, List.setIfInBounds_toArray, List.set_cons_zero, List.set_cons_succ])); (refine wpAnyT_take 9 (v := ?_) rfl (by kernel_rfl) (fun _ _ _ h => h) (Or.inl ⟨by kernel_rfl, ?_⟩) (by assumption) ?_; rotate_left; (intro wS hSw; (try dsimp only at hSw); go_simp; (try with_reducible rfl)); (try simp only [Act.put, List.setIfInBounds_toArray, List.set_cons_zero, List.set_cons_succ])))
                (refine wpAnyT_do2 4 8 (by kernel_rfl) rfl rfl (fun K hK => ?_) (fun K hK => ?_))
                · skip
                  go_simp
                  refine (pick_c rb bs _ os.length _ hRD (by omega) (by omega)).mono ?_
                  rintro e w7 ⟨r1, rfl, r10, r11, hR7, hG7⟩
                  obtain ⟨j, rfl⟩ : ∃ j : Nat, r1 = (j : Int) := ⟨r1.toNat, by omega⟩
                  have hj : j < os.length := by rcases r11 with h | h <;> omega
                  have hj0 : (0 : Int) ≤ (j : Int) := by omega
                  have hj1 : (j : Int) < (os.length : Int) := by omega
                  have qj : w6.cell? ⟨g, j, none⟩ = some (.int .i64 (os.getD j 0)) := ownsRow_cell HO6.out (j := j) (by rw [List.getElem?_map, List.getD_eq_getElem?_getD, List.getElem?_eq_getElem hj]; rfl)
                  clear r11
                  have O7 : OwnInts w7 WA.heap.size 3 (.slice (some ⟨g, 0, none⟩) os.length vc) os := ownsRow_gr (OD) hG7 (off_none (own_lo (OD)) rbA)
                  have G7 := Gr.trans (GD) hG7
                  have hS7 : ∀ o, w7.cell? ⟨g, o, none⟩ = w6.cell? ⟨g, o, none⟩ := fun o => (gcell hG7 g o (own_lo (OD) g rfl).2 (by omega)).trans (hS0 o)
                  (refine hK _ _ hS7 ?_; clear hK K; (try simp only [Act.put, List.setIfInBounds_toArray, List.set_cons_zero, List.set_cons_succ]))
                  (refine wpAnyT_do2 8 10 (by kernel_rfl) rfl rfl (fun K hK => ?_) (fun K hK => ?_))
                  · skip
                    go_simp
                    have eA8 : Ext (w7) ((w7).alloc (.cells #[.int .i64 (-1), .int .i64 25, .int .i64 x0] 3)) := (Ext.refl _).alloc _
                    have hDr8 : rb ≠ w7.heap.size := by have := (hR7).lt; omega
                    have bk8 : Blk ((w7).alloc (.cells #[.int .i64 (-1), .int .i64 25, .int .i64 x0] 3)) (w7.heap.size) 3 [.int .i64 (-1), .int .i64 25, .int .i64 x0] := Blk.at (w7) [.int .i64 (-1), .int .i64 25, .int .i64 x0] 3 rfl
                    have O8 : OwnInts ((w7).alloc (.cells #[.int .i64 (-1), .int .i64 25, .int .i64 x0] 3)) WA.heap.size 3 (.slice (some ⟨g, 0, none⟩) os.length vc) os := ownsRow_ext (O7) eA8
                    have G8 := Gr.trans (G7) (Gr.ext eA8 _)
                    have hR8 := (hR7).ext eA8
                    have hS8 : ∀ o, ((w7).alloc (.cells #[.int .i64 (-1), .int .i64 25, .int .i64 x0] 3)).cell? ⟨g, o, none⟩ = w6.cell? ⟨g, o, none⟩ := fun o => ((ecell eA8).1 g o (own_lo (O7) g rfl).2).trans (hS7 o)
                    (refine hK _ _ hS8 ?_; clear hK K; (try simp only [Act.put, List.setIfInBounds_toArray, List.set_cons_zero, List.set_cons_succ]))
                    (refine wpAnyT_do 10 (by kernel_rfl) rfl (fun K hK => ?_))
                    go_simp
                    refine (pick_c rb bs _ 3 _ hR8 (by omega) (by omega)).mono ?_
                    rintro e w9 ⟨r3, rfl, r30, r31, hR9, hG9⟩
                    have hr3 : r3 = 0 ∨ r3 = 1 ∨ r3 = 2 := by rcases r31 with h | h <;> omega
                    clear r31 r30
                    have O9 : OwnInts w9 WA.heap.size 3 (.slice (some ⟨g, 0, none⟩) os.length vc) os := ownsRow_gr (O8) hG9 (off_none (own_lo (O8)) rbA)
                    have G9 := Gr.trans (G8) hG9
                    have hS9 : ∀ o, w9.cell? ⟨g, o, none⟩ = w6.cell? ⟨g, o, none⟩ := fun o => (gcell hG9 g o (own_lo (O8) g rfl).2 (by omega)).trans (hS8 o)
                    have bk9 := bk8.gr hG9 (fun e => hDr8 (Option.some.inj e))
                    (refine hK _ _ hS9 ?_; clear hK K; (try simp only [Act.put, List.setIfInBounds_toArray, List.set_cons_zero, List.set_cons_succ]))
                    (have z0 := bk9.cell (i := 0) rfl; have z1 := bk9.cell (i := 1) rfl; have z2 := bk9.cell (i := 2) rfl; have q9 := (hS9 j).trans qj; have f9 := ownsRow_frozen O9 j; rcases hr3 with rfl | rfl | rfl; all_goals ((refine wpAnyT_do 11 (by kernel_rfl) rfl (fun K hK => ?_)); go_simp; (refine hK _ _ hS9 ?_; clear hK K; (try simp only [Act.put, List.setIfInBounds_toArray, List.set_cons_zero, List.set_cons_succ])); (refine wpAnyT_do 12 (by kernel_rfl) rfl (fun K hK => ?_)); go_simp; (refine hK _ _ hS9 ?_; clear hK K; (try simp only [Act.put, List.setIfInBounds_toArray, List.set_cons_zero, List.set_cons_succ])); (refine wpAnyT_do 13 (by kernel_rfl) rfl (fun K hK => ?_)); go_simp; (refine hK _ _ hS9 ?_; clear hK K; (try simp only [Act.put, List.setIfInBounds_toArray, List.set_cons_zero, List.set_cons_succ])); (refine wpAnyT_last 14 (by kernel_rfl) rfl (by decide) (by kernel_rfl) (fun K hK => ?_)); go_simp; (refine hK _ _ ?_; clear hK K; (try simp only [Act.put, List.setIfInBounds_toArray, List.set_cons_zero, List.set_cons_succ])); go_wp2_with fail; go_ret; exact HFS.out _ w9 j _ (by omega) hR9 G9 O9 hj))
                  · skip
                    go_simp
                    refine (pick_c rb bs _ 3 _ hR7 (by omega) (by omega)).mono ?_
                    rintro e w9 ⟨r3, rfl, r30, r31, hR9, hG9⟩
                    have hr3 : r3 = 0 ∨ r3 = 1 ∨ r3 = 2 := by rcases r31 with h | h <;> omega
                    clear r31 r30
                    have O9 : OwnInts w9 WA.heap.size 3 (.slice (some ⟨g, 0, none⟩) os.length vc) os := ownsRow_gr (O7) hG9 (off_none (own_lo (O7)) rbA)
                    have G9 := Gr.trans (G7) hG9
                    have hS9 : ∀ o, w9.cell? ⟨g, o, none⟩ = w6.cell? ⟨g, o, none⟩ := fun o => (gcell hG9 g o (own_lo (O7) g rfl).2 (by omega)).trans (hS7 o)
                    (refine hK _ _ hS9 ?_; clear hK K; (try simp only [Act.put, List.setIfInBounds_toArray, List.set_cons_zero, List.set_cons_succ]))
                    (refine wpAnyT_do 8 (by kernel_rfl) rfl (fun K hK => ?_))
                    go_simp
                    have eA8 : Ext (w9) ((w9).alloc (.cells #[.int .i64 (-1), .int .i64 25, .int .i64 x0] 3)) := (Ext.refl _).alloc _
                    have hDr8 : rb ≠ w9.heap.size := by have := (hR9).lt; omega
                    have bk8 : Blk ((w9).alloc (.cells #[.int .i64 (-1), .int .i64 25, .int .i64 x0] 3)) (w9.heap.size) 3 [.int .i64 (-1), .int .i64 25, .int .i64 x0] := Blk.at (w9) [.int .i64 (-1), .int .i64 25, .int .i64 x0] 3 rfl
                    have O8 : OwnInts ((w9).alloc (.cells #[.int .i64 (-1), .int .i64 25, .int .i64 x0] 3)) WA.heap.size 3 (.slice (some ⟨g, 0, none⟩) os.length vc) os := ownsRow_ext (O9) eA8
                    have G8 := Gr.trans (G9) (Gr.ext eA8 _)
                    have hR8 := (hR9).ext eA8
                    have hS8 : ∀ o, ((w9).alloc (.cells #[.int .i64 (-1), .int .i64 25, .int .i64 x0] 3)).cell? ⟨g, o, none⟩ = w6.cell? ⟨g, o, none⟩ := fun o => ((ecell eA8).1 g o (own_lo (O9) g rfl).2).trans (hS9 o)
                    (refine hK _ _ hS8 ?_; clear hK K; (try simp only [Act.put, List.setIfInBounds_toArray, List.set_cons_zero, List.set_cons_succ]))
                    (have z0 := bk8.cell (i := 0) rfl; have z1 := bk8.cell (i := 1) rfl; have z2 := bk8.cell (i := 2) rfl; have q9 := (hS8 j).trans qj; have f9 := ownsRow_frozen O8 j; rcases hr3 with rfl | rfl | rfl; all_goals ((refine wpAnyT_do 11 (by kernel_rfl) rfl (fun K hK => ?_)); go_simp; (refine hK _ _ hS8 ?_; clear hK K; (try simp only [Act.put, List.setIfInBounds_toArray, List.set_cons_zero, List.set_cons_succ])); (refine wpAnyT_do 12 (by kernel_rfl) rfl (fun K hK => ?_)); go_simp; (refine hK _ _ hS8 ?_; clear hK K; (try simp only [Act.put, List.setIfInBounds_toArray, List.set_cons_zero, List.set_cons_succ])); (refine wpAnyT_do 13 (by kernel_rfl) rfl (fun K hK => ?_)); go_simp; (refine hK _ _ hS8 ?_; clear hK K; (try simp only [Act.put, List.setIfInBounds_toArray, List.set_cons_zero, List.set_cons_succ])); (refine wpAnyT_last 14 (by kernel_rfl) rfl (by decide) (by kernel_rfl) (fun K hK => ?_)); go_simp; (refine hK _ _ ?_; clear hK K; (try simp only [Act.put, List.setIfInBounds_toArray, List.set_cons_zero, List.set_cons_succ])); go_wp2_with fail; go_ret; exact HFS.out _ _ j _ (by omega) hR8 G8 O8 hj))
                · skip
                  go_simp
                  have eA8 : Ext (World.drew w6) ((World.drew w6).alloc (.cells #[.int .i64 (-1), .int .i64 25, .int .i64 x0] 3)) := (Ext.refl _).alloc _
                  have hDr8 : rb ≠ w6.heap.size := by have := (hRD).lt; omega
                  have bk8 : Blk ((World.drew w6).alloc (.cells #[.int .i64 (-1), .int .i64 25, .int .i64 x0] 3)) (w6.heap.size) 3 [.int .i64 (-1), .int .i64 25, .int .i64 x0] := Blk.at (World.drew w6) [.int .i64 (-1), .int .i64 25, .int .i64 x0] 3 rfl
                  have O8 : OwnInts ((World.drew w6).alloc (.cells #[.int .i64 (-1), .int .i64 25, .int .i64 x0] 3)) WA.heap.size 3 (.slice (some ⟨g, 0, none⟩) os.length vc) os := ownsRow_ext (OD) eA8
                  have G8 := Gr.trans (GD) (Gr.ext eA8 _)
                  have hR8 := (hRD).ext eA8
                  have hS8 : ∀ o, ((World.drew w6).alloc (.cells #[.int .i64 (-1), .int .i64 25, .int .i64 x0] 3)).cell? ⟨g, o, none⟩ = w6.cell? ⟨g, o, none⟩ := fun o => ((ecell eA8).1 g o (own_lo (OD) g rfl).2).trans (hS0 o)
                  (refine hK _ _ hS8 ?_; clear hK K; (try simp only [Act.put, List.setIfInBounds_toArray, List.set_cons_zero, List.set_cons_succ]))
                  (refine wpAnyT_do 4 (by kernel_rfl) rfl (fun K hK => ?_))
                  go_simp
                  refine (pick_c rb bs _ os.length _ hR8 (by omega) (by omega)).mono ?_
                  rintro e w7 ⟨r1, rfl, r10, r11, hR7, hG7⟩
                  obtain ⟨j, rfl⟩ : ∃ j : Nat, r1 = (j : Int) := ⟨r1.toNat, by omega⟩
                  have hj : j < os.length := by rcases r11 with h | h <;> omega
                  have hj0 : (0 : Int) ≤ (j : Int) := by omega
                  have hj1 : (j : Int) < (os.length : Int) := by omega
                  have qj : w6.cell? ⟨g, j, none⟩ = some (.int .i64 (os.getD j 0)) := ownsRow_cell HO6.out (j := j) (by rw [List.getElem?_map, List.getD_eq_getElem?_getD, List.getElem?_eq_getElem hj]; rfl)
                  clear r11
                  have O7 : OwnInts w7 WA.heap.size 3 (.slice (some ⟨g, 0, none⟩) os.length vc) os := ownsRow_gr (O8) hG7 (off_none (own_lo (O8)) rbA)
                  have G7 := Gr.trans (G8) hG7
                  have hS7 : ∀ o, w7.cell? ⟨g, o, none⟩ = w6.cell? ⟨g, o, none⟩ := fun o => (gcell hG7 g o (own_lo (O8) g rfl).2 (by omega)).trans (hS8 o)
                  have bk7 := bk8.gr hG7 (fun e => hDr8 (Option.some.inj e))
                  (refine hK _ _ hS7 ?_; clear hK K; (try simp only [Act.put, List.setIfInBounds_toArray, List.set_cons_zero, List.set_cons_succ]))
                  (refine wpAnyT_do 10 (by kernel_rfl) rfl (fun K hK => ?_))
                  go_simp
                  refine (pick_c rb bs _ 3 _ hR7 (by omega) (by omega)).mono ?_
                  rintro e w9 ⟨r3, rfl, r30, r31, hR9, hG9⟩
                  have hr3 : r3 = 0 ∨ r3 = 1 ∨ r3 = 2 := by rcases r31 with h | h <;> omega
                  clear r31 r30
                  have O9 : OwnInts w9 WA.heap.size 3 (.slice (some ⟨g, 0, none⟩) os.length vc) os := ownsRow_gr (O7) hG9 (off_none (own_lo (O7)) rbA)
                  have G9 := Gr.trans (G7) hG9
                  have hS9 : ∀ o, w9.cell? ⟨g, o, none⟩ = w6.cell? ⟨g, o, none⟩ := fun o => (gcell hG9 g o (own_lo (O7) g rfl).2 (by omega)).trans (hS7 o)
                  have bk9 := bk7.gr hG9 (fun e => hDr8 (Option.some.inj e))
                  (refine hK _ _ hS9 ?_; clear hK K; (try simp only [Act.put, List.setIfInBounds_toArray, List.set_cons_zero, List.set_cons_succ]))
                  (have z0 := bk9.cell (i := 0) rfl; have z1 := bk9.cell (i := 1) rfl; have z2 := bk9.cell (i := 2) rfl; have q9 := (hS9 j).trans qj; have f9 := ownsRow_frozen O9 j; rcases hr3 with rfl | rfl | rfl; all_goals ((refine wpAnyT_do 11 (by kernel_rfl) rfl (fun K hK => ?_)); go_simp; (refine hK _ _ hS9 ?_; clear hK K; (try simp only [Act.put, List.setIfInBounds_toArray, List.set_cons_zero, List.set_cons_succ])); (refine wpAnyT_do 12 (by kernel_rfl) rfl (fun K hK => ?_)); go_simp; (refine hK _ _ hS9 ?_; clear hK K; (try simp only [Act.put, List.setIfInBounds_toArray, List.set_cons_zero, List.set_cons_succ])); (refine wpAnyT_do 13 (by kernel_rfl) rfl (fun K hK => ?_)); go_simp; (refine hK _ _ hS9 ?_; clear hK K; (try simp only [Act.put, List.setIfInBounds_toArray, List.set_cons_zero, List.set_cons_succ])); (refine wpAnyT_last 14 (by kernel_rfl) rfl (by decide) (by kernel_rfl) (fun K hK => ?_)); go_simp; (refine hK _ _ ?_; clear hK K; (try simp only [Act.put, List.setIfInBounds_toArray, List.set_cons_zero, List.set_cons_succ])); go_wp2_with fail; go_ret; exact HFS.out _ w9 j _ (by omega) hR9 G9 O9 hj))
end Go.Proofs.Ytgialedmbmfejaa
