/- Bundle: the encoding of a configuration. -/
import Derived.Test.YtgialedmbmfejaaBKf
import Derived.Test.YtgialedmbmfejaaByt
import Derived.Test.YtgialedmbmfejaaRegion2
namespace Go.Proofs.Ytgialedmbmfejaa
open Go.RowKit
set_option maxRecDepth 100000
set_option linter.unusedVariables false
def flagV (b : Bool) : Int := if b then 1 else 0
def encT (x : Tile) : List Int := (x.tb :: x.sl) ++ (flagV x.rg :: x.dr)
def encTs (ts : List Tile) : List Int := ts.flatMap encT
def encPs (ps : List (Int × Bool)) : List Int := ps.flatMap fun p => [p.1, flagV p.2]
def sumV (bs : List Int) : Int := bs.foldl (fun s b => (s * 257 + b + 1) % 65521) 1
def bodyV (k : Conf) : List Int := encTs k.ts ++ encPs k.ps
/-- The bitstream of a configuration; nothing where it is not valid. -/
noncomputable def encV (k : Conf) : List Int := if confB k then bodyV k ++ [sumV (bodyV k) / 256, sumV (bodyV k) % 256] else []
theorem sumV_app (bs : List Int) (b : Int) : sumV (bs ++ [b]) = (sumV bs * 257 + b + 1) % 65521 := by simp [sumV]
theorem sumV_lt (bs : List Int) : 0 ≤ sumV bs ∧ sumV bs < 65521 := by
 rcases List.eq_nil_or_concat bs with rfl | ⟨cs, b, rfl⟩
 ·simp [sumV]
 ·rw [List.concat_eq_append, sumV_app]; omega
theorem encTs_snoc (ts : List Tile) (x : Tile) : encTs (ts ++ [x]) = encTs ts ++ encT x := by simp [encTs]
theorem encPs_snoc (ps : List (Int × Bool)) (p : Int × Bool) : encPs (ps ++ [p]) = encPs ps ++ [p.1, flagV p.2] := by simp [encPs]
theorem encT_length (x : Tile) : (encT x).length = 2 + x.sl.length + x.dr.length := by simp [encT]; omega
end Go.Proofs.Ytgialedmbmfejaa

namespace Go.Proofs.Ytgialedmbmfejaa
open Go.RowKit
set_option maxRecDepth 100000
set_option linter.unusedVariables false
set_option linter.unusedSimpArgs false
theorem flag_c (b : Bool) (w : World) : Calls Try.prog 89 #[.bool b] w fun e w' => e = .returned (.int .u8 (flagV b)) ∧ w = w' := by
 cases b
 ·go_enter Try.func89, Try.ntmps89
  go_wp2
  go_ret
  exact ⟨rfl, rfl⟩
 ·go_enter Try.func89, Try.ntmps89
  go_wp2
  go_ret
  exact ⟨rfl, rfl⟩
theorem l9Bit_c (b : Bool) (w : World) : Calls Try.prog 91 #[.bool b] w fun e w' => e = .returned (.int .i64 (flagV b)) ∧ w = w' := by
 cases b
 ·go_enter Try.func91, Try.ntmps91
  go_wp2
  go_ret
  exact ⟨rfl, rfl⟩
 ·go_enter Try.func91, Try.ntmps91
  go_wp2
  go_ret
  exact ⟨rfl, rfl⟩
theorem take_snocI {xs : List Int} {j : Nat} (h : j < xs.length) : xs.take (j + 1) = xs.take j ++ [xs.getD j 0] := by
 rw [List.take_add_one, List.getElem?_eq_getElem h, List.getD_eq_getElem?_getD, List.getElem?_eq_getElem h]; rfl
theorem sum_step {xs : List Int} {j : Nat} (h : j < xs.length) : sumV (xs.take (j + 1)) = (sumV (xs.take j) * 257 + xs.getD j 0 + 1) % 65521 := by
 rw [take_snocI h, sumV_app]
theorem checksum_c (a : Option Addr) (c : Nat) (xs : List Int) (w : World) (hx : BytAt w a xs) (hb : AllB xs) (hl : xs.length ≤ 1048576) :
  Calls Try.prog 90 #[.slice a xs.length c] w fun e w' => e = .returned (.int .i64 (sumV xs)) ∧ Ext w w' := by
 have HB := Lib.hid hb
 clear hb
 go_enter Try.func90, Try.ntmps90
 go_wp2_with fail
 go_loopw [3, 8] (fun u3 i wr => ∃ (k : Nat) (s : Int), k ≤ xs.length ∧ i = .int .i64 k ∧ u3 = .int .i64 s ∧ Hid (s = sumV (xs.take k)) ∧ Ext w wr) (fun _ i _ => xs.length - (intOf i).toNat)
 case atStart => exact ⟨0, 1, Nat.zero_le _, rfl, rfl, Lib.hid rfl, Ext.refl w⟩
 case round =>
  obtain ⟨k, s, hk, rfl, rfl, hS, hE⟩ := hrel
  by_cases hlt : k < xs.length
  ·obtain ⟨b1, o1, rfl, hb1, hc1⟩ := (hx.ext hE).get (by omega)
   have q1 := hc1 k hlt
   have hbb := HB.out.get k hlt
   obtain ⟨h0, h1⟩ := hbb
   obtain ⟨s0, s1⟩ := sumV_lt (xs.take k)
   have hst := sum_step hlt
   rw [← hS.out] at s0 s1 hst
   obtain ⟨x, hxx⟩ : ∃ x, x = xs.getD k 0 := ⟨_, rfl⟩
   rw [← hxx] at q1 h0 h1 hst
   have em : (s * 257 + x + 1).tmod 65521 = (s * 257 + x + 1) % 65521 := Int.tmod_eq_emod_of_nonneg (by omega)
   have HST := Lib.hid hst
   have hw : IntKind.i64.wrap x = x := by simp [IntKind.wrap, IntKind.bits, IntKind.signed, IntKind.min, IntKind.max]; omega
   clear hc1 hxx hst
   go_wp2
   go_roundw
   case rel => exact ⟨k + 1, _, by omega, by go_num, rfl, Lib.hid HST.out.symm, hE⟩
   case measure => simp [intOf]; omega
  ·have hk2 : k = xs.length := by omega
   subst hk2
   have h2 := hS.out
   rw [List.take_length] at h2
   have H2 := Lib.hid h2
   clear h2
   go_wp2
   go_ret
   exact ⟨by rw [H2.out]; rfl, hE⟩
theorem l9Sum_c (a : Option Addr) (c : Nat) (xs : List Int) (w : World) (hx : BytAt w a xs) (hb : AllB xs) (hl : xs.length ≤ 1048576) :
  Calls Try.prog 92 #[.slice a xs.length c] w fun e w' => e = .returned (.int .i64 (sumV xs)) ∧ Ext w w' := by
 have HB := Lib.hid hb
 clear hb
 go_enter Try.func92, Try.ntmps92
 go_wp2_with fail
 go_loopw [3, 4] (fun u3 i wr => ∃ (k : Nat) (s : Int), k ≤ xs.length ∧ i = .int .i64 k ∧ u3 = .int .i64 s ∧ Hid (s = sumV (xs.take k)) ∧ Ext w wr) (fun _ i _ => xs.length - (intOf i).toNat)
 case atStart => exact ⟨0, 1, Nat.zero_le _, rfl, rfl, Lib.hid rfl, Ext.refl w⟩
 case round =>
  obtain ⟨k, s, hk, rfl, rfl, hS, hE⟩ := hrel
  by_cases hlt : k < xs.length
  ·obtain ⟨b1, o1, rfl, hb1, hc1⟩ := (hx.ext hE).get (by omega)
   have q1 := hc1 k hlt
   have hbb := HB.out.get k hlt
   obtain ⟨h0, h1⟩ := hbb
   obtain ⟨s0, s1⟩ := sumV_lt (xs.take k)
   have hst := sum_step hlt
   rw [← hS.out] at s0 s1 hst
   obtain ⟨x, hxx⟩ : ∃ x, x = xs.getD k 0 := ⟨_, rfl⟩
   rw [← hxx] at q1 h0 h1 hst
   have em : (s * 257 + x + 1).tmod 65521 = (s * 257 + x + 1) % 65521 := Int.tmod_eq_emod_of_nonneg (by omega)
   have HST := Lib.hid hst
   have hw : IntKind.i64.wrap x = x := by simp [IntKind.wrap, IntKind.bits, IntKind.signed, IntKind.min, IntKind.max]; omega
   clear hc1 hxx hst
   go_wp2
   go_roundw
   case rel => exact ⟨k + 1, _, by omega, by go_num, rfl, Lib.hid HST.out.symm, hE⟩
   case measure => simp [intOf]; omega
  ·have hk2 : k = xs.length := by omega
   subst hk2
   have h2 := hS.out
   rw [List.take_length] at h2
   have H2 := Lib.hid h2
   clear h2
   go_wp2
   go_ret
   exact ⟨by rw [H2.out]; rfl, hE⟩
/-- What an encoder keeps: the bytes so far, its argument's box. -/
structure EncO (w : World) (kc : List Value) (v : Value) (xs : List Int) (wr : World) : Prop where
 own : OwnY wr (w.heap.size + 1) v xs
 box : Blk wr w.heap.size 52 kc
 ext : Ext w wr
/-- The same, and a box beside it. -/
structure EncP (w : World) (kc : List Value) (B : Nat) (t : TypeId) (cs : List Value) (v : Value) (xs : List Int) (wr : World) : Prop where
 o : EncO w kc v xs wr
 b : Blk wr B t cs
 off : v.ownBlock ≠ some B
section
variable {w w1 wr w8 : World} {kc cs : List Value} {v v' : Value} {xs ys : List Int} {B : Nat} {t : TypeId}
theorem EncO.app (h : EncO w kc v xs wr) (e : Ext wr w1) (o8 : w8.ownsRow (w.heap.size + 1) 5 1 v' (xs.length + ys.length) (xs.map (Value.int .u8) ++ ys.map (Value.int .u8))) (g8 : w1.grownBy w8 v.ownBlock) : EncO w kc v' (xs ++ ys) w8 := by
 refine ⟨OwnY.app rfl rfl o8, (h.box.ext e).gr g8 (fun q => by have := (h.own.lt _ q).1; omega), ext_grown (h.ext.trans e) g8 (fun k hk => by have := (h.own.lt k hk).1; omega)⟩
theorem EncP.app (h : EncP w kc B t cs v xs wr) (e : Ext wr w1) (o8 : w8.ownsRow (w.heap.size + 1) 5 1 v' (xs.length + ys.length) (xs.map (Value.int .u8) ++ ys.map (Value.int .u8))) (g8 : w1.grownBy w8 v.ownBlock) (m8 : RowMoved w1 v v') : EncP w kc B t cs v' (xs ++ ys) w8 := by
 refine ⟨h.o.app e o8 g8, (h.b.ext e).gr g8 h.off, fun q => ?_⟩
 rcases m8 with m | ⟨k, hk, hlt⟩
 ·rw [m] at q; exact h.off q
 ·rw [hk] at q
  have := h.b.lt; have := e.size
  have : k = B := Option.some.inj q
  omega
theorem EncO.ext' (h : EncO w kc v xs wr) (e : Ext wr w1) : EncO w kc v xs w1 := ⟨h.own.ext e, h.box.ext e, h.ext.trans e⟩
theorem EncO.put (h : EncO w kc v xs wr) (cs : List Value) (t : TypeId) : EncP w kc wr.heap.size t cs v xs (wr.alloc (.cells cs.toArray t)) :=
 ⟨h.ext' ((Ext.refl wr).alloc _), Blk.new wr cs t, fun q => by have := (h.own.lt _ q).2; omega⟩
theorem EncP.ext' (h : EncP w kc B t cs v xs wr) (e : Ext wr w1) : EncP w kc B t cs v xs w1 := ⟨h.o.ext' e, h.b.ext e, h.off⟩
end
end Go.Proofs.Ytgialedmbmfejaa

namespace Go.Proofs.Ytgialedmbmfejaa
open Go.RowKit
set_option maxRecDepth 100000
set_option linter.unusedVariables false
set_option linter.unusedSimpArgs false
theorem wrap8 {x : Int} (h0 : 0 ≤ x) (h1 : x < 256) : IntKind.u8.wrap x = x := by simp [IntKind.wrap, IntKind.bits, IntKind.signed, IntKind.min, IntKind.max]; omega
theorem track_lt {n : Int} (h : trackB n = true) : 0 ≤ n ∧ n < 256 := by
 unfold trackB at h; simp at h; omega
theorem drv_lt {t : Nat} {d : Int} (h : drvB t d = true) : 0 ≤ d ∧ d < 256 := by
 rcases (by omega : (d < 0 ∨ 6 < d) ∨ (0 ≤ d ∧ d ≤ 6)) with h2 | h2
 ·rw [drvB_low h2] at h; cases h
 ·omega
theorem flag_lt (b : Bool) : 0 ≤ flagV b ∧ flagV b < 256 := by cases b <;> simp [flagV]
theorem Tile.Ok.encT {x : Tile} {t : Nat} (h : x.Ok t) : AllB (encT x) ∧ (Proofs.Ytgialedmbmfejaa.encT x).length = 13 := by
 refine ⟨?_, by rw [encT_length, h.ls, h.ld]⟩
 refine AllB.app (AllB.cons h.t0 h.t1 (fun y hy => ?_)) (AllB.cons (flag_lt _).1 (flag_lt _).2 (fun y hy => ?_))
 ·obtain ⟨j, hj, rfl⟩ := List.mem_iff_getElem.1 hy
  have := h.ss j (by rw [h.ls] at hj; exact hj)
  rw [List.getD_eq_getElem?_getD, List.getElem?_eq_getElem hj] at this
  exact track_lt this
 ·obtain ⟨j, hj, rfl⟩ := List.mem_iff_getElem.1 hy
  have := h.ds j (by rw [h.ld] at hj; exact hj)
  rw [List.getD_eq_getElem?_getD, List.getElem?_eq_getElem hj] at this
  exact drv_lt this
theorem encTs_take {ts : List Tile} {j : Nat} (h : j < ts.length) : encTs (ts.take (j + 1)) = encTs (ts.take j) ++ encT (ts.getD j tile0) := by
 rw [← encTs_snoc, List.take_add_one, List.getElem?_eq_getElem h, List.getD_eq_getElem?_getD, List.getElem?_eq_getElem h]; rfl
theorem encPs_take {ps : List (Int × Bool)} {j : Nat} (h : j < ps.length) : encPs (ps.take (j + 1)) = encPs (ps.take j) ++ [(ps.getD j (0, false)).1, flagV (ps.getD j (0, false)).2] := by
 rw [← encPs_snoc, List.take_add_one, List.getElem?_eq_getElem h, List.getD_eq_getElem?_getD, List.getElem?_eq_getElem h]; rfl
theorem Conf.Ok.tile {k : Conf} (h : k.Ok) {j : Nat} (hj : j < 25) : (k.ts.getD j tile0).Ok j := tileB_iff.1 (h.ts j hj)
theorem Conf.Ok.encTs {k : Conf} (h : k.Ok) : ∀ j, j ≤ 25 → AllB (encTs (k.ts.take j)) ∧ (encTs (k.ts.take j)).length = 13 * j
 | 0, _ => ⟨fun x hx => by simp [Proofs.Ytgialedmbmfejaa.encTs] at hx, by simp [Proofs.Ytgialedmbmfejaa.encTs]⟩
 | j + 1, hj => by
  have ih := Conf.Ok.encTs h j (by omega)
  have ht := (h.tile (j := j) (by omega)).encT
  have hl := h.lt
  rw [encTs_take (by omega)]
  exact ⟨ih.1.app ht.1, by rw [List.length_append, ih.2, ht.2]; omega⟩
theorem Conf.Ok.encPs {k : Conf} (h : k.Ok) : ∀ j, j ≤ 3 → AllB (encPs (k.ps.take j)) ∧ (encPs (k.ps.take j)).length = 2 * j
 | 0, _ => ⟨fun x hx => by simp [Proofs.Ytgialedmbmfejaa.encPs] at hx, by simp [Proofs.Ytgialedmbmfejaa.encPs]⟩
 | j + 1, hj => by
  have ih := Conf.Ok.encPs h j (by omega)
  have hp := track_lt (h.ps j (by omega))
  have hl := h.lp
  rw [encPs_take (by omega)]
  exact ⟨ih.1.app (.cons hp.1 hp.2 (.cons (flag_lt _).1 (flag_lt _).2 .nil)), by rw [List.length_append, ih.2]; simp; omega⟩
theorem Conf.Ok.body {k : Conf} (h : k.Ok) : AllB (bodyV k) ∧ (bodyV k).length = 331 := by
 have a := h.encTs 25 (Nat.le_refl _)
 have b := h.encPs 3 (Nat.le_refl _)
 rw [List.take_of_length_le (by rw [h.lt]; exact Nat.le_refl _)] at a
 rw [List.take_of_length_le (by rw [h.lp]; exact Nat.le_refl _)] at b
 exact ⟨a.1.app b.1, by unfold bodyV; rw [List.length_append, a.2, b.2]⟩
/-- A tile that is being written: table, selectors, flag, sources. -/
theorem encT_parts (x : Tile) (P : List Int) (ls : x.sl.length = 3) (ld : x.dr.length = 8) : P ++ encT x = (((P ++ [x.tb]) ++ x.sl.take 3) ++ [flagV x.rg]) ++ x.dr.take 8 := by
 rw [List.take_of_length_le (by omega), List.take_of_length_le (by omega)]
 unfold encT
 simp
set_option maxHeartbeats 4000000 in
theorem implEncodeConfig_c (k : Conf) (ta pa : Option Addr) (tc pc : Nat) (w : World) (hk : ConfAt w k ta pa) :
  Calls Try.prog 41 #[.agg #[.slice ta k.ts.length tc, .slice pa k.ps.length pc]] w (GiveY w (encV k)) := by
 have y := Blk.at w [.slice ta k.ts.length tc, .slice pa k.ps.length pc] 52 rfl
 have Ey : Ext w (w.alloc (.cells #[.slice ta k.ts.length tc, .slice pa k.ps.length pc] 52)) := (Ext.refl w).alloc _
 have T1 := Lib.hid (implConfigValid_c k ta pa tc pc)
 cases hb : confB k
 ·rw [hb] at T1
  have HV : Hid (encV k = []) := Lib.hid (by unfold encV; rw [hb]; rfl)
  obtain ⟨V, hV⟩ : ∃ V, V = encV k := ⟨_, rfl⟩
  rw [← hV] at HV ⊢
  clear hb hV
  go_enter Try.func41, Try.ntmps41
  go_wp2_with fail
  refine (T1.out _ (hk.ext Ey)).mono ?_
  rintro e w1 ⟨rfl, hE1⟩
  go_wp2
  go_ret
  exact ⟨_, rfl, by rw [HV.out]; exact OwnY.nil, Ey.trans hE1⟩
 ·rw [hb] at T1
  have HOk := Lib.hid (confB_iff.1 hb)
  have HV : Hid (encV k = bodyV k ++ [sumV (bodyV k) / 256, sumV (bodyV k) % 256]) := Lib.hid (by unfold encV; rw [hb]; rfl)
  obtain ⟨V, hV⟩ : ∃ V, V = encV k := ⟨_, rfl⟩
  rw [← hV] at HV ⊢
  clear hb hV
  have hts := hk.ts
  have hps := hk.ps
  obtain ⟨lt1, lt2⟩ : k.ts.length ≤ 25 ∧ 25 ≤ k.ts.length := by have := HOk.out.lt; omega
  obtain ⟨lp1, lp2⟩ : k.ps.length ≤ 3 ∧ 3 ≤ k.ps.length := by have := HOk.out.lp; omega
  go_enter Try.func41, Try.ntmps41
  go_wp2_with fail
  refine (T1.out _ (hk.ext Ey)).mono ?_
  rintro e w1 ⟨rfl, hE1⟩
  have R0 : EncO w [.slice ta k.ts.length tc, .slice pa k.ps.length pc] (.slice none 0 0) [] w1 := ⟨OwnY.nil, y.ext hE1, Ey.trans hE1⟩
  have y0 := R0.box.cell (i := 0) rfl
  have yl := R0.box.lt
  clear y hk T1
  go_wp2_with fail
  go_loopw [3, 19] (fun u3 u19 wr => ∃ (j : Nat) (xs : List Int), j ≤ k.ts.length ∧ u19 = .int .i64 j ∧ Hid (xs = encTs (k.ts.take j)) ∧ xs.length ≤ 13 * j ∧ EncO w [.slice ta k.ts.length tc, .slice pa k.ps.length pc] u3 xs wr) (fun _ i _ => k.ts.length - (intOf i).toNat)
  case atStart => exact ⟨0, [], Nat.zero_le _, rfl, Lib.hid (by simp [encTs]), by simp, R0⟩
  case round =>
   clear R0 y0 yl hE1
   obtain ⟨j, xs, hj, rfl, hXS, hxl, hR⟩ := hrel
   by_cases hlt : j < k.ts.length
   ·obtain ⟨b, o, rfl, hb, hcc⟩ := hts.get (by omega)
    obtain ⟨sa, sc, da, dc, q0, q1, q2, q3, hsl, hdr⟩ := hcc j hlt
    have hok := HOk.out.tile (j := j) (by omega)
    have hE := hR.ext
    replace q0 := ((ecell hE).1 b _ hb).trans q0
    replace q1 := ((ecell hE).1 b _ hb).trans q1
    replace q2 := ((ecell hE).1 b _ hb).trans q2
    replace q3 := ((ecell hE).1 b _ hb).trans q3
    have hb2 := Nat.lt_of_lt_of_le hb hE.size
    have hst := encTs_take hlt
    obtain ⟨x, hx⟩ : ∃ x, x = k.ts.getD j tile0 := ⟨_, rfl⟩
    rw [← hx] at q0 q1 q2 q3 hsl hdr hok hst
    rw [← hXS.out, encT_parts x xs hok.ls hok.ld] at hst
    have HST := Lib.hid hst
    have HO := Lib.hid hok
    have wtb := wrap8 hok.t0 hok.t1
    have ls := hok.ls
    have ld := hok.ld
    obtain ⟨ls1, ls2⟩ : x.sl.length ≤ 3 ∧ 3 ≤ x.sl.length := by omega
    obtain ⟨ld1, ld2⟩ : x.dr.length ≤ 8 ∧ 8 ≤ x.dr.length := by omega
    obtain ⟨w2, rfl⟩ : ∃ z : World, z = wr := ⟨_, rfl⟩
    have hP := hR.put [.int .i64 x.tb, .slice sa x.sl.length sc, .bool x.rg, .slice da x.dr.length dc] 61
    have A := (Ext.refl (w2.alloc (.cells #[.int .i64 x.tb, .slice sa x.sl.length sc, .bool x.rg, .slice da x.dr.length dc] 61))).alloc (.cells #[.int .u8 x.tb] 5)
    have z2 := hE.size
    have hw2 := hR.box.lt
    clear hcc hx hst hok ls ld
    go_wp2_with (at_builtin; go_loud (refine wpList_app tyByt (ownsRow_ext hP.o.own A) (rowAtN (w2.alloc (.cells #[.int .i64 x.tb, .slice sa x.sl.length sc, .bool x.rg, .slice da x.dr.length dc] 61)) #[.int .u8 x.tb] _ (B := w2.heap.size + 1) (by simp)) rfl (oneCell_byt [x.tb]) (by omega) (by simp; omega) rfl rfl rfl rfl ?_); intro v8 w8 o8 g8 m8; have P8 := hP.app A (ys := [x.tb]) o8 g8 m8; clear o8 g8 m8; have p1 := P8.b.cell (i := 1) rfl; have pl := P8.b.lt)
    clear q0 q1 q2 q3 hP A
    go_loopw [3, 32] (fun u3 u32 wr => ∃ (n : Nat) (ys : List Int), n ≤ x.sl.length ∧ u32 = .int .i64 n ∧ Hid (ys = (xs ++ [x.tb]) ++ x.sl.take n) ∧ ys.length ≤ 13 * j + 1 + n ∧ EncP w [.slice (some ⟨b, o, none⟩) k.ts.length tc, .slice pa k.ps.length pc] w2.heap.size 61 [.int .i64 x.tb, .slice sa x.sl.length sc, .bool x.rg, .slice da x.dr.length dc] u3 ys wr) (fun _ i _ => x.sl.length - (intOf i).toNat)
    case atStart => exact ⟨0, _, Nat.zero_le _, rfl, Lib.hid (by simp), by simp; omega, P8⟩
    case round =>
     clear P8 p1 pl
     obtain ⟨n, ys, hn, rfl, hYS, hyl, hP⟩ := hrel
     by_cases hn3 : n < x.sl.length
     ·obtain ⟨b1, o1, rfl, hb1, hc1⟩ := (hsl.ext hP.o.ext).get (by omega)
      have q1 := hc1 n hn3
      have hw := track_lt (HO.out.ss n (by omega))
      have hs := take_snocI hn3
      obtain ⟨s, hss⟩ : ∃ s, s = x.sl.getD n 0 := ⟨_, rfl⟩
      rw [← hss] at q1 hw hs
      have hww := wrap8 hw.1 hw.2
      have HS := Lib.hid hs
      obtain ⟨w3, rfl⟩ : ∃ z : World, z = wr := ⟨_, rfl⟩
      have A := (Ext.refl w3).alloc (.cells #[.int .u8 s] 5)
      have z3 := hP.o.ext.size
      clear hc1 hss hs hw
      go_wp2_with (at_builtin; go_loud (refine wpList_app tyByt (ownsRow_ext hP.o.own A) (rowAtN w3 #[.int .u8 s] _ (B := w3.heap.size) rfl) rfl (oneCell_byt [s]) (by omega) (by simp; omega) rfl rfl rfl rfl ?_); intro v8 w8 o8 g8 m8; have P8 := hP.app A (ys := [s]) o8 g8 m8; clear o8 g8 m8)
      go_roundw
      case rel => exact ⟨n + 1, _, by omega, by go_num, Lib.hid (by rw [HS.out, hYS.out, List.append_assoc]), by simp; omega, P8⟩
      case measure => simp [intOf]; omega
     ·have hn4 : n = x.sl.length := by omega
      subst hn4
      have hcell2 := hP.b.cell (i := 2) rfl
      have hcell3 := hP.b.cell (i := 3) rfl
      have hbl := hP.b.lt
      go_wp2_with fail
      refine (flag_c x.rg _).mono ?_
      rintro e w3 ⟨rfl, rfl⟩
      have A := (Ext.refl wr).alloc (.cells #[.int .u8 (flagV x.rg)] 5)
      have z3 := hP.o.ext.size
      obtain ⟨w3, rfl⟩ : ∃ z : World, z = wr := ⟨_, rfl⟩
      go_wp2_with (at_builtin; go_loud (refine wpList_app tyByt (ownsRow_ext hP.o.own A) (rowAtN w3 #[.int .u8 (flagV x.rg)] _ (B := w3.heap.size) rfl) rfl (oneCell_byt [flagV x.rg]) (by omega) (by simp; omega) rfl rfl rfl rfl ?_); intro v8 w8 o8 g8 m8; have P8 := hP.app A (ys := [flagV x.rg]) o8 g8 m8; clear o8 g8 m8; replace hcell3 := P8.b.cell (i := 3) rfl; replace hbl := P8.b.lt)
      clear hcell2 hcell3 hbl A
      go_loopw [3, 51] (fun u3 u51 wr => ∃ (n : Nat) (zs : List Int), n ≤ x.dr.length ∧ u51 = .int .i64 n ∧ Hid (zs = (ys ++ [flagV x.rg]) ++ x.dr.take n) ∧ zs.length ≤ 13 * j + 5 + n ∧ EncP w [.slice (some ⟨b, o, none⟩) k.ts.length tc, .slice pa k.ps.length pc] w2.heap.size 61 [.int .i64 x.tb, .slice sa x.sl.length sc, .bool x.rg, .slice da x.dr.length dc] u3 zs wr) (fun _ i _ => x.dr.length - (intOf i).toNat)
      case atStart => exact ⟨0, _, Nat.zero_le _, rfl, Lib.hid (by simp), by simp; omega, P8⟩
      case round =>
       clear P8 hP
       obtain ⟨n, zs, hn, rfl, hZS, hzl, hP⟩ := hrel
       by_cases hn3 : n < x.dr.length
       ·obtain ⟨b1, o1, rfl, hb1, hc1⟩ := (hdr.ext hP.o.ext).get (by omega)
        have q1 := hc1 n hn3
        have hw := drv_lt (HO.out.ds n (by omega))
        have hs := take_snocI hn3
        obtain ⟨s, hss⟩ : ∃ s, s = x.dr.getD n 0 := ⟨_, rfl⟩
        rw [← hss] at q1 hw hs
        have hww := wrap8 hw.1 hw.2
        have HS := Lib.hid hs
        obtain ⟨w4, rfl⟩ : ∃ z : World, z = wr := ⟨_, rfl⟩
        have A := (Ext.refl w4).alloc (.cells #[.int .u8 s] 5)
        have z3 := hP.o.ext.size
        clear hc1 hss hs hw
        go_wp2_with (at_builtin; go_loud (refine wpList_app tyByt (ownsRow_ext hP.o.own A) (rowAtN w4 #[.int .u8 s] _ (B := w4.heap.size) rfl) rfl (oneCell_byt [s]) (by omega) (by simp; omega) rfl rfl rfl rfl ?_); intro v8 w8 o8 g8 m8; have P8 := hP.app A (ys := [s]) o8 g8 m8; clear o8 g8 m8)
        go_roundw
        case rel => exact ⟨n + 1, _, by omega, by go_num, Lib.hid (by rw [HS.out, hZS.out, List.append_assoc]), by simp; omega, P8⟩
        case measure => simp [intOf]; omega
       ·have hn4 : n = x.dr.length := by omega
        subst hn4
        go_wp2
        go_roundw
        case rel =>
         refine ⟨j + 1, zs, by omega, by go_num, Lib.hid ?_, by omega, hP.o⟩
         rw [HST.out, hZS.out, hYS.out, List.take_length, List.take_length, List.take_of_length_le (by omega), List.take_of_length_le (by omega)]
        case measure => simp [intOf]; omega
   ·have hk2 : j = k.ts.length := by omega
    subst hk2
    have y1 := hR.box.cell (i := 1) rfl
    have yl := hR.box.lt
    go_wp2_with fail
    go_loopw [3, 65] (fun u3 u65 wr => ∃ (j : Nat) (ys : List Int), j ≤ k.ps.length ∧ u65 = .int .i64 j ∧ Hid (ys = xs ++ encPs (k.ps.take j)) ∧ ys.length ≤ 325 + 2 * j ∧ EncO w [.slice ta k.ts.length tc, .slice pa k.ps.length pc] u3 ys wr) (fun _ i _ => k.ps.length - (intOf i).toNat)
    case atStart => exact ⟨0, xs, Nat.zero_le _, rfl, Lib.hid (by simp [encPs]), by omega, hR⟩
    case round =>
     clear hR y1 yl
     obtain ⟨j, ys, hj, rfl, hYS, hyl, hR⟩ := hrel
     by_cases hlt2 : j < k.ps.length
     ·obtain ⟨b, o, rfl, hb, hcc⟩ := (hps.ext hR.ext).get (by omega)
      obtain ⟨q0, q1⟩ := hcc j hlt2
      have hw := track_lt (HOk.out.ps j (by omega))
      have hst := encPs_take hlt2
      obtain ⟨x, hx⟩ : ∃ x, x = k.ps.getD j (0, false) := ⟨_, rfl⟩
      rw [← hx] at q0 q1 hw hst
      obtain ⟨n, v⟩ := x
      dsimp only at q0 q1 hw hst
      have hww := wrap8 hw.1 hw.2
      have HST := Lib.hid hst
      obtain ⟨w2, rfl⟩ : ∃ z : World, z = wr := ⟨_, rfl⟩
      clear hcc hx hst hw
      go_wp2_with fail
      have hP := hR.put [.int .i64 n, .bool v] 75
      obtain ⟨W, hW⟩ : ∃ W, W = w2.alloc (.cells #[.int .i64 n, .bool v] 75) := ⟨_, rfl⟩
      have c0 := hP.b.cell (i := 0) rfl
      have c1 := hP.b.cell (i := 1) rfl
      have z2 := hR.ext.size
      have zl := hR.box.lt
      refine wp_regionT (fun w' => w'.cell? ⟨w2.heap.size, 0, none⟩ = some (.int .i64 n) ∧ w'.cell? ⟨w2.heap.size, 1, none⟩ = some (.bool v)) 8 (by kernel_rfl) ?_
      have hS0 := And.intro (a := (World.drew (w2.alloc (.cells #[.int .i64 n, .bool v] 75))).cell? ⟨w2.heap.size, 0, none⟩ = some (.int .i64 n)) c0 c1
      ((refine tkT 0 (v := ?_) rfl (by kernel_rfl) (by kernel_rfl) ?_ (by assumption) ?_; rotate_left; (intro wS hSw; (try dsimp only at hSw); go_simp; (try with_reducible rfl)); (try simp only [Act.put, lA, lB, lC])); (refine tkT 1 (v := ?_) rfl (by kernel_rfl) (by kernel_rfl) ?_ (by assumption) ?_; rotate_left; (intro wS hSw; (try dsimp only at hSw); go_simp; (try with_reducible rfl)); (try simp only [Act.put, lA, lB, lC])); (refine tkT 2 (v := ?_) rfl (by kernel_rfl) (by kernel_rfl) ?_ (by assumption) ?_; rotate_left; (intro wS hSw; (try dsimp only at hSw); go_simp; (try with_reducible rfl)); (try simp only [Act.put, lA, lB, lC])); (refine tkT 3 (v := ?_) rfl (by kernel_rfl) (by kernel_rfl) ?_ (by assumption) ?_; rotate_left; (intro wS hSw; (try dsimp only at hSw); go_simp; (try with_reducible rfl)); (try simp only [Act.put, lA, lB, lC])); (refine tkT 4 (v := ?_) rfl (by kernel_rfl) (by kernel_rfl) ?_ (by assumption) ?_; rotate_left; (intro wS hSw; (try dsimp only at hSw); go_simp; (try with_reducible rfl)); (try simp only [Act.put, lA, lB, lC])); (refine tkT 5 (v := ?_) rfl (by kernel_rfl) (by kernel_rfl) ?_ (by assumption) ?_; rotate_left; (intro wS hSw; (try dsimp only at hSw); go_simp; (try with_reducible rfl)); (try simp only [Act.put, lA, lB, lC])))
      (refine wpAnyT_do 6 (by kernel_rfl) rfl (fun K hK => ?_))
      go_simp
      refine (flag_c v _).mono ?_
      rintro e w3 ⟨rfl, rfl⟩
      (refine hK _ _ hS0 ?_; clear hK K; (try simp only [Act.put, lA, lB, lC]))
      (refine wpAnyT_do 7 (by kernel_rfl) rfl (fun K hK => ?_))
      go_simp
      have hP2 := hP.ext' (Ext.drew _)
      have A := (Ext.refl (World.drew (w2.alloc (.cells #[.int .i64 n, .bool v] 75)))).alloc (.cells #[.int .u8 n, .int .u8 (flagV v)] 5)
      have hP3 := hP2.ext' A
      have hS1 := And.intro (hP3.b.cell (i := 0) rfl) (hP3.b.cell (i := 1) rfl)
      (refine hK _ _ hS1 ?_; clear hK K; (try simp only [Act.put, lA, lB, lC]))
      (refine wpAnyT_do 8 (by kernel_rfl) rfl (fun K hK => ?_))
      refine step_app tyByt hP3.o.own (rowAtN (World.drew (w2.alloc (.cells #[.int .i64 n, .bool v] 75))) #[.int .u8 n, .int .u8 (flagV v)] _ (B := w2.heap.size + 1) (by simp)) rfl (oneCell_byt [n, flagV v]) (by omega) (by simp; omega) rfl rfl rfl rfl ?_
      intro v9 w9 o9 g9 m9
      have P9 := hP2.app A (ys := [n, flagV v]) o9 g9 m9
      have hS2 := And.intro (P9.b.cell (i := 0) rfl) (P9.b.cell (i := 1) rfl)
      (refine hK _ _ hS2 ?_; clear hK K; (try simp only [Act.put, lA, lB, lC]))
      (refine wpAnyT_last 9 (by kernel_rfl) rfl (by decide) (by kernel_rfl) (fun K hK => ?_))
      go_simp
      (refine hK _ _ ?_; clear hK K; (try simp only [Act.put, lA, lB, lC]))
      clear hS0 hS1 hS2 o9 g9 m9 hP hP2 hP3 A c0 c1
      go_wp2
      go_roundw
      case rel => exact ⟨j + 1, _, by omega, by go_num, Lib.hid (by rw [HST.out, hYS.out, List.append_assoc]), by simp; omega, P9.o⟩
      case measure => simp [intOf]; omega
     ·have hk3 : j = k.ps.length := by omega
      subst hk3
      have hbody : bodyV k = ys := by
       rw [hYS.out, hXS.out, List.take_length, List.take_length]; rfl
      have hall := HOk.out.body
      rw [hbody] at hall HV
      obtain ⟨hall, hal⟩ := hall
      obtain ⟨hal1, hal2⟩ : ys.length ≤ 331 ∧ 331 ≤ ys.length := by omega
      have HA := Lib.hid (checksum_c (hb := hall) (hl := by omega))
      clear hal hall hbody
      obtain ⟨s0, s1⟩ := sumV_lt ys
      obtain ⟨s, hs⟩ : ∃ s, s = sumV ys := ⟨_, rfl⟩
      rw [← hs] at s0 s1 HA HV
      obtain ⟨a5, c5, rfl, hX⟩ := hR.own.opened
      clear hs
      go_wp2_with fail
      refine (HA.out _ _ _ hX).mono ?_
      rintro e w3 ⟨rfl, hE3⟩
      have hR3 := hR.ext' hE3
      clear hR hX hE3
      have A := (Ext.refl w3).alloc (.cells #[.int .u8 (s / 256), .int .u8 (s % 256)] 5)
      have z3 := hR3.ext.size
      go_wp2_with (at_builtin; go_loud (refine wpList_app tyByt (ownsRow_ext hR3.own A) (rowAtN w3 #[.int .u8 (s / 256), .int .u8 (s % 256)] _ (B := w3.heap.size) rfl) rfl (oneCell_byt [s / 256, s % 256]) (by omega) (by have := hR3.box.lt; simp; omega) rfl rfl rfl rfl ?_); intro v8 w8 o8 g8 m8; have P8 := hR3.app A (ys := [s / 256, s % 256]) o8 g8; clear o8 g8 m8)
      go_ret
      exact ⟨_, rfl, by rw [HV.out]; exact P8.own.le (by omega), P8.ext⟩
end Go.Proofs.Ytgialedmbmfejaa

namespace Go.Proofs.Ytgialedmbmfejaa
open Go.RowKit
set_option maxRecDepth 100000
set_option linter.unusedVariables false
set_option linter.unusedSimpArgs false
set_option maxHeartbeats 4000000 in
theorem specEncodeConfig_c (k : Conf) (ta pa : Option Addr) (tc pc : Nat) (w : World) (hk : ConfAt w k ta pa) :
  Calls Try.prog 42 #[.agg #[.slice ta k.ts.length tc, .slice pa k.ps.length pc]] w (GiveY w (encV k)) := by
 have y := (Blk.at w [.slice ta k.ts.length tc, .slice pa k.ps.length pc] 52 rfl).alloc (.cells #[] 5)
 have Ey : Ext w (w.alloc (.cells #[.slice ta k.ts.length tc, .slice pa k.ps.length pc] 52)) := (Ext.refl w).alloc _
 have Ey2 : Ext w ((w.alloc (.cells #[.slice ta k.ts.length tc, .slice pa k.ps.length pc] 52)).alloc (.cells #[] 5)) := Ey.alloc _
 have N0 : OwnY ((w.alloc (.cells #[.slice ta k.ts.length tc, .slice pa k.ps.length pc] 52)).alloc (.cells #[] 5)) (w.heap.size + 1) (.slice (some ⟨w.heap.size + 1, 0, none⟩) 0 0) [] := (Blk.at (w.alloc (.cells #[.slice ta k.ts.length tc, .slice pa k.ps.length pc] 52)) [] 5 (B := w.heap.size + 1) (by simp)).owns (n := 0) (size := 1) rfl (Nat.le_refl _) (by decide)
 have T1 := Lib.hid (specConfigValid_c k ta pa tc pc)
 cases hb : confB k
 ·rw [hb] at T1
  have HV : Hid (encV k = []) := Lib.hid (by unfold encV; rw [hb]; rfl)
  obtain ⟨V, hV⟩ : ∃ V, V = encV k := ⟨_, rfl⟩
  rw [← hV] at HV ⊢
  clear hb hV
  go_enter Try.func42, Try.ntmps42
  go_wp2_with fail
  refine (T1.out _ (hk.ext Ey2)).mono ?_
  rintro e w1 ⟨rfl, hE1⟩
  go_wp2
  go_ret
  exact ⟨_, rfl, by rw [HV.out]; exact (N0.ext hE1).le (by omega), Ey2.trans hE1⟩
 ·rw [hb] at T1
  have HOk := Lib.hid (confB_iff.1 hb)
  have HV : Hid (encV k = bodyV k ++ [sumV (bodyV k) / 256, sumV (bodyV k) % 256]) := Lib.hid (by unfold encV; rw [hb]; rfl)
  obtain ⟨V, hV⟩ : ∃ V, V = encV k := ⟨_, rfl⟩
  rw [← hV] at HV ⊢
  clear hb hV
  have hts := hk.ts
  have hps := hk.ps
  obtain ⟨lt1, lt2⟩ : k.ts.length ≤ 25 ∧ 25 ≤ k.ts.length := by have := HOk.out.lt; omega
  obtain ⟨lp1, lp2⟩ : k.ps.length ≤ 3 ∧ 3 ≤ k.ps.length := by have := HOk.out.lp; omega
  go_enter Try.func42, Try.ntmps42
  go_wp2_with fail
  refine (T1.out _ (hk.ext Ey2)).mono ?_
  rintro e w1 ⟨rfl, hE1⟩
  have R0 : EncO w [.slice ta k.ts.length tc, .slice pa k.ps.length pc] (.slice (some ⟨w.heap.size + 1, 0, none⟩) 0 0) [] w1 := ⟨N0.ext hE1, y.ext hE1, Ey2.trans hE1⟩
  clear y hk T1 N0 Ey2
  go_wp2_with fail
  go_loopw [3, 4] (fun u3 u19 wr => ∃ (j : Nat) (xs : List Int), j ≤ k.ts.length ∧ u19 = .int .i64 j ∧ Hid (xs = encTs (k.ts.take j)) ∧ xs.length ≤ 13 * j ∧ EncO w [.slice ta k.ts.length tc, .slice pa k.ps.length pc] u3 xs wr) (fun _ i _ => k.ts.length - (intOf i).toNat)
  case atStart => exact ⟨0, [], Nat.zero_le _, rfl, Lib.hid (by simp [encTs]), by simp, R0⟩
  case round =>
   clear R0 hE1
   obtain ⟨j, xs, hj, rfl, hXS, hxl, hR⟩ := hrel
   have y0 := hR.box.cell (i := 0) rfl
   have y1 := hR.box.cell (i := 1) rfl
   have yl := hR.box.lt
   by_cases hlt : j < k.ts.length
   ·obtain ⟨b, o, rfl, hb, hcc⟩ := hts.get (by omega)
    obtain ⟨sa, sc, da, dc, q0, q1, q2, q3, hsl, hdr⟩ := hcc j hlt
    have hok := HOk.out.tile (j := j) (by omega)
    have hE := hR.ext
    replace q0 := ((ecell hE).1 b _ hb).trans q0
    replace q1 := ((ecell hE).1 b _ hb).trans q1
    replace q2 := ((ecell hE).1 b _ hb).trans q2
    replace q3 := ((ecell hE).1 b _ hb).trans q3
    have hb2 := Nat.lt_of_lt_of_le hb hE.size
    have hst := encTs_take hlt
    obtain ⟨x, hx⟩ : ∃ x, x = k.ts.getD j tile0 := ⟨_, rfl⟩
    rw [← hx] at q0 q1 q2 q3 hsl hdr hok hst
    rw [← hXS.out, encT_parts x xs hok.ls hok.ld] at hst
    have HST := Lib.hid hst
    have HO := Lib.hid hok
    have wtb := wrap8 hok.t0 hok.t1
    have ls := hok.ls
    have ld := hok.ld
    obtain ⟨ls1, ls2⟩ : x.sl.length ≤ 3 ∧ 3 ≤ x.sl.length := by omega
    obtain ⟨ld1, ld2⟩ : x.dr.length ≤ 8 ∧ 8 ≤ x.dr.length := by omega
    obtain ⟨w2, rfl⟩ : ∃ z : World, z = wr := ⟨_, rfl⟩
    have hP := hR.put [.int .i64 x.tb, .slice sa x.sl.length sc, .bool x.rg, .slice da x.dr.length dc] 61
    have A := (Ext.refl (w2.alloc (.cells #[.int .i64 x.tb, .slice sa x.sl.length sc, .bool x.rg, .slice da x.dr.length dc] 61))).alloc (.cells #[.int .u8 x.tb] 5)
    have z2 := hE.size
    have hw2 := hR.box.lt
    clear hcc hx hst hok ls ld
    go_wp2_with (at_builtin; go_loud (refine wpList_app tyByt (ownsRow_ext hP.o.own A) (rowAtN (w2.alloc (.cells #[.int .i64 x.tb, .slice sa x.sl.length sc, .bool x.rg, .slice da x.dr.length dc] 61)) #[.int .u8 x.tb] _ (B := w2.heap.size + 1) (by simp)) rfl (oneCell_byt [x.tb]) (by omega) (by simp; omega) rfl rfl rfl rfl ?_); intro v8 w8 o8 g8 m8; have P8 := hP.app A (ys := [x.tb]) o8 g8 m8; clear o8 g8 m8; have pl := P8.b.lt)
    clear q0 q1 q2 q3 hP A y0 y1 yl
    go_loopw [3, 6] (fun u3 u32 wr => ∃ (n : Nat) (ys : List Int), n ≤ x.sl.length ∧ u32 = .int .i64 n ∧ Hid (ys = (xs ++ [x.tb]) ++ x.sl.take n) ∧ ys.length ≤ 13 * j + 1 + n ∧ EncP w [.slice (some ⟨b, o, none⟩) k.ts.length tc, .slice pa k.ps.length pc] w2.heap.size 61 [.int .i64 x.tb, .slice sa x.sl.length sc, .bool x.rg, .slice da x.dr.length dc] u3 ys wr) (fun _ i _ => x.sl.length - (intOf i).toNat)
    case atStart => exact ⟨0, _, Nat.zero_le _, rfl, Lib.hid (by simp), by simp; omega, P8⟩
    case round =>
     clear P8 pl
     obtain ⟨n, ys, hn, rfl, hYS, hyl, hP⟩ := hrel
     have p1 := hP.b.cell (i := 1) rfl
     have pl := hP.b.lt
     by_cases hn3 : n < x.sl.length
     ·obtain ⟨b1, o1, rfl, hb1, hc1⟩ := (hsl.ext hP.o.ext).get (by omega)
      have q1 := hc1 n hn3
      have hw := track_lt (HO.out.ss n (by omega))
      have hs := take_snocI hn3
      obtain ⟨s, hss⟩ : ∃ s, s = x.sl.getD n 0 := ⟨_, rfl⟩
      rw [← hss] at q1 hw hs
      have hww := wrap8 hw.1 hw.2
      have HS := Lib.hid hs
      obtain ⟨w3, rfl⟩ : ∃ z : World, z = wr := ⟨_, rfl⟩
      have A := (Ext.refl w3).alloc (.cells #[.int .u8 s] 5)
      have z3 := hP.o.ext.size
      clear hc1 hss hs hw
      go_wp2_with (at_builtin; go_loud (refine wpList_app tyByt (ownsRow_ext hP.o.own A) (rowAtN w3 #[.int .u8 s] _ (B := w3.heap.size) rfl) rfl (oneCell_byt [s]) (by omega) (by simp; omega) rfl rfl rfl rfl ?_); intro v8 w8 o8 g8 m8; have P8 := hP.app A (ys := [s]) o8 g8 m8; clear o8 g8 m8)
      go_roundw
      case rel => exact ⟨n + 1, _, by omega, by go_num, Lib.hid (by rw [HS.out, hYS.out, List.append_assoc]), by simp; omega, P8⟩
      case measure => simp [intOf]; omega
     ·have hn4 : n = x.sl.length := by omega
      subst hn4
      have hcell2 := hP.b.cell (i := 2) rfl
      have hcell3 := hP.b.cell (i := 3) rfl
      have hbl := hP.b.lt
      go_wp2_with fail
      refine (l9Bit_c x.rg _).mono ?_
      rintro e w3 ⟨rfl, rfl⟩
      have hwf := wrap8 (flag_lt x.rg).1 (flag_lt x.rg).2
      have A := (Ext.refl wr).alloc (.cells #[.int .u8 (flagV x.rg)] 5)
      have z3 := hP.o.ext.size
      obtain ⟨w3, rfl⟩ : ∃ z : World, z = wr := ⟨_, rfl⟩
      go_wp2_with (at_builtin; go_loud (refine wpList_app tyByt (ownsRow_ext hP.o.own A) (rowAtN w3 #[.int .u8 (flagV x.rg)] _ (B := w3.heap.size) rfl) rfl (oneCell_byt [flagV x.rg]) (by omega) (by simp; omega) rfl rfl rfl rfl ?_); intro v8 w8 o8 g8 m8; have P8 := hP.app A (ys := [flagV x.rg]) o8 g8 m8; clear o8 g8 m8)
      clear hcell2 hcell3 hbl A p1 pl
      go_loopw [3, 7] (fun u3 u51 wr => ∃ (n : Nat) (zs : List Int), n ≤ x.dr.length ∧ u51 = .int .i64 n ∧ Hid (zs = (ys ++ [flagV x.rg]) ++ x.dr.take n) ∧ zs.length ≤ 13 * j + 5 + n ∧ EncP w [.slice (some ⟨b, o, none⟩) k.ts.length tc, .slice pa k.ps.length pc] w2.heap.size 61 [.int .i64 x.tb, .slice sa x.sl.length sc, .bool x.rg, .slice da x.dr.length dc] u3 zs wr) (fun _ i _ => x.dr.length - (intOf i).toNat)
      case atStart => exact ⟨0, _, Nat.zero_le _, rfl, Lib.hid (by simp), by simp; omega, P8⟩
      case round =>
       clear P8 hP
       obtain ⟨n, zs, hn, rfl, hZS, hzl, hP⟩ := hrel
       have p1 := hP.b.cell (i := 3) rfl
       have pl := hP.b.lt
       by_cases hn3 : n < x.dr.length
       ·obtain ⟨b1, o1, rfl, hb1, hc1⟩ := (hdr.ext hP.o.ext).get (by omega)
        have q1 := hc1 n hn3
        have hw := drv_lt (HO.out.ds n (by omega))
        have hs := take_snocI hn3
        obtain ⟨s, hss⟩ : ∃ s, s = x.dr.getD n 0 := ⟨_, rfl⟩
        rw [← hss] at q1 hw hs
        have hww := wrap8 hw.1 hw.2
        have HS := Lib.hid hs
        obtain ⟨w4, rfl⟩ : ∃ z : World, z = wr := ⟨_, rfl⟩
        have A := (Ext.refl w4).alloc (.cells #[.int .u8 s] 5)
        have z3 := hP.o.ext.size
        clear hc1 hss hs hw
        go_wp2_with (at_builtin; go_loud (refine wpList_app tyByt (ownsRow_ext hP.o.own A) (rowAtN w4 #[.int .u8 s] _ (B := w4.heap.size) rfl) rfl (oneCell_byt [s]) (by omega) (by simp; omega) rfl rfl rfl rfl ?_); intro v8 w8 o8 g8 m8; have P8 := hP.app A (ys := [s]) o8 g8 m8; clear o8 g8 m8)
        go_roundw
        case rel => exact ⟨n + 1, _, by omega, by go_num, Lib.hid (by rw [HS.out, hZS.out, List.append_assoc]), by simp; omega, P8⟩
        case measure => simp [intOf]; omega
       ·have hn4 : n = x.dr.length := by omega
        subst hn4
        go_wp2
        go_roundw
        case rel =>
         refine ⟨j + 1, zs, by omega, by go_num, Lib.hid ?_, by omega, hP.o⟩
         rw [HST.out, hZS.out, hYS.out, List.take_length, List.take_length, List.take_of_length_le (by omega), List.take_of_length_le (by omega)]
        case measure => simp [intOf]; omega
   ·have hk2 : j = k.ts.length := by omega
    subst hk2
    go_wp2_with fail
    go_loopw [3, 8] (fun u3 u65 wr => ∃ (j : Nat) (ys : List Int), j ≤ k.ps.length ∧ u65 = .int .i64 j ∧ Hid (ys = xs ++ encPs (k.ps.take j)) ∧ ys.length ≤ 325 + 2 * j ∧ EncO w [.slice ta k.ts.length tc, .slice pa k.ps.length pc] u3 ys wr) (fun _ i _ => k.ps.length - (intOf i).toNat)
    case atStart => exact ⟨0, xs, Nat.zero_le _, rfl, Lib.hid (by simp [encPs]), by omega, hR⟩
    case round =>
     clear hR y0 y1 yl
     obtain ⟨j, ys, hj, rfl, hYS, hyl, hR⟩ := hrel
     have y1 := hR.box.cell (i := 1) rfl
     have yl := hR.box.lt
     by_cases hlt2 : j < k.ps.length
     ·obtain ⟨b, o, rfl, hb, hcc⟩ := (hps.ext hR.ext).get (by omega)
      obtain ⟨q0, q1⟩ := hcc j hlt2
      have hw := track_lt (HOk.out.ps j (by omega))
      have hst := encPs_take hlt2
      obtain ⟨x, hx⟩ : ∃ x, x = k.ps.getD j (0, false) := ⟨_, rfl⟩
      rw [← hx] at q0 q1 hw hst
      obtain ⟨n, v⟩ := x
      dsimp only at q0 q1 hw hst
      have hww := wrap8 hw.1 hw.2
      have HST := Lib.hid hst
      obtain ⟨w2, rfl⟩ : ∃ z : World, z = wr := ⟨_, rfl⟩
      clear hcc hx hst hw
      have hwf := wrap8 (flag_lt v).1 (flag_lt v).2
      have z2 := hR.ext.size
      go_wp2_with fail
      refine wp_regionT (fun w' => w'.cell? ⟨w.heap.size, 1, none⟩ = some (.slice (some ⟨b, o, none⟩) k.ps.length pc) ∧ w'.cell? ⟨b, o + j * 2, none⟩ = some (.int .i64 n) ∧ w'.cell? ⟨b, o + j * 2 + 1, none⟩ = some (.bool v)) 17 (by kernel_rfl) ?_
      have hS0 := And.intro (a := w2.drew.cell? ⟨w.heap.size, 1, none⟩ = some (.slice (some ⟨b, o, none⟩) k.ps.length pc)) y1 (And.intro (a := w2.drew.cell? ⟨b, o + j * 2, none⟩ = some (.int .i64 n)) q0 (show w2.drew.cell? ⟨b, o + j * 2 + 1, none⟩ = some (.bool v) from q1))
      ((refine tkT 0 (v := ?_) rfl (by kernel_rfl) (by kernel_rfl) ?_ (by assumption) ?_; rotate_left; (intro wS hSw; (try dsimp only at hSw); go_simp; (try with_reducible rfl)); (try simp only [Act.put, lA, lB, lC])); (refine tkT 1 (v := ?_) rfl (by kernel_rfl) (by kernel_rfl) ?_ (by assumption) ?_; rotate_left; (intro wS hSw; (try dsimp only at hSw); go_simp; (try with_reducible rfl)); (try simp only [Act.put, lA, lB, lC])); (refine tkT 2 (v := ?_) rfl (by kernel_rfl) (by kernel_rfl) ?_ (by assumption) ?_; rotate_left; (intro wS hSw; (try dsimp only at hSw); go_simp; (try with_reducible rfl)); (try simp only [Act.put, lA, lB, lC])); (refine tkT 3 (v := ?_) rfl (by kernel_rfl) (by kernel_rfl) ?_ (by assumption) ?_; rotate_left; (intro wS hSw; (try dsimp only at hSw); go_simp; (try with_reducible rfl)); (try simp only [Act.put, lA, lB, lC])); (refine tkT 4 (v := ?_) rfl (by kernel_rfl) (by kernel_rfl) ?_ (by assumption) ?_; rotate_left; (intro wS hSw; (try dsimp only at hSw); go_simp; (try with_reducible rfl)); (try simp only [Act.put, lA, lB, lC])); (refine tkT 5 (v := ?_) rfl (by kernel_rfl) (by kernel_rfl) ?_ (by assumption) ?_; rotate_left; (intro wS hSw; (try dsimp only at hSw); go_simp; (try with_reducible rfl)); (try simp only [Act.put, lA, lB, lC])); (refine tkT 6 (v := ?_) rfl (by kernel_rfl) (by kernel_rfl) ?_ (by assumption) ?_; rotate_left; (intro wS hSw; (try dsimp only at hSw); go_simp; (try with_reducible rfl)); (try simp only [Act.put, lA, lB, lC])); (refine tkT 7 (v := ?_) rfl (by kernel_rfl) (by kernel_rfl) ?_ (by assumption) ?_; rotate_left; (intro wS hSw; (try dsimp only at hSw); go_simp; (try with_reducible rfl)); (try simp only [Act.put, lA, lB, lC])); (refine tkT 8 (v := ?_) rfl (by kernel_rfl) (by kernel_rfl) ?_ (by assumption) ?_; rotate_left; (intro wS hSw; (try dsimp only at hSw); go_simp; (try with_reducible rfl)); (try simp only [Act.put, lA, lB, lC])); (refine tkT 9 (v := ?_) rfl (by kernel_rfl) (by kernel_rfl) ?_ (by assumption) ?_; rotate_left; (intro wS hSw; (try dsimp only at hSw); go_simp; (try with_reducible rfl)); (try simp only [Act.put, lA, lB, lC])); (refine tkT 10 (v := ?_) rfl (by kernel_rfl) (by kernel_rfl) ?_ (by assumption) ?_; rotate_left; (intro wS hSw; (try dsimp only at hSw); go_simp; (try with_reducible rfl)); (try simp only [Act.put, lA, lB, lC])); (refine tkT 11 (v := ?_) rfl (by kernel_rfl) (by kernel_rfl) ?_ (by assumption) ?_; rotate_left; (intro wS hSw; (try dsimp only at hSw); go_simp; (try with_reducible rfl)); (try simp only [Act.put, lA, lB, lC])); (refine tkT 12 (v := ?_) rfl (by kernel_rfl) (by kernel_rfl) ?_ (by assumption) ?_; rotate_left; (intro wS hSw; (try dsimp only at hSw); go_simp; (try with_reducible rfl)); (try simp only [Act.put, lA, lB, lC])); (refine tkT 13 (v := ?_) rfl (by kernel_rfl) (by kernel_rfl) ?_ (by assumption) ?_; rotate_left; (intro wS hSw; (try dsimp only at hSw); go_simp; (try with_reducible rfl)); (try simp only [Act.put, lA, lB, lC])))
      (refine wpAnyT_do 14 (by kernel_rfl) rfl (fun K hK => ?_))
      go_simp
      refine (l9Bit_c v _).mono ?_
      rintro e w3 ⟨rfl, rfl⟩
      (refine hK _ _ hS0 ?_; clear hK K; (try simp only [Act.put, lA, lB, lC]))
      ((refine tkT 15 (v := ?_) rfl (by kernel_rfl) (by kernel_rfl) ?_ (by assumption) ?_; rotate_left; (intro wS hSw; (try dsimp only at hSw); go_simp; (try with_reducible rfl)); (try simp only [Act.put, lA, lB, lC])))
      (refine wpAnyT_do 16 (by kernel_rfl) rfl (fun K hK => ?_))
      go_simp
      have hP2 := hR.ext' (Ext.drew _)
      have A := (Ext.refl w2.drew).alloc (.cells #[.int .u8 n, .int .u8 (flagV v)] 5)
      have hP3 := hP2.ext' A
      have hS1 := And.intro (hP3.box.cell (i := 1) rfl) (And.intro (((ecell A).1 b _ hb).trans hS0.2.1) (((ecell A).1 b _ hb).trans hS0.2.2))
      (refine hK _ _ hS1 ?_; clear hK K; (try simp only [Act.put, lA, lB, lC]))
      (refine wpAnyT_doN 17 (by kernel_rfl) rfl (by decide) (fun K hK => ?_))
      refine step_app tyByt hP3.own (rowAtN w2.drew #[.int .u8 n, .int .u8 (flagV v)] _ (B := w2.heap.size) rfl) rfl (oneCell_byt [n, flagV v]) (by omega) (by simp; omega) rfl rfl rfl rfl ?_
      intro v9 w9 o9 g9 m9
      have P9 := hP2.app A (ys := [n, flagV v]) o9 g9
      (refine hK _ _ ?_; clear hK K; (try simp only [Act.put, lA, lB, lC]))
      (refine wpAnyT_last 18 (by kernel_rfl) rfl (by decide) (by kernel_rfl) (fun K hK => ?_))
      go_simp
      (refine hK _ _ ?_; clear hK K; (try simp only [Act.put, lA, lB, lC]))
      clear hS0 hS1 o9 g9 m9 hP2 hP3 A
      go_wp2
      go_roundw
      case rel => exact ⟨j + 1, _, by omega, by go_num, Lib.hid (by rw [HST.out, hYS.out, List.append_assoc]), by simp; omega, P9⟩
      case measure => simp [intOf]; omega
     ·have hk3 : j = k.ps.length := by omega
      subst hk3
      have hbody : bodyV k = ys := by
       rw [hYS.out, hXS.out, List.take_length, List.take_length]; rfl
      have hall := HOk.out.body
      rw [hbody] at hall HV
      obtain ⟨hall, hal⟩ := hall
      obtain ⟨hal1, hal2⟩ : ys.length ≤ 331 ∧ 331 ≤ ys.length := by omega
      have HA := Lib.hid (l9Sum_c (hb := hall) (hl := by omega))
      clear hal hall hbody
      obtain ⟨s0, s1⟩ := sumV_lt ys
      obtain ⟨s, hs⟩ : ∃ s, s = sumV ys := ⟨_, rfl⟩
      rw [← hs] at s0 s1 HA HV
      obtain ⟨a5, c5, rfl, hX⟩ := hR.own.opened
      clear hs
      go_wp2_with fail
      refine (HA.out _ _ _ hX).mono ?_
      rintro e w3 ⟨rfl, hE3⟩
      have hR3 := hR.ext' hE3
      clear hR hX hE3
      have A := (Ext.refl w3).alloc (.cells #[.int .u8 (s / 256), .int .u8 (s % 256)] 5)
      have td : s.tdiv 256 = s / 256 := Int.tdiv_eq_ediv_of_nonneg s0
      have tm : s.tmod 256 = s % 256 := Int.tmod_eq_emod_of_nonneg s0
      have wd : IntKind.u8.wrap (s / 256) = s / 256 := wrap8 (by omega) (by omega)
      have wm : IntKind.u8.wrap (s % 256) = s % 256 := wrap8 (by omega) (by omega)
      have z3 := hR3.ext.size
      go_wp2_with (at_builtin; go_loud (refine wpList_app tyByt (ownsRow_ext hR3.own A) (rowAtN w3 #[.int .u8 (s / 256), .int .u8 (s % 256)] _ (B := w3.heap.size) rfl) rfl (oneCell_byt [s / 256, s % 256]) (by omega) (by have := hR3.box.lt; simp; omega) rfl rfl rfl rfl ?_); intro v8 w8 o8 g8 m8; have P8 := hR3.app A (ys := [s / 256, s % 256]) o8 g8; clear o8 g8 m8)
      go_ret
      exact ⟨_, rfl, by rw [HV.out]; exact P8.own.le (by omega), P8.ext⟩
end Go.Proofs.Ytgialedmbmfejaa

