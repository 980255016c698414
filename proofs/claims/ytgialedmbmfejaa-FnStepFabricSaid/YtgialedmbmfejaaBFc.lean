/- Bundle: values of wires, clock cycles and runs of both libraries. -/
import Derived.Test.YtgialedmbmfejaaBFa
import Derived.Test.YtgialedmbmfejaaBFb
import Derived.Test.YtgialedmbmfejaaBEnc
import Derived.Test.YtgialedmbmfejaaRegion2
import Derived.Test.YtgialedmbmfejaaBKf
import Derived.Deep.DeepCutAuto
import Derived.Test.YtgialedmbmfejaaBEv
namespace Go.Proofs.Ytgialedmbmfejaa
open Go.RowKit Go.Maps
set_option maxRecDepth 100000
set_option linter.unusedVariables false
set_option linter.unusedSimpArgs false
noncomputable abbrev bElem : Value → Option (DataW Unit × List MemPlace) := plainElem (H := Unit) Try.prog 4
theorem bMapTy : Try.prog.underlying 148 = some (.map 146 4) := Try.underlying148
theorem bZero (w : World) : (zeroValue 4).run Try.prog w = .ok (.bool false) w := by kernel_rfl
theorem bElem_of (x : Bool) : bElem (.bool x) = some (.lit (.bool x), []) := plainElem_bool Try.underlying4 x
theorem bElem_inv {v : Value} {z : DataW Unit × List MemPlace} (h : bElem v = some z) : ∃ c, v = .bool c ∧ z = (.lit (.bool c), []) := by
 unfold bElem plainElem at h
 rw [Try.underlying4] at h
 cases v <;> simp at h
 rename_i c
 exact ⟨c, rfl, h.symm⟩
/-- Block mb holds the values F of the wires that m marks. -/
def KnM (w : World) (mb : Nat) (F : Wire → Bool) (m : Marks) : Prop :=
 ∃ (n : Nat) (D : DataW Unit), w.ownsMap Try.prog 146 bElem mb n D ∧ n + zeros0 m 200 ≤ 200 ∧ (∀ x : Wire, x.Ok → Maps.has D (wKey x) = decide (m x.ix ≠ 0)) ∧ ∀ x : Wire, x.Ok → m x.ix ≠ 0 → D.atKey (wKey x) (.lit (.bool false)) = .lit (.bool (F x))
section
variable {w w' : World} {mb : Nat} {F : Wire → Bool} {m : Marks}
theorem KnM.lt (h : KnM w mb F m) : mb < w.heap.size := by obtain ⟨n, D, h, _⟩ := h; exact h.lt
theorem KnM.kept {r : Option Nat} (h : KnM w mb F m) (hg : w.grownBy w' r) (hne : some mb ≠ r) : KnM w' mb F m := by obtain ⟨n, D, h, r⟩ := h; exact ⟨n, D, h.kept hg hne, r⟩
theorem KnM.ext (h : KnM w mb F m) (e : Ext w w') : KnM w' mb F m := h.kept (Gr.ext e none) (by simp)
theorem KnM.made (w : World) (F : Wire → Bool) : KnM (w.alloc (.map #[] 0)) w.heap.size F mark0 :=
 ⟨0, .map [], World.ownsMap_made _ _ _ _, by have := zeros0_le mark0 200; omega, fun x _ => by simp [Maps.has, mark0], fun x _ h => absurd rfl h⟩
/-- 'v, ok := known[w]' -/
theorem KnM.look (h : KnM w mb F m) {x : Wire} (hx : x.Ok) : ∃ c, (∀ n, (Instr.lookup 148 (.map (some mb)) (.agg #[.int .i64 x.1, .int .i64 x.2]) true).run Try.prog (w.drewN n) = .ok (.tuple #[.bool c, .bool (decide (m x.ix ≠ 0))]) (w.drewN n)) ∧ (m x.ix ≠ 0 → c = F x) := by
 obtain ⟨n, D, h, _, hh, ha⟩ := h
 have hkey : keyOf Try.prog 146 (.agg #[.int .i64 x.1, .int .i64 x.2]) = some (wKey x) := wKeyOf x hx
 obtain ⟨v, ps, hr, hv⟩ := h.look_ok wLaw bMapTy (bZero w) (bElem_of false) hkey
 obtain ⟨c, rfl, e⟩ := bElem_inv hv
 refine ⟨c, fun n => ?_, fun hm => ?_⟩
 ·have h' := h.kept (Gr.ext (Ext.drewN w n) none) (by simp)
  obtain ⟨v, ps, hr, hv⟩ := h'.look_ok wLaw bMapTy (bZero _) (bElem_of false) hkey
  obtain ⟨c', rfl, e'⟩ := bElem_inv hv
  simp at e e'
  rw [e.1] at e'
  simp at e'
  rw [hr, hh x hx, e'.1]
 ·rw [ha x hx hm] at e
  simp at e
  exact e.1.symm
theorem KnM.put {n : Nat} {D : DataW Unit} (h : w.ownsMap Try.prog 146 bElem mb n D) (hn : n + zeros0 m 200 ≤ 200) (hh : ∀ x : Wire, x.Ok → Maps.has D (wKey x) = decide (m x.ix ≠ 0)) (ha : ∀ x : Wire, x.Ok → m x.ix ≠ 0 → D.atKey (wKey x) (.lit (.bool false)) = .lit (.bool (F x)))
  {x : Wire} (hx : x.Ok) (h0 : m x.ix = 0) (h1 : w'.ownsMap Try.prog 146 bElem mb (n + 1) (D.put (wKey x) (.lit (.bool (F x))))) : KnM w' mb F (upd m x.ix 1) := by
 have hz := zeros0_dec m x.ix 1 (by decide) h0 200 hx.ix
 refine ⟨_, _, h1, by omega, fun y hy => ?_, fun y hy hm => ?_⟩
 ·by_cases e : y = x
  ·subst e; rw [has_put_same h.isMap (wKey_is hx), upd_same]; simp
  ·rw [has_put_other (wKey_ne hy hx e), hh y hy, upd_ne _ _ (fun e2 => e (Wire.ix_inj hy hx e2))]
 ·by_cases e : y = x
  ·subst e; rw [atKey_put_same h.isMap (wKey_is hx)]
  ·rw [upd_ne _ _ (fun e2 => e (Wire.ix_inj hy hx e2))] at hm
   rw [atKey_put_other (wKey_ne hy hx e), ha y hy hm]
end
end Go.Proofs.Ytgialedmbmfejaa

namespace Go.Proofs.Ytgialedmbmfejaa
open Go.RowKit
set_option maxRecDepth 100000
set_option linter.unusedVariables false
set_option linter.unusedSimpArgs false
/-- Where a configuration, a state and inputs lie. -/
structure FabAt (w : World) (k : Conf) (ta pa : Option Addr) (ra : Option Addr) (regs : List Bool) (ia : Option Addr) (ins : List Bool) : Prop where
 k : ConfAt w k ta pa
 r : BoolsAt w ra regs
 i : BoolsAt w ia ins
theorem FabAt.ext {w w' : World} {k : Conf} {ta pa ra ia : Option Addr} {regs ins : List Bool} (h : FabAt w k ta pa ra regs ia ins) (e : Ext w w') : FabAt w' k ta pa ra regs ia ins := ⟨h.k.ext e, h.r.ext e, h.i.ext e⟩
section
variable (k : Conf) (ta pa ra ia : Option Addr) (tc pc rc ic : Nat) (regs ins : List Bool)
/-- A call on this wire gives its value. -/
def WireC (x : Wire) : Prop := ∀ w : World, FabAt w k ta pa ra regs ia ins →
  Calls Try.prog 120 #[.agg #[.slice ta k.ts.length tc, .slice pa k.ps.length pc], .agg #[.slice ra regs.length rc], .slice ia ins.length ic, .int .i64 x.1, .int .i64 x.2] w fun e w' => e = .returned (.bool (valW k regs ins x)) ∧ Ext w w'
end
theorem shl_add (X j : Nat) (hj : j < 3) (hX : X < 2 ^ j) : wrap64 ((X : Int) + wrap64 (2 ^ j)) = ((X + 2 ^ j : Nat) : Int) := by
 have : j = 0 ∨ j = 1 ∨ j = 2 := by omega
 rcases this with rfl | rfl | rfl
 all_goals
  simp at hX ⊢
  unfold wrap64
  omega
set_option maxHeartbeats 4000000 in
theorem l10Table_c (k : Conf) (ta pa ra ia : Option Addr) (tc pc rc ic : Nat) (regs ins : List Bool) (hok : k.Ok) (t : Nat) (ht : t < 25) (hH : ∀ y ∈ selW t (tileAt k t).sl, WireC k ta pa ra ia tc pc rc ic regs ins y) (w : World) (hF : FabAt w k ta pa ra regs ia ins) :
  Calls Try.prog 121 #[.agg #[.slice ta k.ts.length tc, .slice pa k.ps.length pc], .agg #[.slice ra regs.length rc], .slice ia ins.length ic, .int .i64 t] w fun e w' => e = .returned (.bool (tabV k (valW k regs ins) t)) ∧ Ext w w' := by
 obtain ⟨b, o, rfl, hb, hcc⟩ := hF.k.ts.get (by rw [hok.lt]; omega)
 obtain ⟨sa, sc, da, dc, p0, p1, p2, p3, hsl, hdr⟩ := hcc t (by rw [hok.lt]; omega)
 have hot := tileB_iff.1 (hok.ts t ht)
 have hss : ∀ j, j < 3 → trackB ((tileAt k t).sl.getD j 0) = true := hot.ss
 have ls := hot.ls
 have tb0 := hot.t0
 have tb1 := hot.t1
 have e1 : k.ts.getD t tile0 = tileAt k t := rfl
 rw [e1] at p0 p1 p2 p3 hsl ls tb0 tb1
 have htab : tabV k (valW k regs ins) t = (((tileAt k t).tb / 2 ^ ixT (rdV (valW k regs ins) t) (tileAt k t).sl 3) % 2 == 1) := rfl
 obtain ⟨x, hxx⟩ : ∃ x, x = tileAt k t := ⟨_, rfl⟩
 rw [← hxx] at p0 p1 p2 p3 hsl ls hss tb0 tb1 htab hH
 obtain ⟨T, hT⟩ : ∃ T, T = tabV k (valW k regs ins) t := ⟨_, rfl⟩
 rw [← hT] at htab ⊢
 have HT := Lib.hid htab
 have HH := Lib.hid hH
 have HSS := Lib.hid hss
 have HF := Lib.hid hF
 obtain ⟨ls1, ls2⟩ : x.sl.length ≤ 3 ∧ 3 ≤ x.sl.length := by omega
 obtain ⟨lt1, lt2⟩ : k.ts.length ≤ 25 ∧ 25 ≤ k.ts.length := by have := hok.lt; omega
 have y0 := (Blk.at w [.slice (some ⟨b, o, none⟩) k.ts.length tc, .slice pa k.ps.length pc] 52 rfl).alloc (.cells #[.slice ra regs.length rc] 67)
 have s0 := Blk.at (w.alloc (.cells #[.slice (some ⟨b, o, none⟩) k.ts.length tc, .slice pa k.ps.length pc] 52)) [.slice ra regs.length rc] 67 (B := w.heap.size + 1) (by simp)
 clear e1 hxx hcc hot htab hH hss hdr hT ls hF p3 p2
 go_enter Try.func121, Try.ntmps121
 go_wp2_with fail
 go_loopw [9, 10] (fun u9 u10 wr => ∃ j : Nat, j ≤ 3 ∧ u10 = .int .i64 j ∧ u9 = .int .i64 (ixT (rdV (valW k regs ins) t) x.sl j : Nat) ∧ Blk wr w.heap.size 52 [.slice (some ⟨b, o, none⟩) k.ts.length tc, .slice pa k.ps.length pc] ∧ Blk wr (w.heap.size + 1) 67 [.slice ra regs.length rc] ∧ Ext w wr) (fun _ i _ => 3 - (intOf i).toNat)
 case atStart => exact ⟨0, Nat.zero_le _, rfl, rfl, y0, s0, by (repeat (first | with_reducible assumption | with_reducible exact Ext.refl _ | with_reducible refine Ext.drew' ?_ | with_reducible refine Ext.drewN' ?_ _ | with_reducible refine Ext.alloc ?_ _ | (with_reducible refine Ext.setNew ?_ (by first | exact Nat.le_refl _ | (simp; done) | (simp; omega) | omega) _)))⟩
 case round =>
  clear y0 s0
  obtain ⟨j, hj, rfl, rfl, y0, s0, hE⟩ := hrel
  have yc0 := y0.cell (i := 0) rfl
  have yc1 := y0.cell (i := 1) rfl
  have sc0 := s0.cell (i := 0) rfl
  have yl := y0.lt
  have sl := s0.lt
  replace p0 := ((ecell hE).1 b _ hb).trans p0
  replace p1 := ((ecell hE).1 b _ hb).trans p1
  by_cases hlt : j < 3
  ·obtain ⟨b3, o3, rfl, hb3, hc3⟩ := (hsl.ext hE).get (by omega)
   have q3 := hc3 j (by omega)
   have htr := trackB_cases (HSS.out j hlt)
   have hmem : x.sl.getD j 0 ∈ x.sl := by rw [List.getD_eq_getElem?_getD, List.getElem?_eq_getElem (by omega)]; exact List.getElem_mem _
   have hstep : ixT (rdV (valW k regs ins) t) x.sl (j + 1) = ixT (rdV (valW k regs ins) t) x.sl j + if rdV (valW k regs ins) t (x.sl.getD j 0) then 2 ^ j else 0 := rfl
   have hjl : j < x.sl.length := by omega
   have hji : (j : Int) < (x.sl.length : Int) := by omega
   obtain ⟨s, hs⟩ : ∃ s, s = x.sl.getD j 0 := ⟨_, rfl⟩
   rw [← hs] at q3 htr hmem hstep
   have HSTEP := Lib.hid hstep
   have hlt2 := ixT_lt (rdV (valW k regs ins) t) x.sl j
   obtain ⟨X, hX⟩ : ∃ X, X = ixT (rdV (valW k regs ins) t) x.sl j := ⟨_, rfl⟩
   rw [← hX] at HSTEP hlt2 ⊢
   clear hc3 hs hstep hX
   obtain ⟨w2, rfl⟩ : ∃ z : World, z = wr := ⟨_, rfl⟩
   by_cases h15 : s = 15
   ·have hne : (s != 15) = false := by simp [h15]
    have hst : ixT (rdV (valW k regs ins) t) x.sl (j + 1) = X := by rw [HSTEP.out]; simp [rdV, h15]
    have HST := Lib.hid hst
    clear hst h15 htr hmem
    go_wp2
    go_roundw
    case rel => exact ⟨j + 1, by omega, by go_num, by rw [HST.out], y0, s0, hE⟩
    case measure => simp [intOf]; omega
   ·have hne : (s != 15) = true := by simpa using h15
    obtain ⟨s0', s8⟩ : 0 ≤ s ∧ s < 8 := by omega
    have hc := HH.out _ (mem_selW hmem h15) w2 (HF.out.ext hE)
    obtain ⟨s', rfl⟩ : ∃ s' : Nat, s = s' := ⟨s.toNat, by omega⟩
    rw [Int.toNat_natCast] at hc
    have hst : ixT (rdV (valW k regs ins) t) x.sl (j + 1) = X + if valW k regs ins (t, s') then 2 ^ j else 0 := by
     rw [HSTEP.out]; unfold rdV; rw [hne, Int.toNat_natCast, Bool.true_and]
    obtain ⟨v, hv⟩ : ∃ v, v = valW k regs ins (t, s') := ⟨_, rfl⟩
    rw [← hv] at hc hst
    have HST := Lib.hid hst
    have HC := Lib.hid hc
    clear hst h15 htr hmem hc hv
    go_wp2_with fail
    refine HC.out.mono ?_
    rintro e w3 ⟨rfl, hE3⟩
    have y3 := y0.ext hE3
    have s3 := s0.ext hE3
    have hEE := hE.trans hE3
    have hpow : 2 ^ j ≤ 4 := by
     have : j = 0 ∨ j = 1 ∨ j = 2 := by omega
     rcases this with rfl | rfl | rfl <;> decide
    cases v
    ·go_wp2
     go_roundw
     case rel => exact ⟨j + 1, by omega, by go_num, by rw [HST.out]; rfl, y3, s3, hEE⟩
     case measure => simp [intOf]; omega
    ·have hw := shl_add X j hlt hlt2
     go_wp2
     go_roundw
     case rel => exact ⟨j + 1, by omega, by go_num, by rw [hw, HST.out, if_pos (by first | trivial | rfl)], y3, s3, hEE⟩
     case measure => simp [intOf]; omega
  ·have hj3 : j = 3 := by omega
   subst hj3
   have hlt2 := ixT_lt (rdV (valW k regs ins) t) x.sl 3
   obtain ⟨X, hX⟩ : ∃ X, X = ixT (rdV (valW k regs ins) t) x.sl 3 := ⟨_, rfl⟩
   rw [← hX] at HT hlt2 ⊢
   have hX8 : X < 8 := hlt2
   have hnn : 0 ≤ x.tb / 2 ^ X := Int.ediv_nonneg tb0 (Int.pow_nonneg (by decide))
   have em : (x.tb / 2 ^ X).tmod 2 = (x.tb / 2 ^ X) % 2 := Int.tmod_eq_emod_of_nonneg hnn
   clear hX hlt2
   go_wp2
   go_ret
   exact ⟨by rw [HT.out]; rfl, hE⟩
theorem div5 (t : Nat) : ((t : Int) / 5) = ((t / 5 : Nat) : Int) := by omega
set_option maxHeartbeats 4000000 in
theorem l10Wire_c (k : Conf) (ta pa ra ia : Option Addr) (tc pc rc ic : Nat) (regs ins : List Bool) (hok : k.Ok) (hf : ∀ x : Wire, x.Ok → ∃ n, FinN k n x) (hr : 25 ≤ regs.length ∧ regs.length ≤ 25) (hil : ins.length ≤ 4) :
  ∀ (n : Nat) (x : Wire), x.Ok → rk k x < n → WireC k ta pa ra ia tc pc rc ic regs ins x := by
 intro n
 induction n with
 | zero => intro x _ h; exact absurd h (Nat.not_lt_zero _)
 | succ n ih =>
  intro ⟨t, c⟩ hx hn w hF
  have IH := Lib.hid (fun y (hy : y ∈ needW k (t, c)) => ih y (hok.need hx y hy) (by have := rk_lt (hf _ hx) hy; omega))
  clear ih
  have ht := hx.1
  have hc := hx.2
  dsimp only at ht hc
  dsimp only
  obtain ⟨b, o, rfl, hb, hcc⟩ := hF.k.ts.get (by rw [hok.lt]; omega)
  obtain ⟨sa, sc, da, dc, p0, p1, p2, p3, hsl, hdr⟩ := hcc t (by rw [hok.lt]; omega)
  have hot := tileB_iff.1 (hok.ts t ht)
  have hdv := hok.drv hx
  have hnbr := fun h2 h5 => hok.nb hx h2 h5
  have hneed : needW k (t, c) = if 2 ≤ drvAt k (t, c) ∧ drvAt k (t, c) ≤ 5 then [((nbV t (drvAt k (t, c))).toNat, c)] else if drvAt k (t, c) = 1 ∧ (tileAt k t).rg = false then selW t (tileAt k t).sl else [] := rfl
  have hval := valW_eq hok hf (regs := regs) (ins := ins) hx
  have hbody : bodyW k regs ins (valW k regs ins) (t, c) = if drvAt k (t, c) = 0 then false else if drvAt k (t, c) = 6 then decide (t / 5 < ins.length) && ins.getD (t / 5) false
   else if drvAt k (t, c) = 1 then (if (tileAt k t).rg then regs.getD t false else tabV k (valW k regs ins) t) else valW k regs ins ((nbV t (drvAt k (t, c))).toNat, c) := rfl
  have hdR := hok.drvR hx
  rw [hbody] at hval
  obtain ⟨b2, o2, rfl, hb2, hd2⟩ := hdr.get (by rw [hot.ld]; omega)
  have p4 := hd2 c (by rw [hot.ld]; omega)
  have ls := hot.ls
  have ld := hot.ld
  obtain ⟨d, hd⟩ : ∃ d, d = drvAt k (t, c) := ⟨_, rfl⟩
  have hd' : (tileAt k t).dr.getD c 0 = d := hd.symm
  have e1 : k.ts.getD t tile0 = tileAt k t := rfl
  rw [e1] at p0 p1 p2 p3 p4 hsl ls ld hd2
  rw [hd'] at p4
  rw [← hd] at hnbr hneed hval hdR
  have TC := Lib.hid (fun (h : d = 1 ∧ (tileAt k t).rg = false) => l10Table_c k (some ⟨b, o, none⟩) pa ra ia tc pc rc ic regs ins hok t ht (fun y hy => IH.out y (by rw [hneed, if_neg (by omega), if_pos h]; exact hy)))
  have NC := Lib.hid (fun (h2 : 2 ≤ d) (h5 : d ≤ 5) => IH.out ((nbV t d).toNat, c) (by rw [hneed, if_pos ⟨h2, h5⟩]; simp))
  clear hd hd' hcc hdr hot hdv hd2 hbody hneed IH
  obtain ⟨x, hxx⟩ : ∃ x, x = tileAt k t := ⟨_, rfl⟩
  rw [← hxx] at p0 p1 p2 p3 hsl ls ld hval TC
  clear e1 hxx
  obtain ⟨lt1, lt2⟩ : k.ts.length ≤ 25 ∧ 25 ≤ k.ts.length := by have := hok.lt; omega
  obtain ⟨ld1, ld2⟩ : x.dr.length ≤ 8 ∧ 8 ≤ x.dr.length := by omega
  obtain ⟨r1, r2⟩ := hr
  obtain ⟨R, hR⟩ : ∃ R, R = valW k regs ins (t, c) := ⟨_, rfl⟩
  rw [← hR] at hval ⊢
  have HR := Lib.hid hval
  have HNB := Lib.hid hnbr
  have HF := Lib.hid hF
  have y0 := (Blk.at w [.slice (some ⟨b, o, none⟩) k.ts.length tc, .slice pa k.ps.length pc] 52 rfl).alloc (.cells #[.slice ra regs.length rc] 67)
  have s0 := Blk.at (w.alloc (.cells #[.slice (some ⟨b, o, none⟩) k.ts.length tc, .slice pa k.ps.length pc] 52)) [.slice ra regs.length rc] 67 (B := w.heap.size + 1) (by simp)
  have Ey : Ext w ((w.alloc (.cells #[.slice (some ⟨b, o, none⟩) k.ts.length tc, .slice pa k.ps.length pc] 52)).alloc (.cells #[.slice ra regs.length rc] 67)) := by (repeat (first | with_reducible assumption | with_reducible exact Ext.refl _ | with_reducible refine Ext.drew' ?_ | with_reducible refine Ext.drewN' ?_ _ | with_reducible refine Ext.alloc ?_ _ | (with_reducible refine Ext.setNew ?_ (by first | exact Nat.le_refl _ | (simp; done) | (simp; omega) | omega) _)))
  have hdc : d = 0 ∨ d = 6 ∨ d = 1 ∨ (2 ≤ d ∧ d ≤ 5) := by omega
  have hri := hF.r
  have hii := hF.i
  clear hR hval hnbr hF ls ld hdR
  rcases hdc with rfl | rfl | rfl | ⟨h2, h5⟩
  ·have hRR : R = false := HR.out
   subst hRR
   go_enter Try.func120, Try.ntmps120
   go_wp2
   go_ret
   exact ⟨rfl, Ey⟩
  ·have hRR : R = (decide (t / 5 < ins.length) && ins.getD (t / 5) false) := HR.out
   have td : (t : Int).tdiv 5 = ((t / 5 : Nat) : Int) := by rw [Int.tdiv_eq_ediv_of_nonneg (by omega)]; omega
   have td2 : (t : Int) / 5 = ((t / 5 : Nat) : Int) := by omega
   by_cases hlt : t / 5 < ins.length
   ·obtain ⟨b3, o3, rfl, hb3, hc3⟩ := hii.get (by omega)
    have q3 := hc3 (t / 5) hlt
    rw [decide_eq_true hlt, Bool.true_and] at hRR
    rw [← hRR] at q3
    have hli : ((t / 5 : Nat) : Int) < (ins.length : Int) := by omega
    obtain ⟨m, hm⟩ : ∃ m, m = t / 5 := ⟨_, rfl⟩
    rw [← hm] at q3 hlt hli td td2
    clear hRR hc3 hm
    go_enter Try.func120, Try.ntmps120
    go_wp2
    go_ret
    exact ⟨rfl, Ey⟩
   ·rw [decide_eq_false hlt, Bool.false_and] at hRR
    subst hRR
    have hli : ¬ ((t / 5 : Nat) : Int) < (ins.length : Int) := by omega
    obtain ⟨m, hm⟩ : ∃ m, m = t / 5 := ⟨_, rfl⟩
    rw [← hm] at hlt hli td td2
    clear hm
    go_enter Try.func120, Try.ntmps120
    go_wp2
    go_ret
    exact ⟨rfl, Ey⟩
  ·cases hrg : x.rg
   ·have hRR : R = tabV k (valW k regs ins) t := by have := HR.out; rw [hrg] at this; exact this
    have T2 := Lib.hid (TC.out ⟨rfl, hrg⟩)
    rw [← hRR] at T2
    rw [hrg] at p2
    clear hRR HR TC NC hrg
    go_enter Try.func120, Try.ntmps120
    go_wp2_with fail
    refine (T2.out _ (HF.out.ext Ey)).mono ?_
    rintro e w3 ⟨rfl, hE3⟩
    go_wp2
    go_ret
    exact ⟨rfl, Ey.trans hE3⟩
   ·have hRR : R = regs.getD t false := by have := HR.out; rw [hrg] at this; exact this
    obtain ⟨b3, o3, rfl, hb3, hc3⟩ := hri.get (by omega)
    have q3 := hc3 t (by omega)
    rw [← hRR] at q3
    rw [hrg] at p2
    clear hRR HR TC NC hrg hc3
    go_enter Try.func120, Try.ntmps120
    go_wp2
    go_ret
    exact ⟨rfl, Ey⟩
  ·obtain ⟨nb0, nb1⟩ := HNB.out h2 h5
   dsimp only at nb0 nb1
   have hRR : R = valW k regs ins ((nbV t d).toNat, c) := by
    have := HR.out
    rwa [if_neg (by omega), if_neg (by omega), if_neg (by omega)] at this
   have NB := Lib.hid (fun w => l9Neighbour_c t ht d h2 h5 w)
   have N2 := Lib.hid (NC.out h2 h5)
   obtain ⟨nb, hnb⟩ : ∃ nb : Nat, nbV t d = nb := ⟨(nbV t d).toNat, by omega⟩
   rw [hnb] at NB N2 hRR
   rw [Int.toNat_natCast] at N2 hRR
   have N3 : Hid (∀ w : World, FabAt w k (some ⟨b, o, none⟩) pa ra regs ia ins → Calls Try.prog 120 #[.agg #[.slice (some ⟨b, o, none⟩) k.ts.length tc, .slice pa k.ps.length pc], .agg #[.slice ra regs.length rc], .slice ia ins.length ic, .int .i64 nb, .int .i64 c] w fun e w' => e = .returned (.bool R) ∧ Ext w w') := Lib.hid (by rw [hRR]; exact N2.out)
   have e0 : (d == 0) = false := by simp; omega
   have e6 : (d == 6) = false := by simp; omega
   have e1 : (d == 1) = false := by simp; omega
   have c0 := y0.cell (i := 0) rfl
   have c1 := y0.cell (i := 1) rfl
   have c2 := s0.cell (i := 0) rfl
   have zs : w.heap.size + 1 < ((w.alloc (.cells #[.slice (some ⟨b, o, none⟩) k.ts.length tc, .slice pa k.ps.length pc] 52)).alloc (.cells #[.slice ra regs.length rc] 67)).heap.size := by simp
   replace p0 := ((ecell Ey).1 b _ hb).trans p0
   replace p1 := ((ecell Ey).1 b _ hb).trans p1
   replace p2 := ((ecell Ey).1 b _ hb).trans p2
   replace p3 := ((ecell Ey).1 b _ hb).trans p3
   replace p4 := ((ecell Ey).1 b2 _ hb2).trans p4
   have HFE := Lib.hid (HF.out.ext Ey)
   clear hRR hnb NC TC HR N2 nb0 nb1 HNB
   go_enter Try.func120, Try.ntmps120
   go_upto_region 1 with fail
   generalize (w.alloc (.cells #[.slice (some ⟨b, o, none⟩) k.ts.length tc, .slice pa k.ps.length pc] 52)).alloc (.cells #[.slice ra regs.length rc] 67) = W at *
   go_wp2_with fail
   refine wp_regionT (fun w' => w'.cell? ⟨w.heap.size, 0, none⟩ = some (.slice (some ⟨b, o, none⟩) k.ts.length tc) ∧ w'.cell? ⟨w.heap.size, 1, none⟩ = some (.slice pa k.ps.length pc) ∧ w'.cell? ⟨w.heap.size + 1, 0, none⟩ = some (.slice ra regs.length rc)) 7 (by kernel_rfl) ?_
   have hS0 := And.intro (a := W.drew.cell? ⟨w.heap.size, 0, none⟩ = some (.slice (some ⟨b, o, none⟩) k.ts.length tc)) c0 (And.intro (a := W.drew.cell? ⟨w.heap.size, 1, none⟩ = some (.slice pa k.ps.length pc)) c1 (show W.drew.cell? ⟨w.heap.size + 1, 0, none⟩ = some (.slice ra regs.length rc) from c2))
   ((refine tkT 0 (v := ?_) rfl (by kernel_rfl) (by kernel_rfl) ?_ (by assumption) ?_; rotate_left; (intro wS hSw; (try dsimp only at hSw); go_simp; (try with_reducible rfl)); (try simp only [Act.put, lA, lB, lC])); (refine tkT 1 (v := ?_) rfl (by kernel_rfl) (by kernel_rfl) ?_ (by assumption) ?_; rotate_left; (intro wS hSw; (try dsimp only at hSw); go_simp; (try with_reducible rfl)); (try simp only [Act.put, lA, lB, lC])); (refine tkT 2 (v := ?_) rfl (by kernel_rfl) (by kernel_rfl) ?_ (by assumption) ?_; rotate_left; (intro wS hSw; (try dsimp only at hSw); go_simp; (try with_reducible rfl)); (try simp only [Act.put, lA, lB, lC])); (refine tkT 3 (v := ?_) rfl (by kernel_rfl) (by kernel_rfl) ?_ (by assumption) ?_; rotate_left; (intro wS hSw; (try dsimp only at hSw); go_simp; (try with_reducible rfl)); (try simp only [Act.put, lA, lB, lC])); (refine tkT 4 (v := ?_) rfl (by kernel_rfl) (by kernel_rfl) ?_ (by assumption) ?_; rotate_left; (intro wS hSw; (try dsimp only at hSw); go_simp; (try with_reducible rfl)); (try simp only [Act.put, lA, lB, lC])); (refine tkT 6 (v := ?_) rfl (by kernel_rfl) (by kernel_rfl) ?_ (by assumption) ?_; rotate_left; (intro wS hSw; (try dsimp only at hSw); go_simp; (try with_reducible rfl)); (try simp only [Act.put, lA, lB, lC])))
   (refine wpAnyT_do 5 (by kernel_rfl) rfl (fun K hK => ?_))
   go_simp
   refine (NB.out _).mono ?_
   rintro e w3 ⟨rfl, rfl⟩
   (refine hK _ _ hS0 ?_; clear hK K; (try simp only [Act.put, lA, lB, lC]))
   (refine wpAnyT_doN 7 (by kernel_rfl) rfl (by decide) (fun K hK => ?_))
   go_simp
   refine (N3.out _ (HFE.out.ext (Ext.drew W))).mono ?_
   rintro e w4 ⟨rfl, hE4⟩
   (refine hK _ _ ?_; clear hK K; (try simp only [Act.put, lA, lB, lC]))
   (refine wpAnyT_last 8 (by kernel_rfl) rfl (by decide) (by kernel_rfl) (fun K hK => ?_))
   go_simp
   (refine hK _ _ ?_; clear hK K; (try simp only [Act.put, lA, lB, lC]))
   clear hS0
   go_wp2
   go_ret
   exact ⟨rfl, (Ey.trans (Ext.drew W)).trans hE4⟩
end Go.Proofs.Ytgialedmbmfejaa

namespace Go.Proofs.Ytgialedmbmfejaa
open Go.RowKit Go.Maps
set_option maxRecDepth 100000
set_option linter.unusedVariables false
set_option linter.unusedSimpArgs false
/-- Where a cycle that is under way lies. -/
structure RunAt (w0 : World) (rn kb mb : Nat) (kc rcs : List Value) (w : World) : Prop where
 r : Blk w rn 150 rcs
 y : Blk w kb 52 kc
 e : Ext w0 w
 n1 : rn ≠ mb
 n2 : kb ≠ mb
 n3 : w0.heap.size ≤ mb
section
variable {w0 w w' : World} {rn kb mb : Nat} {kc rcs : List Value}
theorem RunAt.ext (h : RunAt w0 rn kb mb kc rcs w) (e : Ext w w') : RunAt w0 rn kb mb kc rcs w' := { h with r := h.r.ext e, y := h.y.ext e, e := h.e.trans e }
theorem RunAt.gr (h : RunAt w0 rn kb mb kc rcs w) (g : w.grownBy w' (some mb)) : RunAt w0 rn kb mb kc rcs w' := { h with r := h.r.gr g (someNe (fun e => h.n1 e.symm)), y := h.y.gr g (someNe (fun e => h.n2 e.symm)), e := Gr.behind g h.e h.n3 }
end
def ValP (k : Conf) (N mb : Nat) (F : Wire → Bool) (m : Marks) (v : Bool) (w : World) (e : Ending) (w' : World) : Prop := ∃ m', e = .returned (.bool v) ∧ KnM w' mb F m' ∧ (∀ y : Wire, y.Ok → m' y.ix ≠ 0 → m y.ix = 0 → rk k y < N) ∧ w.grownBy w' (some mb)
def ValC (k : Conf) (w0 : World) (rn kb mb : Nat) (kc rcs : List Value) (F : Wire → Bool) (N : Nat) (x : Wire) : Prop := ∀ (m : Marks) (w : World), RunAt w0 rn kb mb kc rcs w → KnM w mb F m →
  Calls Try.prog 136 #[.pointer (some ⟨rn, 0, none⟩), .agg #[.int .i64 x.1, .int .i64 x.2]] w (ValP k N mb F m (F x) w)
theorem ValP.refl' {k : Conf} {N mb : Nat} {F : Wire → Bool} {m : Marks} {v : Bool} {w w' : World} (h : KnM w mb F m) (e : Ext w w') : ValP k N mb F m v w (.returned (.bool v)) w' := ⟨m, rfl, h.ext e, fun y hy h1 h2 => absurd h2 h1, Gr.ext e _⟩
theorem read_c (k : Conf) (w0 : World) (rn kb mb : Nat) (kc rcs : List Value) (F : Wire → Bool) (N t : Nat) (s : Int) (hs : s ≠ 15 → 0 ≤ s ∧ ValC k w0 rn kb mb kc rcs F N (t, s.toNat)) (m : Marks) (w : World) (hR : RunAt w0 rn kb mb kc rcs w) (hK : KnM w mb F m) :
  Calls Try.prog 114 #[.pointer (some ⟨rn, 0, none⟩), .int .i64 t, .int .i64 s] w (ValP k N mb F m (rdV F t s) w) := by
 by_cases h15 : s = 15
 ·have hne : (s != 15) = false := by simp [h15]
  have hv : rdV F t s = false := by unfold rdV; rw [hne]; rfl
  rw [hv]
  clear hv h15 hs
  go_enter Try.func114, Try.ntmps114
  go_wp2
  go_ret
  exact ValP.refl' hK (Ext.refl _)
 ·have hne : (s != 15) = true := by simpa using h15
  obtain ⟨h0, hc⟩ := hs h15
  have hv : rdV F t s = F (t, s.toNat) := by unfold rdV; rw [hne]; rfl
  rw [hv]
  obtain ⟨s', rfl⟩ : ∃ s' : Nat, s = s' := ⟨s.toNat, by omega⟩
  rw [Int.toNat_natCast] at hc ⊢
  have HC := Lib.hid (hc m w hR hK)
  clear hv h15 hs hc
  go_enter Try.func114, Try.ntmps114
  go_wp2_with fail
  refine HC.out.mono ?_
  rintro e w' ⟨m', rfl, r⟩
  go_wp2
  go_ret
  exact ⟨m', rfl, r⟩
theorem or_add (X j : Nat) (hj : j < 3) (hX : X < 2 ^ j) : bits .or .i64 (X : Int) (wrap64 (2 ^ j)) = ((X + 2 ^ j : Nat) : Int) := by
 have h1 : j = 0 ∨ j = 1 ∨ j = 2 := by omega
 rcases h1 with rfl | rfl | rfl
 ·have : X = 0 := by simpa using hX
  subst this; first | rfl | decide +kernel
 ·have : X = 0 ∨ X = 1 := by simp at hX; omega
  rcases this with rfl | rfl <;> (first | rfl | decide +kernel)
 ·have : X = 0 ∨ X = 1 ∨ X = 2 ∨ X = 3 := by simp at hX; omega
  rcases this with rfl | rfl | rfl | rfl <;> (first | rfl | decide +kernel)
set_option maxHeartbeats 4000000 in
theorem table_c (k : Conf) (w0 : World) (rn kb mb : Nat) (ta pa : Option Addr) (tc pc : Nat) (sr si : Value) (F : Wire → Bool) (hok : k.Ok) (hk : ConfAt w0 k ta pa) (N t : Nat) (ht : t < 25) (hH : ∀ y ∈ selW t (tileAt k t).sl, ValC k w0 rn kb mb [.slice ta k.ts.length tc, .slice pa k.ps.length pc] [.pointer (some ⟨kb, 0, none⟩), sr, si, .map (some mb)] F N y) (m : Marks) (w : World) (hR : RunAt w0 rn kb mb [.slice ta k.ts.length tc, .slice pa k.ps.length pc] [.pointer (some ⟨kb, 0, none⟩), sr, si, .map (some mb)] w) (hK : KnM w mb F m) :
  Calls Try.prog 115 #[.pointer (some ⟨rn, 0, none⟩), .int .i64 t] w (ValP k N mb F m (tabV k F t) w) := by
 have hot := tileB_iff.1 (hok.ts t ht)
 have hss : ∀ j, j < 3 → trackB ((tileAt k t).sl.getD j 0) = true := hot.ss
 have ls : (tileAt k t).sl.length = 3 := hot.ls
 have tb0 : 0 ≤ (tileAt k t).tb := hot.t0
 have tb1 : (tileAt k t).tb < 256 := hot.t1
 obtain ⟨b, o, rfl, hb, hcc⟩ := hk.ts.get (by rw [hok.lt]; omega)
 obtain ⟨sa, sc, da, dc, p0, p1, p2, p3, hsl, hdr⟩ := hcc t (by rw [hok.lt]; omega)
 have e1 : k.ts.getD t tile0 = tileAt k t := rfl
 rw [e1] at p0 p1 p2 p3 hsl
 have htab : tabV k F t = (((tileAt k t).tb / 2 ^ ixT (rdV F t) (tileAt k t).sl 3) % 2 == 1) := rfl
 obtain ⟨x, hxx⟩ : ∃ x, x = tileAt k t := ⟨_, rfl⟩
 rw [← hxx] at p0 p1 p2 p3 hsl ls hss tb0 tb1 htab hH
 obtain ⟨T, hT⟩ : ∃ T, T = tabV k F t := ⟨_, rfl⟩
 rw [← hT] at htab ⊢
 have HT := Lib.hid htab
 have RC := Lib.hid (fun (s : Int) (hs : s ∈ x.sl) (hs2 : s ≠ 15 → 0 ≤ s) => read_c k w0 rn kb mb _ _ F N t s (fun h => ⟨hs2 h, hH _ (mem_selW hs h)⟩))
 have HSS := Lib.hid hss
 obtain ⟨ls1, ls2⟩ : x.sl.length ≤ 3 ∧ 3 ≤ x.sl.length := by omega
 obtain ⟨lt1, lt2⟩ : k.ts.length ≤ 25 ∧ 25 ≤ k.ts.length := by have := hok.lt; omega
 have P0 := p0
 have P1 := p1
 replace p0 := ((ecell hR.e).1 b _ hb).trans p0
 replace p1 := ((ecell hR.e).1 b _ hb).trans p1
 have r0 := hR.r.cell (i := 0) rfl
 have y0 := hR.y.cell (i := 0) rfl
 have rl := hR.r.lt
 have yl := hR.y.lt
 clear e1 hxx hcc hot htab hH hss hdr hT ls p3 p2
 go_enter Try.func115, Try.ntmps115
 go_wp2_with fail
 go_loopw [6, 23] (fun u6 u23 wr => ∃ (j : Nat) (m' : Marks), j ≤ x.sl.length ∧ u23 = .int .i64 j ∧ u6 = .int .i64 (ixT (rdV F t) x.sl j : Nat) ∧ KnM wr mb F m' ∧ Hid (∀ y : Wire, y.Ok → m' y.ix ≠ 0 → m y.ix = 0 → rk k y < N) ∧ w.grownBy wr (some mb)) (fun _ i _ => x.sl.length - (intOf i).toNat)
 case atStart => exact ⟨0, m, Nat.zero_le _, rfl, rfl, hK, Lib.hid (fun y hy h1 h2 => absurd h2 h1), Gr.refl _ _⟩
 case round =>
  clear p0 p1 r0 y0 rl yl
  obtain ⟨j, m', hj, rfl, rfl, hK', hN', hG⟩ := hrel
  have hR' := hR.gr hG
  have hE := hR'.e
  have p0 := ((ecell hE).1 b _ hb).trans P0
  have p1 := ((ecell hE).1 b _ hb).trans P1
  by_cases hlt : j < x.sl.length
  ·obtain ⟨b3, o3, rfl, hb3, hc3⟩ := (hsl.ext hE).get (by omega)
   have q3 := hc3 j hlt
   have htr := trackB_cases (HSS.out j (by omega))
   have hmem : x.sl.getD j 0 ∈ x.sl := by rw [List.getD_eq_getElem?_getD, List.getElem?_eq_getElem hlt]; exact List.getElem_mem _
   have hstep : ixT (rdV F t) x.sl (j + 1) = ixT (rdV F t) x.sl j + if rdV F t (x.sl.getD j 0) then 2 ^ j else 0 := rfl
   obtain ⟨s, hs⟩ : ∃ s, s = x.sl.getD j 0 := ⟨_, rfl⟩
   rw [← hs] at q3 htr hmem hstep
   have hc := RC.out s hmem (fun h => by omega) m' wr hR' hK'
   obtain ⟨v, hv⟩ : ∃ v, v = rdV F t s := ⟨_, rfl⟩
   rw [← hv] at hc hstep
   have HSTEP := Lib.hid hstep
   have hlt2 := ixT_lt (rdV F t) x.sl j
   obtain ⟨X, hX⟩ : ∃ X, X = ixT (rdV F t) x.sl j := ⟨_, rfl⟩
   rw [← hX] at HSTEP hlt2 ⊢
   have HC := Lib.hid hc
   clear hc3 hs hstep hX hc hv htr hmem
   go_wp2_with fail
   refine HC.out.mono ?_
   rintro e w3 ⟨m3, rfl, hK3, hN3, hG3⟩
   have GG := Gr.trans hG hG3
   have hNN : Hid (∀ y : Wire, y.Ok → m3 y.ix ≠ 0 → m y.ix = 0 → rk k y < N) := Lib.hid (fun y hy h1 h2 => by
    by_cases h3 : m' y.ix = 0
    ·exact hN3 y hy h1 h3
    ·exact hN'.out y hy h3 h2)
   clear HC
   cases v
   ·have hst : ixT (rdV F t) x.sl (j + 1) = X := HSTEP.out
    have HST := Lib.hid hst
    clear hst HSTEP
    go_wp2
    go_roundw
    case rel => exact ⟨j + 1, m3, by omega, by go_num, by rw [HST.out], hK3, hNN, GG⟩
    case measure => simp [intOf]; omega
   ·have hst : ixT (rdV F t) x.sl (j + 1) = X + 2 ^ j := HSTEP.out
    have HST := Lib.hid hst
    have hw := or_add X j (by omega) hlt2
    clear hst HSTEP
    go_wp2
    go_roundw
    case rel => exact ⟨j + 1, m3, by omega, by go_num, by rw [HST.out]; simp, hK3, hNN, GG⟩
    case measure => simp [intOf]; omega
  ·have hj3 : j = x.sl.length := by omega
   have hx3 : ixT (rdV F t) x.sl j = ixT (rdV F t) x.sl 3 := by congr 1; omega
   have hlt2 := ixT_lt (rdV F t) x.sl 3
   rw [hx3]
   obtain ⟨X, hX⟩ : ∃ X, X = ixT (rdV F t) x.sl 3 := ⟨_, rfl⟩
   rw [← hX] at HT hlt2 ⊢
   have hX8 : X < 8 := hlt2
   have hnn : 0 ≤ x.tb / 2 ^ X := Int.ediv_nonneg tb0 (Int.pow_nonneg (by decide))
   have hle : x.tb / 2 ^ X ≤ x.tb := Int.ediv_le_self _ tb0
   have em := and_one (x.tb / 2 ^ X) hnn (by omega)
   clear hX hlt2 hx3 hj3
   go_wp2
   go_ret
   exact ⟨m', by rw [HT.out]; rfl, hK', hN'.out, hG⟩
theorem step_updK {H : Type} {P : Program} {w : World} {k e t : TypeId} {R : Value → Option (DataW H × List MemPlace)} {b n : Nat} {D : DataW H} (hown : w.ownsMap P k R b n D) (K : Keyed P k) (ht : P.underlying t = some (.map k e)) (hn : n < maxLen)
  {key val : Value} {kl : Lit} {d : DataW H} {ps : List MemPlace} (hkey : keyOf P k key = some kl) (hval : R val = some (d, ps))
  {ops : Array Oper} {o : Oper} {a : Act} {K' : Act → World → Prop} {Q : Exit → Act → World → Prop} {E : Prop} (hgd : o.guard = none) {m x v : Operand} (ho : o.op = Op.mapUpdate t m x v)
  (hm : a.eval m = .map (some b)) (hx : a.eval x = key) (hv : a.eval v = val)
  (h : ∀ w', w'.ownsMap P k R b (n + 1) (D.put kl d) → w.grownBy w' (some b) → K' (a.put o.dst undef) w') : Bx (if Region.wanted o (yielded ops a.tmps) = true then o.wp P a w K' Q else E) := by
 refine ⟨?_⟩
 rw [if_pos (by simp [Region.wanted, hgd])]
 obtain ⟨w', hrun, r1, r2⟩ := hown.update K ht hn hkey hval
 unfold Oper.wp
 simp [execOp, ho, hm, hx, hv, hrun, Result.andThen]
 exact h w' r1 r2
set_option maxHeartbeats 8000000 in
theorem value_c (k : Conf) (w0 : World) (rn kb mb : Nat) (ta pa ra ia : Option Addr) (tc pc rc ic : Nat) (regs ins : List Bool) (hok : k.Ok) (hf : ∀ x : Wire, x.Ok → ∃ n, FinN k n x) (hr : 25 ≤ regs.length ∧ regs.length ≤ 25) (hil : ins.length ≤ 4) (hF : FabAt w0 k ta pa ra regs ia ins) :
  ∀ (n : Nat) (x : Wire), x.Ok → rk k x < n → ValC k w0 rn kb mb [.slice ta k.ts.length tc, .slice pa k.ps.length pc] [.pointer (some ⟨kb, 0, none⟩), .slice ra regs.length rc, .slice ia ins.length ic, .map (some mb)] (valW k regs ins) n x := by
 intro n
 induction n with
 | zero => intro x _ h; exact absurd h (Nat.not_lt_zero _)
 | succ n ih =>
  intro ⟨t, c⟩ hx hn m w hR hK
  by_cases hlow : rk k (t, c) < n
  ·refine (ih (t, c) hx hlow m w hR hK).mono ?_
   rintro e w' ⟨m', rfl, a1, a2, a3⟩
   exact ⟨m', rfl, a1, fun y hy h1 h2 => by have := a2 y hy h1 h2; omega, a3⟩
  have IH := Lib.hid (fun y (hy : y ∈ needW k (t, c)) => ih y (hok.need hx y hy) (by have := rk_lt (hf _ hx) hy; omega))
  clear ih
  have ht := hx.1
  have hc := hx.2
  dsimp only at ht hc
  dsimp only
  have hkey : keyOf Try.prog 146 (.agg #[.int .i64 (t : Int), .int .i64 (c : Int)]) = some (wKey (t, c)) := wKeyOf (t, c) hx
  have A1 : Ext w (w.alloc (.cells #[.int .i64 t, .int .i64 c] 146)) := (Ext.refl w).alloc _
  have hK1 := hK.ext A1
  have hR1 := hR.ext A1
  have yx := Blk.at w [.int .i64 t, .int .i64 c] 146 rfl
  obtain ⟨cv, hlk, hcv⟩ := hK1.look hx
  replace hlk : ∀ n, (Instr.lookup 148 (.map (some mb)) (.agg #[.int .i64 (t : Int), .int .i64 (c : Int)]) true).run Try.prog ((w.alloc (.cells #[.int .i64 t, .int .i64 c] 146)).drewN n) = .ok (.tuple #[.bool cv, .bool (decide (m (Wire.ix (t, c)) ≠ 0))]) ((w.alloc (.cells #[.int .i64 t, .int .i64 c] 146)).drewN n) := hlk
  have HCV := Lib.hid hcv
  have z1 : w.heap.size < (w.alloc (.cells #[.int .i64 t, .int .i64 c] 146)).heap.size := by simp
  have mbl := hK.lt
  clear hcv hK hR
  have x0 := yx.cell (i := 0) rfl
  have x1 := yx.cell (i := 1) rfl
  have r0 := hR1.r.cell (i := 0) rfl
  have r1 := hR1.r.cell (i := 1) rfl
  have r2 := hR1.r.cell (i := 2) rfl
  have r3 := hR1.r.cell (i := 3) rfl
  have rl := hR1.r.lt
  have hlk1 := hlk 1
  go_enter Try.func136, Try.ntmps136
  go_upto_region 1 with fail
  generalize w.alloc (.cells #[.int .i64 t, .int .i64 c] 146) = W1 at *
  by_cases hm : m (Wire.ix (t, c)) = 0
  ·have hd : decide (m (Wire.ix (t, c)) ≠ 0) = false := by simpa using hm
   rw [hd] at hlk hlk1
   clear hd
   go_quiet (fail)
   go_wp2_with fail
   have hD : Ext W1 (W1.drewN nq) := Ext.drewN W1 nq
   obtain ⟨W2, hW2⟩ : ∃ W2, W2 = W1.drewN nq := ⟨_, rfl⟩
   rw [← hW2] at hD ⊢
   replace A1 := A1.trans hD
   replace hK1 := hK1.ext hD
   replace hR1 := hR1.ext hD
   replace yx := yx.ext hD
   clear hW2 hlk hlk1 x0 x1 r0 r1 r2 r3 rl z1 hD HCV nq
   -- the tile
   obtain ⟨b, o, rfl, hb, hcc⟩ := hF.k.ts.get (by rw [hok.lt]; omega)
   obtain ⟨sa, sc, da, dc, p0, p1, p2, p3, hsl, hdr⟩ := hcc t (by rw [hok.lt]; omega)
   have hot := tileB_iff.1 (hok.ts t ht)
   have hnbr := fun h2 h5 => hok.nb hx h2 h5
   have hneed : needW k (t, c) = if 2 ≤ drvAt k (t, c) ∧ drvAt k (t, c) ≤ 5 then [((nbV t (drvAt k (t, c))).toNat, c)] else if drvAt k (t, c) = 1 ∧ (tileAt k t).rg = false then selW t (tileAt k t).sl else [] := rfl
   have hval := valW_eq hok hf (regs := regs) (ins := ins) hx
   have hbody : bodyW k regs ins (valW k regs ins) (t, c) = if drvAt k (t, c) = 0 then false else if drvAt k (t, c) = 6 then decide (t / 5 < ins.length) && ins.getD (t / 5) false
    else if drvAt k (t, c) = 1 then (if (tileAt k t).rg then regs.getD t false else tabV k (valW k regs ins) t) else valW k regs ins ((nbV t (drvAt k (t, c))).toNat, c) := rfl
   have hdR := hok.drvR hx
   rw [hbody] at hval
   obtain ⟨b2, o2, rfl, hb2, hd2⟩ := hdr.get (by rw [hot.ld]; omega)
   have p4 := hd2 c (by rw [hot.ld]; omega)
   have ld := hot.ld
   obtain ⟨d, hd⟩ : ∃ d, d = drvAt k (t, c) := ⟨_, rfl⟩
   have hd' : (tileAt k t).dr.getD c 0 = d := hd.symm
   have e1 : k.ts.getD t tile0 = tileAt k t := rfl
   rw [e1] at p0 p1 p2 p3 p4 hsl ld hd2
   rw [hd'] at p4
   rw [← hd] at hnbr hneed hval hdR
   have TC := Lib.hid (fun (h : d = 1 ∧ (tileAt k t).rg = false) => table_c k w0 rn kb mb (some ⟨b, o, none⟩) pa tc pc (.slice ra regs.length rc) (.slice ia ins.length ic) (valW k regs ins) hok hF.k n t ht (fun y hy => IH.out y (by rw [hneed, if_neg (by omega), if_pos h]; exact hy)))
   have NC := Lib.hid (fun (h2 : 2 ≤ d) (h5 : d ≤ 5) => IH.out ((nbV t d).toNat, c) (by rw [hneed, if_pos ⟨h2, h5⟩]; simp))
   clear hd hd' hcc hdr hot hd2 hbody hneed IH
   obtain ⟨x, hxx⟩ : ∃ x, x = tileAt k t := ⟨_, rfl⟩
   rw [← hxx] at p0 p1 p2 p3 hsl ld hval TC
   clear e1 hxx
   obtain ⟨lt1, lt2⟩ : k.ts.length ≤ 25 ∧ 25 ≤ k.ts.length := by have := hok.lt; omega
   obtain ⟨ld1, ld2⟩ : x.dr.length ≤ 8 ∧ 8 ≤ x.dr.length := by omega
   obtain ⟨rg1, rg2⟩ := hr
   have HRV := Lib.hid hval
   have HNB := Lib.hid hnbr
   have hri := hF.r
   have hii := hF.i
   have r0 := hR1.r.cell (i := 0) rfl
   have rl := hR1.r.lt
   have y0 := hR1.y.cell (i := 0) rfl
   have yl := hR1.y.lt
   have x0 := yx.cell (i := 0) rfl
   have x1 := yx.cell (i := 1) rfl
   have xl := yx.lt
   have P2 := p2
   replace p3 := ((ecell hR1.e).1 b _ hb).trans p3
   replace p4 := ((ecell hR1.e).1 b2 _ hb2).trans p4
   have hbW := Nat.lt_of_lt_of_le hb hR1.e.size
   have hbW2 := Nat.lt_of_lt_of_le hb2 hR1.e.size
   clear hval hnbr ld p0 p1 p2
   go_quiet (fail)
   have hD : Ext W2 (W2.drewN nq) := Ext.drewN W2 nq
   obtain ⟨W3, hW3⟩ : ∃ W3, W3 = W2.drewN nq := ⟨_, rfl⟩
   rw [← hW3] at hD ⊢
   replace A1 := A1.trans hD
   replace hK1 := hK1.ext hD
   replace hR1 := hR1.ext hD
   replace yx := yx.ext hD
   clear hW3 nq
   clear r0 y0 x0 x1 rl yl xl
   have x0 := yx.cell (i := 0) rfl
   have x1 := yx.cell (i := 1) rfl
   have xl := yx.lt
   replace p3 := ((ecell hD).1 b _ hbW).trans p3
   replace p4 := ((ecell hD).1 b2 _ hbW2).trans p4
   replace hbW := Nat.lt_of_lt_of_le hbW hD.size
   replace hbW2 := Nat.lt_of_lt_of_le hbW2 hD.size
   clear hD
   go_wp2_with fail
   go_quiet (fail)
   have hD : Ext W3 (W3.drewN nq) := Ext.drewN W3 nq
   obtain ⟨W4, hW4⟩ : ∃ W4, W4 = W3.drewN nq := ⟨_, rfl⟩
   rw [← hW4] at hD ⊢
   replace A1 := A1.trans hD
   replace hK1 := hK1.ext hD
   replace hR1 := hR1.ext hD
   replace yx := yx.ext hD
   clear hW4 nq
   clear x0 x1 xl hD p3 p4 hbW hbW2
   have x0 := yx.cell (i := 0) rfl
   have x1 := yx.cell (i := 1) rfl
   have xl := yx.lt
   have r0 := hR1.r.cell (i := 0) rfl
   have r1 := hR1.r.cell (i := 1) rfl
   have r2 := hR1.r.cell (i := 2) rfl
   have rl := hR1.r.lt
   have p2 := ((ecell hR1.e).1 b _ hb).trans P2
   have hdc : d = 0 ∨ d = 6 ∨ d = 1 ∨ (2 ≤ d ∧ d ≤ 5) := by omega
   rcases hdc with rfl | rfl | rfl | ⟨h2, h5⟩
   ·replace HRV : Hid (valW k regs ins (t, c) = false) := HRV
    clear TC NC HNB p2 r0 r1 r2 x0 x1
    obtain ⟨sn, D, hown, hsn, hhas, hat⟩ := hK1
    have hvE : bElem (.bool false) = some (.lit (.bool false), []) := bElem_of false
    have xx0 := yx.cell (i := 0) rfl
    have xx1 := yx.cell (i := 1) rfl
    have xxl := yx.lt
    have rr3 := hR1.r.cell (i := 3) rfl
    have rrl := hR1.r.lt
    have HH1 := Lib.hid hhas
    have HH2 := Lib.hid hat
    clear hhas hat
    go_wp2_with fail
    refine wp_regionT (fun w' => w'.cell? ⟨rn, 3, none⟩ = some (.map (some mb)) ∧ w'.cell? ⟨w.heap.size, 0, none⟩ = some (.int .i64 t) ∧ w'.cell? ⟨w.heap.size, 1, none⟩ = some (.int .i64 c)) 6 (by kernel_rfl) ?_
    have hS0 := And.intro (a := (World.drew W4).cell? ⟨rn, 3, none⟩ = some (.map (some mb))) rr3 (And.intro (a := (World.drew W4).cell? ⟨w.heap.size, 0, none⟩ = some (.int .i64 t)) xx0 (show (World.drew W4).cell? ⟨w.heap.size, 1, none⟩ = some (.int .i64 c) from xx1))
    ((refine tkT 0 (v := ?_) rfl (by kernel_rfl) (by kernel_rfl) ?_ (by assumption) ?_; rotate_left; (intro wS hSw; (try dsimp only at hSw); go_simp; (try with_reducible rfl)); (try simp only [Act.put, lA, lB, lC])); (refine tkT 1 (v := ?_) rfl (by kernel_rfl) (by kernel_rfl) ?_ (by assumption) ?_; rotate_left; (intro wS hSw; (try dsimp only at hSw); go_simp; (try with_reducible rfl)); (try simp only [Act.put, lA, lB, lC])); (refine tkT 2 (v := ?_) rfl (by kernel_rfl) (by kernel_rfl) ?_ (by assumption) ?_; rotate_left; (intro wS hSw; (try dsimp only at hSw); go_simp; (try with_reducible rfl)); (try simp only [Act.put, lA, lB, lC])); (refine tkT 3 (v := ?_) rfl (by kernel_rfl) (by kernel_rfl) ?_ (by assumption) ?_; rotate_left; (intro wS hSw; (try dsimp only at hSw); go_simp; (try with_reducible rfl)); (try simp only [Act.put, lA, lB, lC])); (refine tkT 4 (v := ?_) rfl (by kernel_rfl) (by kernel_rfl) ?_ (by assumption) ?_; rotate_left; (intro wS hSw; (try dsimp only at hSw); go_simp; (try with_reducible rfl)); (try simp only [Act.put, lA, lB, lC])); (refine tkT 5 (v := ?_) rfl (by kernel_rfl) (by kernel_rfl) ?_ (by assumption) ?_; rotate_left; (intro wS hSw; (try dsimp only at hSw); go_simp; (try with_reducible rfl)); (try simp only [Act.put, lA, lB, lC])))
    have hD0 : (World.drew W4).ownsMap Try.prog 146 bElem mb sn D := hown
    (refine wpAnyT_lastB 6 (by kernel_rfl) rfl (by decide) (by kernel_rfl) (fun K hK => ?_))
    refine step_updK hD0 wLaw bMapTy (by unfold maxLen; omega) hkey hvE rfl rfl (by kernel_rfl) (by kernel_rfl) (by kernel_rfl) ?_
    intro w9 m9 g9
    go_simp
    (refine hK _ _ ?_; clear hK K; (try simp only [Act.put, lA, lB, lC]))
    have hx0 : m (Wire.ix (t, c)) = 0 := hm
    have K9 := Lib.hid (KnM.put (F := valW k regs ins) hown hsn HH1.out HH2.out hx hx0 (by have e := HRV.out; rw [e]; exact m9))
    have G9 : w.grownBy w9 (some mb) := Gr.trans (Gr.trans (Gr.ext A1 _) (Gr.ext (Ext.drew _) _)) g9
    clear hS0 hD0 hown m9 g9 xx0 xx1 rr3
    go_wp2
    go_ret
    refine ⟨_, by rw [HRV.out]; rfl, K9.out, fun y hy h1 h2 => ?_, G9⟩
    by_cases e : y = (t, c)
    ·subst e; omega
    ·rw [upd_ne _ _ (fun e2 => e (Wire.ix_inj hy hx e2))] at h1
     have h3 := (fun y hy h1 h2 => absurd h2 h1 : ∀ y : Wire, y.Ok → m y.ix ≠ 0 → m y.ix = 0 → rk k y < n) y hy h1 h2
     omega
   ·replace HRV : Hid (valW k regs ins (t, c) = (decide (t / 5 < ins.length) && ins.getD (t / 5) false)) := HRV
    have td : (t : Int).tdiv 5 = ((t / 5 : Nat) : Int) := by rw [Int.tdiv_eq_ediv_of_nonneg (by omega)]; omega
    have td2 : (t : Int) / 5 = ((t / 5 : Nat) : Int) := by omega
    clear TC NC HNB p2 r0 r1 x1
    by_cases hlt : t / 5 < ins.length
    ·obtain ⟨b3, o3, rfl, hb3, hc3⟩ := (hii.ext hR1.e).get (by omega)
     have q3 := hc3 (t / 5) hlt
     have hli : ((t / 5 : Nat) : Int) < (ins.length : Int) := by omega
     obtain ⟨v, hv⟩ : ∃ v, v = ins.getD (t / 5) false := ⟨_, rfl⟩
     rw [← hv] at q3
     replace HRV : Hid (valW k regs ins (t, c) = v) := Lib.hid (by rw [HRV.out, decide_eq_true hlt, Bool.true_and, hv])
     obtain ⟨q, hq⟩ : ∃ q, q = t / 5 := ⟨_, rfl⟩
     rw [← hq] at q3 hlt hli td td2
     clear hc3 hq hv
     obtain ⟨sn, D, hown, hsn, hhas, hat⟩ := hK1
     have hvE : bElem (.bool v) = some (.lit (.bool v), []) := bElem_of v
     have xx0 := yx.cell (i := 0) rfl
     have xx1 := yx.cell (i := 1) rfl
     have xxl := yx.lt
     have rr3 := hR1.r.cell (i := 3) rfl
     have rrl := hR1.r.lt
     have HH1 := Lib.hid hhas
     have HH2 := Lib.hid hat
     clear hhas hat
     go_wp2_with fail
     refine wp_regionT (fun w' => w'.cell? ⟨rn, 3, none⟩ = some (.map (some mb)) ∧ w'.cell? ⟨w.heap.size, 0, none⟩ = some (.int .i64 t) ∧ w'.cell? ⟨w.heap.size, 1, none⟩ = some (.int .i64 c)) 6 (by kernel_rfl) ?_
     have hS0 := And.intro (a := (World.drew W4).cell? ⟨rn, 3, none⟩ = some (.map (some mb))) rr3 (And.intro (a := (World.drew W4).cell? ⟨w.heap.size, 0, none⟩ = some (.int .i64 t)) xx0 (show (World.drew W4).cell? ⟨w.heap.size, 1, none⟩ = some (.int .i64 c) from xx1))
     ((refine tkT 0 (v := ?_) rfl (by kernel_rfl) (by kernel_rfl) ?_ (by assumption) ?_; rotate_left; (intro wS hSw; (try dsimp only at hSw); go_simp; (try with_reducible rfl)); (try simp only [Act.put, lA, lB, lC])); (refine tkT 1 (v := ?_) rfl (by kernel_rfl) (by kernel_rfl) ?_ (by assumption) ?_; rotate_left; (intro wS hSw; (try dsimp only at hSw); go_simp; (try with_reducible rfl)); (try simp only [Act.put, lA, lB, lC])); (refine tkT 2 (v := ?_) rfl (by kernel_rfl) (by kernel_rfl) ?_ (by assumption) ?_; rotate_left; (intro wS hSw; (try dsimp only at hSw); go_simp; (try with_reducible rfl)); (try simp only [Act.put, lA, lB, lC])); (refine tkT 3 (v := ?_) rfl (by kernel_rfl) (by kernel_rfl) ?_ (by assumption) ?_; rotate_left; (intro wS hSw; (try dsimp only at hSw); go_simp; (try with_reducible rfl)); (try simp only [Act.put, lA, lB, lC])); (refine tkT 4 (v := ?_) rfl (by kernel_rfl) (by kernel_rfl) ?_ (by assumption) ?_; rotate_left; (intro wS hSw; (try dsimp only at hSw); go_simp; (try with_reducible rfl)); (try simp only [Act.put, lA, lB, lC])); (refine tkT 5 (v := ?_) rfl (by kernel_rfl) (by kernel_rfl) ?_ (by assumption) ?_; rotate_left; (intro wS hSw; (try dsimp only at hSw); go_simp; (try with_reducible rfl)); (try simp only [Act.put, lA, lB, lC])))
     have hD0 : (World.drew W4).ownsMap Try.prog 146 bElem mb sn D := hown
     (refine wpAnyT_lastB 6 (by kernel_rfl) rfl (by decide) (by kernel_rfl) (fun K hK => ?_))
     refine step_updK hD0 wLaw bMapTy (by unfold maxLen; omega) hkey hvE rfl rfl (by kernel_rfl) (by kernel_rfl) (by kernel_rfl) ?_
     intro w9 m9 g9
     go_simp
     (refine hK _ _ ?_; clear hK K; (try simp only [Act.put, lA, lB, lC]))
     have hx0 : m (Wire.ix (t, c)) = 0 := hm
     have K9 := Lib.hid (KnM.put (F := valW k regs ins) hown hsn HH1.out HH2.out hx hx0 (by have e := HRV.out; rw [e]; exact m9))
     have G9 : w.grownBy w9 (some mb) := Gr.trans (Gr.trans (Gr.ext A1 _) (Gr.ext (Ext.drew _) _)) g9
     clear hS0 hD0 hown m9 g9 xx0 xx1 rr3
     go_wp2
     go_ret
     refine ⟨_, by rw [HRV.out]; rfl, K9.out, fun y hy h1 h2 => ?_, G9⟩
     by_cases e : y = (t, c)
     ·subst e; omega
     ·rw [upd_ne _ _ (fun e2 => e (Wire.ix_inj hy hx e2))] at h1
      have h3 := (fun y hy h1 h2 => absurd h2 h1 : ∀ y : Wire, y.Ok → m y.ix ≠ 0 → m y.ix = 0 → rk k y < n) y hy h1 h2
      omega
    ·have hli : ¬ ((t / 5 : Nat) : Int) < (ins.length : Int) := by omega
     replace HRV : Hid (valW k regs ins (t, c) = false) := Lib.hid (by rw [HRV.out, decide_eq_false hlt, Bool.false_and])
     obtain ⟨q, hq⟩ : ∃ q, q = t / 5 := ⟨_, rfl⟩
     rw [← hq] at hlt hli td td2
     clear hq
     obtain ⟨sn, D, hown, hsn, hhas, hat⟩ := hK1
     have hvE : bElem (.bool false) = some (.lit (.bool false), []) := bElem_of false
     have xx0 := yx.cell (i := 0) rfl
     have xx1 := yx.cell (i := 1) rfl
     have xxl := yx.lt
     have rr3 := hR1.r.cell (i := 3) rfl
     have rrl := hR1.r.lt
     have HH1 := Lib.hid hhas
     have HH2 := Lib.hid hat
     clear hhas hat
     go_wp2_with fail
     refine wp_regionT (fun w' => w'.cell? ⟨rn, 3, none⟩ = some (.map (some mb)) ∧ w'.cell? ⟨w.heap.size, 0, none⟩ = some (.int .i64 t) ∧ w'.cell? ⟨w.heap.size, 1, none⟩ = some (.int .i64 c)) 6 (by kernel_rfl) ?_
     have hS0 := And.intro (a := (World.drew W4).cell? ⟨rn, 3, none⟩ = some (.map (some mb))) rr3 (And.intro (a := (World.drew W4).cell? ⟨w.heap.size, 0, none⟩ = some (.int .i64 t)) xx0 (show (World.drew W4).cell? ⟨w.heap.size, 1, none⟩ = some (.int .i64 c) from xx1))
     ((refine tkT 0 (v := ?_) rfl (by kernel_rfl) (by kernel_rfl) ?_ (by assumption) ?_; rotate_left; (intro wS hSw; (try dsimp only at hSw); go_simp; (try with_reducible rfl)); (try simp only [Act.put, lA, lB, lC])); (refine tkT 1 (v := ?_) rfl (by kernel_rfl) (by kernel_rfl) ?_ (by assumption) ?_; rotate_left; (intro wS hSw; (try dsimp only at hSw); go_simp; (try with_reducible rfl)); (try simp only [Act.put, lA, lB, lC])); (refine tkT 2 (v := ?_) rfl (by kernel_rfl) (by kernel_rfl) ?_ (by assumption) ?_; rotate_left; (intro wS hSw; (try dsimp only at hSw); go_simp; (try with_reducible rfl)); (try simp only [Act.put, lA, lB, lC])); (refine tkT 3 (v := ?_) rfl (by kernel_rfl) (by kernel_rfl) ?_ (by assumption) ?_; rotate_left; (intro wS hSw; (try dsimp only at hSw); go_simp; (try with_reducible rfl)); (try simp only [Act.put, lA, lB, lC])); (refine tkT 4 (v := ?_) rfl (by kernel_rfl) (by kernel_rfl) ?_ (by assumption) ?_; rotate_left; (intro wS hSw; (try dsimp only at hSw); go_simp; (try with_reducible rfl)); (try simp only [Act.put, lA, lB, lC])); (refine tkT 5 (v := ?_) rfl (by kernel_rfl) (by kernel_rfl) ?_ (by assumption) ?_; rotate_left; (intro wS hSw; (try dsimp only at hSw); go_simp; (try with_reducible rfl)); (try simp only [Act.put, lA, lB, lC])))
     have hD0 : (World.drew W4).ownsMap Try.prog 146 bElem mb sn D := hown
     (refine wpAnyT_lastB 6 (by kernel_rfl) rfl (by decide) (by kernel_rfl) (fun K hK => ?_))
     refine step_updK hD0 wLaw bMapTy (by unfold maxLen; omega) hkey hvE rfl rfl (by kernel_rfl) (by kernel_rfl) (by kernel_rfl) ?_
     intro w9 m9 g9
     go_simp
     (refine hK _ _ ?_; clear hK K; (try simp only [Act.put, lA, lB, lC]))
     have hx0 : m (Wire.ix (t, c)) = 0 := hm
     have K9 := Lib.hid (KnM.put (F := valW k regs ins) hown hsn HH1.out HH2.out hx hx0 (by have e := HRV.out; rw [e]; exact m9))
     have G9 : w.grownBy w9 (some mb) := Gr.trans (Gr.trans (Gr.ext A1 _) (Gr.ext (Ext.drew _) _)) g9
     clear hS0 hD0 hown m9 g9 xx0 xx1 rr3
     go_wp2
     go_ret
     refine ⟨_, by rw [HRV.out]; rfl, K9.out, fun y hy h1 h2 => ?_, G9⟩
     by_cases e : y = (t, c)
     ·subst e; omega
     ·rw [upd_ne _ _ (fun e2 => e (Wire.ix_inj hy hx e2))] at h1
      have h3 := (fun y hy h1 h2 => absurd h2 h1 : ∀ y : Wire, y.Ok → m y.ix ≠ 0 → m y.ix = 0 → rk k y < n) y hy h1 h2
      omega
   ·replace HRV : Hid (valW k regs ins (t, c) = if x.rg then regs.getD t false else tabV k (valW k regs ins) t) := HRV
    cases hrg : x.rg
    ·replace HRV : Hid (valW k regs ins (t, c) = tabV k (valW k regs ins) t) := Lib.hid (by rw [HRV.out, hrg]; rfl)
     have T2 := TC.out ⟨rfl, hrg⟩ m W4 hR1 hK1
     obtain ⟨v, hv⟩ : ∃ v, v = tabV k (valW k regs ins) t := ⟨_, rfl⟩
     rw [← hv] at HRV T2
     have HT2 := Lib.hid T2
     rw [hrg] at p2
     clear hrg TC NC hv T2 x1 r0 r1 r2 HNB
     go_wp2_with fail
     refine HT2.out.mono ?_
     rintro e W5 ⟨m5, rfl, hK5, hN5, hG5⟩
     have hR5 := hR1.gr hG5
     have yx5 := yx.gr hG5 (someNe (by omega))
     have GG5 := Gr.trans (Gr.ext A1 _) hG5
     clear HT2 p2 x0
     obtain ⟨sn, D, hown, hsn, hhas, hat⟩ := hK5
     have hvE : bElem (.bool v) = some (.lit (.bool v), []) := bElem_of v
     have xx0 := yx5.cell (i := 0) rfl
     have xx1 := yx5.cell (i := 1) rfl
     have xxl := yx5.lt
     have rr3 := hR5.r.cell (i := 3) rfl
     have rrl := hR5.r.lt
     have HH1 := Lib.hid hhas
     have HH2 := Lib.hid hat
     clear hhas hat
     go_wp2_with fail
     refine wp_regionT (fun w' => w'.cell? ⟨rn, 3, none⟩ = some (.map (some mb)) ∧ w'.cell? ⟨w.heap.size, 0, none⟩ = some (.int .i64 t) ∧ w'.cell? ⟨w.heap.size, 1, none⟩ = some (.int .i64 c)) 6 (by kernel_rfl) ?_
     have hS0 := And.intro (a := (World.drew W5).cell? ⟨rn, 3, none⟩ = some (.map (some mb))) rr3 (And.intro (a := (World.drew W5).cell? ⟨w.heap.size, 0, none⟩ = some (.int .i64 t)) xx0 (show (World.drew W5).cell? ⟨w.heap.size, 1, none⟩ = some (.int .i64 c) from xx1))
     ((refine tkT 0 (v := ?_) rfl (by kernel_rfl) (by kernel_rfl) ?_ (by assumption) ?_; rotate_left; (intro wS hSw; (try dsimp only at hSw); go_simp; (try with_reducible rfl)); (try simp only [Act.put, lA, lB, lC])); (refine tkT 1 (v := ?_) rfl (by kernel_rfl) (by kernel_rfl) ?_ (by assumption) ?_; rotate_left; (intro wS hSw; (try dsimp only at hSw); go_simp; (try with_reducible rfl)); (try simp only [Act.put, lA, lB, lC])); (refine tkT 2 (v := ?_) rfl (by kernel_rfl) (by kernel_rfl) ?_ (by assumption) ?_; rotate_left; (intro wS hSw; (try dsimp only at hSw); go_simp; (try with_reducible rfl)); (try simp only [Act.put, lA, lB, lC])); (refine tkT 3 (v := ?_) rfl (by kernel_rfl) (by kernel_rfl) ?_ (by assumption) ?_; rotate_left; (intro wS hSw; (try dsimp only at hSw); go_simp; (try with_reducible rfl)); (try simp only [Act.put, lA, lB, lC])); (refine tkT 4 (v := ?_) rfl (by kernel_rfl) (by kernel_rfl) ?_ (by assumption) ?_; rotate_left; (intro wS hSw; (try dsimp only at hSw); go_simp; (try with_reducible rfl)); (try simp only [Act.put, lA, lB, lC])); (refine tkT 5 (v := ?_) rfl (by kernel_rfl) (by kernel_rfl) ?_ (by assumption) ?_; rotate_left; (intro wS hSw; (try dsimp only at hSw); go_simp; (try with_reducible rfl)); (try simp only [Act.put, lA, lB, lC])))
     have hD0 : (World.drew W5).ownsMap Try.prog 146 bElem mb sn D := hown
     (refine wpAnyT_lastB 6 (by kernel_rfl) rfl (by decide) (by kernel_rfl) (fun K hK => ?_))
     refine step_updK hD0 wLaw bMapTy (by unfold maxLen; omega) hkey hvE rfl rfl (by kernel_rfl) (by kernel_rfl) (by kernel_rfl) ?_
     intro w9 m9 g9
     go_simp
     (refine hK _ _ ?_; clear hK K; (try simp only [Act.put, lA, lB, lC]))
     have hx0 : m5 (Wire.ix (t, c)) = 0 := Classical.byContradiction (fun h => hlow (hN5 _ hx h hm))
     have K9 := Lib.hid (KnM.put (F := valW k regs ins) hown hsn HH1.out HH2.out hx hx0 (by have e := HRV.out; rw [e]; exact m9))
     have G9 : w.grownBy w9 (some mb) := Gr.trans (Gr.trans GG5 (Gr.ext (Ext.drew _) _)) g9
     clear hS0 hD0 hown m9 g9 xx0 xx1 rr3
     go_wp2
     go_ret
     refine ⟨_, by rw [HRV.out]; rfl, K9.out, fun y hy h1 h2 => ?_, G9⟩
     by_cases e : y = (t, c)
     ·subst e; omega
     ·rw [upd_ne _ _ (fun e2 => e (Wire.ix_inj hy hx e2))] at h1
      have h3 := hN5 y hy h1 h2
      omega
    ·replace HRV : Hid (valW k regs ins (t, c) = regs.getD t false) := Lib.hid (by rw [HRV.out, hrg]; rfl)
     obtain ⟨b3, o3, rfl, hb3, hc3⟩ := (hri.ext hR1.e).get (by omega)
     have q3 := hc3 t (by omega)
     obtain ⟨v, hv⟩ : ∃ v, v = regs.getD t false := ⟨_, rfl⟩
     rw [← hv] at HRV q3
     rw [hrg] at p2
     clear hrg TC NC hv hc3 x1 r2 HNB
     go_wp2_with fail
     go_quiet (fail)
     have hD : Ext W4 (W4.drewN nq) := Ext.drewN W4 nq
     obtain ⟨W5, hW5⟩ : ∃ W5, W5 = W4.drewN nq := ⟨_, rfl⟩
     rw [← hW5] at hD ⊢
     replace A1 := A1.trans hD
     replace hK1 := hK1.ext hD
     replace hR1 := hR1.ext hD
     replace yx := yx.ext hD
     clear hW5 nq
     clear hD x0 r0 r1 p2 q3
     obtain ⟨sn, D, hown, hsn, hhas, hat⟩ := hK1
     have hvE : bElem (.bool v) = some (.lit (.bool v), []) := bElem_of v
     have xx0 := yx.cell (i := 0) rfl
     have xx1 := yx.cell (i := 1) rfl
     have xxl := yx.lt
     have rr3 := hR1.r.cell (i := 3) rfl
     have rrl := hR1.r.lt
     have HH1 := Lib.hid hhas
     have HH2 := Lib.hid hat
     clear hhas hat
     go_wp2_with fail
     refine wp_regionT (fun w' => w'.cell? ⟨rn, 3, none⟩ = some (.map (some mb)) ∧ w'.cell? ⟨w.heap.size, 0, none⟩ = some (.int .i64 t) ∧ w'.cell? ⟨w.heap.size, 1, none⟩ = some (.int .i64 c)) 6 (by kernel_rfl) ?_
     have hS0 := And.intro (a := (World.drew W5).cell? ⟨rn, 3, none⟩ = some (.map (some mb))) rr3 (And.intro (a := (World.drew W5).cell? ⟨w.heap.size, 0, none⟩ = some (.int .i64 t)) xx0 (show (World.drew W5).cell? ⟨w.heap.size, 1, none⟩ = some (.int .i64 c) from xx1))
     ((refine tkT 0 (v := ?_) rfl (by kernel_rfl) (by kernel_rfl) ?_ (by assumption) ?_; rotate_left; (intro wS hSw; (try dsimp only at hSw); go_simp; (try with_reducible rfl)); (try simp only [Act.put, lA, lB, lC])); (refine tkT 1 (v := ?_) rfl (by kernel_rfl) (by kernel_rfl) ?_ (by assumption) ?_; rotate_left; (intro wS hSw; (try dsimp only at hSw); go_simp; (try with_reducible rfl)); (try simp only [Act.put, lA, lB, lC])); (refine tkT 2 (v := ?_) rfl (by kernel_rfl) (by kernel_rfl) ?_ (by assumption) ?_; rotate_left; (intro wS hSw; (try dsimp only at hSw); go_simp; (try with_reducible rfl)); (try simp only [Act.put, lA, lB, lC])); (refine tkT 3 (v := ?_) rfl (by kernel_rfl) (by kernel_rfl) ?_ (by assumption) ?_; rotate_left; (intro wS hSw; (try dsimp only at hSw); go_simp; (try with_reducible rfl)); (try simp only [Act.put, lA, lB, lC])); (refine tkT 4 (v := ?_) rfl (by kernel_rfl) (by kernel_rfl) ?_ (by assumption) ?_; rotate_left; (intro wS hSw; (try dsimp only at hSw); go_simp; (try with_reducible rfl)); (try simp only [Act.put, lA, lB, lC])); (refine tkT 5 (v := ?_) rfl (by kernel_rfl) (by kernel_rfl) ?_ (by assumption) ?_; rotate_left; (intro wS hSw; (try dsimp only at hSw); go_simp; (try with_reducible rfl)); (try simp only [Act.put, lA, lB, lC])))
     have hD0 : (World.drew W5).ownsMap Try.prog 146 bElem mb sn D := hown
     (refine wpAnyT_lastB 6 (by kernel_rfl) rfl (by decide) (by kernel_rfl) (fun K hK => ?_))
     refine step_updK hD0 wLaw bMapTy (by unfold maxLen; omega) hkey hvE rfl rfl (by kernel_rfl) (by kernel_rfl) (by kernel_rfl) ?_
     intro w9 m9 g9
     go_simp
     (refine hK _ _ ?_; clear hK K; (try simp only [Act.put, lA, lB, lC]))
     have hx0 : m (Wire.ix (t, c)) = 0 := hm
     have K9 := Lib.hid (KnM.put (F := valW k regs ins) hown hsn HH1.out HH2.out hx hx0 (by have e := HRV.out; rw [e]; exact m9))
     have G9 : w.grownBy w9 (some mb) := Gr.trans (Gr.trans (Gr.ext A1 _) (Gr.ext (Ext.drew _) _)) g9
     clear hS0 hD0 hown m9 g9 xx0 xx1 rr3
     go_wp2
     go_ret
     refine ⟨_, by rw [HRV.out]; rfl, K9.out, fun y hy h1 h2 => ?_, G9⟩
     by_cases e : y = (t, c)
     ·subst e; omega
     ·rw [upd_ne _ _ (fun e2 => e (Wire.ix_inj hy hx e2))] at h1
      have h3 := (fun y hy h1 h2 => absurd h2 h1 : ∀ y : Wire, y.Ok → m y.ix ≠ 0 → m y.ix = 0 → rk k y < n) y hy h1 h2
      omega
   ·obtain ⟨nb0, nb1⟩ := HNB.out h2 h5
    replace HRV : Hid (valW k regs ins (t, c) = valW k regs ins ((nbV t d).toNat, c)) := Lib.hid (by
     have := HRV.out
     rwa [if_neg (by omega), if_neg (by omega), if_neg (by omega)] at this)
    have N2 := NC.out h2 h5
    have T := Lib.hid (fun w => neighbours_c t ht w)
    obtain ⟨nb, hnb⟩ : ∃ nb : Nat, nbV t d = nb := ⟨(nbV t d).toNat, by omega⟩
    rw [hnb] at HRV N2
    rw [Int.toNat_natCast] at HRV N2
    have N3 := Lib.hid N2
    obtain ⟨v, hv⟩ : ∃ v, v = valW k regs ins (nb, c) := ⟨_, rfl⟩
    rw [← hv] at HRV
    have i40 := idx4_0
    have i41 := idx4_1
    have i42 := idx4_2
    have i43 := idx4_3
    have hd : d = 2 ∨ d = 3 ∨ d = 4 ∨ d = 5 := by omega
    clear NC TC HNB N2 nb0 nb1 p2 r0 r1 r2
    have HV := Lib.hid hv
    clear hv
    rcases hd with rfl | rfl | rfl | rfl
    all_goals
     rw [hnb] at T
     clear hnb h2 h5
     go_wp2_with fail
     refine wp_regionT (fun w' => w'.cell? ⟨w.heap.size, 0, none⟩ = some (.int .i64 t) ∧ w'.cell? ⟨w.heap.size, 1, none⟩ = some (.int .i64 c)) 10 (by kernel_rfl) ?_
     have hS0 := And.intro (a := (World.drew W4).cell? ⟨w.heap.size, 0, none⟩ = some (.int .i64 t)) x0 (show (World.drew W4).cell? ⟨w.heap.size, 1, none⟩ = some (.int .i64 c) from x1)
     ((refine tkT 0 (v := ?_) rfl (by kernel_rfl) (by kernel_rfl) ?_ (by assumption) ?_; rotate_left; (intro wS hSw; (try dsimp only at hSw); go_simp; (try with_reducible rfl)); (try simp only [Act.put, lA, lB, lC])); (refine tkT 1 (v := ?_) rfl (by kernel_rfl) (by kernel_rfl) ?_ (by assumption) ?_; rotate_left; (intro wS hSw; (try dsimp only at hSw); go_simp; (try with_reducible rfl)); (try simp only [Act.put, lA, lB, lC])); (refine tkT 2 (v := ?_) rfl (by kernel_rfl) (by kernel_rfl) ?_ (by assumption) ?_; rotate_left; (intro wS hSw; (try dsimp only at hSw); go_simp; (try with_reducible rfl)); (try simp only [Act.put, lA, lB, lC])); (refine tkT 4 (v := ?_) rfl (by kernel_rfl) (by kernel_rfl) ?_ (by assumption) ?_; rotate_left; (intro wS hSw; (try dsimp only at hSw); go_simp; (try with_reducible rfl)); (try simp only [Act.put, lA, lB, lC])); (refine tkT 5 (v := ?_) rfl (by kernel_rfl) (by kernel_rfl) ?_ (by assumption) ?_; rotate_left; (intro wS hSw; (try dsimp only at hSw); go_simp; (try with_reducible rfl)); (try simp only [Act.put, lA, lB, lC])); (refine tkT 7 (v := ?_) rfl (by kernel_rfl) (by kernel_rfl) ?_ (by assumption) ?_; rotate_left; (intro wS hSw; (try dsimp only at hSw); go_simp; (try with_reducible rfl)); (try simp only [Act.put, lA, lB, lC])); (refine tkT 8 (v := ?_) rfl (by kernel_rfl) (by kernel_rfl) ?_ (by assumption) ?_; rotate_left; (intro wS hSw; (try dsimp only at hSw); go_simp; (try with_reducible rfl)); (try simp only [Act.put, lA, lB, lC])))
     (refine wpAnyT_do 3 (by kernel_rfl) rfl (fun K hK => ?_))
     go_simp
     refine (T.out _).mono ?_
     rintro e W5 ⟨rfl, hE5⟩
     have hd5 := (Ext.drew W4).trans hE5
     have yx5 := yx.ext hd5
     have hS1 := And.intro (yx5.cell (i := 0) rfl) (yx5.cell (i := 1) rfl)
     (refine hK _ _ hS1 ?_; clear hK K; (try simp only [Act.put, lA, lB, lC]))
     ((refine tkT 6 (v := ?_) rfl (by kernel_rfl) (by kernel_rfl) ?_ (by assumption) ?_; rotate_left; (intro wS hSw; (try dsimp only at hSw); go_simp; (try with_reducible rfl)); (try simp only [Act.put, lA, lB, lC])); (refine tkT 9 (v := ?_) rfl (by kernel_rfl) (by kernel_rfl) ?_ (by assumption) ?_; rotate_left; (intro wS hSw; (try dsimp only at hSw); go_simp; (try with_reducible rfl)); (try simp only [Act.put, lA, lB, lC])))
     (refine wpAnyT_doN 10 (by kernel_rfl) rfl (by decide) (fun K hK => ?_))
     go_simp
     refine (N3.out m W5 (hR1.ext hd5) (hK1.ext hd5)).mono ?_
     rintro e W6 ⟨m6, rfl, hK6, hN6, hG6⟩
     rw [← HV.out]
     (refine hK _ _ ?_; clear hK K; (try simp only [Act.put, lA, lB, lC]))
     (refine wpAnyT_last 11 (by kernel_rfl) rfl (by decide) (by kernel_rfl) (fun K hK => ?_))
     go_simp
     (refine hK _ _ ?_; clear hK K; (try simp only [Act.put, lA, lB, lC]))
     have hR6 := (hR1.ext hd5).gr hG6
     have yx6 := yx5.gr hG6 (someNe (by omega))
     have GG6 := Gr.trans (Gr.ext (A1.trans hd5) _) hG6
     clear hS0 hS1 x0 x1
     obtain ⟨sn, D, hown, hsn, hhas, hat⟩ := hK6
     have hvE : bElem (.bool v) = some (.lit (.bool v), []) := bElem_of v
     have xx0 := yx6.cell (i := 0) rfl
     have xx1 := yx6.cell (i := 1) rfl
     have xxl := yx6.lt
     have rr3 := hR6.r.cell (i := 3) rfl
     have rrl := hR6.r.lt
     have HH1 := Lib.hid hhas
     have HH2 := Lib.hid hat
     clear hhas hat
     go_wp2_with fail
     refine wp_regionT (fun w' => w'.cell? ⟨rn, 3, none⟩ = some (.map (some mb)) ∧ w'.cell? ⟨w.heap.size, 0, none⟩ = some (.int .i64 t) ∧ w'.cell? ⟨w.heap.size, 1, none⟩ = some (.int .i64 c)) 6 (by kernel_rfl) ?_
     have hS0 := And.intro (a := (World.drew W6).cell? ⟨rn, 3, none⟩ = some (.map (some mb))) rr3 (And.intro (a := (World.drew W6).cell? ⟨w.heap.size, 0, none⟩ = some (.int .i64 t)) xx0 (show (World.drew W6).cell? ⟨w.heap.size, 1, none⟩ = some (.int .i64 c) from xx1))
     ((refine tkT 0 (v := ?_) rfl (by kernel_rfl) (by kernel_rfl) ?_ (by assumption) ?_; rotate_left; (intro wS hSw; (try dsimp only at hSw); go_simp; (try with_reducible rfl)); (try simp only [Act.put, lA, lB, lC])); (refine tkT 1 (v := ?_) rfl (by kernel_rfl) (by kernel_rfl) ?_ (by assumption) ?_; rotate_left; (intro wS hSw; (try dsimp only at hSw); go_simp; (try with_reducible rfl)); (try simp only [Act.put, lA, lB, lC])); (refine tkT 2 (v := ?_) rfl (by kernel_rfl) (by kernel_rfl) ?_ (by assumption) ?_; rotate_left; (intro wS hSw; (try dsimp only at hSw); go_simp; (try with_reducible rfl)); (try simp only [Act.put, lA, lB, lC])); (refine tkT 3 (v := ?_) rfl (by kernel_rfl) (by kernel_rfl) ?_ (by assumption) ?_; rotate_left; (intro wS hSw; (try dsimp only at hSw); go_simp; (try with_reducible rfl)); (try simp only [Act.put, lA, lB, lC])); (refine tkT 4 (v := ?_) rfl (by kernel_rfl) (by kernel_rfl) ?_ (by assumption) ?_; rotate_left; (intro wS hSw; (try dsimp only at hSw); go_simp; (try with_reducible rfl)); (try simp only [Act.put, lA, lB, lC])); (refine tkT 5 (v := ?_) rfl (by kernel_rfl) (by kernel_rfl) ?_ (by assumption) ?_; rotate_left; (intro wS hSw; (try dsimp only at hSw); go_simp; (try with_reducible rfl)); (try simp only [Act.put, lA, lB, lC])))
     have hD0 : (World.drew W6).ownsMap Try.prog 146 bElem mb sn D := hown
     (refine wpAnyT_lastB 6 (by kernel_rfl) rfl (by decide) (by kernel_rfl) (fun K hK => ?_))
     refine step_updK hD0 wLaw bMapTy (by unfold maxLen; omega) hkey hvE rfl rfl (by kernel_rfl) (by kernel_rfl) (by kernel_rfl) ?_
     intro w9 m9 g9
     go_simp
     (refine hK _ _ ?_; clear hK K; (try simp only [Act.put, lA, lB, lC]))
     have hx0 : m6 (Wire.ix (t, c)) = 0 := Classical.byContradiction (fun h => hlow (hN6 _ hx h hm))
     have K9 := Lib.hid (KnM.put (F := valW k regs ins) hown hsn HH1.out HH2.out hx hx0 (by have e := HRV.out; rw [e]; exact m9))
     have G9 : w.grownBy w9 (some mb) := Gr.trans (Gr.trans GG6 (Gr.ext (Ext.drew _) _)) g9
     clear hS0 hD0 hown m9 g9 xx0 xx1 rr3
     go_wp2
     go_ret
     refine ⟨_, by rw [HRV.out]; rfl, K9.out, fun y hy h1 h2 => ?_, G9⟩
     by_cases e : y = (t, c)
     ·subst e; omega
     ·rw [upd_ne _ _ (fun e2 => e (Wire.ix_inj hy hx e2))] at h1
      have h3 := hN6 y hy h1 h2
      omega
  ·have hd : decide (m (Wire.ix (t, c)) ≠ 0) = true := by simpa using hm
   rw [hd] at hlk hlk1
   have hv := HCV.out hm
   have HV := Lib.hid hv
   clear hd hm hv
   go_quiet (fail)
   go_wp2
   go_ret
   exact by rw [HV.out]; exact ⟨m, rfl, hK1.ext (by (repeat (first | with_reducible assumption | with_reducible exact Ext.refl _ | with_reducible refine Ext.drew' ?_ | with_reducible refine Ext.drewN' ?_ _ | with_reducible refine Ext.alloc ?_ _ | (with_reducible refine Ext.setNew ?_ (by first | exact Nat.le_refl _ | (simp; done) | (simp; omega) | omega) _)))), fun y hy h1 h2 => absurd h2 h1, Gr.ext (A1.trans (by (repeat (first | with_reducible assumption | with_reducible exact Ext.refl _ | with_reducible refine Ext.drew' ?_ | with_reducible refine Ext.drewN' ?_ _ | with_reducible refine Ext.alloc ?_ _ | (with_reducible refine Ext.setNew ?_ (by first | exact Nat.le_refl _ | (simp; done) | (simp; omega) | omega) _))))) _⟩
end Go.Proofs.Ytgialedmbmfejaa

namespace Go.Proofs.Ytgialedmbmfejaa
open Go.RowKit Go.Maps
set_option maxRecDepth 100000
set_option linter.unusedVariables false
set_option linter.unusedSimpArgs false
theorem padTile_c (o : Nat) (ho : o < 100) (w : World) : Calls Try.prog 106 #[.int .i64 o] w fun e w' => e = .returned (.int .i64 ((o * 5 + 4 : Nat) : Int)) ∧ w = w' := by
 have h : ((o * 5 + 4 : Nat) : Int) = (o : Int) * 5 + 5 - 1 := by omega
 rw [h]
 go_enter Try.func106, Try.ntmps106
 go_wp2
 go_ret
 exact ⟨rfl, rfl⟩
/-- What the program's cycle keeps: the outputs' slice in a box, and boxes beside it. -/
structure StI (w : World) (base rb mb : Nat) (bx : Nat → TypeId → List Value → Prop) (F : Wire → Bool) (ov rv : Value) (xs : List Bool) (m : Marks) (wr : World) : Prop where
 own : OwnB wr base ov xs
 q : Blk wr rb 71 [ov, rv]
 ext : Ext w wr
 oth : ∀ B t cs, bx B t cs → Blk wr B t cs ∧ B < base ∧ B ≠ rb ∧ B ≠ mb
 kn : KnM wr mb F m
 hb : rb < base
 hw : w.heap.size ≤ rb
 hs : base ≤ wr.heap.size
 hm : mb < base
 hmr : mb ≠ rb
 hmw : w.heap.size ≤ mb
theorem KnM.setOther {w : World} {mb : Nat} {F : Wire → Bool} {m : Marks} (h : KnM w mb F m) {p : Addr} (hp : mb ≠ p.block) (v : Value) : KnM (w.setCell p v) mb F m :=
 h.kept (r := some p.block) ⟨rfl, rfl, rfl, by simp, fun k _ hk => heap_setCell_other w p k v (fun e => hk (by rw [e]))⟩ (someNe hp)
section
variable {w wr w1 w8 : World} {base rb mb : Nat} {bx bx' : Nat → TypeId → List Value → Prop} {F : Wire → Bool} {ov rv v' : Value} {xs : List Bool} {m m' : Marks}
theorem StI.box (h : StI w base rb mb bx F ov rv xs m wr) {B : Nat} {t : TypeId} {cs : List Value} (hb : bx B t cs) : Blk wr B t cs := (h.oth B t cs hb).1
theorem StI.ext' (h : StI w base rb mb bx F ov rv xs m wr) (e : Ext wr w1) : StI w base rb mb bx F ov rv xs m w1 :=
 { h with own := h.own.ext e, q := h.q.ext e, ext := h.ext.trans e, oth := fun B t cs hb => ⟨(h.oth B t cs hb).1.ext e, (h.oth B t cs hb).2⟩, kn := h.kn.ext e, hs := Nat.le_trans h.hs e.size }
theorem StI.call (h : StI w base rb mb bx F ov rv xs m wr) (g : wr.grownBy w1 (some mb)) (hk : KnM w1 mb F m') : StI w base rb mb bx F ov rv xs m' w1 :=
 { h with
  own := ownsRow_gr h.own g (by
   cases hq : ov.ownBlock with
   | none => exact .inl rfl
   | some q => exact .inr (fun e2 => by have h1 := (h.own.lt' q hq).1; have h2 := h.hm; have := Option.some.inj e2; omega))
  q := h.q.gr g (someNe h.hmr)
  ext := Gr.behind g h.ext h.hmw
  oth := fun B t cs hb => ⟨(h.oth B t cs hb).1.gr g (someNe (fun e => (h.oth B t cs hb).2.2.2 e.symm)), (h.oth B t cs hb).2⟩
  kn := hk
  hs := Nat.le_trans h.hs g.size }
theorem StI.app1 (h : StI w base rb mb bx F ov rv xs m wr) (e : Ext wr w1) {b : Bool} (o8 : w8.ownsRow base 4 1 v' (xs.length + 1) (xs.map Value.bool ++ [.bool b])) (g8 : w1.grownBy w8 ov.ownBlock) :
  StI w base rb mb bx F v' rv (xs ++ [b]) m (w8.setCell ⟨rb, 0, none⟩ v') := by
 have h1 := h.ext' e
 have hvl : v'.ownBlock ≠ some rb := fun q => by have := (World.ownsRow.lt o8 _ q).1; have := h.hb; omega
 have hol : ∀ q, ov.ownBlock = some q → base ≤ q := fun q hq => (h.own.lt' q hq).1
 refine { h with own := ?_, q := ?_, ext := ?_, oth := ?_, kn := ?_, hs := ?_ }
 ·exact OwnB.setOther (OwnB.app (ys := [b]) rfl rfl o8) hvl _
 ·exact (h1.q.gr g8 (fun q => by have := hol _ q; have := h.hb; omega)).set 0 v'
 ·exact Ext.setNew (ext_grown h1.ext g8 (fun k hk => by have := hol k hk; have := h.hb; have := h.hw; omega)) h.hw _
 ·intro B t cs hb
  obtain ⟨a1, a2, a3⟩ := h1.oth B t cs hb
  exact ⟨(a1.gr g8 (fun q => by have := hol _ q; omega)).setOther a3.1 _, a2, a3⟩
 ·exact (h1.kn.kept g8 (fun e2 => by have := hol mb e2.symm; have := h.hm; omega)).setOther h.hmr _
 ·have := g8.size; have := h1.hs; simp; omega
/-- A store into one of the boxes. -/
theorem StI.setB (h : StI w base rb mb bx F ov rv xs m wr) {B0 i : Nat} {v : Value} (h1 : B0 < base) (h2 : B0 ≠ rb) (h3 : B0 ≠ mb) (h4 : w.heap.size ≤ B0)
  (hbx : ∀ B t cs, bx' B t cs → (B ≠ B0 ∧ bx B t cs) ∨ (B = B0 ∧ ∃ cs0, bx B t cs0 ∧ cs = cs0.set i v)) : StI w base rb mb bx' F ov rv xs m (wr.setCell ⟨B0, i, none⟩ v) := by
 refine { h with own := ?_, q := ?_, ext := ?_, oth := ?_, kn := ?_, hs := ?_ }
 ·exact OwnB.setOther h.own (fun q => by have h9 : base ≤ B0 := (h.own.lt' _ q).1; omega) _
 ·exact h.q.setOther (fun e => h2 e.symm) _
 ·exact Ext.setNew h.ext h4 _
 ·intro B t cs hb
  rcases hbx B t cs hb with ⟨hne, ho⟩ | ⟨rfl, cs0, ho, rfl⟩
  ·obtain ⟨a1, a2⟩ := h.oth B t cs ho
   exact ⟨a1.setOther hne _, a2⟩
  ·obtain ⟨a1, a2⟩ := h.oth B t cs0 ho
   exact ⟨a1.set i v, a2⟩
 ·exact h.kn.setOther (fun e => h3 e.symm) _
 ·have := h.hs; simp; omega
end
def BxI (k : Conf) (ta pa ra ia : Option Addr) (tc pc rc ic n1 n2 rn kb mb ob rgb : Nat) (rs : List Bool) (B : Nat) (t : TypeId) (cs : List Value) : Prop :=
 (B = rn ∧ t = 150 ∧ cs = [.pointer (some ⟨kb, 0, none⟩), .slice ra n1 rc, .slice ia n2 ic, .map (some mb)]) ∨ (B = kb ∧ t = 52 ∧ cs = [.slice ta k.ts.length tc, .slice pa k.ps.length pc]) ∨ (B = ob ∧ t = 71 ∧ cs = [.slice none 0 0, .slice none 0 0]) ∨ (B = rgb ∧ t = 4 ∧ cs = rs.map Value.bool)
set_option maxHeartbeats 8000000 in
theorem stepFabric_c (k : Conf) (ta pa ra ia : Option Addr) (tc pc rc ic kb : Nat) (regs ins : List Bool) (hok : k.Ok) (hf : ∀ x : Wire, x.Ok → ∃ n, FinN k n x) (hr : 25 ≤ regs.length ∧ regs.length ≤ 25) (hil : ins.length ≤ 4) (w : World) (hF : FabAt w k ta pa ra regs ia ins) (y : Blk w kb 52 [.slice ta k.ts.length tc, .slice pa k.ps.length pc]) :
  Calls Try.prog 82 #[.pointer (some ⟨kb, 0, none⟩), .slice ra regs.length rc, .slice ia ins.length ic] w (GiveF w (outsV k regs ins 3) (nextV k regs ins 25)) := by
 have hmm := @run_makeMap Try.prog
 have hps := hF.k.ps
 have hts := hF.k.ts
 have kl := y.lt
 have HPS := Lib.hid hok.ps
 obtain ⟨lt1, lt2⟩ : k.ts.length ≤ 25 ∧ 25 ≤ k.ts.length := by have := hok.lt; omega
 obtain ⟨lp1, lp2⟩ : k.ps.length ≤ 3 ∧ 3 ≤ k.ps.length := by have := hok.lp; omega
 obtain ⟨O, HO⟩ : ∃ O : Nat → List Bool, Hid (O = outsV k regs ins) := ⟨_, Lib.hid rfl⟩
 obtain ⟨N, HN⟩ : ∃ N : Nat → List Bool, Hid (N = nextV k regs ins) := ⟨_, Lib.hid rfl⟩
 rw [← HO.out, ← HN.out]
 go_enter Try.func82, Try.ntmps82
 go_wp2_with fail
 have M0 := KnM.made (w.alloc (.cells #[.slice none 0 0, .slice none 0 0] 71)) (valW k regs ins)
 have e0 : (w.alloc (.cells #[.slice none 0 0, .slice none 0 0] 71)).heap.size = w.heap.size + 1 := by simp
 rw [e0] at M0
 have rn0 := Blk.at ((w.alloc (.cells #[.slice none 0 0, .slice none 0 0] 71)).alloc (.map #[] 0)) [.pointer (some ⟨kb, 0, none⟩), .slice ra regs.length rc, .slice ia ins.length ic, .map (some (w.heap.size + 1))] 150 (B := w.heap.size + 1 + 1) (by simp)
 have ob0 := ((Blk.at w [.slice none 0 0, .slice none 0 0] 71 rfl).alloc (.map #[] 0)).alloc (.cells #[.pointer (some ⟨kb, 0, none⟩), .slice ra regs.length rc, .slice ia ins.length ic, .map (some (w.heap.size + 1))] 150)
 have E0 : Ext w (((w.alloc (.cells #[.slice none 0 0, .slice none 0 0] 71)).alloc (.map #[] 0)).alloc (.cells #[.pointer (some ⟨kb, 0, none⟩), .slice ra regs.length rc, .slice ia ins.length ic, .map (some (w.heap.size + 1))] 150)) := by (repeat (first | with_reducible assumption | with_reducible exact Ext.refl _ | with_reducible refine Ext.drew' ?_ | with_reducible refine Ext.drewN' ?_ _ | with_reducible refine Ext.alloc ?_ _ | (with_reducible refine Ext.setNew ?_ (by first | exact Nat.le_refl _ | (simp; done) | (simp; omega) | omega) _)))
 have M1 := M0.ext ((Ext.refl _).alloc (.cells #[.pointer (some ⟨kb, 0, none⟩), .slice ra regs.length rc, .slice ia ins.length ic, .map (some (w.heap.size + 1))] 150))
 have z0 : (((w.alloc (.cells #[.slice none 0 0, .slice none 0 0] 71)).alloc (.map #[] 0)).alloc (.cells #[.pointer (some ⟨kb, 0, none⟩), .slice ra regs.length rc, .slice ia ins.length ic, .map (some (w.heap.size + 1))] 150)).heap.size = w.heap.size + 1 + 1 + 1 := by simp
 refine (implReset_c _).mono ?_
 rintro e w1 ⟨B, rfl, hB, hI, hE1⟩
 rw [z0] at hB
 have Bl := hI.lt
 have S0 : StI w (w1.heap.size + 1) w1.heap.size (w.heap.size + 1) (BxI k ta pa ra ia tc pc rc ic regs.length ins.length (w.heap.size + 1 + 1) kb (w.heap.size + 1) w.heap.size B (List.replicate 25 false)) (valW k regs ins) (.slice none 0 0) (.slice (some ⟨B, 0, none⟩) 25 25) [] mark0 (w1.alloc (.cells #[.slice none 0 0, .slice (some ⟨B, 0, none⟩) 25 25] 71)) := by
  have A := (Ext.refl w1).alloc (.cells #[.slice none 0 0, .slice (some ⟨B, 0, none⟩) 25 25] 71)
  have E1 := hE1.trans A
  refine ⟨OwnB.nil, Blk.at w1 [.slice none 0 0, .slice (some ⟨B, 0, none⟩) 25 25] 71 rfl, E0.trans E1, fun B' t cs hb => ?_, M1.ext E1, by omega, by have := (E0.trans hE1).size; omega, by simp, by omega, by omega, by omega⟩
  rcases hb with ⟨rfl, rfl, rfl⟩ | ⟨rfl, rfl, rfl⟩ | ⟨rfl, rfl, rfl⟩ | ⟨rfl, rfl, rfl⟩
  ·exact ⟨rn0.ext E1, by omega, by omega, by omega⟩
  ·exact ⟨y.ext (E0.trans E1), by omega, by omega, by omega⟩
  ·exact ⟨ob0.ext E1, by omega, by omega, by omega⟩
  ·exact ⟨hI.ext A, by omega, by omega, by omega⟩
 have HF0 := Lib.hid (hF.ext (Ext.refl w))
 have RA := Lib.hid (fun (ov : Value) (xs : List Bool) (m : Marks) (rs : List Bool) (wr : World) (h : StI w (w1.heap.size + 1) w1.heap.size (w.heap.size + 1) (BxI k ta pa ra ia tc pc rc ic regs.length ins.length (w.heap.size + 1 + 1) kb (w.heap.size + 1) w.heap.size B rs) (valW k regs ins) ov (.slice (some ⟨B, 0, none⟩) 25 25) xs m wr) => (⟨h.box (.inl ⟨rfl, rfl, rfl⟩), h.box (.inr (.inl ⟨rfl, rfl, rfl⟩)), h.ext, by omega, by omega, by omega⟩ : RunAt w (w.heap.size + 1 + 1) kb (w.heap.size + 1) [.slice ta k.ts.length tc, .slice pa k.ps.length pc] [.pointer (some ⟨kb, 0, none⟩), .slice ra regs.length rc, .slice ia ins.length ic, .map (some (w.heap.size + 1))] wr))
 have VC := Lib.hid (fun (n : Nat) (x : Wire) (hx : x.Ok) (hn : rk k x < n) => value_c k w (w.heap.size + 1 + 1) kb (w.heap.size + 1) ta pa ra ia tc pc rc ic regs ins hok hf hr hil hF n x hx hn)
 have zb : w.heap.size + 1 + 1 < w1.heap.size := by omega
 clear M0 M1 rn0 ob0 E0 z0 e0 hI hE1 hmm y
 go_upto_region 3 with fail
 have z1 : w1.heap.size < (w1.alloc (.cells #[.slice none 0 0, .slice (some ⟨B, 0, none⟩) 25 25] 71)).heap.size := by simp
 generalize w1.alloc (.cells #[.slice none 0 0, .slice (some ⟨B, 0, none⟩) 25 25] 71) = W2 at *
 have yk := S0.box (.inr (.inl ⟨rfl, rfl, rfl⟩))
 have y1 := yk.cell (i := 1) rfl
 have yl := yk.lt
 go_wp2_with fail
 go_loopw [25] (fun u25 wr => ∃ (j : Nat) (ov : Value) (m : Marks), j ≤ k.ps.length ∧ u25 = .int .i64 j ∧ StI w (w1.heap.size + 1) w1.heap.size (w.heap.size + 1) (BxI k ta pa ra ia tc pc rc ic regs.length ins.length (w.heap.size + 1 + 1) kb (w.heap.size + 1) w.heap.size B (List.replicate 25 false)) (valW k regs ins) ov (.slice (some ⟨B, 0, none⟩) 25 25) (O j) m wr) (fun i _ => k.ps.length - (intOf i).toNat)
 case atStart => exact ⟨0, .slice none 0 0, mark0, Nat.zero_le _, rfl, by rw [HO.out]; exact S0⟩
 case round =>
  clear S0 yk y1 yl z1
  obtain ⟨j, ov, m, hj, rfl, S0⟩ := hrel
  have hE := S0.ext
  by_cases hlt : j < k.ps.length
  ·obtain ⟨b, o, rfl, hb, hcc⟩ := (hps.ext hE).get (by omega)
   obtain ⟨g0, g1⟩ := hcc j hlt
   have htr := trackB_cases (HPS.out j (by omega))
   have hsucc := outsV_succ k regs ins j
   rw [← HO.out] at hsucc
   have hOl : (O j).length = j := by rw [HO.out]; exact outsV_len _ _ _ _
   obtain ⟨x, hx⟩ : ∃ x, x = k.ps.getD j (0, false) := ⟨_, rfl⟩
   rw [← hx] at g0 g1 htr hsucc
   obtain ⟨s, v⟩ := x
   dsimp only at g0 g1 htr hsucc
   have HOL := Lib.hid hOl
   have hrd := Lib.hid (fun (m : Marks) (wr : World) (hR : RunAt w (w.heap.size + 1 + 1) kb (w.heap.size + 1) _ _ wr) (hK : KnM wr (w.heap.size + 1) (valW k regs ins) m) => read_c k w (w.heap.size + 1 + 1) kb (w.heap.size + 1) _ _ (valW k regs ins) (rk k (j * 5 + 4, s.toNat) + 1) (j * 5 + 4) s (fun h15 => ⟨by omega, VC.out _ _ ⟨by dsimp only; omega, by dsimp only; omega⟩ (by omega)⟩) m wr hR hK)
   obtain ⟨z, hz⟩ : ∃ z, z = rdV (valW k regs ins) (j * 5 + 4) s := ⟨_, rfl⟩
   rw [← hz] at hrd hsucc
   have HSU := Lib.hid hsucc
   obtain ⟨w2, rfl⟩ : ∃ z : World, z = wr := ⟨_, rfl⟩
   have A2 : Ext w2 (w2.alloc (.cells #[.int .i64 s, .bool v] 75)) := (Ext.refl w2).alloc _
   have S2 := S0.ext' A2
   have p2 := Blk.at w2 [.int .i64 s, .bool v] 75 rfl
   have zp := S0.hs
   clear hcc hx hsucc hOl hz htr
   go_upto_region 6 with fail
   generalize w2.alloc (.cells #[.int .i64 s, .bool v] 75) = W3 at *
   have d0 := S2.q.cell (i := 0) rfl
   have ql := S2.q.lt
   have e0 := p2.cell (i := 0) rfl
   have e1 := p2.cell (i := 1) rfl
   have pl := p2.lt
   clear g0 g1 S0
   refine wp_regionT (fun w' => w'.cell? ⟨w1.heap.size, 0, none⟩ = some ov ∧ w'.cell? ⟨w2.heap.size, 0, none⟩ = some (.int .i64 s) ∧ w'.cell? ⟨w2.heap.size, 1, none⟩ = some (.bool v)) 12 (by kernel_rfl) ?_
   have hS0 := And.intro (a := (World.drew W3).cell? ⟨w1.heap.size, 0, none⟩ = some ov) d0 (And.intro (a := (World.drew W3).cell? ⟨w2.heap.size, 0, none⟩ = some (.int .i64 s)) e0 (show (World.drew W3).cell? ⟨w2.heap.size, 1, none⟩ = some (.bool v) from e1))
   ((refine tkT 0 (v := ?_) rfl (by kernel_rfl) (by kernel_rfl) ?_ (by assumption) ?_; rotate_left; (intro wS hSw; (try dsimp only at hSw); go_simp; (try with_reducible rfl)); (try simp only [Act.put, lA, lB, lC])); (refine tkT 1 (v := ?_) rfl (by kernel_rfl) (by kernel_rfl) ?_ (by assumption) ?_; rotate_left; (intro wS hSw; (try dsimp only at hSw); go_simp; (try with_reducible rfl)); (try simp only [Act.put, lA, lB, lC])); (refine tkT 2 (v := ?_) rfl (by kernel_rfl) (by kernel_rfl) ?_ (by assumption) ?_; rotate_left; (intro wS hSw; (try dsimp only at hSw); go_simp; (try with_reducible rfl)); (try simp only [Act.put, lA, lB, lC])); (refine tkT 3 (v := ?_) rfl (by kernel_rfl) (by kernel_rfl) ?_ (by assumption) ?_; rotate_left; (intro wS hSw; (try dsimp only at hSw); go_simp; (try with_reducible rfl)); (try simp only [Act.put, lA, lB, lC])); (refine tkT 5 (v := ?_) rfl (by kernel_rfl) (by kernel_rfl) ?_ (by assumption) ?_; rotate_left; (intro wS hSw; (try dsimp only at hSw); go_simp; (try with_reducible rfl)); (try simp only [Act.put, lA, lB, lC])); (refine tkT 6 (v := ?_) rfl (by kernel_rfl) (by kernel_rfl) ?_ (by assumption) ?_; rotate_left; (intro wS hSw; (try dsimp only at hSw); go_simp; (try with_reducible rfl)); (try simp only [Act.put, lA, lB, lC])); (refine tkT 8 (v := ?_) rfl (by kernel_rfl) (by kernel_rfl) ?_ (by assumption) ?_; rotate_left; (intro wS hSw; (try dsimp only at hSw); go_simp; (try with_reducible rfl)); (try simp only [Act.put, lA, lB, lC])); (refine tkT 9 (v := ?_) rfl (by kernel_rfl) (by kernel_rfl) ?_ (by assumption) ?_; rotate_left; (intro wS hSw; (try dsimp only at hSw); go_simp; (try with_reducible rfl)); (try simp only [Act.put, lA, lB, lC])))
   (refine wpAnyT_do 4 (by kernel_rfl) rfl (fun K hK => ?_))
   go_simp
   refine (padTile_c j (by omega) _).mono ?_
   rintro e w3 ⟨rfl, rfl⟩
   (refine hK _ _ hS0 ?_; clear hK K; (try simp only [Act.put, lA, lB, lC]))
   (refine wpAnyT_do 7 (by kernel_rfl) rfl (fun K hK => ?_))
   go_simp
   have S3 := S2.ext' (Ext.drew W3)
   refine (hrd.out m _ (RA.out _ _ _ _ _ S3) S3.kn).mono ?_
   rintro e w4 ⟨m4, rfl, K4, _, G4⟩
   have S4 := S3.call G4 K4
   have p4 := (p2.ext (Ext.drew W3)).gr G4 (someNe (by omega))
   have hS1 := And.intro (S4.q.cell (i := 0) rfl) (And.intro (p4.cell (i := 0) rfl) (p4.cell (i := 1) rfl))
   (refine hK _ _ hS1 ?_; clear hK K; (try simp only [Act.put, lA, lB, lC]))
   ((refine tkT 10 (v := ?_) rfl (by kernel_rfl) (by kernel_rfl) ?_ (by assumption) ?_; rotate_left; (intro wS hSw; (try dsimp only at hSw); go_simp; (try with_reducible rfl)); (try simp only [Act.put, lA, lB, lC])))
   (refine wpAnyT_do 11 (by kernel_rfl) rfl (fun K hK => ?_))
   go_simp
   have hst : O (j + 1) = O j ++ [(!z == v)] := by rw [HSU.out]; cases z <;> cases v <;> rfl
   have HST := Lib.hid hst
   have A := (Ext.refl w4).alloc (.cells #[.bool (!z == v)] 4)
   have SA := S4.ext' A
   have p5 := p4.ext A
   have hS2 := And.intro (SA.q.cell (i := 0) rfl) (And.intro (p5.cell (i := 0) rfl) (p5.cell (i := 1) rfl))
   (refine hK _ _ hS2 ?_; clear hK K; (try simp only [Act.put, lA, lB, lC]))
   (refine wpAnyT_doN 12 (by kernel_rfl) rfl (by decide) (fun K hK => ?_))
   refine step_app tyBools SA.own (rowAtN w4 #[.bool (!z == v)] _ (B := w4.heap.size) rfl) rfl (by simp [Value.oneCell']) (by have := HOL.out; omega) SA.hs rfl rfl rfl rfl ?_
   intro v9 w9 o9 g9 m9
   obtain ⟨va, vc, rfl, _⟩ := ownsRow_row o9
   have S9 := Lib.hid (S4.app1 A o9 g9)
   have q9 := SA.q.gr g9 (fun q => by have := (SA.own.lt' _ q).1; omega)
   have f9 := fun i => q9.frozen i
   have x9 := q9.cell (i := 0) rfl
   have l9 := q9.lt
   (refine hK _ _ ?_; clear hK K; (try simp only [Act.put, lA, lB, lC]))
   (refine wpAnyT_doN 13 (by kernel_rfl) rfl (by decide) (fun K hK => ?_))
   go_simp
   (refine hK _ _ ?_; clear hK K; (try simp only [Act.put, lA, lB, lC]))
   (refine wpAnyT_last 14 (by kernel_rfl) rfl (by decide) (by kernel_rfl) (fun K hK => ?_))
   go_simp
   (refine hK _ _ ?_; clear hK K; (try simp only [Act.put, lA, lB, lC]))
   clear hS0 hS1 hS2 o9 g9 m9 q9 f9 x9 l9 SA A p5 p4 S4 S3 S2 p2 d0 e0 e1 hst
   go_wp2
   go_roundw
   case rel => exact ⟨j + 1, _, m4, by omega, by go_num, by rw [HST.out]; exact S9.out⟩
   case measure => simp [intOf]; omega
  ·have hj3 : j = 3 := by omega
   have S0 : StI w (w1.heap.size + 1) w1.heap.size (w.heap.size + 1) (BxI k ta pa ra ia tc pc rc ic regs.length ins.length (w.heap.size + 1 + 1) kb (w.heap.size + 1) w.heap.size B (List.replicate 25 false)) (valW k regs ins) ov (.slice (some ⟨B, 0, none⟩) 25 25) (O 3) m wr := by rw [← hj3]; exact S0
   clear hj3
   have yk := S0.box (.inr (.inl ⟨rfl, rfl, rfl⟩))
   have y0 := yk.cell (i := 0) rfl
   have yl := yk.lt
   obtain ⟨w2, rfl⟩ : ∃ z : World, z = wr := ⟨_, rfl⟩
   go_wp2_with fail
   go_loopw [50] (fun u50 wr => ∃ (i : Nat) (m : Marks), i ≤ k.ts.length ∧ u50 = .int .i64 i ∧ StI w (w1.heap.size + 1) w1.heap.size (w.heap.size + 1) (BxI k ta pa ra ia tc pc rc ic regs.length ins.length (w.heap.size + 1 + 1) kb (w.heap.size + 1) w.heap.size B (N i ++ List.replicate (25 - i) false)) (valW k regs ins) ov (.slice (some ⟨B, 0, none⟩) 25 25) (O 3) m wr) (fun i _ => k.ts.length - (intOf i).toNat)
   case atStart => exact ⟨0, m, Nat.zero_le _, rfl, by rw [HN.out]; exact S0⟩
   case round =>
    clear S0 yk y0 yl hE
    obtain ⟨i, m, hi, rfl, S0⟩ := hrel
    have hE := S0.ext
    have yk := S0.box (.inr (.inl ⟨rfl, rfl, rfl⟩))
    have y0 := yk.cell (i := 0) rfl
    have yl := yk.lt
    have d1 := S0.q.cell (i := 1) rfl
    have ql := S0.q.lt
    have bg := S0.box (.inr (.inr (.inr ⟨rfl, rfl, rfl⟩)))
    by_cases hi25 : i < k.ts.length
    ·have hNl : (N i).length = i := by rw [HN.out]; exact nextV_len _ _ _ _
     have hput : ∀ (bb : Bool) (B2 : Nat) (t : TypeId) (cs : List Value), (BxI k ta pa ra ia tc pc rc ic regs.length ins.length (w.heap.size + 1 + 1) kb (w.heap.size + 1) w.heap.size B ((N i ++ [bb]) ++ List.replicate (25 - (i + 1)) false)) B2 t cs → (B2 ≠ B ∧ (BxI k ta pa ra ia tc pc rc ic regs.length ins.length (w.heap.size + 1 + 1) kb (w.heap.size + 1) w.heap.size B (N i ++ List.replicate (25 - i) false)) B2 t cs) ∨ (B2 = B ∧ ∃ cs0, (BxI k ta pa ra ia tc pc rc ic regs.length ins.length (w.heap.size + 1 + 1) kb (w.heap.size + 1) w.heap.size B (N i ++ List.replicate (25 - i) false)) B2 t cs0 ∧ cs = cs0.set i (.bool bb)) := by
      intro bb B2 t cs hb
      rcases hb with h | h | h | ⟨rfl, rfl, rfl⟩
      ·exact .inl ⟨by omega, .inl h⟩
      ·exact .inl ⟨by omega, .inr (.inl h)⟩
      ·exact .inl ⟨by omega, .inr (.inr (.inl h))⟩
      ·refine .inr ⟨rfl, _, .inr (.inr (.inr ⟨rfl, rfl, rfl⟩)), ?_⟩
       rw [← map_set, List.set_append_right _ _ (by omega), hNl, Nat.sub_self]
       obtain ⟨q, hq⟩ : ∃ q, 25 - i = q + 1 := ⟨24 - i, by omega⟩
       have hq2 : 25 - (i + 1) = q := by omega
       rw [hq, hq2, List.replicate_succ, List.set_cons_zero, List.append_assoc]; rfl
     have HPUT := Lib.hid hput
     obtain ⟨b, o, rfl, b_lt, hcc⟩ := hts.get (by omega)
     obtain ⟨_, _, _, _, _, _, p2, _⟩ := hcc i (by omega)
     have hb := Nat.lt_of_lt_of_le b_lt hE.size
     replace p2 := ((ecell hE).1 b _ b_lt).trans p2
     have hsucc := nextV_succ k regs ins i
     rw [← HN.out] at hsucc
     have e1 : (k.ts.getD i tile0).rg = (tileAt k i).rg := rfl
     rw [e1] at p2
     obtain ⟨w3, rfl⟩ : ∃ z : World, z = wr := ⟨_, rfl⟩
     have bget : (((N i ++ List.replicate (25 - i) false).map Value.bool)[i]?).isSome := by
      rw [List.getElem?_eq_getElem (by simp; omega)]; rfl
     obtain ⟨bv, hbv⟩ := Option.isSome_iff_exists.1 bget
     have bc := bg.cell hbv
     have bf := fun i => bg.frozen i
     have bl := bg.lt
     have hi25' : (i : Int) < 25 := by omega
     clear hcc e1 bget hput
     cases hrg : (tileAt k i).rg
     ·rw [hrg] at p2 hsucc
      have hst : N (i + 1) = N i ++ [false] := hsucc
      have HST := Lib.hid hst
      clear hst hsucc hrg yk
      go_wp2_with fail
      refine wp_regionT (fun w' => w'.cell? ⟨w1.heap.size, 1, none⟩ = some (.slice (some ⟨B, 0, none⟩) 25 25) ∧ w'.cell? ⟨kb, 0, none⟩ = some (.slice (some ⟨b, o, none⟩) k.ts.length tc) ∧ w'.cell? ⟨b, o + i * 4 + 2, none⟩ = some (.bool false)) 18 (by kernel_rfl) ?_
      have hS0 := And.intro (a := (World.drew w3).cell? ⟨w1.heap.size, 1, none⟩ = some (.slice (some ⟨B, 0, none⟩) 25 25)) d1 (And.intro (a := (World.drew w3).cell? ⟨kb, 0, none⟩ = some (.slice (some ⟨b, o, none⟩) k.ts.length tc)) y0 (show (World.drew w3).cell? ⟨b, o + i * 4 + 2, none⟩ = some (.bool false) from p2))
      ((refine tkT 0 (v := ?_) rfl (by kernel_rfl) (by kernel_rfl) ?_ (by assumption) ?_; rotate_left; (intro wS hSw; (try dsimp only at hSw); go_simp; (try with_reducible rfl)); (try simp only [Act.put, lA, lB, lC])); (refine tkT 1 (v := ?_) rfl (by kernel_rfl) (by kernel_rfl) ?_ (by assumption) ?_; rotate_left; (intro wS hSw; (try dsimp only at hSw); go_simp; (try with_reducible rfl)); (try simp only [Act.put, lA, lB, lC])); (refine tkT 2 (v := ?_) rfl (by kernel_rfl) (by kernel_rfl) ?_ (by assumption) ?_; rotate_left; (intro wS hSw; (try dsimp only at hSw); go_simp; (try with_reducible rfl)); (try simp only [Act.put, lA, lB, lC])); (refine tkT 3 (v := ?_) rfl (by kernel_rfl) (by kernel_rfl) ?_ (by assumption) ?_; rotate_left; (intro wS hSw; (try dsimp only at hSw); go_simp; (try with_reducible rfl)); (try simp only [Act.put, lA, lB, lC])); (refine tkT 4 (v := ?_) rfl (by kernel_rfl) (by kernel_rfl) ?_ (by assumption) ?_; rotate_left; (intro wS hSw; (try dsimp only at hSw); go_simp; (try with_reducible rfl)); (try simp only [Act.put, lA, lB, lC])); (refine tkT 5 (v := ?_) rfl (by kernel_rfl) (by kernel_rfl) ?_ (by assumption) ?_; rotate_left; (intro wS hSw; (try dsimp only at hSw); go_simp; (try with_reducible rfl)); (try simp only [Act.put, lA, lB, lC])); (refine tkT 6 (v := ?_) rfl (by kernel_rfl) (by kernel_rfl) ?_ (by assumption) ?_; rotate_left; (intro wS hSw; (try dsimp only at hSw); go_simp; (try with_reducible rfl)); (try simp only [Act.put, lA, lB, lC])); (refine tkT 7 (v := ?_) rfl (by kernel_rfl) (by kernel_rfl) ?_ (by assumption) ?_; rotate_left; (intro wS hSw; (try dsimp only at hSw); go_simp; (try with_reducible rfl)); (try simp only [Act.put, lA, lB, lC])); (refine tkT 8 (v := ?_) rfl (by kernel_rfl) (by kernel_rfl) ?_ (by assumption) ?_; rotate_left; (intro wS hSw; (try dsimp only at hSw); go_simp; (try with_reducible rfl)); (try simp only [Act.put, lA, lB, lC])); (refine tkT 9 (v := ?_) rfl (by kernel_rfl) (by kernel_rfl) ?_ (by assumption) ?_; rotate_left; (intro wS hSw; (try dsimp only at hSw); go_simp; (try with_reducible rfl)); (try simp only [Act.put, lA, lB, lC])); (refine tkT 10 (v := ?_) rfl (by kernel_rfl) (by kernel_rfl) ?_ (by assumption) ?_; rotate_left; (intro wS hSw; (try dsimp only at hSw); go_simp; (try with_reducible rfl)); (try simp only [Act.put, lA, lB, lC])); (refine tkT 11 (v := ?_) rfl (by kernel_rfl) (by kernel_rfl) ?_ (by assumption) ?_; rotate_left; (intro wS hSw; (try dsimp only at hSw); go_simp; (try with_reducible rfl)); (try simp only [Act.put, lA, lB, lC])); (refine tkT 12 (v := ?_) rfl (by kernel_rfl) (by kernel_rfl) ?_ (by assumption) ?_; rotate_left; (intro wS hSw; (try dsimp only at hSw); go_simp; (try with_reducible rfl)); (try simp only [Act.put, lA, lB, lC])))
      ((refine wpAnyT_take 13 (v := undef) rfl (by kernel_rfl) (fun _ _ _ h => h) (Or.inr ⟨by kernel_rfl, rfl⟩) (by assumption) ?_; (try simp only [Act.put, lA, lB, lC])); (refine wpAnyT_take 14 (v := undef) rfl (by kernel_rfl) (fun _ _ _ h => h) (Or.inr ⟨by kernel_rfl, rfl⟩) (by assumption) ?_; (try simp only [Act.put, lA, lB, lC])); (refine wpAnyT_take 15 (v := undef) rfl (by kernel_rfl) (fun _ _ _ h => h) (Or.inr ⟨by kernel_rfl, rfl⟩) (by assumption) ?_; (try simp only [Act.put, lA, lB, lC])))
      ((refine tkT 16 (v := ?_) rfl (by kernel_rfl) (by kernel_rfl) ?_ (by assumption) ?_; rotate_left; (intro wS hSw; (try dsimp only at hSw); go_simp; (try with_reducible rfl)); (try simp only [Act.put, lA, lB, lC])); (refine tkT 17 (v := ?_) rfl (by kernel_rfl) (by kernel_rfl) ?_ (by assumption) ?_; rotate_left; (intro wS hSw; (try dsimp only at hSw); go_simp; (try with_reducible rfl)); (try simp only [Act.put, lA, lB, lC])))
      (refine wpAnyT_last 18 (by kernel_rfl) rfl (by decide) (by kernel_rfl) (fun K hK => ?_))
      go_simp
      (refine hK _ _ ?_; clear hK K; (try simp only [Act.put, lA, lB, lC]))
      have S9 := Lib.hid ((S0.ext' (Ext.drew w3)).setB (bx' := (BxI k (some ⟨b, o, none⟩) pa ra ia tc pc rc ic regs.length ins.length (w.heap.size + 1 + 1) kb (w.heap.size + 1) w.heap.size B ((N i ++ [false]) ++ List.replicate (25 - (i + 1)) false))) (B0 := B) (i := i) (v := .bool false) (by omega) (by omega) (by omega) (by omega) (HPUT.out false))
      clear hS0 S0 d1 y0 p2 bc bf bl bg
      go_wp2
      go_roundw
      case rel => exact ⟨i + 1, m, by omega, by go_num, by rw [HST.out]; exact S9.out⟩
      case measure => simp [intOf]; omega
     ·rw [hrg, Bool.true_and] at hsucc
      rw [hrg] at p2
      obtain ⟨nn, hnn⟩ : ∃ nn, ∀ y ∈ selW i (tileAt k i).sl, rk k y < nn := by
       obtain ⟨nn, h⟩ := finAll (selW i (tileAt k i).sl) (fun y hy => hf y (selW_ok (by omega) _ (hok.sel (by omega)) y hy))
       exact ⟨nn + 1, fun y hy => by have := rk_le (h y hy); omega⟩
      have S1 := S0.ext' (Ext.drew w3)
      have hc := table_c k w (w.heap.size + 1 + 1) kb (w.heap.size + 1) (some ⟨b, o, none⟩) pa tc pc (.slice ra regs.length rc) (.slice ia ins.length ic) (valW k regs ins) hok hF.k nn i (by omega) (fun y hy => VC.out nn y (selW_ok (by omega) _ (hok.sel (by omega)) y hy) (hnn y hy)) m w3.drew (RA.out _ _ _ _ _ S1) S1.kn
      obtain ⟨z, hz⟩ : ∃ z, z = tabV k (valW k regs ins) i := ⟨_, rfl⟩
      rw [← hz] at hc hsucc
      have HST := Lib.hid hsucc
      have HC := Lib.hid hc
      clear hsucc hrg hc hz hnn yk
      go_wp2_with fail
      refine wp_regionT (fun w' => w'.cell? ⟨w1.heap.size, 1, none⟩ = some (.slice (some ⟨B, 0, none⟩) 25 25) ∧ w'.cell? ⟨kb, 0, none⟩ = some (.slice (some ⟨b, o, none⟩) k.ts.length tc) ∧ w'.cell? ⟨b, o + i * 4 + 2, none⟩ = some (.bool true)) 18 (by kernel_rfl) ?_
      have hS0 := And.intro (a := (World.drew w3).cell? ⟨w1.heap.size, 1, none⟩ = some (.slice (some ⟨B, 0, none⟩) 25 25)) d1 (And.intro (a := (World.drew w3).cell? ⟨kb, 0, none⟩ = some (.slice (some ⟨b, o, none⟩) k.ts.length tc)) y0 (show (World.drew w3).cell? ⟨b, o + i * 4 + 2, none⟩ = some (.bool true) from p2))
      ((refine tkT 0 (v := ?_) rfl (by kernel_rfl) (by kernel_rfl) ?_ (by assumption) ?_; rotate_left; (intro wS hSw; (try dsimp only at hSw); go_simp; (try with_reducible rfl)); (try simp only [Act.put, lA, lB, lC])); (refine tkT 1 (v := ?_) rfl (by kernel_rfl) (by kernel_rfl) ?_ (by assumption) ?_; rotate_left; (intro wS hSw; (try dsimp only at hSw); go_simp; (try with_reducible rfl)); (try simp only [Act.put, lA, lB, lC])); (refine tkT 2 (v := ?_) rfl (by kernel_rfl) (by kernel_rfl) ?_ (by assumption) ?_; rotate_left; (intro wS hSw; (try dsimp only at hSw); go_simp; (try with_reducible rfl)); (try simp only [Act.put, lA, lB, lC])); (refine tkT 3 (v := ?_) rfl (by kernel_rfl) (by kernel_rfl) ?_ (by assumption) ?_; rotate_left; (intro wS hSw; (try dsimp only at hSw); go_simp; (try with_reducible rfl)); (try simp only [Act.put, lA, lB, lC])); (refine tkT 4 (v := ?_) rfl (by kernel_rfl) (by kernel_rfl) ?_ (by assumption) ?_; rotate_left; (intro wS hSw; (try dsimp only at hSw); go_simp; (try with_reducible rfl)); (try simp only [Act.put, lA, lB, lC])); (refine tkT 5 (v := ?_) rfl (by kernel_rfl) (by kernel_rfl) ?_ (by assumption) ?_; rotate_left; (intro wS hSw; (try dsimp only at hSw); go_simp; (try with_reducible rfl)); (try simp only [Act.put, lA, lB, lC])); (refine tkT 6 (v := ?_) rfl (by kernel_rfl) (by kernel_rfl) ?_ (by assumption) ?_; rotate_left; (intro wS hSw; (try dsimp only at hSw); go_simp; (try with_reducible rfl)); (try simp only [Act.put, lA, lB, lC])); (refine tkT 7 (v := ?_) rfl (by kernel_rfl) (by kernel_rfl) ?_ (by assumption) ?_; rotate_left; (intro wS hSw; (try dsimp only at hSw); go_simp; (try with_reducible rfl)); (try simp only [Act.put, lA, lB, lC])); (refine tkT 8 (v := ?_) rfl (by kernel_rfl) (by kernel_rfl) ?_ (by assumption) ?_; rotate_left; (intro wS hSw; (try dsimp only at hSw); go_simp; (try with_reducible rfl)); (try simp only [Act.put, lA, lB, lC])); (refine tkT 9 (v := ?_) rfl (by kernel_rfl) (by kernel_rfl) ?_ (by assumption) ?_; rotate_left; (intro wS hSw; (try dsimp only at hSw); go_simp; (try with_reducible rfl)); (try simp only [Act.put, lA, lB, lC])); (refine tkT 10 (v := ?_) rfl (by kernel_rfl) (by kernel_rfl) ?_ (by assumption) ?_; rotate_left; (intro wS hSw; (try dsimp only at hSw); go_simp; (try with_reducible rfl)); (try simp only [Act.put, lA, lB, lC])); (refine tkT 11 (v := ?_) rfl (by kernel_rfl) (by kernel_rfl) ?_ (by assumption) ?_; rotate_left; (intro wS hSw; (try dsimp only at hSw); go_simp; (try with_reducible rfl)); (try simp only [Act.put, lA, lB, lC])); (refine tkT 12 (v := ?_) rfl (by kernel_rfl) (by kernel_rfl) ?_ (by assumption) ?_; rotate_left; (intro wS hSw; (try dsimp only at hSw); go_simp; (try with_reducible rfl)); (try simp only [Act.put, lA, lB, lC])); (refine tkT 13 (v := ?_) rfl (by kernel_rfl) (by kernel_rfl) ?_ (by assumption) ?_; rotate_left; (intro wS hSw; (try dsimp only at hSw); go_simp; (try with_reducible rfl)); (try simp only [Act.put, lA, lB, lC])); (refine tkT 14 (v := ?_) rfl (by kernel_rfl) (by kernel_rfl) ?_ (by assumption) ?_; rotate_left; (intro wS hSw; (try dsimp only at hSw); go_simp; (try with_reducible rfl)); (try simp only [Act.put, lA, lB, lC])))
      (refine wpAnyT_do 15 (by kernel_rfl) rfl (fun K hK => ?_))
      go_simp
      refine HC.out.mono ?_
      rintro e w4 ⟨m4, rfl, K4, _, G4⟩
      have S4 := S1.call G4 K4
      have hE4 := S4.ext
      have hS1 := And.intro (S4.q.cell (i := 1) rfl) (And.intro ((S4.box (.inr (.inl ⟨rfl, rfl, rfl⟩))).cell (i := 0) rfl) ((World.cell?_of_block (a := ⟨b, o + i * 4 + 2, none⟩) (G4.block b hb (someNe (fun e => by have := b_lt; omega)))).trans hS0.2.2))
      (refine hK _ _ hS1 ?_; clear hK K; (try simp only [Act.put, lA, lB, lC]))
      have bg4 := S4.box (.inr (.inr (.inr ⟨rfl, rfl, rfl⟩)))
      have bc4 := bg4.cell hbv
      have bf4 := fun i => bg4.frozen i
      have bl4 := bg4.lt
      ((refine tkT 16 (v := ?_) rfl (by kernel_rfl) (by kernel_rfl) ?_ (by assumption) ?_; rotate_left; (intro wS hSw; (try dsimp only at hSw); go_simp; (try with_reducible rfl)); (try simp only [Act.put, lA, lB, lC])); (refine tkT 17 (v := ?_) rfl (by kernel_rfl) (by kernel_rfl) ?_ (by assumption) ?_; rotate_left; (intro wS hSw; (try dsimp only at hSw); go_simp; (try with_reducible rfl)); (try simp only [Act.put, lA, lB, lC])))
      (refine wpAnyT_last 18 (by kernel_rfl) rfl (by decide) (by kernel_rfl) (fun K hK => ?_))
      go_simp
      (refine hK _ _ ?_; clear hK K; (try simp only [Act.put, lA, lB, lC]))
      have S9 := Lib.hid (S4.setB (bx' := (BxI k (some ⟨b, o, none⟩) pa ra ia tc pc rc ic regs.length ins.length (w.heap.size + 1 + 1) kb (w.heap.size + 1) w.heap.size B ((N i ++ [z]) ++ List.replicate (25 - (i + 1)) false))) (B0 := B) (i := i) (v := .bool z) (by omega) (by omega) (by omega) (by omega) (HPUT.out z))
      clear hS0 hS1 S0 d1 y0 p2 bc bf bl bg bc4 bf4 bl4 bg4 S4 S1
      go_wp2
      go_roundw
      case rel => exact ⟨i + 1, m4, by omega, by go_num, by rw [HST.out]; exact S9.out⟩
      case measure => simp [intOf]; omega
    ·have hi2 : i = 25 := by omega
     rw [hi2] at S0
     have r0 := S0.box (.inr (.inr (.inl ⟨rfl, rfl, rfl⟩)))
     obtain ⟨oa, oc, rfl, _⟩ := S0.own.len
     have d0 := S0.q.cell (i := 0) rfl
     have fz := fun i => r0.frozen i
     have rl := r0.lt
     have u0 := r0.cell (i := 0) rfl
     have u1 := r0.cell (i := 1) rfl
     have hN25 : (N 25).length = 25 := by rw [HN.out]; exact nextV_len _ _ _ _
     have HN25 := Lib.hid hN25
     have HS := Lib.hid S0
     clear hi2 S0 hN25 yk
     go_wp2
     have rf := (r0.set 0 (.slice oa (O 3).length oc)).set 1 (.slice (some ⟨B, 0, none⟩) 25 25)
     have v0 := rf.cell (i := 0) rfl
     have v1 := rf.cell (i := 1) rfl
     refine bodyPost_ret (v := .agg #[.slice oa (O 3).length oc, .slice (some ⟨B, 0, none⟩) 25 25]) (by simp [results, Try.results82, go_sem, v0, v1]) rfl ?_
     have e1 : ∀ q, (Value.slice oa (O 3).length oc).ownBlock = some q → q ≠ w.heap.size ∧ q ≠ B := fun q hq => by have := (HS.out.own.lt' q hq).1; omega
     have bg := HS.out.box (.inr (.inr (.inr ⟨rfl, rfl, rfl⟩)))
     rw [Nat.sub_self, List.replicate_zero, List.append_nil] at bg
     have hBw : w.heap.size ≤ B := by omega
     have ho : OwnB wr w.heap.size (.slice (some ⟨B, 0, none⟩) 25 25) (N 25) := by
      unfold OwnB
      rw [HN25.out]
      exact bg.owns (n := 25) (size := 1) (by simp [HN25.out]) hBw (by decide)
     refine ⟨_, _, rfl, ?_, ?_, fun q hq e => ?_, ?_⟩
     ·exact (OwnB.setOther (OwnB.setOther HS.out.own (fun q => (e1 _ q).1 rfl) _) (fun q => (e1 _ q).1 rfl) _).le (by have := HS.out.hw; omega)
     ·exact OwnB.setOther (OwnB.setOther ho (fun q => by have : B = w.heap.size := Option.some.inj q; omega) _) (fun q => by have : B = w.heap.size := Option.some.inj q; omega) _
     ·exact (e1 q hq).2 (Option.some.inj e).symm
     ·exact Ext.setNew (Ext.setNew hE (Nat.le_refl _) _) (Nat.le_refl _) _
end Go.Proofs.Ytgialedmbmfejaa

namespace Go.Proofs.Ytgialedmbmfejaa
open Go.RowKit
set_option maxRecDepth 100000
set_option linter.unusedVariables false
set_option linter.unusedSimpArgs false
def BxS (w : World) (k : Conf) (ta pa ra : Option Addr) (tc pc rc n : Nat) (B : Nat) (t : TypeId) (cs : List Value) : Prop := (B = w.heap.size ∧ t = 52 ∧ cs = [.slice ta k.ts.length tc, .slice pa k.ps.length pc]) ∨ (B = w.heap.size + 1 ∧ t = 67 ∧ cs = [.slice ra n rc]) ∨ (B = w.heap.size + 1 + 1 ∧ t = 71 ∧ cs = [.slice none 0 0, .slice none 0 0])
set_option maxHeartbeats 4000000 in
theorem l10Step_c (k : Conf) (ta pa ra ia : Option Addr) (tc pc rc ic : Nat) (regs ins : List Bool) (hok : k.Ok) (hf : ∀ x : Wire, x.Ok → ∃ n, FinN k n x) (hr : 25 ≤ regs.length ∧ regs.length ≤ 25) (hil : ins.length ≤ 4) (w : World) (hF : FabAt w k ta pa ra regs ia ins) :
  Calls Try.prog 96 #[.agg #[.slice ta k.ts.length tc, .slice pa k.ps.length pc], .agg #[.slice ra regs.length rc], .slice ia ins.length ic] w (GiveF w (outsV k regs ins 3) (nextV k regs ins 25)) := by
 have WC := Lib.hid (fun (x : Wire) (hx : x.Ok) => l10Wire_c k ta pa ra ia tc pc rc ic regs ins hok hf hr hil (rk k x + 1) x hx (by omega))
 have TC := Lib.hid (fun (t : Nat) (ht : t < 25) => l10Table_c k ta pa ra ia tc pc rc ic regs ins hok t ht (fun y hy => WC.out y (selW_ok ht _ (hok.sel ht) y hy)))
 have hps := hF.k.ps
 have hts := hF.k.ts
 have HF := Lib.hid hF
 have HPS := Lib.hid hok.ps
 obtain ⟨lt1, lt2⟩ : k.ts.length ≤ 25 ∧ 25 ≤ k.ts.length := by have := hok.lt; omega
 obtain ⟨lp1, lp2⟩ : k.ps.length ≤ 3 ∧ 3 ≤ k.ps.length := by have := hok.lp; omega
 obtain ⟨O, HO⟩ : ∃ O : Nat → List Bool, Hid (O = outsV k regs ins) := ⟨_, Lib.hid rfl⟩
 obtain ⟨N, HN⟩ : ∃ N : Nat → List Bool, Hid (N = nextV k regs ins) := ⟨_, Lib.hid rfl⟩
 rw [← HO.out, ← HN.out]
 have S0 : StO w (w.heap.size + 4) (w.heap.size + 1 + 1 + 1) (BxS w k ta pa ra tc pc rc regs.length) (.slice none 0 0) (.slice none 0 0) [] [] ((((w.alloc (.cells #[.slice ta k.ts.length tc, .slice pa k.ps.length pc] 52)).alloc (.cells #[.slice ra regs.length rc] 67)).alloc (.cells #[.slice none 0 0, .slice none 0 0] 71)).alloc (.cells #[.slice none 0 0, .slice none 0 0] 71)) := by
  refine ⟨OwnB.nil, OwnB.nil, Blk.at _ [.slice none 0 0, .slice none 0 0] _ (by simp), fun q hq => (by cases hq), by (repeat (first | with_reducible assumption | with_reducible exact Ext.refl _ | with_reducible refine Ext.drew' ?_ | with_reducible refine Ext.drewN' ?_ _ | with_reducible refine Ext.alloc ?_ _ | (with_reducible refine Ext.setNew ?_ (by first | exact Nat.le_refl _ | (simp; done) | (simp; omega) | omega) _))), fun B t cs hb => ?_, by omega, by omega, by simp⟩
  rcases hb with ⟨rfl, rfl, rfl⟩ | ⟨rfl, rfl, rfl⟩ | ⟨rfl, rfl, rfl⟩
  ·exact ⟨(((Blk.at w [.slice ta k.ts.length tc, .slice pa k.ps.length pc] 52 rfl).alloc _).alloc _).alloc _, by omega, by omega⟩
  ·exact ⟨((Blk.at (w.alloc _) [.slice ra regs.length rc] 67 (by simp)).alloc _).alloc _, by omega, by omega⟩
  ·exact ⟨(Blk.at ((w.alloc _).alloc _) [.slice none 0 0, .slice none 0 0] 71 (by simp)).alloc _, by omega, by omega⟩
 clear hF
 go_enter Try.func96, Try.ntmps96
 go_wp2_with fail
 go_loopw [8] (fun u8 wr => ∃ (j : Nat) (ov : Value), j ≤ 3 ∧ u8 = .int .i64 j ∧ StO w (w.heap.size + 4) (w.heap.size + 1 + 1 + 1) (BxS w k ta pa ra tc pc rc regs.length) ov (.slice none 0 0) (O j) [] wr) (fun i _ => 3 - (intOf i).toNat)
 case atStart => exact ⟨0, .slice none 0 0, Nat.zero_le _, rfl, by rw [HO.out]; exact S0⟩
 case round =>
  clear S0
  obtain ⟨j, ov, hj, rfl, S0⟩ := hrel
  have y0 := S0.box (.inl ⟨rfl, rfl, rfl⟩)
  have s0 := S0.box (.inr (.inl ⟨rfl, rfl, rfl⟩))
  have q0 := S0.q
  have hE := S0.ext
  have c0 := y0.cell (i := 0) rfl
  have c1 := y0.cell (i := 1) rfl
  have c2 := s0.cell (i := 0) rfl
  have d0 := q0.cell (i := 0) rfl
  have yl := y0.lt
  have sl := s0.lt
  have ql := q0.lt
  by_cases hlt : j < 3
  ·obtain ⟨b, o, rfl, hb, hcc⟩ := (hps.ext hE).get (by omega)
   obtain ⟨g0, g1⟩ := hcc j (by omega)
   have htr := trackB_cases (HPS.out j hlt)
   have hsucc := outsV_succ k regs ins j
   rw [← HO.out] at hsucc
   have hOl : (O j).length = j := by rw [HO.out]; exact outsV_len _ _ _ _
   have hjp : (j : Int) < (k.ps.length : Int) := by omega
   have hj3 : (j : Int) < 3 := by omega
   obtain ⟨x, hx⟩ : ∃ x, x = k.ps.getD j (0, false) := ⟨_, rfl⟩
   rw [← hx] at g0 g1 htr hsucc
   obtain ⟨s, v⟩ := x
   dsimp only at g0 g1 htr hsucc
   have HSU := Lib.hid hsucc
   have HOL := Lib.hid hOl
   obtain ⟨w2, rfl⟩ : ∃ z : World, z = wr := ⟨_, rfl⟩
   have A2 : Ext w2 (w2.alloc (.cells #[.int .i64 s, .bool v] 75)) := (Ext.refl w2).alloc _
   have S2 := S0.ext' A2
   have p2 := Blk.at w2 [.int .i64 s, .bool v] 75 rfl
   clear hcc hx hsucc hOl
   go_upto_region 6 with fail
   generalize w2.alloc (.cells #[.int .i64 s, .bool v] 75) = W2 at *
   have y2 := S2.box (.inl ⟨rfl, rfl, rfl⟩)
   have s2 := S2.box (.inr (.inl ⟨rfl, rfl, rfl⟩))
   have e0 := p2.cell (i := 0) rfl
   have e1 := p2.cell (i := 1) rfl
   have pl := p2.lt
   have k0 := y2.cell (i := 0) rfl
   have k1 := y2.cell (i := 1) rfl
   have k2 := s2.cell (i := 0) rfl
   have kl := y2.lt
   have kl2 := s2.lt
   have fz := fun i => S2.q.frozen i
   have r0 := S2.q.cell (i := 0) rfl
   have rl := S2.q.lt
   clear y0 s0 q0 c0 c1 c2 d0 yl sl ql g0 g1 S0
   by_cases h15 : s = 15
   ·have hne : (s != 15) = false := by simp [h15]
    have hst : O (j + 1) = O j ++ [v] := by rw [HSU.out, h15]; show O j ++ [false != v] = _; cases v <;> rfl
    clear h15 htr HSU
    have HST := Lib.hid hst
    have A := (Ext.refl W2).alloc (.cells #[.bool v] 4)
    have hz := S2.hs
    clear hst
    go_wp2_with (at_builtin; go_loud (refine wpList_app tyBools (ownsRow_ext S2.own A) (rowAtN W2 #[.bool v] _ (B := W2.heap.size) rfl) rfl (by simp [Value.oneCell']) (by have := HOL.out; omega) (by simp; omega) rfl rfl rfl rfl ?_); intro v8 w8 o8 g8 m8; obtain ⟨va, vc, rfl, _⟩ := ownsRow_row o8; have S8 := Lib.hid (S2.app1 A o8 g8 m8); have q8 := (S2.q.ext A).gr g8 (fun q => by have := (S2.own.lt' _ q).1; omega); have f8 := fun i => q8.frozen i; have x8 := q8.cell (i := 0) rfl; have l8 := q8.lt; clear o8 g8 m8 q8)
    go_roundw
    case rel => exact ⟨j + 1, _, by omega, by go_num, by rw [HST.out]; exact S8.out⟩
    case measure => simp [intOf]; omega
   ·have hne : (s != 15) = true := by simpa using h15
    obtain ⟨s0', s8⟩ : 0 ≤ s ∧ s < 8 := by omega
    have hc := WC.out (j * 5 + 4, s.toNat) ⟨by dsimp only; omega, by dsimp only; omega⟩ W2 (HF.out.ext S2.ext)
    obtain ⟨s', rfl⟩ : ∃ s' : Nat, s = s' := ⟨s.toNat, by omega⟩
    rw [Int.toNat_natCast] at hc
    have hsu : O (j + 1) = O j ++ [valW k regs ins (j * 5 + 4, s') != v] := by rw [HSU.out]; unfold rdV; rw [hne, Int.toNat_natCast, Bool.true_and]
    obtain ⟨z, hz⟩ : ∃ z, z = valW k regs ins (j * 5 + 4, s') := ⟨_, rfl⟩
    rw [← hz] at hc hsu
    have hcast : ((j * 5 + 4 : Nat) : Int) = (j : Int) * 5 + 5 - 1 := by omega
    dsimp only at hc
    rw [hcast] at hc
    have HC := Lib.hid hc
    have HSV := Lib.hid hsu
    clear hc hsu hz hcast h15 htr HSU
    go_wp2_with fail
    refine HC.out.mono ?_
    rintro e w3 ⟨rfl, hE3⟩
    have S3 := S2.ext' hE3
    have p3 := p2.ext hE3
    have a1 := p3.cell (i := 1) rfl
    have al := p3.lt
    have fz3 := fun i => S3.q.frozen i
    have r3 := S3.q.cell (i := 0) rfl
    have rl3 := S3.q.lt
    clear e0 e1 pl k0 k1 k2 kl kl2 fz r0 rl HC
    cases z
    ·have hst : O (j + 1) = O j ++ [v] := by rw [HSV.out]; cases v <;> rfl
     clear HSV
     have HST := Lib.hid hst
     have A := (Ext.refl w3).alloc (.cells #[.bool v] 4)
     have hz := S3.hs
     clear hst
     go_wp2_with (at_builtin; go_loud (refine wpList_app tyBools (ownsRow_ext S3.own A) (rowAtN w3 #[.bool v] _ (B := w3.heap.size) rfl) rfl (by simp [Value.oneCell']) (by have := HOL.out; omega) (by simp; omega) rfl rfl rfl rfl ?_); intro v8 w8 o8 g8 m8; obtain ⟨va, vc, rfl, _⟩ := ownsRow_row o8; have S8 := Lib.hid (S3.app1 A o8 g8 m8); have q8 := (S3.q.ext A).gr g8 (fun q => by have := (S3.own.lt' _ q).1; omega); have f8 := fun i => q8.frozen i; have x8 := q8.cell (i := 0) rfl; have l8 := q8.lt; clear o8 g8 m8 q8)
     go_roundw
     case rel => exact ⟨j + 1, _, by omega, by go_num, by rw [HST.out]; exact S8.out⟩
     case measure => simp [intOf]; omega
    ·have hst : O (j + 1) = O j ++ [!v] := by rw [HSV.out]; cases v <;> rfl
     clear HSV
     have HST := Lib.hid hst
     have A := (Ext.refl w3).alloc (.cells #[.bool (!v)] 4)
     have hz := S3.hs
     clear hst
     go_wp2_with (at_builtin; go_loud (refine wpList_app tyBools (ownsRow_ext S3.own A) (rowAtN w3 #[.bool (!v)] _ (B := w3.heap.size) rfl) rfl (by simp [Value.oneCell']) (by have := HOL.out; omega) (by simp; omega) rfl rfl rfl rfl ?_); intro v8 w8 o8 g8 m8; obtain ⟨va, vc, rfl, _⟩ := ownsRow_row o8; have S8 := Lib.hid (S3.app1 A o8 g8 m8); have q8 := (S3.q.ext A).gr g8 (fun q => by have := (S3.own.lt' _ q).1; omega); have f8 := fun i => q8.frozen i; have x8 := q8.cell (i := 0) rfl; have l8 := q8.lt; clear o8 g8 m8 q8)
     go_roundw
     case rel => exact ⟨j + 1, _, by omega, by go_num, by rw [HST.out]; exact S8.out⟩
     case measure => simp [intOf]; omega
  ·have hj3 : j = 3 := by omega
   have hjI : ¬ (j : Int) < 3 := by omega
   have S0 : StO w (w.heap.size + 4) (w.heap.size + 1 + 1 + 1) (BxS w k ta pa ra tc pc rc regs.length) ov (.slice none 0 0) (O 3) [] wr := by rw [← hj3]; exact S0
   clear y0 s0 q0 c0 c1 c2 d0 yl sl ql hj3 hlt
   obtain ⟨w2, rfl⟩ : ∃ z : World, z = wr := ⟨_, rfl⟩
   go_wp2_with fail
   go_loopw [11] (fun u11 wr => ∃ (i : Nat) (rv : Value), i ≤ 25 ∧ u11 = .int .i64 i ∧ StO w (w.heap.size + 4) (w.heap.size + 1 + 1 + 1) (BxS w k ta pa ra tc pc rc regs.length) ov rv (O 3) (N i) wr) (fun i _ => 25 - (intOf i).toNat)
   case atStart => exact ⟨0, .slice none 0 0, Nat.zero_le _, rfl, by rw [HN.out]; exact S0⟩
   case round =>
    clear S0 hE
    obtain ⟨i, rv, hi, rfl, S0⟩ := hrel
    have y0 := S0.box (.inl ⟨rfl, rfl, rfl⟩)
    have s0 := S0.box (.inr (.inl ⟨rfl, rfl, rfl⟩))
    have hE := S0.ext
    have c0 := y0.cell (i := 0) rfl
    have c1 := y0.cell (i := 1) rfl
    have c2 := s0.cell (i := 0) rfl
    have d1 := S0.q.cell (i := 1) rfl
    have yl := y0.lt
    have sl := s0.lt
    have ql := S0.q.lt
    by_cases hi25 : i < 25
    ·obtain ⟨b, o, rfl, hb, hcc⟩ := (hts.ext hE).get (by omega)
     obtain ⟨_, _, _, _, _, _, p2, _⟩ := hcc i (by omega)
     have hsucc := nextV_succ k regs ins i
     rw [← HN.out] at hsucc
     have hNl : (N i).length = i := by rw [HN.out]; exact nextV_len _ _ _ _
     have HNL := Lib.hid hNl
     have hil2 : (i : Int) < (k.ts.length : Int) := by omega
     obtain ⟨w3, rfl⟩ : ∃ z : World, z = wr := ⟨_, rfl⟩
     have e1 : (k.ts.getD i tile0).rg = (tileAt k i).rg := rfl
     rw [e1] at p2
     clear hcc hNl e1
     cases hrg : (tileAt k i).rg
     ·rw [hrg] at p2 hsucc
      have hst : N (i + 1) = N i ++ [false] := hsucc
      have HST := Lib.hid hst
      clear hst hsucc hrg y0 s0
      go_wp2_with fail
      refine wp_regionT (fun w' => w'.cell? ⟨w.heap.size, 0, none⟩ = some (.slice (some ⟨b, o, none⟩) k.ts.length tc) ∧ w'.cell? ⟨w.heap.size, 1, none⟩ = some (.slice pa k.ps.length pc) ∧ w'.cell? ⟨w.heap.size + 1, 0, none⟩ = some (.slice ra regs.length rc) ∧ w'.cell? ⟨w.heap.size + 1 + 1 + 1, 1, none⟩ = some rv ∧ w'.cell? ⟨b, o + i * 4 + 2, none⟩ = some (.bool false)) 17 (by kernel_rfl) ?_
      have hS0 := And.intro (a := w3.drew.cell? ⟨w.heap.size, 0, none⟩ = some (.slice (some ⟨b, o, none⟩) k.ts.length tc)) c0 (And.intro (a := w3.drew.cell? ⟨w.heap.size, 1, none⟩ = some (.slice pa k.ps.length pc)) c1 (And.intro (a := w3.drew.cell? ⟨w.heap.size + 1, 0, none⟩ = some (.slice ra regs.length rc)) c2 (And.intro (a := w3.drew.cell? ⟨w.heap.size + 1 + 1 + 1, 1, none⟩ = some rv) d1 (show w3.drew.cell? ⟨b, o + i * 4 + 2, none⟩ = some (.bool false) from p2))))
      ((refine tkT 0 (v := ?_) rfl (by kernel_rfl) (by kernel_rfl) ?_ (by assumption) ?_; rotate_left; (intro wS hSw; (try dsimp only at hSw); go_simp; (try with_reducible rfl)); (try simp only [Act.put, lA, lB, lC])); (refine tkT 1 (v := ?_) rfl (by kernel_rfl) (by kernel_rfl) ?_ (by assumption) ?_; rotate_left; (intro wS hSw; (try dsimp only at hSw); go_simp; (try with_reducible rfl)); (try simp only [Act.put, lA, lB, lC])); (refine tkT 2 (v := ?_) rfl (by kernel_rfl) (by kernel_rfl) ?_ (by assumption) ?_; rotate_left; (intro wS hSw; (try dsimp only at hSw); go_simp; (try with_reducible rfl)); (try simp only [Act.put, lA, lB, lC])); (refine tkT 3 (v := ?_) rfl (by kernel_rfl) (by kernel_rfl) ?_ (by assumption) ?_; rotate_left; (intro wS hSw; (try dsimp only at hSw); go_simp; (try with_reducible rfl)); (try simp only [Act.put, lA, lB, lC])); (refine tkT 4 (v := ?_) rfl (by kernel_rfl) (by kernel_rfl) ?_ (by assumption) ?_; rotate_left; (intro wS hSw; (try dsimp only at hSw); go_simp; (try with_reducible rfl)); (try simp only [Act.put, lA, lB, lC])); (refine tkT 5 (v := ?_) rfl (by kernel_rfl) (by kernel_rfl) ?_ (by assumption) ?_; rotate_left; (intro wS hSw; (try dsimp only at hSw); go_simp; (try with_reducible rfl)); (try simp only [Act.put, lA, lB, lC])); (refine tkT 6 (v := ?_) rfl (by kernel_rfl) (by kernel_rfl) ?_ (by assumption) ?_; rotate_left; (intro wS hSw; (try dsimp only at hSw); go_simp; (try with_reducible rfl)); (try simp only [Act.put, lA, lB, lC])); (refine tkT 7 (v := ?_) rfl (by kernel_rfl) (by kernel_rfl) ?_ (by assumption) ?_; rotate_left; (intro wS hSw; (try dsimp only at hSw); go_simp; (try with_reducible rfl)); (try simp only [Act.put, lA, lB, lC])); (refine tkT 8 (v := ?_) rfl (by kernel_rfl) (by kernel_rfl) ?_ (by assumption) ?_; rotate_left; (intro wS hSw; (try dsimp only at hSw); go_simp; (try with_reducible rfl)); (try simp only [Act.put, lA, lB, lC])); (refine tkT 9 (v := ?_) rfl (by kernel_rfl) (by kernel_rfl) ?_ (by assumption) ?_; rotate_left; (intro wS hSw; (try dsimp only at hSw); go_simp; (try with_reducible rfl)); (try simp only [Act.put, lA, lB, lC])))
      ((refine wpAnyT_take 10 (v := undef) rfl (by kernel_rfl) (fun _ _ _ h => h) (Or.inr ⟨by kernel_rfl, rfl⟩) (by assumption) ?_; (try simp only [Act.put, lA, lB, lC])); (refine wpAnyT_take 11 (v := undef) rfl (by kernel_rfl) (fun _ _ _ h => h) (Or.inr ⟨by kernel_rfl, rfl⟩) (by assumption) ?_; (try simp only [Act.put, lA, lB, lC])); (refine wpAnyT_take 12 (v := undef) rfl (by kernel_rfl) (fun _ _ _ h => h) (Or.inr ⟨by kernel_rfl, rfl⟩) (by assumption) ?_; (try simp only [Act.put, lA, lB, lC])); (refine wpAnyT_take 13 (v := undef) rfl (by kernel_rfl) (fun _ _ _ h => h) (Or.inr ⟨by kernel_rfl, rfl⟩) (by assumption) ?_; (try simp only [Act.put, lA, lB, lC])); (refine wpAnyT_take 14 (v := undef) rfl (by kernel_rfl) (fun _ _ _ h => h) (Or.inr ⟨by kernel_rfl, rfl⟩) (by assumption) ?_; (try simp only [Act.put, lA, lB, lC])))
      ((refine tkT 15 (v := ?_) rfl (by kernel_rfl) (by kernel_rfl) ?_ (by assumption) ?_; rotate_left; (intro wS hSw; (try dsimp only at hSw); go_simp; (try with_reducible rfl)); (try simp only [Act.put, lA, lB, lC])))
      (refine wpAnyT_do 16 (by kernel_rfl) rfl (fun K hK => ?_))
      go_simp
      have SX := S0.ext' (Ext.drew w3)
      have hWX := Ext.drew w3
      have A := (Ext.refl w3.drew).alloc (.cells #[.bool false] 4)
      have SA := SX.ext' A
      have hS2 := And.intro ((SA.box (.inl ⟨rfl, rfl, rfl⟩)).cell (i := 0) rfl) (And.intro ((SA.box (.inl ⟨rfl, rfl, rfl⟩)).cell (i := 1) rfl) (And.intro ((SA.box (.inr (.inl ⟨rfl, rfl, rfl⟩))).cell (i := 0) rfl) (And.intro (SA.q.cell (i := 1) rfl) (((ecell (hWX.trans A)).1 b _ hb).trans p2))))
      (refine hK _ _ hS2 ?_; clear hK K; (try simp only [Act.put, lA, lB, lC]))
      (refine wpAnyT_doN 17 (by kernel_rfl) rfl (by decide) (fun K hK => ?_))
      refine step_app tyBools SA.own2 (rowAtN w3.drew #[.bool false] _ (B := w3.drew.heap.size) rfl) rfl (by simp [Value.oneCell']) (by have := HNL.out; omega) SA.hs rfl rfl rfl rfl ?_
      intro v9 w9 o9 g9 m9
      obtain ⟨va, vc, rfl, _⟩ := ownsRow_row o9
      have S9 := Lib.hid (SX.app2 A o9 g9 m9)
      have q9 := SA.q.gr g9 (fun q => by have := (SA.own2.lt' _ q).1; omega)
      have f9 := fun i => q9.frozen i
      have x9 := q9.cell (i := 1) rfl
      have l9 := q9.lt
      (refine hK _ _ ?_; clear hK K; (try simp only [Act.put, lA, lB, lC]))
      (refine wpAnyT_doN 18 (by kernel_rfl) rfl (by decide) (fun K hK => ?_))
      go_simp
      (refine hK _ _ ?_; clear hK K; (try simp only [Act.put, lA, lB, lC]))
      (refine wpAnyT_doN 19 (by kernel_rfl) rfl (by decide) (fun K hK => ?_))
      go_simp
      (refine hK _ _ ?_; clear hK K; (try simp only [Act.put, lA, lB, lC]))
      (refine wpAnyT_last 20 (by kernel_rfl) rfl (by decide) (by kernel_rfl) (fun K hK => ?_))
      go_simp
      (refine hK _ _ ?_; clear hK K; (try simp only [Act.put, lA, lB, lC]))
      clear hS0 hS2 o9 g9 m9 q9 f9 x9 l9 SA SX A hWX c0 c1 c2 d1 p2
      go_wp2
      go_roundw
      case rel => exact ⟨i + 1, _, by omega, by go_num, by rw [HST.out]; exact S9.out⟩
      case measure => simp [intOf]; omega
     ·rw [hrg, Bool.true_and] at hsucc
      rw [hrg] at p2
      have hc := TC.out i hi25 w3.drew (HF.out.ext hE.drew')
      obtain ⟨z, hz⟩ : ∃ z, z = tabV k (valW k regs ins) i := ⟨_, rfl⟩
      rw [← hz] at hc hsucc
      have HST := Lib.hid hsucc
      have HC := Lib.hid hc
      clear hsucc hrg y0 s0 hc hz
      go_wp2_with fail
      refine wp_regionT (fun w' => w'.cell? ⟨w.heap.size, 0, none⟩ = some (.slice (some ⟨b, o, none⟩) k.ts.length tc) ∧ w'.cell? ⟨w.heap.size, 1, none⟩ = some (.slice pa k.ps.length pc) ∧ w'.cell? ⟨w.heap.size + 1, 0, none⟩ = some (.slice ra regs.length rc) ∧ w'.cell? ⟨w.heap.size + 1 + 1 + 1, 1, none⟩ = some rv ∧ w'.cell? ⟨b, o + i * 4 + 2, none⟩ = some (.bool true)) 17 (by kernel_rfl) ?_
      have hS0 := And.intro (a := w3.drew.cell? ⟨w.heap.size, 0, none⟩ = some (.slice (some ⟨b, o, none⟩) k.ts.length tc)) c0 (And.intro (a := w3.drew.cell? ⟨w.heap.size, 1, none⟩ = some (.slice pa k.ps.length pc)) c1 (And.intro (a := w3.drew.cell? ⟨w.heap.size + 1, 0, none⟩ = some (.slice ra regs.length rc)) c2 (And.intro (a := w3.drew.cell? ⟨w.heap.size + 1 + 1 + 1, 1, none⟩ = some rv) d1 (show w3.drew.cell? ⟨b, o + i * 4 + 2, none⟩ = some (.bool true) from p2))))
      ((refine tkT 0 (v := ?_) rfl (by kernel_rfl) (by kernel_rfl) ?_ (by assumption) ?_; rotate_left; (intro wS hSw; (try dsimp only at hSw); go_simp; (try with_reducible rfl)); (try simp only [Act.put, lA, lB, lC])); (refine tkT 1 (v := ?_) rfl (by kernel_rfl) (by kernel_rfl) ?_ (by assumption) ?_; rotate_left; (intro wS hSw; (try dsimp only at hSw); go_simp; (try with_reducible rfl)); (try simp only [Act.put, lA, lB, lC])); (refine tkT 2 (v := ?_) rfl (by kernel_rfl) (by kernel_rfl) ?_ (by assumption) ?_; rotate_left; (intro wS hSw; (try dsimp only at hSw); go_simp; (try with_reducible rfl)); (try simp only [Act.put, lA, lB, lC])); (refine tkT 3 (v := ?_) rfl (by kernel_rfl) (by kernel_rfl) ?_ (by assumption) ?_; rotate_left; (intro wS hSw; (try dsimp only at hSw); go_simp; (try with_reducible rfl)); (try simp only [Act.put, lA, lB, lC])); (refine tkT 4 (v := ?_) rfl (by kernel_rfl) (by kernel_rfl) ?_ (by assumption) ?_; rotate_left; (intro wS hSw; (try dsimp only at hSw); go_simp; (try with_reducible rfl)); (try simp only [Act.put, lA, lB, lC])); (refine tkT 5 (v := ?_) rfl (by kernel_rfl) (by kernel_rfl) ?_ (by assumption) ?_; rotate_left; (intro wS hSw; (try dsimp only at hSw); go_simp; (try with_reducible rfl)); (try simp only [Act.put, lA, lB, lC])); (refine tkT 6 (v := ?_) rfl (by kernel_rfl) (by kernel_rfl) ?_ (by assumption) ?_; rotate_left; (intro wS hSw; (try dsimp only at hSw); go_simp; (try with_reducible rfl)); (try simp only [Act.put, lA, lB, lC])); (refine tkT 7 (v := ?_) rfl (by kernel_rfl) (by kernel_rfl) ?_ (by assumption) ?_; rotate_left; (intro wS hSw; (try dsimp only at hSw); go_simp; (try with_reducible rfl)); (try simp only [Act.put, lA, lB, lC])); (refine tkT 8 (v := ?_) rfl (by kernel_rfl) (by kernel_rfl) ?_ (by assumption) ?_; rotate_left; (intro wS hSw; (try dsimp only at hSw); go_simp; (try with_reducible rfl)); (try simp only [Act.put, lA, lB, lC])); (refine tkT 9 (v := ?_) rfl (by kernel_rfl) (by kernel_rfl) ?_ (by assumption) ?_; rotate_left; (intro wS hSw; (try dsimp only at hSw); go_simp; (try with_reducible rfl)); (try simp only [Act.put, lA, lB, lC])); (refine tkT 10 (v := ?_) rfl (by kernel_rfl) (by kernel_rfl) ?_ (by assumption) ?_; rotate_left; (intro wS hSw; (try dsimp only at hSw); go_simp; (try with_reducible rfl)); (try simp only [Act.put, lA, lB, lC])); (refine tkT 11 (v := ?_) rfl (by kernel_rfl) (by kernel_rfl) ?_ (by assumption) ?_; rotate_left; (intro wS hSw; (try dsimp only at hSw); go_simp; (try with_reducible rfl)); (try simp only [Act.put, lA, lB, lC])); (refine tkT 12 (v := ?_) rfl (by kernel_rfl) (by kernel_rfl) ?_ (by assumption) ?_; rotate_left; (intro wS hSw; (try dsimp only at hSw); go_simp; (try with_reducible rfl)); (try simp only [Act.put, lA, lB, lC])); (refine tkT 13 (v := ?_) rfl (by kernel_rfl) (by kernel_rfl) ?_ (by assumption) ?_; rotate_left; (intro wS hSw; (try dsimp only at hSw); go_simp; (try with_reducible rfl)); (try simp only [Act.put, lA, lB, lC])))
      (refine wpAnyT_do 14 (by kernel_rfl) rfl (fun K hK => ?_))
      go_simp
      refine HC.out.mono ?_
      rintro e w4 ⟨rfl, hE4⟩
      have hWX := (Ext.drew w3).trans hE4
      have SX := S0.ext' hWX
      have hS1 := And.intro ((SX.box (.inl ⟨rfl, rfl, rfl⟩)).cell (i := 0) rfl) (And.intro ((SX.box (.inl ⟨rfl, rfl, rfl⟩)).cell (i := 1) rfl) (And.intro ((SX.box (.inr (.inl ⟨rfl, rfl, rfl⟩))).cell (i := 0) rfl) (And.intro (SX.q.cell (i := 1) rfl) (((ecell hWX).1 b _ hb).trans p2))))
      (refine hK _ _ hS1 ?_; clear hK K; (try simp only [Act.put, lA, lB, lC]))
      ((refine tkT 15 (v := ?_) rfl (by kernel_rfl) (by kernel_rfl) ?_ (by assumption) ?_; rotate_left; (intro wS hSw; (try dsimp only at hSw); go_simp; (try with_reducible rfl)); (try simp only [Act.put, lA, lB, lC])))
      (refine wpAnyT_do 16 (by kernel_rfl) rfl (fun K hK => ?_))
      go_simp
      clear hS1
      have A := (Ext.refl w4).alloc (.cells #[.bool z] 4)
      have SA := SX.ext' A
      have hS2 := And.intro ((SA.box (.inl ⟨rfl, rfl, rfl⟩)).cell (i := 0) rfl) (And.intro ((SA.box (.inl ⟨rfl, rfl, rfl⟩)).cell (i := 1) rfl) (And.intro ((SA.box (.inr (.inl ⟨rfl, rfl, rfl⟩))).cell (i := 0) rfl) (And.intro (SA.q.cell (i := 1) rfl) (((ecell (hWX.trans A)).1 b _ hb).trans p2))))
      (refine hK _ _ hS2 ?_; clear hK K; (try simp only [Act.put, lA, lB, lC]))
      (refine wpAnyT_doN 17 (by kernel_rfl) rfl (by decide) (fun K hK => ?_))
      refine step_app tyBools SA.own2 (rowAtN w4 #[.bool z] _ (B := w4.heap.size) rfl) rfl (by simp [Value.oneCell']) (by have := HNL.out; omega) SA.hs rfl rfl rfl rfl ?_
      intro v9 w9 o9 g9 m9
      obtain ⟨va, vc, rfl, _⟩ := ownsRow_row o9
      have S9 := Lib.hid (SX.app2 A o9 g9 m9)
      have q9 := SA.q.gr g9 (fun q => by have := (SA.own2.lt' _ q).1; omega)
      have f9 := fun i => q9.frozen i
      have x9 := q9.cell (i := 1) rfl
      have l9 := q9.lt
      (refine hK _ _ ?_; clear hK K; (try simp only [Act.put, lA, lB, lC]))
      (refine wpAnyT_doN 18 (by kernel_rfl) rfl (by decide) (fun K hK => ?_))
      go_simp
      (refine hK _ _ ?_; clear hK K; (try simp only [Act.put, lA, lB, lC]))
      (refine wpAnyT_doN 19 (by kernel_rfl) rfl (by decide) (fun K hK => ?_))
      go_simp
      (refine hK _ _ ?_; clear hK K; (try simp only [Act.put, lA, lB, lC]))
      (refine wpAnyT_last 20 (by kernel_rfl) rfl (by decide) (by kernel_rfl) (fun K hK => ?_))
      go_simp
      (refine hK _ _ ?_; clear hK K; (try simp only [Act.put, lA, lB, lC]))
      clear hS0 hS2 o9 g9 m9 q9 f9 x9 l9 SA SX A hWX c0 c1 c2 d1 p2
      go_wp2
      go_roundw
      case rel => exact ⟨i + 1, _, by omega, by go_num, by rw [HST.out]; exact S9.out⟩
      case measure => simp [intOf]; omega
    ·have hi2 : i = 25 := by omega
     have hiI : ¬ (i : Int) < 25 := by omega
     rw [hi2] at S0
     have r0 := S0.box (.inr (.inr ⟨rfl, rfl, rfl⟩))
     obtain ⟨oa, oc, rfl, _⟩ := S0.own.len
     obtain ⟨ra2, rc2, rfl, _⟩ := S0.own2.len
     have d0 := S0.q.cell (i := 0) rfl
     have d1 := S0.q.cell (i := 1) rfl
     have fz := fun i => r0.frozen i
     have rl := r0.lt
     have u0 := r0.cell (i := 0) rfl
     have u1 := r0.cell (i := 1) rfl
     have HS := Lib.hid S0
     clear hi2 S0 hi25
     go_wp2
     refine bodyPost_ret (v := .agg #[.slice oa (O 3).length oc, .slice ra2 (N 25).length rc2]) (by simp [results, Try.results96, go_sem, u0, u1]) rfl ?_
     have e1 : ∀ q, (Value.slice oa (O 3).length oc).ownBlock = some q → q ≠ w.heap.size + 1 + 1 := fun q hq => by have := (HS.out.own.lt' q hq).1; omega
     have e2 : ∀ q, (Value.slice ra2 (N 25).length rc2).ownBlock = some q → q ≠ w.heap.size + 1 + 1 := fun q hq => by have := (HS.out.own2.lt' q hq).1; omega
     refine ⟨_, _, rfl, ?_, ?_, HS.out.dis, ?_⟩
     ·exact (OwnB.setOther (OwnB.setOther HS.out.own (fun q => e1 _ q rfl) _) (fun q => e1 _ q rfl) _).le (by omega)
     ·exact (OwnB.setOther (OwnB.setOther HS.out.own2 (fun q => e2 _ q rfl) _) (fun q => e2 _ q rfl) _).le (by omega)
     ·exact Ext.setNew (Ext.setNew hE (by simp; omega) _) (by simp; omega) _
end Go.Proofs.Ytgialedmbmfejaa

namespace Go.Proofs.Ytgialedmbmfejaa
open Go.RowKit
set_option maxRecDepth 100000
set_option linter.unusedVariables false
set_option linter.unusedSimpArgs false
/-- What the cycle of a round leaves: its result in a box. -/
def CutFab (w : World) (x1 x2 : List Bool) (v : Value) (wx : World) : Prop := ∃ D a1 c1 a2 c2, v = .pointer (some ⟨D, 0, none⟩) ∧ Blk wx D 71 [.slice a1 x1.length c1, .slice a2 x2.length c2] ∧ w.heap.size ≤ D ∧
 OwnB wx w.heap.size (.slice a1 x1.length c1) x1 ∧ OwnB wx w.heap.size (.slice a2 x2.length c2) x2 ∧ Hid (∀ q, (Value.slice a1 x1.length c1).ownBlock = some q → (Value.slice a2 x2.length c2).ownBlock ≠ some q) ∧ Ext w wx
theorem OwnB.set2' {W : World} {base D : Nat} {v : Value} {xs : List Bool} {a b : Value} (h : OwnB W base v xs) (hD : v.ownBlock ≠ some D) : OwnB ((W.setCell ⟨D, 0, none⟩ a).setCell ⟨D, 1, none⟩ b) base v xs :=
 ownsRow_set (ownsRow_set h (p := ⟨D, 0, none⟩) hD _) (p := ⟨D, 1, none⟩) hD _
theorem OwnR.setCell' {w : World} {base : Nat} {v : Value} {vals : List Value} {xss : List (List Bool)} (h : OwnR w base v vals xss) {p : Addr} (h1 : v.ownBlock ≠ some p.block) (h2 : ∀ i, (vals.getD i (.slice none 0 0)).ownBlock ≠ some p.block) (u : Value) : OwnR (w.setCell p u) base v vals xss :=
 { h with row := ownsRow_set h.row h1 u, el := fun j hj => OwnB.setOther (h.el j hj) (h2 j) u }
set_option maxHeartbeats 8000000 in
theorem specRunFabric_c (k : Conf) (ta pa : Option Addr) (tc pc : Nat) (a : Option Addr) (cap : Nat) (xss : List (List Bool)) (w : World) (hk : ConfAt w k ta pa) (hr : RowsAt w a xss) (hl : xss.length ≤ 1048576) (hlr : ∀ j, j < xss.length → (xss.getD j []).length ≤ 1048576) :
  Calls Try.prog 51 #[.agg #[.slice ta k.ts.length tc, .slice pa k.ps.length pc], .slice a xss.length cap] w (GiveRows w (runFV k xss)) := by
 have T1 := Lib.hid (specConfigAcyclic_c k ta pa tc pc)
 have y := (Blk.at w [.slice ta k.ts.length tc, .slice pa k.ps.length pc] 52 rfl).alloc (.cells #[] 65)
 have E0 : Ext w ((w.alloc (.cells #[.slice ta k.ts.length tc, .slice pa k.ps.length pc] 52)).alloc (.cells #[] 65)) := ((Ext.refl w).alloc _).alloc _
 have X0 := Blk.at (w.alloc (.cells #[.slice ta k.ts.length tc, .slice pa k.ps.length pc] 52)) [] 65 (B := w.heap.size + 1) (by simp)
 have OWN := Lib.hid (fun (W : World) (base B : Nat) (hB : Blk W B 65 []) (hb : base ≤ B) => (⟨rfl, hB.owns (n := 0) (size := 1) rfl hb (by decide), fun j hj => by simp at hj, fun j k hj => by simp at hj, fun i j k _ hj => by simp at hj⟩ : OwnR W base (.slice (some ⟨B, 0, none⟩) 0 0) [] []))
 have HL := Lib.hid hlr
 clear hlr
 cases ha : acyV k
 ·have hV := runFV_neg (k := k) (xss := xss) (fun h => by have := h.a; rw [ha] at this; cases this)
  rw [hV]
  rw [ha] at T1
  clear hV ha
  go_enter Try.func51, Try.ntmps51
  go_wp2_with fail
  refine (T1.out _ (hk.ext E0)).mono ?_
  rintro e w1 ⟨rfl, hE1⟩
  have X1 := X0.ext hE1
  go_wp2
  go_ret
  exact ⟨_, [], rfl, OWN.out _ _ _ X1 (by omega), E0.trans hE1⟩
 rw [ha] at T1
 by_cases h40 : xss.length ≤ 40
 ·have hgt : ¬ (40 : Int) < (xss.length : Int) := by omega
  obtain ⟨V, HV⟩ : ∃ V, Hid (V = runFV k xss) := ⟨_, Lib.hid rfl⟩
  rw [← HV.out]
  have HA := Lib.hid ha
  clear ha
  go_enter Try.func51, Try.ntmps51
  go_wp2_with fail
  refine (T1.out _ (hk.ext E0)).mono ?_
  rintro e w1 ⟨rfl, hE1⟩
  have y1 := y.ext hE1
  have X1 := X0.ext hE1
  have E1 := E0.trans hE1
  clear y E0 hE1 T1 X0
  go_wp2_with fail
  go_loopw [6] (fun u22 wr => ∃ j : Nat, j ≤ xss.length ∧ u22 = .int .i64 j ∧ Hid (∀ i, i < j → (xss.getD i []).length ≤ 4) ∧ Ext w1 wr) (fun i _ => xss.length - (intOf i).toNat)
  case atStart => exact ⟨0, Nat.zero_le _, rfl, Lib.hid (fun i hi => absurd hi (Nat.not_lt_zero i)), Ext.refl _⟩
  case round =>
   obtain ⟨j, hj, rfl, hP, hE⟩ := hrel
   by_cases hlt : j < xss.length
   ·obtain ⟨gb, go, rfl, hgb, hg⟩ := (hr.ext (E1.trans hE)).get (by omega)
    obtain ⟨aj, cj, q, hA⟩ := hg j hlt
    have hrl := HL.out j hlt
    obtain ⟨row, hrow⟩ : ∃ r, r = xss.getD j [] := ⟨_, rfl⟩
    rw [← hrow] at q hA hrl
    have HROW := Lib.hid hrow
    clear hg hrow
    by_cases h4 : row.length ≤ 4
    ·have h4i : ¬ (4 : Int) < (row.length : Int) := by omega
     go_wp2
     go_roundw
     case rel =>
      refine ⟨j + 1, by omega, by go_num, Lib.hid (fun i hi => ?_), hE⟩
      rcases Nat.lt_or_ge i j with h | h
      ·exact hP.out i h
      ·have : i = j := by omega
       subst this; rw [← HROW.out]; exact h4
     case measure => simp [intOf]; omega
    ·have h4i : (4 : Int) < (row.length : Int) := by omega
     have hV : V = [] := by
      rw [HV.out]
      refine runFV_neg (fun h => ?_)
      have := h.r j hlt
      rw [← HROW.out] at this; omega
     subst hV
     have XN := Blk.at wr [] 65 rfl
     have zn := (E1.trans hE).size
     go_wp2
     go_ret
     exact ⟨_, [], rfl, OWN.out _ _ _ XN zn, (E1.trans hE).alloc _⟩
   ·have hj2 : j = xss.length := by omega
    have hP : Hid (∀ i, i < xss.length → (xss.getD i []).length ≤ 4) := Lib.hid (by rw [← hj2]; exact hP.out)
    have HVV : Hid (V = runF k reset25 xss) := Lib.hid (by rw [HV.out]; exact runFV_pos ⟨HA.out, h40, hP.out⟩)
    have hok := acy_ok HA.out
    have hf : ∀ x : Wire, x.Ok → ∃ n, FinN k n x := fun x hx => acy_fin HA.out hx
    have y2 := y1.ext hE
    have X2 := X1.ext hE
    have E2 := E1.trans hE
    obtain ⟨w2, rfl⟩ : ∃ z : World, z = wr := ⟨_, rfl⟩
    clear hj2 y1 E1 hE X1
    go_wp2_with fail
    refine (specReset_c _).mono ?_
    rintro e w3 ⟨B, rfl, hB, hI, hE3⟩
    have y3 := y2.ext hE3
    have E3 := E2.trans hE3
    have zz := y2.lt
    have Bl := hI.lt
    have A3 : Ext w3 (w3.alloc (.cells #[.slice (some ⟨B, 0, none⟩) 25 25] 67)) := (Ext.refl w3).alloc _
    have S0 : OwnB (w3.alloc (.cells #[.slice (some ⟨B, 0, none⟩) 25 25] 67)) w2.heap.size (.slice (some ⟨B, 0, none⟩) 25 25) reset25 := (hI.ext A3).owns (n := 25) (size := 1) (by simp) hB (by decide)
    have q0 := Blk.at w3 [.slice (some ⟨B, 0, none⟩) 25 25] 67 rfl
    have y4 := y3.ext A3
    have X4 := (X2.ext hE3).ext A3
    have xl := X2.lt
    have E4 := E3.trans A3
    have zs : w3.heap.size + 1 ≤ (w3.alloc (.cells #[.slice (some ⟨B, 0, none⟩) 25 25] 67)).heap.size := by simp
    have hz3 := hE3.size
    clear y2 y3 hI E3 hE3 A3 X2
    go_upto_region 10 with fail
    generalize w3.alloc (.cells #[.slice (some ⟨B, 0, none⟩) 25 25] 67) = W4 at *
    go_wp2_with fail
    go_loopw [5, 8] (fun u8 u33 wr => ∃ (j : Nat) (vals : List Value) (rv : Value), j ≤ xss.length ∧ u33 = .int .i64 j ∧ OwnR wr (w.heap.size + 1) u8 vals (runF k reset25 (xss.take j)) ∧ Hid (∀ q, u8.ownBlock = some q → q ≠ w3.heap.size) ∧ Hid (∀ i q, (vals.getD i (.slice none 0 0)).ownBlock = some q → q ≠ w3.heap.size) ∧ Blk wr w3.heap.size 67 [rv] ∧ OwnB wr w2.heap.size rv (stF k reset25 (xss.take j)) ∧ Hid (∀ q, rv.ownBlock = some q → q ≠ w3.heap.size ∧ u8.ownBlock ≠ some q) ∧ Blk wr w.heap.size 52 [.slice ta k.ts.length tc, .slice pa k.ps.length pc] ∧ Ext w wr) (fun _ i _ => xss.length - (intOf i).toNat)
    case atStart => exact ⟨0, [], _, Nat.zero_le _, rfl, OWN.out _ _ _ X4 (Nat.le_refl _), Lib.hid (fun q hq => by have : w.heap.size + 1 = q := Option.some.inj hq; omega), Lib.hid (fun i q hq => by simp [Value.ownBlock] at hq), q0, S0, Lib.hid (fun q hq => ⟨by have : B = q := Option.some.inj hq; omega, fun e => by have : B = q := Option.some.inj hq; have : w.heap.size + 1 = q := Option.some.inj e; omega⟩), y4, E4⟩
    case round =>
     clear S0 q0 y4 E4 zs X4
     obtain ⟨j, vals, rv, hj, rfl, hO, hUB, hVB, q0, hS, hD, y4, hE⟩ := hrel
     by_cases hlt : j < xss.length
     ·obtain ⟨gb, go, rfl, hgb, hg⟩ := (hr.ext hE).get (by omega)
      obtain ⟨aj, cj, q, hA⟩ := hg j hlt
      have h4 := hP.out j hlt
      have hrl := runF_length k (xss.take j) reset25
      rw [List.length_take, Nat.min_eq_left hj] at hrl
      have hsl := stF_len k (xss.take j)
      have hr1 := runF_snoc k (xss.getD j []) (xss.take j) reset25
      have hs1 := stF_snoc k (xss.getD j []) (xss.take j) reset25
      rw [← take_snocG xss j [] hlt] at hr1 hs1
      obtain ⟨st, hst⟩ : ∃ st, st = stF k reset25 (xss.take j) := ⟨_, rfl⟩
      obtain ⟨row, hrow⟩ : ∃ r, r = xss.getD j [] := ⟨_, rfl⟩
      obtain ⟨outs, hou⟩ : ∃ r, r = runF k reset25 (xss.take j) := ⟨_, rfl⟩
      rw [← hst] at hS hr1 hs1 hsl
      rw [← hrow] at q hA hr1 hs1 h4
      rw [← hou] at hO hr1 hrl
      obtain ⟨sa, sc, rfl, hSA⟩ := hS.opened
      have hor := hO.row
      rw [hrl] at hor
      obtain ⟨oa, oc, rfl, _⟩ := ownsRow_row hor
      obtain ⟨w5, rfl⟩ : ∃ z : World, z = wr := ⟨_, rfl⟩
      obtain ⟨O2, hO2⟩ : ∃ r, r = outsV k st row 3 := ⟨_, rfl⟩
      obtain ⟨N2, hN2⟩ : ∃ r, r = nextV k st row 25 := ⟨_, rfl⟩
      have hc := fun (W : World) (e : Ext w5 W) => l10Step_c k ta pa sa _ tc pc sc cj st row hok hf (by omega) h4 W ⟨(hk.ext hE).ext e, hSA.ext e, hA.ext e⟩
      rw [← hO2] at hr1 hc
      rw [← hN2] at hs1 hc
      have HC := Lib.hid hc
      have HRL := Lib.hid hrl
      have HR1 := Lib.hid hr1
      have HS1 := Lib.hid hs1
      have HOO := Lib.hid hO
      have s0 := q0.cell (i := 0) rfl
      have sl := q0.lt
      have yl := y4.lt
      have k0 := y4.cell (i := 0) rfl
      have k1 := y4.cell (i := 1) rfl
      clear hg hst hrow hou hr1 hs1 hrl hsl hc hO2 hN2 hO
      go_upto_region 13 with fail
      go_cut [9] (CutFab w5 O2 N2)
      case first =>
       (refine wp_regionT ((fun w' => (∀ b o, b < w5.heap.size → w'.cell? ⟨b, o, none⟩ = w5.cell? ⟨b, o, none⟩) ∧ Ext w5 w')) 8 (by kernel_rfl) ?_; have hS0 := held_mk (Ext.drew w5))
       ((refine tkT 0 (v := ?_) rfl (by kernel_rfl) (by kernel_rfl) ?_ (by assumption) ?_; rotate_left; (intro wS hSw; (try dsimp only at hSw); go_simp; (try with_reducible rfl)); (try simp only [Act.put, lA, lB, lC])); (refine tkT 1 (v := ?_) rfl (by kernel_rfl) (by kernel_rfl) ?_ (by assumption) ?_; rotate_left; (intro wS hSw; (try dsimp only at hSw); go_simp; (try with_reducible rfl)); (try simp only [Act.put, lA, lB, lC])); (refine tkT 2 (v := ?_) rfl (by kernel_rfl) (by kernel_rfl) ?_ (by assumption) ?_; rotate_left; (intro wS hSw; (try dsimp only at hSw); go_simp; (try with_reducible rfl)); (try simp only [Act.put, lA, lB, lC])); (refine tkT 3 (v := ?_) rfl (by kernel_rfl) (by kernel_rfl) ?_ (by assumption) ?_; rotate_left; (intro wS hSw; (try dsimp only at hSw); go_simp; (try with_reducible rfl)); (try simp only [Act.put, lA, lB, lC])); (refine tkT 4 (v := ?_) rfl (by kernel_rfl) (by kernel_rfl) ?_ (by assumption) ?_; rotate_left; (intro wS hSw; (try dsimp only at hSw); go_simp; (try with_reducible rfl)); (try simp only [Act.put, lA, lB, lC])); (refine tkT 5 (v := ?_) rfl (by kernel_rfl) (by kernel_rfl) ?_ (by assumption) ?_; rotate_left; (intro wS hSw; (try dsimp only at hSw); go_simp; (try with_reducible rfl)); (try simp only [Act.put, lA, lB, lC])))
       (refine wpAnyT_do2 6 7 (by kernel_rfl) rfl rfl (fun K hK => ?_) (fun K hK => ?_))
       ·go_simp
        refine (HC.out _ (Ext.drew w5)).mono ?_
        rintro e w6 ⟨ov, nv, rfl, hov, hnv, hdis, hE6⟩
        obtain ⟨oa2, oc2, rfl, _⟩ := hov.len
        obtain ⟨na2, nc2, rfl, _⟩ := hnv.len
        have hE7 := (Ext.drew w5).trans hE6
        have hS1 := held_mk hE7
        (refine hK _ _ hS1 ?_; clear hK K; (try simp only [Act.put, lA, lB, lC]))
        (refine wpAnyT_doB 7 (by kernel_rfl) rfl (fun K hK => ?_))
        refine Bx.mk ?_
        go_simp
        have hS2 := held_mk (hE7.alloc (.cells #[.slice none 0 0, .slice none 0 0] 71))
        have bk := Blk.at w6 [.slice none 0 0, .slice none 0 0] 71 rfl
        have z0 := bk.cell (i := 0) rfl
        have z1 := bk.cell (i := 1) rfl
        have zf := fun i => bk.frozen i
        (refine hK _ _ hS2 ?_; clear hK K; (try simp only [Act.put, lA, lB, lC]))
        (refine wpAnyT_lastB 8 (by kernel_rfl) rfl (by decide) (by kernel_rfl) (fun K hK => ?_))
        refine Bx.mk ?_
        go_simp
        (refine hK _ _ ?_; clear hK K; (try simp only [Act.put, lA, lB, lC]))
        go_wp2_with fail
        go_meet
        have eB : Ext w6 (w6.alloc (.cells #[.slice oa2 O2.length oc2, .slice na2 N2.length nc2] 71)) := (Ext.refl w6).alloc _
        exact ⟨w6.heap.size, _, _, _, _, rfl, Blk.at w6 _ _ rfl, hE7.size, hov.ext eB, hnv.ext eB, Lib.hid hdis, hE7.trans eB⟩
       ·go_simp
        have eZ : Ext w5 (w5.alloc (.cells #[.slice none 0 0, .slice none 0 0] 71)).drew := ((Ext.refl w5).alloc _).drew'
        have bk0 := (Blk.at w5 [.slice none 0 0, .slice none 0 0] 71 rfl).ext (Ext.drew _)
        have hS1 := held_mk eZ
        (refine hK _ _ hS1 ?_; clear hK K; (try simp only [Act.put, lA, lB, lC]))
        (refine wpAnyT_doB 6 (by kernel_rfl) rfl (fun K hK => ?_))
        refine Bx.mk ?_
        go_simp
        refine (HC.out _ eZ).mono ?_
        rintro e w6 ⟨ov, nv, rfl, hov, hnv, hdis, hE6⟩
        obtain ⟨oa2, oc2, rfl, _⟩ := hov.len
        obtain ⟨na2, nc2, rfl, _⟩ := hnv.len
        have hE7 := eZ.trans hE6
        have hS2 := held_mk hE7
        have bk := bk0.ext hE6
        have z0 := bk.cell (i := 0) rfl
        have z1 := bk.cell (i := 1) rfl
        have zf := fun i => bk.frozen i
        (refine hK _ _ hS2 ?_; clear hK K; (try simp only [Act.put, lA, lB, lC]))
        (refine wpAnyT_lastB 8 (by kernel_rfl) rfl (by decide) (by kernel_rfl) (fun K hK => ?_))
        refine Bx.mk ?_
        go_simp
        (refine hK _ _ ?_; clear hK K; (try simp only [Act.put, lA, lB, lC]))
        go_wp2_with fail
        go_meet
        have h1 : (Value.slice oa2 O2.length oc2).ownBlock ≠ some w5.heap.size := fun e => by have := (hov.lt' _ e).1; simp at this; omega
        have h2 : (Value.slice na2 N2.length nc2).ownBlock ≠ some w5.heap.size := fun e => by have := (hnv.lt' _ e).1; simp at this; omega
        exact ⟨w5.heap.size, _, _, _, _, rfl, (bk.set 0 _).set 1 _, Nat.le_refl _, (OwnB.le hov (by simp)).set2' h1, (OwnB.le hnv (by simp)).set2' h2, Lib.hid hdis, Ext.setNew (p := ⟨w5.heap.size, 1, none⟩) (Ext.setNew (p := ⟨w5.heap.size, 0, none⟩) hE7 (Nat.le_refl _) _) (Nat.le_refl _) _⟩
      case rest =>
       obtain ⟨D, oa2, oc2, na2, nc2, rfl, bk, hDD, hov, hnv, hdis, hE6⟩ := hcut
       obtain ⟨w6, rfl⟩ : ∃ z : World, z = wc := ⟨_, rfl⟩
       have eA : Ext w6 (w6.alloc (.cells #[.slice oa2 O2.length oc2] 65)) := (Ext.refl w6).alloc _
       have hrA := rowAtN w6 #[.slice oa2 O2.length oc2] 65 (B := w6.heap.size) rfl
       have hoA := ownsRow_ext hor (hE6.trans eA)
       have hz6 := hE6.size
       have hsA : w.heap.size + 1 ≤ (w6.alloc (.cells #[.slice oa2 O2.length oc2] 65)).heap.size := by simp; omega
       have hnA : j + 1 ≤ 1073741824 := by omega
       have bkA := bk.ext eA
       have qA := (q0.ext hE6).ext eA
       have yA := (y4.ext hE6).ext eA
       have HOL := Lib.hid hor.lt
       have HOV := Lib.hid hov
       have HNV := Lib.hid hnv
       have d0 := bk.cell (i := 0) rfl
       have dl := bk.lt
       clear hor s0 hov hnv k0 k1
       go_wp2_with (at_builtin; go_loud (refine wpList_app tyRows hoA hrA rfl (by simp [Value.oneCell']) hnA hsA rfl rfl rfl rfl ?_); intro v9 w9 o9 g9 m9; obtain ⟨a9, c9, rfl, _⟩ := ownsRow_row o9; have bk9 := bkA.gr g9 (by intro e; have := (HOL.out _ e).2; omega); have z0 := bk9.cell (i := 0) rfl; have z1 := bk9.cell (i := 1) rfl; have zl := bk9.lt; have q9 := qA.gr g9 (by intro e; exact hUB.out _ e rfl); have f9 := fun i => q9.frozen i; have x9 := q9.cell (i := 0) rfl; have l9 := q9.lt)
       go_roundw
       case rel =>
        have hO9 := HOO.out.snoc (u := .slice oa2 O2.length oc2) (x := O2) (hE6.trans eA) (OwnB.le (HOV.out.ext eA) (by omega)) (fun q hq => (HOV.out.lt' q hq).1) g9 m9 (by rw [HRL.out]) (by exact o9)
        have hv2 : OwnB w9 w2.heap.size (.slice na2 N2.length nc2) N2 := OwnB.le (ownsRow_gr (HNV.out.ext eA) g9 (off_row (fun q hq e => by have := (HNV.out.lt' q hq).1; have := (HOL.out q e).2; omega))) (by omega)
        have hnq : ∀ q, (Value.slice na2 N2.length nc2).ownBlock = some q → q ≠ w3.heap.size := fun q hq => by have := (HNV.out.lt' q hq).1; omega
        have hub9 : ∀ q, (Value.slice a9 (j + 1) c9).ownBlock = some q → q ≠ w3.heap.size := fun q hq => by
         rcases m9 with em | ⟨x, em, hx⟩
         ·rw [em] at hq; exact hUB.out q hq
         ·rw [em] at hq; have : x = q := Option.some.inj hq; have := eA.size; omega
        have hvb9 : ∀ i q, ((vals ++ [Value.slice oa2 O2.length oc2]).getD i (.slice none 0 0)).ownBlock = some q → q ≠ w3.heap.size := fun i q hq => by
         rcases Nat.lt_or_ge i vals.length with h | h
         ·rw [getD_append_left _ _ _ _ h] at hq; exact hVB.out i q hq
         ·rw [List.getD_eq_getElem?_getD, List.getElem?_append_right h] at hq
          rcases Nat.eq_zero_or_pos (i - vals.length) with h0 | h0
          ·rw [h0] at hq
           have := (HOV.out.lt' q (by simpa using hq)).1
           omega
          ·rw [List.getElem?_eq_none (by simp; omega)] at hq; cases hq
        refine ⟨j + 1, vals ++ [.slice oa2 O2.length oc2], .slice na2 N2.length nc2, by omega, by go_num, ?_, Lib.hid hub9, Lib.hid hvb9, q9.set 0 _, ?_, Lib.hid (fun q hq => ⟨hnq q hq, fun e => ?_⟩), ?_, ?_⟩
        ·rw [HR1.out]; exact hO9.setCell' (fun e => hub9 _ e rfl) (fun i e => hvb9 i _ e rfl) _
        ·rw [HS1.out]; exact OwnB.setOther hv2 (fun e => hnq _ e rfl) _
        ·have h3 := (HNV.out.lt' q hq)
         rcases m9 with em | ⟨x, em, hx⟩
         ·rw [em] at e; have := (HOL.out q e).2; omega
         ·rw [em] at e; have : x = q := Option.some.inj e; have := eA.size; omega
        ·exact (yA.gr g9 (by intro e; have := (HOL.out _ e).1; omega)).setOther (by simp; omega) _
        ·exact Ext.setNew (ext_grown ((hE.trans hE6).trans eA) g9 (fun q hq => by have := (HOL.out q hq).1; omega)) (by simp; omega) _
       case measure => simp [intOf]; omega
     ·have hk2 : j = xss.length := by omega
      have hO2 : OwnR wr (w.heap.size + 1) u5 vals (runF k reset25 xss) := by rw [hk2, List.take_length] at hO; exact hO
      have HO2 := Lib.hid hO2
      clear hO2 hO hk2
      go_wp2
      go_ret
      rw [HVV.out]
      exact ⟨_, vals, rfl, HO2.out.le (by omega), hE⟩
 ·have hgt : (40 : Int) < (xss.length : Int) := by omega
  have hV := runFV_neg (k := k) (xss := xss) (fun h => h40 h.n)
  rw [hV]
  clear hV ha
  go_enter Try.func51, Try.ntmps51
  go_wp2_with fail
  refine (T1.out _ (hk.ext E0)).mono ?_
  rintro e w1 ⟨rfl, hE1⟩
  have X1 := X0.ext hE1
  go_wp2
  go_ret
  exact ⟨_, [], rfl, OWN.out _ _ _ X1 (by omega), E0.trans hE1⟩
end Go.Proofs.Ytgialedmbmfejaa

namespace Go.Proofs.Ytgialedmbmfejaa
open Go.RowKit
set_option maxRecDepth 100000
set_option linter.unusedVariables false
set_option linter.unusedSimpArgs false
set_option maxHeartbeats 8000000 in
theorem implRunFabric_c (k : Conf) (ta pa : Option Addr) (tc pc : Nat) (a : Option Addr) (cap : Nat) (xss : List (List Bool)) (w : World) (hk : ConfAt w k ta pa) (hr : RowsAt w a xss) (hl : xss.length ≤ 1048576) (hlr : ∀ j, j < xss.length → (xss.getD j []).length ≤ 1048576) :
  Calls Try.prog 33 #[.agg #[.slice ta k.ts.length tc, .slice pa k.ps.length pc], .slice a xss.length cap] w (GiveRows w (runFV k xss)) := by
 have T1 := Lib.hid (implConfigAcyclic_c k ta pa tc pc)
 have y := Blk.at w [.slice ta k.ts.length tc, .slice pa k.ps.length pc] 52 rfl
 have E0 : Ext w (w.alloc (.cells #[.slice ta k.ts.length tc, .slice pa k.ps.length pc] 52)) := (Ext.refl w).alloc _
 have HL := Lib.hid hlr
 clear hlr
 cases ha : acyV k
 ·have hV := runFV_neg (k := k) (xss := xss) (fun h => by have := h.a; rw [ha] at this; cases this)
  rw [hV]
  rw [ha] at T1
  clear hV ha
  go_enter Try.func33, Try.ntmps33
  go_wp2_with fail
  refine (T1.out _ (hk.ext E0)).mono ?_
  rintro e w1 ⟨rfl, hE1⟩
  go_wp2
  go_ret
  exact ⟨_, [], rfl, OwnR.nil, E0.trans hE1⟩
 rw [ha] at T1
 by_cases h40 : xss.length ≤ 40
 ·have hgt : ¬ (40 : Int) < (xss.length : Int) := by omega
  obtain ⟨V, HV⟩ : ∃ V, Hid (V = runFV k xss) := ⟨_, Lib.hid rfl⟩
  rw [← HV.out]
  have HA := Lib.hid ha
  clear ha
  go_enter Try.func33, Try.ntmps33
  go_wp2_with fail
  refine (T1.out _ (hk.ext E0)).mono ?_
  rintro e w1 ⟨rfl, hE1⟩
  have y1 := y.ext hE1
  have E1 := E0.trans hE1
  clear y E0 hE1 T1
  go_wp2_with fail
  go_loopw [22] (fun u22 wr => ∃ j : Nat, j ≤ xss.length ∧ u22 = .int .i64 j ∧ Hid (∀ i, i < j → (xss.getD i []).length ≤ 4) ∧ Ext w1 wr) (fun i _ => xss.length - (intOf i).toNat)
  case atStart => exact ⟨0, Nat.zero_le _, rfl, Lib.hid (fun i hi => absurd hi (Nat.not_lt_zero i)), Ext.refl _⟩
  case round =>
   obtain ⟨j, hj, rfl, hP, hE⟩ := hrel
   by_cases hlt : j < xss.length
   ·obtain ⟨gb, go, rfl, hgb, hg⟩ := (hr.ext (E1.trans hE)).get (by omega)
    obtain ⟨aj, cj, q, hA⟩ := hg j hlt
    have hrl := HL.out j hlt
    obtain ⟨row, hrow⟩ : ∃ r, r = xss.getD j [] := ⟨_, rfl⟩
    rw [← hrow] at q hA hrl
    have HROW := Lib.hid hrow
    clear hg hrow
    by_cases h4 : row.length ≤ 4
    ·have h4i : ¬ (4 : Int) < (row.length : Int) := by omega
     go_wp2
     go_roundw
     case rel =>
      refine ⟨j + 1, by omega, by go_num, Lib.hid (fun i hi => ?_), hE⟩
      rcases Nat.lt_or_ge i j with h | h
      ·exact hP.out i h
      ·have : i = j := by omega
       subst this; rw [← HROW.out]; exact h4
     case measure => simp [intOf]; omega
    ·have h4i : (4 : Int) < (row.length : Int) := by omega
     have hV : V = [] := by
      rw [HV.out]
      refine runFV_neg (fun h => ?_)
      have := h.r j hlt
      rw [← HROW.out] at this; omega
     subst hV
     go_wp2
     go_ret
     exact ⟨_, [], rfl, OwnR.nil, E1.trans hE⟩
   ·have hj2 : j = xss.length := by omega
    have hP : Hid (∀ i, i < xss.length → (xss.getD i []).length ≤ 4) := Lib.hid (by rw [← hj2]; exact hP.out)
    have HVV : Hid (V = runF k reset25 xss) := Lib.hid (by rw [HV.out]; exact runFV_pos ⟨HA.out, h40, hP.out⟩)
    have hok := acy_ok HA.out
    have hf : ∀ x : Wire, x.Ok → ∃ n, FinN k n x := fun x hx => acy_fin HA.out hx
    have y2 := y1.ext hE
    have E2 := E1.trans hE
    obtain ⟨w2, rfl⟩ : ∃ z : World, z = wr := ⟨_, rfl⟩
    clear hj2 y1 E1 hE
    go_wp2_with fail
    refine (implReset_c _).mono ?_
    rintro e w3 ⟨B, rfl, hB, hI, hE3⟩
    have y3 := y2.ext hE3
    have E3 := E2.trans hE3
    have zz := y2.lt
    have Bl := hI.lt
    have A3 : Ext w3 (w3.alloc (.cells #[.slice (some ⟨B, 0, none⟩) 25 25] 67)) := (Ext.refl w3).alloc _
    have S0 : OwnB (w3.alloc (.cells #[.slice (some ⟨B, 0, none⟩) 25 25] 67)) w2.heap.size (.slice (some ⟨B, 0, none⟩) 25 25) reset25 := (hI.ext A3).owns (n := 25) (size := 1) (by simp) hB (by decide)
    have q0 := Blk.at w3 [.slice (some ⟨B, 0, none⟩) 25 25] 67 rfl
    have y4 := y3.ext A3
    have E4 := E3.trans A3
    have zs : w3.heap.size + 1 ≤ (w3.alloc (.cells #[.slice (some ⟨B, 0, none⟩) 25 25] 67)).heap.size := by simp
    have hz3 := hE3.size
    clear y2 y3 hI E3 hE3 A3
    go_upto_region 11 with fail
    generalize w3.alloc (.cells #[.slice (some ⟨B, 0, none⟩) 25 25] 67) = W4 at *
    go_wp2_with fail
    go_loopw [8, 33] (fun u8 u33 wr => ∃ (j : Nat) (vals : List Value) (rv : Value), j ≤ xss.length ∧ u33 = .int .i64 j ∧ OwnR wr (w3.heap.size + 1) u8 vals (runF k reset25 (xss.take j)) ∧ Blk wr w3.heap.size 67 [rv] ∧ OwnB wr w2.heap.size rv (stF k reset25 (xss.take j)) ∧ Hid (∀ q, rv.ownBlock = some q → q ≠ w3.heap.size ∧ u8.ownBlock ≠ some q) ∧ Blk wr w.heap.size 52 [.slice ta k.ts.length tc, .slice pa k.ps.length pc] ∧ Ext w wr) (fun _ i _ => xss.length - (intOf i).toNat)
    case atStart => exact ⟨0, [], _, Nat.zero_le _, rfl, OwnR.nil, q0, S0, Lib.hid (fun q hq => ⟨by have : B = q := Option.some.inj hq; omega, by simp [Value.ownBlock]⟩), y4, E4⟩
    case round =>
     clear S0 q0 y4 E4 zs
     obtain ⟨j, vals, rv, hj, rfl, hO, q0, hS, hD, y4, hE⟩ := hrel
     by_cases hlt : j < xss.length
     ·obtain ⟨gb, go, rfl, hgb, hg⟩ := (hr.ext hE).get (by omega)
      obtain ⟨aj, cj, q, hA⟩ := hg j hlt
      have h4 := hP.out j hlt
      have hrl := runF_length k (xss.take j) reset25
      rw [List.length_take, Nat.min_eq_left hj] at hrl
      have hsl := stF_len k (xss.take j)
      have hr1 := runF_snoc k (xss.getD j []) (xss.take j) reset25
      have hs1 := stF_snoc k (xss.getD j []) (xss.take j) reset25
      rw [← take_snocG xss j [] hlt] at hr1 hs1
      obtain ⟨st, hst⟩ : ∃ st, st = stF k reset25 (xss.take j) := ⟨_, rfl⟩
      obtain ⟨row, hrow⟩ : ∃ r, r = xss.getD j [] := ⟨_, rfl⟩
      obtain ⟨outs, hou⟩ : ∃ r, r = runF k reset25 (xss.take j) := ⟨_, rfl⟩
      rw [← hst] at hS hr1 hs1 hsl
      rw [← hrow] at q hA hr1 hs1 h4
      rw [← hou] at hO hr1 hrl
      obtain ⟨sa, sc, rfl, hSA⟩ := hS.opened
      have hor := hO.row
      rw [hrl] at hor
      obtain ⟨oa, oc, rfl, _⟩ := ownsRow_row hor
      obtain ⟨w5, rfl⟩ : ∃ z : World, z = wr := ⟨_, rfl⟩
      have hc := stepFabric_c k ta pa sa aj tc pc sc cj w.heap.size st row hok hf (by omega) h4 w5 ⟨hk.ext hE, hSA, hA⟩ y4
      obtain ⟨O2, hO2⟩ : ∃ r, r = outsV k st row 3 := ⟨_, rfl⟩
      obtain ⟨N2, hN2⟩ : ∃ r, r = nextV k st row 25 := ⟨_, rfl⟩
      rw [← hO2] at hr1 hc
      rw [← hN2] at hs1 hc
      have HC := Lib.hid hc
      have HRL := Lib.hid hrl
      have HR1 := Lib.hid hr1
      have HS1 := Lib.hid hs1
      have HOO := Lib.hid hO
      have s0 := q0.cell (i := 0) rfl
      have sl := q0.lt
      have yl := y4.lt
      clear hg hst hrow hou hr1 hs1 hrl hsl hc hO2 hN2 hO
      go_wp2_with fail
      refine HC.out.mono ?_
      rintro e w6 ⟨ov, nv, rfl, hov, hnv, hdis, hE6⟩
      obtain ⟨oa2, oc2, rfl, _⟩ := hov.len
      obtain ⟨na2, nc2, rfl, _⟩ := hnv.len
      have bk := Blk.at w6 [.slice oa2 O2.length oc2, .slice na2 N2.length nc2] 71 rfl
      have eA : Ext w6 ((w6.alloc (.cells #[.slice oa2 O2.length oc2, .slice na2 N2.length nc2] 71)).alloc (.cells #[.slice oa2 O2.length oc2] 65)) := ((Ext.refl w6).alloc _).alloc _
      have hrA := rowAtN (w6.alloc (.cells #[.slice oa2 O2.length oc2, .slice na2 N2.length nc2] 71)) #[.slice oa2 O2.length oc2] 65 (B := w6.heap.size + 1) (by simp)
      have hoA := ownsRow_ext hor (hE6.trans eA)
      have hz6 := hE6.size
      have hsA : w3.heap.size + 1 ≤ ((w6.alloc (.cells #[.slice oa2 O2.length oc2, .slice na2 N2.length nc2] 71)).alloc (.cells #[.slice oa2 O2.length oc2] 65)).heap.size := by simp; omega
      have hnA : j + 1 ≤ 1073741824 := by omega
      have bkA := bk.ext ((Ext.refl _).alloc (.cells #[.slice oa2 O2.length oc2] 65))
      have qA := (q0.ext hE6).ext eA
      have yA := (y4.ext hE6).ext eA
      have HOL := Lib.hid hor.lt
      have HOV := Lib.hid hov
      have HNV := Lib.hid hnv
      clear hor s0 hov hnv
      go_wp2_with (at_builtin; go_loud (refine wpList_app tyRows hoA hrA rfl (by simp [Value.oneCell']) hnA hsA rfl rfl rfl rfl ?_); intro v9 w9 o9 g9 m9; obtain ⟨a9, c9, rfl, _⟩ := ownsRow_row o9; have bk9 := bkA.gr g9 (by intro e; have := (HOL.out _ e).2; omega); have z0 := bk9.cell (i := 0) rfl; have z1 := bk9.cell (i := 1) rfl; have zl := bk9.lt; have q9 := qA.gr g9 (by intro e; have := (HOL.out _ e).1; omega); have f9 := fun i => q9.frozen i; have x9 := q9.cell (i := 0) rfl; have l9 := q9.lt)
      go_roundw
      case rel =>
       have hO9 := HOO.out.snoc (u := .slice oa2 O2.length oc2) (x := O2) (hE6.trans eA) (OwnB.le (HOV.out.ext eA) (by omega)) (fun q hq => (HOV.out.lt' q hq).1) g9 m9 (by rw [HRL.out]) (by exact o9)
       have hv2 : OwnB w9 w2.heap.size (.slice na2 N2.length nc2) N2 := OwnB.le (ownsRow_gr (HNV.out.ext eA) g9 (off_row (fun q hq e => by have := (HNV.out.lt' q hq).1; have := (HOL.out q e).2; omega))) (by omega)
       have hnq : ∀ q, (Value.slice na2 N2.length nc2).ownBlock = some q → q ≠ w3.heap.size := fun q hq => by have := (HNV.out.lt' q hq).1; omega
       refine ⟨j + 1, vals ++ [.slice oa2 O2.length oc2], .slice na2 N2.length nc2, by omega, by go_num, ?_, q9.set 0 _, ?_, Lib.hid (fun q hq => ⟨hnq q hq, fun e => ?_⟩), ?_, ?_⟩
       ·rw [HR1.out]; exact hO9.setCell (by simp) _
       ·rw [HS1.out]; exact OwnB.setOther hv2 (fun e => hnq _ e rfl) _
       ·have h3 := (HNV.out.lt' q hq)
        rcases m9 with em | ⟨x, em, hx⟩
        ·rw [em] at e; have := (HOL.out q e).2; omega
        ·rw [em] at e; have : x = q := Option.some.inj e; have := eA.size; omega
       ·exact (yA.gr g9 (by intro e; have := (HOL.out _ e).1; omega)).setOther (by simp; omega) _
       ·exact Ext.setNew (ext_grown ((hE.trans hE6).trans eA) g9 (fun q hq => by have := (HOL.out q hq).1; omega)) (by simp; omega) _
      case measure => simp [intOf]; omega
     ·have hk2 : j = xss.length := by omega
      have hO2 : OwnR wr (w3.heap.size + 1) u8 vals (runF k reset25 xss) := by rw [hk2, List.take_length] at hO; exact hO
      have HO2 := Lib.hid hO2
      clear hO2 hO hk2
      go_wp2
      go_ret
      rw [HVV.out]
      exact ⟨_, vals, rfl, HO2.out.le (by omega), hE⟩
 ·have hgt : (40 : Int) < (xss.length : Int) := by omega
  have hV := runFV_neg (k := k) (xss := xss) (fun h => h40 h.n)
  rw [hV]
  clear hV ha
  go_enter Try.func33, Try.ntmps33
  go_wp2_with fail
  refine (T1.out _ (hk.ext E0)).mono ?_
  rintro e w1 ⟨rfl, hE1⟩
  go_wp2
  go_ret
  exact ⟨_, [], rfl, OwnR.nil, E0.trans hE1⟩
end Go.Proofs.Ytgialedmbmfejaa

