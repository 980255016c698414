/- Bundle: the values of wires. -/
import Derived.Test.YtkdiniaddnhkdaaWir0
import Derived.Test.YtkdiniaddnhkdaaBAcy
import Derived.Test.YtkdiniaddnhkdaaBEnc
import Derived.Test.YtkdiniaddnhkdaaRegion2
import Derived.Test.YtkdiniaddnhkdaaConfV
import Derived.Deep.DeepCutAuto
import Derived.Test.YtkdiniaddnhkdaaVal
namespace Go.Proofs.Ytkdiniaddnhkdaa
open Go.RowKit Go.Maps
set_option maxRecDepth 100000
set_option linter.unusedVariables false
set_option linter.unusedSimpArgs false
noncomputable abbrev bElem : Value → Option (DataW Unit × List MemPlace) := plainElem (H := Unit) Try.prog 4
theorem bMapTy : Try.prog.underlying 159 = some (.map 113 4) := Try.underlying159
theorem bZero (w : World) : (zeroValue 4).run Try.prog w = .ok (.bool false) w := by kernel_rfl
theorem bElem_of (x : Bool) : bElem (.bool x) = some (.lit (.bool x), []) := plainElem_bool Try.underlying4 x
theorem bElem_inv {v : Value} {z : DataW Unit × List MemPlace} (h : bElem v = some z) : ∃ c, v = .bool c ∧ z = (.lit (.bool c), []) := by
  unfold bElem plainElem at h
  rw [Try.underlying4] at h
  cases v <;> simp at h
  rename_i c
  exact ⟨c, rfl, h.symm⟩
/-- Block mb holds the values F of the wires that m marks. -/
def KnM (w : World) (mb : Nat) (F : Wire → Bool) (m : Marks) : Prop :=
  ∃ (n : Nat) (D : DataW Unit), w.ownsMap Try.prog 113 bElem mb n D ∧ n + zeros0 m 200 ≤ 200 ∧ (∀ x : Wire, x.Ok → Maps.has D (wKey x) = decide (m x.ix ≠ 0)) ∧ ∀ x : Wire, x.Ok → m x.ix ≠ 0 → D.atKey (wKey x) (.lit (.bool false)) = .lit (.bool (F x))
section
variable {w w' : World} {mb : Nat} {F : Wire → Bool} {m : Marks}
theorem KnM.lt (h : KnM w mb F m) : mb < w.heap.size := by obtain ⟨n, D, h, _⟩ := h; exact h.lt
theorem KnM.kept {r : Option Nat} (h : KnM w mb F m) (hg : w.grownBy w' r) (hne : some mb ≠ r) : KnM w' mb F m := by obtain ⟨n, D, h, r⟩ := h; exact ⟨n, D, h.kept hg hne, r⟩
theorem KnM.ext (h : KnM w mb F m) (e : Ext w w') : KnM w' mb F m := h.kept (Gr.ext e none) (by simp)
theorem KnM.made (w : World) (F : Wire → Bool) : KnM (w.alloc (.map #[] 0)) w.heap.size F mark0 :=
  ⟨0, .map [], World.ownsMap_made _ _ _ _, by have := zeros0_le mark0 200; omega, fun x _ => by simp [Maps.has, mark0], fun x _ h => absurd rfl h⟩
/-- 'v, ok := known[w]' -/
theorem KnM.look (h : KnM w mb F m) {x : Wire} (hx : x.Ok) : ∃ c, (∀ n, (Instr.lookup 159 (.map (some mb)) (.agg #[.int .i64 x.1, .int .i64 x.2]) true).run Try.prog (w.drewN n) = .ok (.tuple #[.bool c, .bool (decide (m x.ix ≠ 0))]) (w.drewN n)) ∧ (m x.ix ≠ 0 → c = F x) := by
  obtain ⟨n, D, h, _, hh, ha⟩ := h
  have hkey : keyOf Try.prog 113 (.agg #[.int .i64 x.1, .int .i64 x.2]) = some (wKey x) := wKeyOf x hx
  obtain ⟨v, ps, hr, hv⟩ := h.look_ok wLaw bMapTy (bZero w) (bElem_of false) hkey
  obtain ⟨c, rfl, e⟩ := bElem_inv hv
  refine ⟨c, fun n => ?_, fun hm => ?_⟩
  · have h' := h.kept (Gr.ext (Ext.drewN w n) none) (by simp)
    obtain ⟨v, ps, hr, hv⟩ := h'.look_ok wLaw bMapTy (bZero _) (bElem_of false) hkey
    obtain ⟨c', rfl, e'⟩ := bElem_inv hv
    simp at e e'
    rw [e.1] at e'
    simp at e'
    rw [hr, hh x hx, e'.1]
  · rw [ha x hx hm] at e
    simp at e
    exact e.1.symm
theorem KnM.put {n : Nat} {D : DataW Unit} (h : w.ownsMap Try.prog 113 bElem mb n D) (hn : n + zeros0 m 200 ≤ 200) (hh : ∀ x : Wire, x.Ok → Maps.has D (wKey x) = decide (m x.ix ≠ 0)) (ha : ∀ x : Wire, x.Ok → m x.ix ≠ 0 → D.atKey (wKey x) (.lit (.bool false)) = .lit (.bool (F x)))
    {x : Wire} (hx : x.Ok) (h0 : m x.ix = 0) (h1 : w'.ownsMap Try.prog 113 bElem mb (n + 1) (D.put (wKey x) (.lit (.bool (F x))))) : KnM w' mb F (upd m x.ix 1) := by
  have hz := zeros0_dec m x.ix 1 (by decide) h0 200 hx.ix
  refine ⟨_, _, h1, by omega, fun y hy => ?_, fun y hy hm => ?_⟩
  · by_cases e : y = x
    · subst e; rw [has_put_same h.isMap (wKey_is hx), upd_same]; simp
    · rw [has_put_other (wKey_ne hy hx e), hh y hy, upd_ne _ _ (fun e2 => e (Wire.ix_inj hy hx e2))]
  · by_cases e : y = x
    · subst e; rw [atKey_put_same h.isMap (wKey_is hx)]
    · rw [upd_ne _ _ (fun e2 => e (Wire.ix_inj hy hx e2))] at hm
      rw [atKey_put_other (wKey_ne hy hx e), ha y hy hm]
end
end Go.Proofs.Ytkdiniaddnhkdaa

namespace Go.Proofs.Ytkdiniaddnhkdaa
open Go.RowKit
set_option maxRecDepth 100000
set_option linter.unusedVariables false
set_option linter.unusedSimpArgs false
/-- Where a configuration, a state and inputs lie. -/
structure FabAt (w : World) (k : Conf) (ta pa : Option Addr) (ra : Option Addr) (regs : List Bool) (ia : Option Addr) (ins : List Bool) : Prop where
  k : ConfAt w k ta pa
  r : BoolsAt w ra regs
  i : BoolsAt w ia ins
theorem FabAt.ext {w w' : World} {k : Conf} {ta pa ra ia : Option Addr} {regs ins : List Bool} (h : FabAt w k ta pa ra regs ia ins) (e : Ext w w') : FabAt w' k ta pa ra regs ia ins := ⟨h.k.ext e, h.r.ext e, h.i.ext e⟩
section
variable (k : Conf) (ta pa ra ia : Option Addr) (tc pc rc ic : Nat) (regs ins : List Bool)
/-- A call on this wire gives its value. -/
def WireC (x : Wire) : Prop := ∀ w : World, FabAt w k ta pa ra regs ia ins →
    Calls Try.prog 133 #[.agg #[.slice ta k.ts.length tc, .slice pa k.ps.length pc], .agg #[.slice ra regs.length rc], .slice ia ins.length ic, .int .i64 x.1, .int .i64 x.2] w fun e w' => e = .returned (.bool (valW k regs ins x)) ∧ Ext w w'
end
theorem shl_add (X j : Nat) (hj : j < 3) (hX : X < 2 ^ j) : wrap64 ((X : Int) + wrap64 (2 ^ j)) = ((X + 2 ^ j : Nat) : Int) := by
  have : j = 0 ∨ j = 1 ∨ j = 2 := by omega
  rcases this with rfl | rfl | rfl
  all_goals
    simp at hX ⊢
    unfold wrap64
    omega
set_option maxHeartbeats 4000000 in
theorem l10Table_c (k : Conf) (ta pa ra ia : Option Addr) (tc pc rc ic : Nat) (regs ins : List Bool) (hok : k.Ok) (t : Nat) (ht : t < 25) (hH : ∀ y ∈ selW t (tileAt k t).sl, WireC k ta pa ra ia tc pc rc ic regs ins y) (w : World) (hF : FabAt w k ta pa ra regs ia ins) :
    Calls Try.prog 134 #[.agg #[.slice ta k.ts.length tc, .slice pa k.ps.length pc], .agg #[.slice ra regs.length rc], .slice ia ins.length ic, .int .i64 t] w fun e w' => e = .returned (.bool (tabV k (valW k regs ins) t)) ∧ Ext w w' := by
  obtain ⟨b, o, rfl, hb, hcc⟩ := hF.k.ts.get (by rw [hok.lt]; omega)
  obtain ⟨sa, sc, da, dc, p0, p1, p2, p3, hsl, hdr⟩ := hcc t (by rw [hok.lt]; omega)
  have hot := tileB_iff.1 (hok.ts t ht)
  have hss : ∀ j, j < 3 → trackB ((tileAt k t).sl.getD j 0) = true := hot.ss
  have ls := hot.ls
  have tb0 := hot.t0
  have tb1 := hot.t1
  have e1 : k.ts.getD t tile0 = tileAt k t := rfl
  rw [e1] at p0 p1 p2 p3 hsl ls tb0 tb1
  have htab : tabV k (valW k regs ins) t = (((tileAt k t).tb / 2 ^ ixT (rdV (valW k regs ins) t) (tileAt k t).sl 3) % 2 == 1) := rfl
  obtain ⟨x, hxx⟩ : ∃ x, x = tileAt k t := ⟨_, rfl⟩
  rw [← hxx] at p0 p1 p2 p3 hsl ls hss tb0 tb1 htab hH
  obtain ⟨T, hT⟩ : ∃ T, T = tabV k (valW k regs ins) t := ⟨_, rfl⟩
  rw [← hT] at htab ⊢
  have HT := Lib.hid htab
  have HH := Lib.hid hH
  have HSS := Lib.hid hss
  have HF := Lib.hid hF
  obtain ⟨ls1, ls2⟩ : x.sl.length ≤ 3 ∧ 3 ≤ x.sl.length := by omega
  obtain ⟨lt1, lt2⟩ : k.ts.length ≤ 25 ∧ 25 ≤ k.ts.length := by have := hok.lt; omega
  have y0 := (Blk.at w [.slice (some ⟨b, o, none⟩) k.ts.length tc, .slice pa k.ps.length pc] 25 rfl).alloc (.cells #[.slice ra regs.length rc] 63)
  have s0 := Blk.at (w.alloc (.cells #[.slice (some ⟨b, o, none⟩) k.ts.length tc, .slice pa k.ps.length pc] 25)) [.slice ra regs.length rc] 63 (B := w.heap.size + 1) (by simp)
  clear e1 hxx hcc hot htab hH hss hdr hT ls hF p3 p2
  go_enter Try.func134, Try.ntmps134
  go_wp2_with fail
  go_loopw [9, 10] (fun u9 u10 wr => ∃ j : Nat, j ≤ 3 ∧ u10 = .int .i64 j ∧ u9 = .int .i64 (ixT (rdV (valW k regs ins) t) x.sl j : Nat) ∧ Blk wr w.heap.size 25 [.slice (some ⟨b, o, none⟩) k.ts.length tc, .slice pa k.ps.length pc] ∧ Blk wr (w.heap.size + 1) 63 [.slice ra regs.length rc] ∧ Ext w wr) (fun _ i _ => 3 - (intOf i).toNat)
  case atStart => exact ⟨0, Nat.zero_le _, rfl, rfl, y0, s0, by (repeat (first | with_reducible assumption | with_reducible exact Ext.refl _ | with_reducible refine Ext.drew' ?_ | with_reducible refine Ext.drewN' ?_ _ | with_reducible refine Ext.alloc ?_ _ | (with_reducible refine Ext.setNew ?_ (by first | exact Nat.le_refl _ | (simp; done) | (simp; omega) | omega) _)))⟩
  case round =>
    clear y0 s0
    obtain ⟨j, hj, rfl, rfl, y0, s0, hE⟩ := hrel
    have yc0 := y0.cell (i := 0) rfl
    have yc1 := y0.cell (i := 1) rfl
    have sc0 := s0.cell (i := 0) rfl
    have yl := y0.lt
    have sl := s0.lt
    replace p0 := ((ecell hE).1 b _ hb).trans p0
    replace p1 := ((ecell hE).1 b _ hb).trans p1
    by_cases hlt : j < 3
    · obtain ⟨b3, o3, rfl, hb3, hc3⟩ := (hsl.ext hE).get (by omega)
      have q3 := hc3 j (by omega)
      have htr := trackB_cases (HSS.out j hlt)
      have hmem : x.sl.getD j 0 ∈ x.sl := by rw [List.getD_eq_getElem?_getD, List.getElem?_eq_getElem (by omega)]; exact List.getElem_mem _
      have hstep : ixT (rdV (valW k regs ins) t) x.sl (j + 1) = ixT (rdV (valW k regs ins) t) x.sl j + if rdV (valW k regs ins) t (x.sl.getD j 0) then 2 ^ j else 0 := rfl
      have hjl : j < x.sl.length := by omega
      have hji : (j : Int) < (x.sl.length : Int) := by omega
      obtain ⟨s, hs⟩ : ∃ s, s = x.sl.getD j 0 := ⟨_, rfl⟩
      rw [← hs] at q3 htr hmem hstep
      have HSTEP := Lib.hid hstep
      have hlt2 := ixT_lt (rdV (valW k regs ins) t) x.sl j
      obtain ⟨X, hX⟩ : ∃ X, X = ixT (rdV (valW k regs ins) t) x.sl j := ⟨_, rfl⟩
      rw [← hX] at HSTEP hlt2 ⊢
      clear hc3 hs hstep hX
      obtain ⟨w2, rfl⟩ : ∃ z : World, z = wr := ⟨_, rfl⟩
      by_cases h15 : s = 15
      · have hne : (s != 15) = false := by simp [h15]
        have hst : ixT (rdV (valW k regs ins) t) x.sl (j + 1) = X := by rw [HSTEP.out]; simp [rdV, h15]
        have HST := Lib.hid hst
        clear hst h15 htr hmem
        go_wp2
        go_roundw
        case rel => exact ⟨j + 1, by omega, by go_num, by rw [HST.out], y0, s0, hE⟩
        case measure => simp [intOf]; omega
      · have hne : (s != 15) = true := by simpa using h15
        obtain ⟨s0', s8⟩ : 0 ≤ s ∧ s < 8 := by omega
        have hc := HH.out _ (mem_selW hmem h15) w2 (HF.out.ext hE)
        obtain ⟨s', rfl⟩ : ∃ s' : Nat, s = s' := ⟨s.toNat, by omega⟩
        rw [Int.toNat_natCast] at hc
        have hst : ixT (rdV (valW k regs ins) t) x.sl (j + 1) = X + if valW k regs ins (t, s') then 2 ^ j else 0 := by
          rw [HSTEP.out]; unfold rdV; rw [hne, Int.toNat_natCast, Bool.true_and]
        obtain ⟨v, hv⟩ : ∃ v, v = valW k regs ins (t, s') := ⟨_, rfl⟩
        rw [← hv] at hc hst
        have HST := Lib.hid hst
        have HC := Lib.hid hc
        clear hst h15 htr hmem hc hv
        go_wp2_with fail
        refine HC.out.mono ?_
        rintro e w3 ⟨rfl, hE3⟩
        have y3 := y0.ext hE3
        have s3 := s0.ext hE3
        have hEE := hE.trans hE3
        have hpow : 2 ^ j ≤ 4 := by
          have : j = 0 ∨ j = 1 ∨ j = 2 := by omega
          rcases this with rfl | rfl | rfl <;> decide
        cases v
        · go_wp2
          go_roundw
          case rel => exact ⟨j + 1, by omega, by go_num, by rw [HST.out]; rfl, y3, s3, hEE⟩
          case measure => simp [intOf]; omega
        · have hw := shl_add X j hlt hlt2
          go_wp2
          go_roundw
          case rel => exact ⟨j + 1, by omega, by go_num, by rw [hw, HST.out, if_pos (by first | trivial | rfl)], y3, s3, hEE⟩
          case measure => simp [intOf]; omega
    · have hj3 : j = 3 := by omega
      subst hj3
      have hlt2 := ixT_lt (rdV (valW k regs ins) t) x.sl 3
      obtain ⟨X, hX⟩ : ∃ X, X = ixT (rdV (valW k regs ins) t) x.sl 3 := ⟨_, rfl⟩
      rw [← hX] at HT hlt2 ⊢
      have hX8 : X < 8 := hlt2
      have hnn : 0 ≤ x.tb / 2 ^ X := Int.ediv_nonneg tb0 (Int.pow_nonneg (by decide))
      have em : (x.tb / 2 ^ X).tmod 2 = (x.tb / 2 ^ X) % 2 := Int.tmod_eq_emod_of_nonneg hnn
      clear hX hlt2
      go_wp2
      go_ret
      exact ⟨by rw [HT.out]; rfl, hE⟩
theorem div5 (t : Nat) : ((t : Int) / 5) = ((t / 5 : Nat) : Int) := by omega
set_option maxHeartbeats 4000000 in
theorem l10Wire_c (k : Conf) (ta pa ra ia : Option Addr) (tc pc rc ic : Nat) (regs ins : List Bool) (hok : k.Ok) (hf : ∀ x : Wire, x.Ok → ∃ n, FinN k n x) (hr : 25 ≤ regs.length ∧ regs.length ≤ 25) (hil : ins.length ≤ 4) :
    ∀ (n : Nat) (x : Wire), x.Ok → rk k x < n → WireC k ta pa ra ia tc pc rc ic regs ins x := by
  intro n
  induction n with
  | zero => intro x _ h; exact absurd h (Nat.not_lt_zero _)
  | succ n ih =>
    intro ⟨t, c⟩ hx hn w hF
    have IH := Lib.hid (fun y (hy : y ∈ needW k (t, c)) => ih y (hok.need hx y hy) (by have := rk_lt (hf _ hx) hy; omega))
    clear ih
    have ht := hx.1
    have hc := hx.2
    dsimp only at ht hc
    dsimp only
    obtain ⟨b, o, rfl, hb, hcc⟩ := hF.k.ts.get (by rw [hok.lt]; omega)
    obtain ⟨sa, sc, da, dc, p0, p1, p2, p3, hsl, hdr⟩ := hcc t (by rw [hok.lt]; omega)
    have hot := tileB_iff.1 (hok.ts t ht)
    have hdv := hok.drv hx
    have hnbr := fun h2 h5 => hok.nb hx h2 h5
    have hneed : needW k (t, c) = if 2 ≤ drvAt k (t, c) ∧ drvAt k (t, c) ≤ 5 then [((nbV t (drvAt k (t, c))).toNat, c)] else if drvAt k (t, c) = 1 ∧ (tileAt k t).rg = false then selW t (tileAt k t).sl else [] := rfl
    have hval := valW_eq hok hf (regs := regs) (ins := ins) hx
    have hbody : bodyW k regs ins (valW k regs ins) (t, c) = if drvAt k (t, c) = 0 then false else if drvAt k (t, c) = 6 then decide (t / 5 < ins.length) && ins.getD (t / 5) false
      else if drvAt k (t, c) = 1 then (if (tileAt k t).rg then regs.getD t false else tabV k (valW k regs ins) t) else valW k regs ins ((nbV t (drvAt k (t, c))).toNat, c) := rfl
    have hdR := hok.drvR hx
    rw [hbody] at hval
    obtain ⟨b2, o2, rfl, hb2, hd2⟩ := hdr.get (by rw [hot.ld]; omega)
    have p4 := hd2 c (by rw [hot.ld]; omega)
    have ls := hot.ls
    have ld := hot.ld
    obtain ⟨d, hd⟩ : ∃ d, d = drvAt k (t, c) := ⟨_, rfl⟩
    have hd' : (tileAt k t).dr.getD c 0 = d := hd.symm
    have e1 : k.ts.getD t tile0 = tileAt k t := rfl
    rw [e1] at p0 p1 p2 p3 p4 hsl ls ld hd2
    rw [hd'] at p4
    rw [← hd] at hnbr hneed hval hdR
    have TC := Lib.hid (fun (h : d = 1 ∧ (tileAt k t).rg = false) => l10Table_c k (some ⟨b, o, none⟩) pa ra ia tc pc rc ic regs ins hok t ht (fun y hy => IH.out y (by rw [hneed, if_neg (by omega), if_pos h]; exact hy)))
    have NC := Lib.hid (fun (h2 : 2 ≤ d) (h5 : d ≤ 5) => IH.out ((nbV t d).toNat, c) (by rw [hneed, if_pos ⟨h2, h5⟩]; simp))
    clear hd hd' hcc hdr hot hdv hd2 hbody hneed IH
    obtain ⟨x, hxx⟩ : ∃ x, x = tileAt k t := ⟨_, rfl⟩
    rw [← hxx] at p0 p1 p2 p3 hsl ls ld hval TC
    clear e1 hxx
    obtain ⟨lt1, lt2⟩ : k.ts.length ≤ 25 ∧ 25 ≤ k.ts.length := by have := hok.lt; omega
    obtain ⟨ld1, ld2⟩ : x.dr.length ≤ 8 ∧ 8 ≤ x.dr.length := by omega
    obtain ⟨r1, r2⟩ := hr
    obtain ⟨R, hR⟩ : ∃ R, R = valW k regs ins (t, c) := ⟨_, rfl⟩
    rw [← hR] at hval ⊢
    have HR := Lib.hid hval
    have HNB := Lib.hid hnbr
    have HF := Lib.hid hF
    have y0 := (Blk.at w [.slice (some ⟨b, o, none⟩) k.ts.length tc, .slice pa k.ps.length pc] 25 rfl).alloc (.cells #[.slice ra regs.length rc] 63)
    have s0 := Blk.at (w.alloc (.cells #[.slice (some ⟨b, o, none⟩) k.ts.length tc, .slice pa k.ps.length pc] 25)) [.slice ra regs.length rc] 63 (B := w.heap.size + 1) (by simp)
    have Ey : Ext w ((w.alloc (.cells #[.slice (some ⟨b, o, none⟩) k.ts.length tc, .slice pa k.ps.length pc] 25)).alloc (.cells #[.slice ra regs.length rc] 63)) := by (repeat (first | with_reducible assumption | with_reducible exact Ext.refl _ | with_reducible refine Ext.drew' ?_ | with_reducible refine Ext.drewN' ?_ _ | with_reducible refine Ext.alloc ?_ _ | (with_reducible refine Ext.setNew ?_ (by first | exact Nat.le_refl _ | (simp; done) | (simp; omega) | omega) _)))
    have hdc : d = 0 ∨ d = 6 ∨ d = 1 ∨ (2 ≤ d ∧ d ≤ 5) := by omega
    have hri := hF.r
    have hii := hF.i
    clear hR hval hnbr hF ls ld hdR
    rcases hdc with rfl | rfl | rfl | ⟨h2, h5⟩
    · have hRR : R = false := HR.out
      subst hRR
      go_enter Try.func133, Try.ntmps133
      go_wp2
      go_ret
      exact ⟨rfl, Ey⟩
    · have hRR : R = (decide (t / 5 < ins.length) && ins.getD (t / 5) false) := HR.out
      have td : (t : Int).tdiv 5 = ((t / 5 : Nat) : Int) := by rw [Int.tdiv_eq_ediv_of_nonneg (by omega)]; omega
      have td2 : (t : Int) / 5 = ((t / 5 : Nat) : Int) := by omega
      by_cases hlt : t / 5 < ins.length
      · obtain ⟨b3, o3, rfl, hb3, hc3⟩ := hii.get (by omega)
        have q3 := hc3 (t / 5) hlt
        rw [decide_eq_true hlt, Bool.true_and] at hRR
        rw [← hRR] at q3
        have hli : ((t / 5 : Nat) : Int) < (ins.length : Int) := by omega
        obtain ⟨m, hm⟩ : ∃ m, m = t / 5 := ⟨_, rfl⟩
        rw [← hm] at q3 hlt hli td td2
        clear hRR hc3 hm
        go_enter Try.func133, Try.ntmps133
        go_wp2
        go_ret
        exact ⟨rfl, Ey⟩
      · rw [decide_eq_false hlt, Bool.false_and] at hRR
        subst hRR
        have hli : ¬ ((t / 5 : Nat) : Int) < (ins.length : Int) := by omega
        obtain ⟨m, hm⟩ : ∃ m, m = t / 5 := ⟨_, rfl⟩
        rw [← hm] at hlt hli td td2
        clear hm
        go_enter Try.func133, Try.ntmps133
        go_wp2
        go_ret
        exact ⟨rfl, Ey⟩
    · cases hrg : x.rg
      · have hRR : R = tabV k (valW k regs ins) t := by have := HR.out; rw [hrg] at this; exact this
        have T2 := Lib.hid (TC.out ⟨rfl, hrg⟩)
        rw [← hRR] at T2
        rw [hrg] at p2
        clear hRR HR TC NC hrg
        go_enter Try.func133, Try.ntmps133
        go_wp2_with fail
        refine (T2.out _ (HF.out.ext Ey)).mono ?_
        rintro e w3 ⟨rfl, hE3⟩
        go_wp2
        go_ret
        exact ⟨rfl, Ey.trans hE3⟩
      · have hRR : R = regs.getD t false := by have := HR.out; rw [hrg] at this; exact this
        obtain ⟨b3, o3, rfl, hb3, hc3⟩ := hri.get (by omega)
        have q3 := hc3 t (by omega)
        rw [← hRR] at q3
        rw [hrg] at p2
        clear hRR HR TC NC hrg hc3
        go_enter Try.func133, Try.ntmps133
        go_wp2
        go_ret
        exact ⟨rfl, Ey⟩
    · obtain ⟨nb0, nb1⟩ := HNB.out h2 h5
      dsimp only at nb0 nb1
      have hRR : R = valW k regs ins ((nbV t d).toNat, c) := by
        have := HR.out
        rwa [if_neg (by omega), if_neg (by omega), if_neg (by omega)] at this
      have NB := Lib.hid (fun w => l9Neighbour_c t ht d h2 h5 w)
      have N2 := Lib.hid (NC.out h2 h5)
      obtain ⟨nb, hnb⟩ : ∃ nb : Nat, nbV t d = nb := ⟨(nbV t d).toNat, by omega⟩
      rw [hnb] at NB N2 hRR
      rw [Int.toNat_natCast] at N2 hRR
      have N3 : Hid (∀ w : World, FabAt w k (some ⟨b, o, none⟩) pa ra regs ia ins → Calls Try.prog 133 #[.agg #[.slice (some ⟨b, o, none⟩) k.ts.length tc, .slice pa k.ps.length pc], .agg #[.slice ra regs.length rc], .slice ia ins.length ic, .int .i64 nb, .int .i64 c] w fun e w' => e = .returned (.bool R) ∧ Ext w w') := Lib.hid (by rw [hRR]; exact N2.out)
      have e0 : (d == 0) = false := by simp; omega
      have e6 : (d == 6) = false := by simp; omega
      have e1 : (d == 1) = false := by simp; omega
      have c0 := y0.cell (i := 0) rfl
      have c1 := y0.cell (i := 1) rfl
      have c2 := s0.cell (i := 0) rfl
      have zs : w.heap.size + 1 < ((w.alloc (.cells #[.slice (some ⟨b, o, none⟩) k.ts.length tc, .slice pa k.ps.length pc] 25)).alloc (.cells #[.slice ra regs.length rc] 63)).heap.size := by simp
      replace p0 := ((ecell Ey).1 b _ hb).trans p0
      replace p1 := ((ecell Ey).1 b _ hb).trans p1
      replace p2 := ((ecell Ey).1 b _ hb).trans p2
      replace p3 := ((ecell Ey).1 b _ hb).trans p3
      replace p4 := ((ecell Ey).1 b2 _ hb2).trans p4
      have HFE := Lib.hid (HF.out.ext Ey)
      clear hRR hnb NC TC HR N2 nb0 nb1 HNB
      go_enter Try.func133, Try.ntmps133
      go_upto_region 1 with fail
      generalize (w.alloc (.cells #[.slice (some ⟨b, o, none⟩) k.ts.length tc, .slice pa k.ps.length pc] 25)).alloc (.cells #[.slice ra regs.length rc] 63) = W at *
      go_wp2_with fail
      refine wp_regionT (fun w' => w'.cell? ⟨w.heap.size, 0, none⟩ = some (.slice (some ⟨b, o, none⟩) k.ts.length tc) ∧ w'.cell? ⟨w.heap.size, 1, none⟩ = some (.slice pa k.ps.length pc) ∧ w'.cell? ⟨w.heap.size + 1, 0, none⟩ = some (.slice ra regs.length rc)) 7 (by kernel_rfl) ?_
      have hS0 := And.intro (a := W.drew.cell? ⟨w.heap.size, 0, none⟩ = some (.slice (some ⟨b, o, none⟩) k.ts.length tc)) c0 (And.intro (a := W.drew.cell? ⟨w.heap.size, 1, none⟩ = some (.slice pa k.ps.length pc)) c1 (show W.drew.cell? ⟨w.heap.size + 1, 0, none⟩ = some (.slice ra regs.length rc) from c2))
      ((refine wpAnyT_take 0 (v := ?_) rfl (by kernel_rfl) (fun _ _ _ h => h) (Or.inl ⟨by kernel_rfl, ?_⟩) (by assumption) ?_; rotate_left; (intro wS hSw; (try dsimp only at hSw); go_simp; (try with_reducible rfl)); (try simp only [Act.put, List.setIfInBounds_toArray, List.set_cons_zero, List.set_cons_succ])); (refine wpAnyT_take 1 (v := ?_) rfl (by kernel_rfl) (fun _ _ _ h => h) (Or.inl ⟨by kernel_rfl, ?_⟩) (by assumption) ?_; rotate_left; (intro wS hSw; (try dsimp only at hSw); go_simp; (try with_reducible rfl)); (try simp only [Act.put, List.setIfInBounds_toArray, List.set_cons_zero, List.set_cons_succ])); (refine wpAnyT_take 2 (v := ?_) rfl (by kernel_rfl) (fun _ _ _ h => h) (Or.inl ⟨by kernel_rfl, ?_⟩) (by assumption) ?_; rotate_left; (intro wS hSw; (try dsimp only at hSw); go_simp; (try with_reducible rfl)); (try simp only [Act.put, List.setIfInBounds_toArray, List.set_cons_zero, List.set_cons_succ])); (refine wpAnyT_take 3 (v := ?_) rfl (by kernel_rfl) (fun _ _ _ h => h) (Or.inl ⟨by kernel_rfl, ?_⟩) (by assumption) ?_; rotate_left; (intro wS hSw; (try dsimp only at hSw); go_simp; (try with_reducible rfl)); (try simp only [Act.put, List.setIfInBounds_toArray, List.set_cons_zero, List.set_cons_succ])); (refine wpAnyT_take 4 (v := ?_) rfl (by kernel_rfl) (fun _ _ _ h => h) (Or.inl ⟨by kernel_rfl, ?_⟩) (by assumption) ?_; rotate_left; (intro wS hSw; (try dsimp only at hSw); go_simp; (try with_reducible rfl)); (try simp only [Act.put, List.setIfInBounds_toArray, List.set_cons_zero, List.set_cons_succ])); (refine wpAnyT_take 6 (v := ?_) rfl (by kernel_rfl) (fun _ _ _ h => h) (Or.inl ⟨by kernel_rfl, ?_⟩) (by assumption) ?_; rotate_left; (intro wS hSw; (try dsimp only at hSw); go_simp; (try with_reducible rfl)); (try simp only [Act.put, List.setIfInBounds_toArray, List.set_cons_zero, List.set_cons_succ])))
      (refine wpAnyT_do 5 (by kernel_rfl) rfl (fun K hK => ?_))
      go_simp
      refine (NB.out _).mono ?_
      rintro e w3 ⟨rfl, rfl⟩
      (refine hK _ _ hS0 ?_; clear hK K; (try simp only [Act.put, List.setIfInBounds_toArray, List.set_cons_zero, List.set_cons_succ]))
      (refine wpAnyT_doN 7 (by kernel_rfl) rfl (by decide) (fun K hK => ?_))
      go_simp
      refine (N3.out _ (HFE.out.ext (Ext.drew W))).mono ?_
      rintro e w4 ⟨rfl, hE4⟩
      (refine hK _ _ ?_; clear hK K; (try simp only [Act.put, List.setIfInBounds_toArray, List.set_cons_zero, List.set_cons_succ]))
      (refine wpAnyT_last 8 (by kernel_rfl) rfl (by decide) (by kernel_rfl) (fun K hK => ?_))
      go_simp
      (refine hK _ _ ?_; clear hK K; (try simp only [Act.put, List.setIfInBounds_toArray, List.set_cons_zero, List.set_cons_succ]))
      clear hS0
      go_wp2
      go_ret
      exact ⟨rfl, (Ey.trans (Ext.drew W)).trans hE4⟩
end Go.Proofs.Ytkdiniaddnhkdaa

namespace Go.Proofs.Ytkdiniaddnhkdaa
open Go.RowKit Go.Maps
set_option maxRecDepth 100000
set_option linter.unusedVariables false
set_option linter.unusedSimpArgs false
/-- Where a cycle that is under way lies. -/
structure RunAt (w0 : World) (rn kb mb : Nat) (kc rcs : List Value) (w : World) : Prop where
  r : Blk w rn 161 rcs
  y : Blk w kb 25 kc
  e : Ext w0 w
  n1 : rn ≠ mb
  n2 : kb ≠ mb
  n3 : w0.heap.size ≤ mb
section
variable {w0 w w' : World} {rn kb mb : Nat} {kc rcs : List Value}
theorem RunAt.ext (h : RunAt w0 rn kb mb kc rcs w) (e : Ext w w') : RunAt w0 rn kb mb kc rcs w' := { h with r := h.r.ext e, y := h.y.ext e, e := h.e.trans e }
theorem RunAt.gr (h : RunAt w0 rn kb mb kc rcs w) (g : w.grownBy w' (some mb)) : RunAt w0 rn kb mb kc rcs w' := { h with r := h.r.gr g (someNe (fun e => h.n1 e.symm)), y := h.y.gr g (someNe (fun e => h.n2 e.symm)), e := Gr.behind g h.e h.n3 }
end
def ValP (k : Conf) (N mb : Nat) (F : Wire → Bool) (m : Marks) (v : Bool) (w : World) (e : Ending) (w' : World) : Prop := ∃ m', e = .returned (.bool v) ∧ KnM w' mb F m' ∧ (∀ y : Wire, y.Ok → m' y.ix ≠ 0 → m y.ix = 0 → rk k y < N) ∧ w.grownBy w' (some mb)
def ValC (k : Conf) (w0 : World) (rn kb mb : Nat) (kc rcs : List Value) (F : Wire → Bool) (N : Nat) (x : Wire) : Prop := ∀ (m : Marks) (w : World), RunAt w0 rn kb mb kc rcs w → KnM w mb F m →
    Calls Try.prog 146 #[.pointer (some ⟨rn, 0, none⟩), .agg #[.int .i64 x.1, .int .i64 x.2]] w (ValP k N mb F m (F x) w)
theorem ValP.refl' {k : Conf} {N mb : Nat} {F : Wire → Bool} {m : Marks} {v : Bool} {w w' : World} (h : KnM w mb F m) (e : Ext w w') : ValP k N mb F m v w (.returned (.bool v)) w' := ⟨m, rfl, h.ext e, fun y hy h1 h2 => absurd h2 h1, Gr.ext e _⟩
theorem read_c (k : Conf) (w0 : World) (rn kb mb : Nat) (kc rcs : List Value) (F : Wire → Bool) (N t : Nat) (s : Int) (hs : s ≠ 15 → 0 ≤ s ∧ ValC k w0 rn kb mb kc rcs F N (t, s.toNat)) (m : Marks) (w : World) (hR : RunAt w0 rn kb mb kc rcs w) (hK : KnM w mb F m) :
    Calls Try.prog 135 #[.pointer (some ⟨rn, 0, none⟩), .int .i64 t, .int .i64 s] w (ValP k N mb F m (rdV F t s) w) := by
  by_cases h15 : s = 15
  · have hne : (s != 15) = false := by simp [h15]
    have hv : rdV F t s = false := by unfold rdV; rw [hne]; rfl
    rw [hv]
    clear hv h15 hs
    go_enter Try.func135, Try.ntmps135
    go_wp2
    go_ret
    exact ValP.refl' hK (Ext.refl _)
  · have hne : (s != 15) = true := by simpa using h15
    obtain ⟨h0, hc⟩ := hs h15
    have hv : rdV F t s = F (t, s.toNat) := by unfold rdV; rw [hne]; rfl
    rw [hv]
    obtain ⟨s', rfl⟩ : ∃ s' : Nat, s = s' := ⟨s.toNat, by omega⟩
    rw [Int.toNat_natCast] at hc ⊢
    have HC := Lib.hid (hc m w hR hK)
    clear hv h15 hs hc
    go_enter Try.func135, Try.ntmps135
    go_wp2_with fail
    refine HC.out.mono ?_
    rintro e w' ⟨m', rfl, r⟩
    go_wp2
    go_ret
    exact ⟨m', rfl, r⟩
theorem or_add (X j : Nat) (hj : j < 3) (hX : X < 2 ^ j) : bits .or .i64 (X : Int) (wrap64 (2 ^ j)) = ((X + 2 ^ j : Nat) : Int) := by
  have h1 : j = 0 ∨ j = 1 ∨ j = 2 := by omega
  rcases h1 with rfl | rfl | rfl
  · have : X = 0 := by simpa using hX
    subst this; first | rfl | decide +kernel
  · have : X = 0 ∨ X = 1 := by simp at hX; omega
    rcases this with rfl | rfl <;> (first | rfl | decide +kernel)
  · have : X = 0 ∨ X = 1 ∨ X = 2 ∨ X = 3 := by simp at hX; omega
    rcases this with rfl | rfl | rfl | rfl <;> (first | rfl | decide +kernel)
set_option maxHeartbeats 4000000 in
theorem table_c (k : Conf) (w0 : World) (rn kb mb : Nat) (ta pa : Option Addr) (tc pc : Nat) (sr si : Value) (F : Wire → Bool) (hok : k.Ok) (hk : ConfAt w0 k ta pa) (N t : Nat) (ht : t < 25) (hH : ∀ y ∈ selW t (tileAt k t).sl, ValC k w0 rn kb mb [.slice ta k.ts.length tc, .slice pa k.ps.length pc] [.pointer (some ⟨kb, 0, none⟩), sr, si, .map (some mb)] F N y) (m : Marks) (w : World) (hR : RunAt w0 rn kb mb [.slice ta k.ts.length tc, .slice pa k.ps.length pc] [.pointer (some ⟨kb, 0, none⟩), sr, si, .map (some mb)] w) (hK : KnM w mb F m) :
    Calls Try.prog 137 #[.pointer (some ⟨rn, 0, none⟩), .int .i64 t] w (ValP k N mb F m (tabV k F t) w) := by
  have hot := tileB_iff.1 (hok.ts t ht)
  have hss : ∀ j, j < 3 → trackB ((tileAt k t).sl.getD j 0) = true := hot.ss
  have ls : (tileAt k t).sl.length = 3 := hot.ls
  have tb0 : 0 ≤ (tileAt k t).tb := hot.t0
  have tb1 : (tileAt k t).tb < 256 := hot.t1
  obtain ⟨b, o, rfl, hb, hcc⟩ := hk.ts.get (by rw [hok.lt]; omega)
  obtain ⟨sa, sc, da, dc, p0, p1, p2, p3, hsl, hdr⟩ := hcc t (by rw [hok.lt]; omega)
  have e1 : k.ts.getD t tile0 = tileAt k t := rfl
  rw [e1] at p0 p1 p2 p3 hsl
  have htab : tabV k F t = (((tileAt k t).tb / 2 ^ ixT (rdV F t) (tileAt k t).sl 3) % 2 == 1) := rfl
  obtain ⟨x, hxx⟩ : ∃ x, x = tileAt k t := ⟨_, rfl⟩
  rw [← hxx] at p0 p1 p2 p3 hsl ls hss tb0 tb1 htab hH
  obtain ⟨T, hT⟩ : ∃ T, T = tabV k F t := ⟨_, rfl⟩
  rw [← hT] at htab ⊢
  have HT := Lib.hid htab
  have RC := Lib.hid (fun (s : Int) (hs : s ∈ x.sl) (hs2 : s ≠ 15 → 0 ≤ s) => read_c k w0 rn kb mb _ _ F N t s (fun h => ⟨hs2 h, hH _ (mem_selW hs h)⟩))
  have HSS := Lib.hid hss
  obtain ⟨ls1, ls2⟩ : x.sl.length ≤ 3 ∧ 3 ≤ x.sl.length := by omega
  obtain ⟨lt1, lt2⟩ : k.ts.length ≤ 25 ∧ 25 ≤ k.ts.length := by have := hok.lt; omega
  have P0 := p0
  have P1 := p1
  replace p0 := ((ecell hR.e).1 b _ hb).trans p0
  replace p1 := ((ecell hR.e).1 b _ hb).trans p1
  have r0 := hR.r.cell (i := 0) rfl
  have y0 := hR.y.cell (i := 0) rfl
  have rl := hR.r.lt
  have yl := hR.y.lt
  clear e1 hxx hcc hot htab hH hss hdr hT ls p3 p2
  go_enter Try.func137, Try.ntmps137
  go_wp2_with fail
  go_loopw [6, 23] (fun u6 u23 wr => ∃ (j : Nat) (m' : Marks), j ≤ x.sl.length ∧ u23 = .int .i64 j ∧ u6 = .int .i64 (ixT (rdV F t) x.sl j : Nat) ∧ KnM wr mb F m' ∧ Hid (∀ y : Wire, y.Ok → m' y.ix ≠ 0 → m y.ix = 0 → rk k y < N) ∧ w.grownBy wr (some mb)) (fun _ i _ => x.sl.length - (intOf i).toNat)
  case atStart => exact ⟨0, m, Nat.zero_le _, rfl, rfl, hK, Lib.hid (fun y hy h1 h2 => absurd h2 h1), Gr.refl _ _⟩
  case round =>
    clear p0 p1 r0 y0 rl yl
    obtain ⟨j, m', hj, rfl, rfl, hK', hN', hG⟩ := hrel
    have hR' := hR.gr hG
    have hE := hR'.e
    have p0 := ((ecell hE).1 b _ hb).trans P0
    have p1 := ((ecell hE).1 b _ hb).trans P1
    by_cases hlt : j < x.sl.length
    · obtain ⟨b3, o3, rfl, hb3, hc3⟩ := (hsl.ext hE).get (by omega)
      have q3 := hc3 j hlt
      have htr := trackB_cases (HSS.out j (by omega))
      have hmem : x.sl.getD j 0 ∈ x.sl := by rw [List.getD_eq_getElem?_getD, List.getElem?_eq_getElem hlt]; exact List.getElem_mem _
      have hstep : ixT (rdV F t) x.sl (j + 1) = ixT (rdV F t) x.sl j + if rdV F t (x.sl.getD j 0) then 2 ^ j else 0 := rfl
      obtain ⟨s, hs⟩ : ∃ s, s = x.sl.getD j 0 := ⟨_, rfl⟩
      rw [← hs] at q3 htr hmem hstep
      have hc := RC.out s hmem (fun h => by omega) m' wr hR' hK'
      obtain ⟨v, hv⟩ : ∃ v, v = rdV F t s := ⟨_, rfl⟩
      rw [← hv] at hc hstep
      have HSTEP := Lib.hid hstep
      have hlt2 := ixT_lt (rdV F t) x.sl j
      obtain ⟨X, hX⟩ : ∃ X, X = ixT (rdV F t) x.sl j := ⟨_, rfl⟩
      rw [← hX] at HSTEP hlt2 ⊢
      have HC := Lib.hid hc
      clear hc3 hs hstep hX hc hv htr hmem
      go_wp2_with fail
      refine HC.out.mono ?_
      rintro e w3 ⟨m3, rfl, hK3, hN3, hG3⟩
      have GG := Gr.trans hG hG3
      have hNN : Hid (∀ y : Wire, y.Ok → m3 y.ix ≠ 0 → m y.ix = 0 → rk k y < N) := Lib.hid (fun y hy h1 h2 => by
        by_cases h3 : m' y.ix = 0
        · exact hN3 y hy h1 h3
        · exact hN'.out y hy h3 h2)
      clear HC
      cases v
      · have hst : ixT (rdV F t) x.sl (j + 1) = X := HSTEP.out
        have HST := Lib.hid hst
        clear hst HSTEP
        go_wp2
        go_roundw
        case rel => exact ⟨j + 1, m3, by omega, by go_num, by rw [HST.out], hK3, hNN, GG⟩
        case measure => simp [intOf]; omega
      · have hst : ixT (rdV F t) x.sl (j + 1) = X + 2 ^ j := HSTEP.out
        have HST := Lib.hid hst
        have hw := or_add X j (by omega) hlt2
        clear hst HSTEP
        go_wp2
        go_roundw
        case rel => exact ⟨j + 1, m3, by omega, by go_num, by rw [HST.out]; simp, hK3, hNN, GG⟩
        case measure => simp [intOf]; omega
    · have hj3 : j = x.sl.length := by omega
      have hx3 : ixT (rdV F t) x.sl j = ixT (rdV F t) x.sl 3 := by congr 1; omega
      have hlt2 := ixT_lt (rdV F t) x.sl 3
      rw [hx3]
      obtain ⟨X, hX⟩ : ∃ X, X = ixT (rdV F t) x.sl 3 := ⟨_, rfl⟩
      rw [← hX] at HT hlt2 ⊢
      have hX8 : X < 8 := hlt2
      have hnn : 0 ≤ x.tb / 2 ^ X := Int.ediv_nonneg tb0 (Int.pow_nonneg (by decide))
      have hle : x.tb / 2 ^ X ≤ x.tb := Int.ediv_le_self _ tb0
      have em := and_one (x.tb / 2 ^ X) hnn (by omega)
      clear hX hlt2 hx3 hj3
      go_wp2
      go_ret
      exact ⟨m', by rw [HT.out]; rfl, hK', hN'.out, hG⟩
theorem step_updK {H : Type} {P : Program} {w : World} {k e t : TypeId} {R : Value → Option (DataW H × List MemPlace)} {b n : Nat} {D : DataW H} (hown : w.ownsMap P k R b n D) (K : Keyed P k) (ht : P.underlying t = some (.map k e)) (hn : n < maxLen)
    {key val : Value} {kl : Lit} {d : DataW H} {ps : List MemPlace} (hkey : keyOf P k key = some kl) (hval : R val = some (d, ps))
    {ops : Array Oper} {o : Oper} {a : Act} {K' : Act → World → Prop} {Q : Exit → Act → World → Prop} {E : Prop} (hgd : o.guard = none) {m x v : Operand} (ho : o.op = Op.mapUpdate t m x v)
    (hm : a.eval m = .map (some b)) (hx : a.eval x = key) (hv : a.eval v = val)
    (h : ∀ w', w'.ownsMap P k R b (n + 1) (D.put kl d) → w.grownBy w' (some b) → K' (a.put o.dst undef) w') : Bx (if Region.wanted o (yielded ops a.tmps) = true then o.wp P a w K' Q else E) := by
  refine ⟨?_⟩
  rw [if_pos (by simp [Region.wanted, hgd])]
  obtain ⟨w', hrun, r1, r2⟩ := hown.update K ht hn hkey hval
  unfold Oper.wp
  simp [execOp, ho, hm, hx, hv, hrun, Result.andThen]
  exact h w' r1 r2
set_option maxHeartbeats 8000000 in
theorem value_c (k : Conf) (w0 : World) (rn kb mb : Nat) (ta pa ra ia : Option Addr) (tc pc rc ic : Nat) (regs ins : List Bool) (hok : k.Ok) (hf : ∀ x : Wire, x.Ok → ∃ n, FinN k n x) (hr : 25 ≤ regs.length ∧ regs.length ≤ 25) (hil : ins.length ≤ 4) (hF : FabAt w0 k ta pa ra regs ia ins) :
    ∀ (n : Nat) (x : Wire), x.Ok → rk k x < n → ValC k w0 rn kb mb [.slice ta k.ts.length tc, .slice pa k.ps.length pc] [.pointer (some ⟨kb, 0, none⟩), .slice ra regs.length rc, .slice ia ins.length ic, .map (some mb)] (valW k regs ins) n x := by
  intro n
  induction n with
  | zero => intro x _ h; exact absurd h (Nat.not_lt_zero _)
  | succ n ih =>
    intro ⟨t, c⟩ hx hn m w hR hK
    by_cases hlow : rk k (t, c) < n
    · refine (ih (t, c) hx hlow m w hR hK).mono ?_
      rintro e w' ⟨m', rfl, a1, a2, a3⟩
      exact ⟨m', rfl, a1, fun y hy h1 h2 => by have := a2 y hy h1 h2; omega, a3⟩
    have IH := Lib.hid (fun y (hy : y ∈ needW k (t, c)) => ih y (hok.need hx y hy) (by have := rk_lt (hf _ hx) hy; omega))
    clear ih
    have ht := hx.1
    have hc := hx.2
    dsimp only at ht hc
    dsimp only
    have hkey : keyOf Try.prog 113 (.agg #[.int .i64 (t : Int), .int .i64 (c : Int)]) = some (wKey (t, c)) := wKeyOf (t, c) hx
    have A1 : Ext w (w.alloc (.cells #[.int .i64 t, .int .i64 c] 113)) := (Ext.refl w).alloc _
    have hK1 := hK.ext A1
    have hR1 := hR.ext A1
    have yx := Blk.at w [.int .i64 t, .int .i64 c] 113 rfl
    obtain ⟨cv, hlk, hcv⟩ := hK1.look hx
    replace hlk : ∀ n, (Instr.lookup 159 (.map (some mb)) (.agg #[.int .i64 (t : Int), .int .i64 (c : Int)]) true).run Try.prog ((w.alloc (.cells #[.int .i64 t, .int .i64 c] 113)).drewN n) = .ok (.tuple #[.bool cv, .bool (decide (m (Wire.ix (t, c)) ≠ 0))]) ((w.alloc (.cells #[.int .i64 t, .int .i64 c] 113)).drewN n) := hlk
    have HCV := Lib.hid hcv
    have z1 : w.heap.size < (w.alloc (.cells #[.int .i64 t, .int .i64 c] 113)).heap.size := by simp
    have mbl := hK.lt
    clear hcv hK hR
    have x0 := yx.cell (i := 0) rfl
    have x1 := yx.cell (i := 1) rfl
    have r0 := hR1.r.cell (i := 0) rfl
    have r1 := hR1.r.cell (i := 1) rfl
    have r2 := hR1.r.cell (i := 2) rfl
    have r3 := hR1.r.cell (i := 3) rfl
    have rl := hR1.r.lt
    have hlk1 := hlk 1
    go_enter Try.func146, Try.ntmps146
    go_upto_region 1 with fail
    generalize w.alloc (.cells #[.int .i64 t, .int .i64 c] 113) = W1 at *
    by_cases hm : m (Wire.ix (t, c)) = 0
    · have hd : decide (m (Wire.ix (t, c)) ≠ 0) = false := by simpa using hm
      rw [hd] at hlk hlk1
      clear hd
      go_quiet (fail)
      go_wp2_with fail
      have hD : Ext W1 (W1.drewN nq) := Ext.drewN W1 nq
      obtain ⟨W2, hW2⟩ : ∃ W2, W2 = W1.drewN nq := ⟨_, rfl⟩
      rw [← hW2] at hD ⊢
      replace A1 := A1.trans hD
      replace hK1 := hK1.ext hD
      replace hR1 := hR1.ext hD
      replace yx := yx.ext hD
      clear hW2 hlk hlk1 x0 x1 r0 r1 r2 r3 rl z1 hD HCV nq
      -- the tile
      obtain ⟨b, o, rfl, hb, hcc⟩ := hF.k.ts.get (by rw [hok.lt]; omega)
      obtain ⟨sa, sc, da, dc, p0, p1, p2, p3, hsl, hdr⟩ := hcc t (by rw [hok.lt]; omega)
      have hot := tileB_iff.1 (hok.ts t ht)
      have hnbr := fun h2 h5 => hok.nb hx h2 h5
      have hneed : needW k (t, c) = if 2 ≤ drvAt k (t, c) ∧ drvAt k (t, c) ≤ 5 then [((nbV t (drvAt k (t, c))).toNat, c)] else if drvAt k (t, c) = 1 ∧ (tileAt k t).rg = false then selW t (tileAt k t).sl else [] := rfl
      have hval := valW_eq hok hf (regs := regs) (ins := ins) hx
      have hbody : bodyW k regs ins (valW k regs ins) (t, c) = if drvAt k (t, c) = 0 then false else if drvAt k (t, c) = 6 then decide (t / 5 < ins.length) && ins.getD (t / 5) false
        else if drvAt k (t, c) = 1 then (if (tileAt k t).rg then regs.getD t false else tabV k (valW k regs ins) t) else valW k regs ins ((nbV t (drvAt k (t, c))).toNat, c) := rfl
      have hdR := hok.drvR hx
      rw [hbody] at hval
      obtain ⟨b2, o2, rfl, hb2, hd2⟩ := hdr.get (by rw [hot.ld]; omega)
      have p4 := hd2 c (by rw [hot.ld]; omega)
      have ld := hot.ld
      obtain ⟨d, hd⟩ : ∃ d, d = drvAt k (t, c) := ⟨_, rfl⟩
      have hd' : (tileAt k t).dr.getD c 0 = d := hd.symm
      have e1 : k.ts.getD t tile0 = tileAt k t := rfl
      rw [e1] at p0 p1 p2 p3 p4 hsl ld hd2
      rw [hd'] at p4
      rw [← hd] at hnbr hneed hval hdR
      have TC := Lib.hid (fun (h : d = 1 ∧ (tileAt k t).rg = false) => table_c k w0 rn kb mb (some ⟨b, o, none⟩) pa tc pc (.slice ra regs.length rc) (.slice ia ins.length ic) (valW k regs ins) hok hF.k n t ht (fun y hy => IH.out y (by rw [hneed, if_neg (by omega), if_pos h]; exact hy)))
      have NC := Lib.hid (fun (h2 : 2 ≤ d) (h5 : d ≤ 5) => IH.out ((nbV t d).toNat, c) (by rw [hneed, if_pos ⟨h2, h5⟩]; simp))
      clear hd hd' hcc hdr hot hd2 hbody hneed IH
      obtain ⟨x, hxx⟩ : ∃ x, x = tileAt k t := ⟨_, rfl⟩
      rw [← hxx] at p0 p1 p2 p3 hsl ld hval TC
      clear e1 hxx
      obtain ⟨lt1, lt2⟩ : k.ts.length ≤ 25 ∧ 25 ≤ k.ts.length := by have := hok.lt; omega
      obtain ⟨ld1, ld2⟩ : x.dr.length ≤ 8 ∧ 8 ≤ x.dr.length := by omega
      obtain ⟨rg1, rg2⟩ := hr
      have HRV := Lib.hid hval
      have HNB := Lib.hid hnbr
      have hri := hF.r
      have hii := hF.i
      have r0 := hR1.r.cell (i := 0) rfl
      have rl := hR1.r.lt
      have y0 := hR1.y.cell (i := 0) rfl
      have yl := hR1.y.lt
      have x0 := yx.cell (i := 0) rfl
      have x1 := yx.cell (i := 1) rfl
      have xl := yx.lt
      have P2 := p2
      replace p3 := ((ecell hR1.e).1 b _ hb).trans p3
      replace p4 := ((ecell hR1.e).1 b2 _ hb2).trans p4
      have hbW := Nat.lt_of_lt_of_le hb hR1.e.size
      have hbW2 := Nat.lt_of_lt_of_le hb2 hR1.e.size
      clear hval hnbr ld p0 p1 p2
      go_quiet (fail)
      have hD : Ext W2 (W2.drewN nq) := Ext.drewN W2 nq
      obtain ⟨W3, hW3⟩ : ∃ W3, W3 = W2.drewN nq := ⟨_, rfl⟩
      rw [← hW3] at hD ⊢
      replace A1 := A1.trans hD
      replace hK1 := hK1.ext hD
      replace hR1 := hR1.ext hD
      replace yx := yx.ext hD
      clear hW3 nq
      clear r0 y0 x0 x1 rl yl xl
      have x0 := yx.cell (i := 0) rfl
      have x1 := yx.cell (i := 1) rfl
      have xl := yx.lt
      replace p3 := ((ecell hD).1 b _ hbW).trans p3
      replace p4 := ((ecell hD).1 b2 _ hbW2).trans p4
      replace hbW := Nat.lt_of_lt_of_le hbW hD.size
      replace hbW2 := Nat.lt_of_lt_of_le hbW2 hD.size
      clear hD
      go_wp2_with fail
      go_quiet (fail)
      have hD : Ext W3 (W3.drewN nq) := Ext.drewN W3 nq
      obtain ⟨W4, hW4⟩ : ∃ W4, W4 = W3.drewN nq := ⟨_, rfl⟩
      rw [← hW4] at hD ⊢
      replace A1 := A1.trans hD
      replace hK1 := hK1.ext hD
      replace hR1 := hR1.ext hD
      replace yx := yx.ext hD
      clear hW4 nq
      clear x0 x1 xl hD p3 p4 hbW hbW2
      have x0 := yx.cell (i := 0) rfl
      have x1 := yx.cell (i := 1) rfl
      have xl := yx.lt
      have r0 := hR1.r.cell (i := 0) rfl
      have r1 := hR1.r.cell (i := 1) rfl
      have r2 := hR1.r.cell (i := 2) rfl
      have rl := hR1.r.lt
      have p2 := ((ecell hR1.e).1 b _ hb).trans P2
      have hdc : d = 0 ∨ d = 6 ∨ d = 1 ∨ (2 ≤ d ∧ d ≤ 5) := by omega
      rcases hdc with rfl | rfl | rfl | ⟨h2, h5⟩
      · replace HRV : Hid (valW k regs ins (t, c) = false) := HRV
        clear TC NC HNB p2 r0 r1 r2 x0 x1
        obtain ⟨sn, D, hown, hsn, hhas, hat⟩ := hK1
        have hvE : bElem (.bool false) = some (.lit (.bool false), []) := bElem_of false
        have xx0 := yx.cell (i := 0) rfl
        have xx1 := yx.cell (i := 1) rfl
        have xxl := yx.lt
        have rr3 := hR1.r.cell (i := 3) rfl
        have rrl := hR1.r.lt
        have HH1 := Lib.hid hhas
        have HH2 := Lib.hid hat
        clear hhas hat
        go_wp2_with fail
        refine wp_regionT (fun w' => w'.cell? ⟨rn, 3, none⟩ = some (.map (some mb)) ∧ w'.cell? ⟨w.heap.size, 0, none⟩ = some (.int .i64 t) ∧ w'.cell? ⟨w.heap.size, 1, none⟩ = some (.int .i64 c)) 6 (by kernel_rfl) ?_
        have hS0 := And.intro (a := (World.drew W4).cell? ⟨rn, 3, none⟩ = some (.map (some mb))) rr3 (And.intro (a := (World.drew W4).cell? ⟨w.heap.size, 0, none⟩ = some (.int .i64 t)) xx0 (show (World.drew W4).cell? ⟨w.heap.size, 1, none⟩ = some (.int .i64 c) from xx1))
        ((refine wpAnyT_take 0 (v := ?_) rfl (by kernel_rfl) (fun _ _ _ h => h) (Or.inl ⟨by kernel_rfl, ?_⟩) (by assumption) ?_; rotate_left; (intro wS hSw; (try dsimp only at hSw); go_simp; (try with_reducible rfl)); (try simp only [Act.put, List.setIfInBounds_toArray, List.set_cons_zero, List.set_cons_succ])); (refine wpAnyT_take 1 (v := ?_) rfl (by kernel_rfl) (fun _ _ _ h => h) (Or.inl ⟨by kernel_rfl, ?_⟩) (by assumption) ?_; rotate_left; (intro wS hSw; (try dsimp only at hSw); go_simp; (try with_reducible rfl)); (try simp only [Act.put, List.setIfInBounds_toArray, List.set_cons_zero, List.set_cons_succ])); (refine wpAnyT_take 2 (v := ?_) rfl (by kernel_rfl) (fun _ _ _ h => h) (Or.inl ⟨by kernel_rfl, ?_⟩) (by assumption) ?_; rotate_left; (intro wS hSw; (try dsimp only at hSw); go_simp; (try with_reducible rfl)); (try simp only [Act.put, List.setIfInBounds_toArray, List.set_cons_zero, List.set_cons_succ])); (refine wpAnyT_take 3 (v := ?_) rfl (by kernel_rfl) (fun _ _ _ h => h) (Or.inl ⟨by kernel_rfl, ?_⟩) (by assumption) ?_; rotate_left; (intro wS hSw; (try dsimp only at hSw); go_simp; (try with_reducible rfl)); (try simp only [Act.put, List.setIfInBounds_toArray, List.set_cons_zero, List.set_cons_succ])); (refine wpAnyT_take 4 (v := ?_) rfl (by kernel_rfl) (fun _ _ _ h => h) (Or.inl ⟨by kernel_rfl, ?_⟩) (by assumption) ?_; rotate_left; (intro wS hSw; (try dsimp only at hSw); go_simp; (try with_reducible rfl)); (try simp only [Act.put, List.setIfInBounds_toArray, List.set_cons_zero, List.set_cons_succ])); (refine wpAnyT_take 5 (v := ?_) rfl (by kernel_rfl) (fun _ _ _ h => h) (Or.inl ⟨by kernel_rfl, ?_⟩) (by assumption) ?_; rotate_left; (intro wS hSw; (try dsimp only at hSw); go_simp; (try with_reducible rfl)); (try simp only [Act.put, List.setIfInBounds_toArray, List.set_cons_zero, List.set_cons_succ])))
        have hD0 : (World.drew W4).ownsMap Try.prog 113 bElem mb sn D := hown
        (refine wpAnyT_lastB 6 (by kernel_rfl) rfl (by decide) (by kernel_rfl) (fun K hK => ?_))
        refine step_updK hD0 wLaw bMapTy (by unfold maxLen; omega) hkey hvE rfl rfl (by kernel_rfl) (by kernel_rfl) (by kernel_rfl) ?_
        intro w9 m9 g9
        go_simp
        (refine hK _ _ ?_; clear hK K; (try simp only [Act.put, List.setIfInBounds_toArray, List.set_cons_zero, List.set_cons_succ]))
        have hx0 : m (Wire.ix (t, c)) = 0 := hm
        have K9 := Lib.hid (KnM.put (F := valW k regs ins) hown hsn HH1.out HH2.out hx hx0 (by have e := HRV.out; rw [e]; exact m9))
        have G9 : w.grownBy w9 (some mb) := Gr.trans (Gr.trans (Gr.ext A1 _) (Gr.ext (Ext.drew _) _)) g9
        clear hS0 hD0 hown m9 g9 xx0 xx1 rr3
        go_wp2
        go_ret
        refine ⟨_, by rw [HRV.out]; rfl, K9.out, fun y hy h1 h2 => ?_, G9⟩
        by_cases e : y = (t, c)
        · subst e; omega
        · rw [upd_ne _ _ (fun e2 => e (Wire.ix_inj hy hx e2))] at h1
          have h3 := (fun y hy h1 h2 => absurd h2 h1 : ∀ y : Wire, y.Ok → m y.ix ≠ 0 → m y.ix = 0 → rk k y < n) y hy h1 h2
          omega
      · replace HRV : Hid (valW k regs ins (t, c) = (decide (t / 5 < ins.length) && ins.getD (t / 5) false)) := HRV
        have td : (t : Int).tdiv 5 = ((t / 5 : Nat) : Int) := by rw [Int.tdiv_eq_ediv_of_nonneg (by omega)]; omega
        have td2 : (t : Int) / 5 = ((t / 5 : Nat) : Int) := by omega
        clear TC NC HNB p2 r0 r1 x1
        by_cases hlt : t / 5 < ins.length
        · obtain ⟨b3, o3, rfl, hb3, hc3⟩ := (hii.ext hR1.e).get (by omega)
          have q3 := hc3 (t / 5) hlt
          have hli : ((t / 5 : Nat) : Int) < (ins.length : Int) := by omega
          obtain ⟨v, hv⟩ : ∃ v, v = ins.getD (t / 5) false := ⟨_, rfl⟩
          rw [← hv] at q3
          replace HRV : Hid (valW k regs ins (t, c) = v) := Lib.hid (by rw [HRV.out, decide_eq_true hlt, Bool.true_and, hv])
          obtain ⟨q, hq⟩ : ∃ q, q = t / 5 := ⟨_, rfl⟩
          rw [← hq] at q3 hlt hli td td2
          clear hc3 hq hv
          obtain ⟨sn, D, hown, hsn, hhas, hat⟩ := hK1
          have hvE : bElem (.bool v) = some (.lit (.bool v), []) := bElem_of v
          have xx0 := yx.cell (i := 0) rfl
          have xx1 := yx.cell (i := 1) rfl
          have xxl := yx.lt
          have rr3 := hR1.r.cell (i := 3) rfl
          have rrl := hR1.r.lt
          have HH1 := Lib.hid hhas
          have HH2 := Lib.hid hat
          clear hhas hat
          go_wp2_with fail
          refine wp_regionT (fun w' => w'.cell? ⟨rn, 3, none⟩ = some (.map (some mb)) ∧ w'.cell? ⟨w.heap.size, 0, none⟩ = some (.int .i64 t) ∧ w'.cell? ⟨w.heap.size, 1, none⟩ = some (.int .i64 c)) 6 (by kernel_rfl) ?_
          have hS0 := And.intro (a := (World.drew W4).cell? ⟨rn, 3, none⟩ = some (.map (some mb))) rr3 (And.intro (a := (World.drew W4).cell? ⟨w.heap.size, 0, none⟩ = some (.int .i64 t)) xx0 (show (World.drew W4).cell? ⟨w.heap.size, 1, none⟩ = some (.int .i64 c) from xx1))
          ((refine wpAnyT_take 0 (v := ?_) rfl (by kernel_rfl) (fun _ _ _ h => h) (Or.inl ⟨by kernel_rfl, ?_⟩) (by assumption) ?_; rotate_left; (intro wS hSw; (try dsimp only at hSw); go_simp; (try with_reducible rfl)); (try simp only [Act.put, List.setIfInBounds_toArray, List.set_cons_zero, List.set_cons_succ])); (refine wpAnyT_take 1 (v := ?_) rfl (by kernel_rfl) (fun _ _ _ h => h) (Or.inl ⟨by kernel_rfl, ?_⟩) (by assumption) ?_; rotate_left; (intro wS hSw; (try dsimp only at hSw); go_simp; (try with_reducible rfl)); (try simp only [Act.put, List.setIfInBounds_toArray, List.set_cons_zero, List.set_cons_succ])); (refine wpAnyT_take 2 (v := ?_) rfl (by kernel_rfl) (fun _ _ _ h => h) (Or.inl ⟨by kernel_rfl, ?_⟩) (by assumption) ?_; rotate_left; (intro wS hSw; (try dsimp only at hSw); go_simp; (try with_reducible rfl)); (try simp only [Act.put, List.setIfInBounds_toArray, List.set_cons_zero, List.set_cons_succ])); (refine wpAnyT_take 3 (v := ?_) rfl (by kernel_rfl) (fun _ _ _ h => h) (Or.inl ⟨by kernel_rfl, ?_⟩) (by assumption) ?_; rotate_left; (intro wS hSw; (try dsimp only at hSw); go_simp; (try with_reducible rfl)); (try simp only [Act.put, List.setIfInBounds_toArray, List.set_cons_zero, List.set_cons_succ])); (refine wpAnyT_take 4 (v := ?_) rfl (by kernel_rfl) (fun _ _ _ h => h) (Or.inl ⟨by kernel_rfl, ?_⟩) (by assumption) ?_; rotate_left; (intro wS hSw; (try dsimp only at hSw); go_simp; (try with_reducible rfl)); (try simp only [Act.put, List.setIfInBounds_toArray, List.set_cons_zero, List.set_cons_succ])); (refine wpAnyT_take 5 (v := ?_) rfl (by kernel_rfl) (fun _ _ _ h => h) (Or.inl ⟨by kernel_rfl, ?_⟩) (by assumption) ?_; rotate_left; (intro wS hSw; (try dsimp only at hSw); go_simp; (try with_reducible rfl)); (try simp only [Act.put, List.setIfInBounds_toArray, List.set_cons_zero, List.set_cons_succ])))
          have hD0 : (World.drew W4).ownsMap Try.prog 113 bElem mb sn D := hown
          (refine wpAnyT_lastB 6 (by kernel_rfl) rfl (by decide) (by kernel_rfl) (fun K hK => ?_))
          refine step_updK hD0 wLaw bMapTy (by unfold maxLen; omega) hkey hvE rfl rfl (by kernel_rfl) (by kernel_rfl) (by kernel_rfl) ?_
          intro w9 m9 g9
          go_simp
          (refine hK _ _ ?_; clear hK K; (try simp only [Act.put, List.setIfInBounds_toArray, List.set_cons_zero, List.set_cons_succ]))
          have hx0 : m (Wire.ix (t, c)) = 0 := hm
          have K9 := Lib.hid (KnM.put (F := valW k regs ins) hown hsn HH1.out HH2.out hx hx0 (by have e := HRV.out; rw [e]; exact m9))
          have G9 : w.grownBy w9 (some mb) := Gr.trans (Gr.trans (Gr.ext A1 _) (Gr.ext (Ext.drew _) _)) g9
          clear hS0 hD0 hown m9 g9 xx0 xx1 rr3
          go_wp2
          go_ret
          refine ⟨_, by rw [HRV.out]; rfl, K9.out, fun y hy h1 h2 => ?_, G9⟩
          by_cases e : y = (t, c)
          · subst e; omega
          · rw [upd_ne _ _ (fun e2 => e (Wire.ix_inj hy hx e2))] at h1
            have h3 := (fun y hy h1 h2 => absurd h2 h1 : ∀ y : Wire, y.Ok → m y.ix ≠ 0 → m y.ix = 0 → rk k y < n) y hy h1 h2
            omega
        · have hli : ¬ ((t / 5 : Nat) : Int) < (ins.length : Int) := by omega
          replace HRV : Hid (valW k regs ins (t, c) = false) := Lib.hid (by rw [HRV.out, decide_eq_false hlt, Bool.false_and])
          obtain ⟨q, hq⟩ : ∃ q, q = t / 5 := ⟨_, rfl⟩
          rw [← hq] at hlt hli td td2
          clear hq
          obtain ⟨sn, D, hown, hsn, hhas, hat⟩ := hK1
          have hvE : bElem (.bool false) = some (.lit (.bool false), []) := bElem_of false
          have xx0 := yx.cell (i := 0) rfl
          have xx1 := yx.cell (i := 1) rfl
          have xxl := yx.lt
          have rr3 := hR1.r.cell (i := 3) rfl
          have rrl := hR1.r.lt
          have HH1 := Lib.hid hhas
          have HH2 := Lib.hid hat
          clear hhas hat
          go_wp2_with fail
          refine wp_regionT (fun w' => w'.cell? ⟨rn, 3, none⟩ = some (.map (some mb)) ∧ w'.cell? ⟨w.heap.size, 0, none⟩ = some (.int .i64 t) ∧ w'.cell? ⟨w.heap.size, 1, none⟩ = some (.int .i64 c)) 6 (by kernel_rfl) ?_
          have hS0 := And.intro (a := (World.drew W4).cell? ⟨rn, 3, none⟩ = some (.map (some mb))) rr3 (And.intro (a := (World.drew W4).cell? ⟨w.heap.size, 0, none⟩ = some (.int .i64 t)) xx0 (show (World.drew W4).cell? ⟨w.heap.size, 1, none⟩ = some (.int .i64 c) from xx1))
          ((refine wpAnyT_take 0 (v := ?_) rfl (by kernel_rfl) (fun _ _ _ h => h) (Or.inl ⟨by kernel_rfl, ?_⟩) (by assumption) ?_; rotate_left; (intro wS hSw; (try dsimp only at hSw); go_simp; (try with_reducible rfl)); (try simp only [Act.put, List.setIfInBounds_toArray, List.set_cons_zero, List.set_cons_succ])); (refine wpAnyT_take 1 (v := ?_) rfl (by kernel_rfl) (fun _ _ _ h => h) (Or.inl ⟨by kernel_rfl, ?_⟩) (by assumption) ?_; rotate_left; (intro wS hSw; (try dsimp only at hSw); go_simp; (try with_reducible rfl)); (try simp only [Act.put, List.setIfInBounds_toArray, List.set_cons_zero, List.set_cons_succ])); (refine wpAnyT_take 2 (v := ?_) rfl (by kernel_rfl) (fun _ _ _ h => h) (Or.inl ⟨by kernel_rfl, ?_⟩) (by assumption) ?_; rotate_left; (intro wS hSw; (try dsimp only at hSw); go_simp; (try with_reducible rfl)); (try simp only [Act.put, List.setIfInBounds_toArray, List.set_cons_zero, List.set_cons_succ])); (refine wpAnyT_take 3 (v := ?_) rfl (by kernel_rfl) (fun _ _ _ h => h) (Or.inl ⟨by kernel_rfl, ?_⟩) (by assumption) ?_; rotate_left; (intro wS hSw; (try dsimp only at hSw); go_simp; (try with_reducible rfl)); (try simp only [Act.put, List.setIfInBounds_toArray, List.set_cons_zero, List.set_cons_succ])); (refine wpAnyT_take 4 (v := ?_) rfl (by kernel_rfl) (fun _ _ _ h => h) (Or.inl ⟨by kernel_rfl, ?_⟩) (by assumption) ?_; rotate_left; (intro wS hSw; (try dsimp only at hSw); go_simp; (try with_reducible rfl)); (try simp only [Act.put, List.setIfInBounds_toArray, List.set_cons_zero, List.set_cons_succ])); (refine wpAnyT_take 5 (v := ?_) rfl (by kernel_rfl) (fun _ _ _ h => h) (Or.inl ⟨by kernel_rfl, ?_⟩) (by assumption) ?_; rotate_left; (intro wS hSw; (try dsimp only at hSw); go_simp; (try with_reducible rfl)); (try simp only [Act.put, List.setIfInBounds_toArray, List.set_cons_zero, List.set_cons_succ])))
          have hD0 : (World.drew W4).ownsMap Try.prog 113 bElem mb sn D := hown
          (refine wpAnyT_lastB 6 (by kernel_rfl) rfl (by decide) (by kernel_rfl) (fun K hK => ?_))
          refine step_updK hD0 wLaw bMapTy (by unfold maxLen; omega) hkey hvE rfl rfl (by kernel_rfl) (by kernel_rfl) (by kernel_rfl) ?_
          intro w9 m9 g9
          go_simp
          (refine hK _ _ ?_; clear hK K; (try simp only [Act.put, List.setIfInBounds_toArray, List.set_cons_zero, List.set_cons_succ]))
          have hx0 : m (Wire.ix (t, c)) = 0 := hm
          have K9 := Lib.hid (KnM.put (F := valW k regs ins) hown hsn HH1.out HH2.out hx hx0 (by have e := HRV.out; rw [e]; exact m9))
          have G9 : w.grownBy w9 (some mb) := Gr.trans (Gr.trans (Gr.ext A1 _) (Gr.ext (Ext.drew _) _)) g9
          clear hS0 hD0 hown m9 g9 xx0 xx1 rr3
          go_wp2
          go_ret
          refine ⟨_, by rw [HRV.out]; rfl, K9.out, fun y hy h1 h2 => ?_, G9⟩
          by_cases e : y = (t, c)
          · subst e; omega
          · rw [upd_ne _ _ (fun e2 => e (Wire.ix_inj hy hx e2))] at h1
            have h3 := (fun y hy h1 h2 => absurd h2 h1 : ∀ y : Wire, y.Ok → m y.ix ≠ 0 → m y.ix = 0 → rk k y < n) y hy h1 h2
            omega
      · replace HRV : Hid (valW k regs ins (t, c) = if x.rg then regs.getD t false else tabV k (valW k regs ins) t) := HRV
        cases hrg : x.rg
        · replace HRV : Hid (valW k regs ins (t, c) = tabV k (valW k regs ins) t) := Lib.hid (by rw [HRV.out, hrg]; rfl)
          have T2 := TC.out ⟨rfl, hrg⟩ m W4 hR1 hK1
          obtain ⟨v, hv⟩ : ∃ v, v = tabV k (valW k regs ins) t := ⟨_, rfl⟩
          rw [← hv] at HRV T2
          have HT2 := Lib.hid T2
          rw [hrg] at p2
          clear hrg TC NC hv T2 x1 r0 r1 r2 HNB
          go_wp2_with fail
          refine HT2.out.mono ?_
          rintro e W5 ⟨m5, rfl, hK5, hN5, hG5⟩
          have hR5 := hR1.gr hG5
          have yx5 := yx.gr hG5 (someNe (by omega))
          have GG5 := Gr.trans (Gr.ext A1 _) hG5
          clear HT2 p2 x0
          obtain ⟨sn, D, hown, hsn, hhas, hat⟩ := hK5
          have hvE : bElem (.bool v) = some (.lit (.bool v), []) := bElem_of v
          have xx0 := yx5.cell (i := 0) rfl
          have xx1 := yx5.cell (i := 1) rfl
          have xxl := yx5.lt
          have rr3 := hR5.r.cell (i := 3) rfl
          have rrl := hR5.r.lt
          have HH1 := Lib.hid hhas
          have HH2 := Lib.hid hat
          clear hhas hat
          go_wp2_with fail
          refine wp_regionT (fun w' => w'.cell? ⟨rn, 3, none⟩ = some (.map (some mb)) ∧ w'.cell? ⟨w.heap.size, 0, none⟩ = some (.int .i64 t) ∧ w'.cell? ⟨w.heap.size, 1, none⟩ = some (.int .i64 c)) 6 (by kernel_rfl) ?_
          have hS0 := And.intro (a := (World.drew W5).cell? ⟨rn, 3, none⟩ = some (.map (some mb))) rr3 (And.intro (a := (World.drew W5).cell? ⟨w.heap.size, 0, none⟩ = some (.int .i64 t)) xx0 (show (World.drew W5).cell? ⟨w.heap.size, 1, none⟩ = some (.int .i64 c) from xx1))
          ((refine wpAnyT_take 0 (v := ?_) rfl (by kernel_rfl) (fun _ _ _ h => h) (Or.inl ⟨by kernel_rfl, ?_⟩) (by assumption) ?_; rotate_left; (intro wS hSw; (try dsimp only at hSw); go_simp; (try with_reducible rfl)); (try simp only [Act.put, List.setIfInBounds_toArray, List.set_cons_zero, List.set_cons_succ])); (refine wpAnyT_take 1 (v := ?_) rfl (by kernel_rfl) (fun _ _ _ h => h) (Or.inl ⟨by kernel_rfl, ?_⟩) (by assumption) ?_; rotate_left; (intro wS hSw; (try dsimp only at hSw); go_simp; (try with_reducible rfl)); (try simp only [Act.put, List.setIfInBounds_toArray, List.set_cons_zero, List.set_cons_succ])); (refine wpAnyT_take 2 (v := ?_) rfl (by kernel_rfl) (fun _ _ _ h => h) (Or.inl ⟨by kernel_rfl, ?_⟩) (by assumption) ?_; rotate_left; (intro wS hSw; (try dsimp only at hSw); go_simp; (try with_reducible rfl)); (try simp only [Act.put, List.setIfInBounds_toArray, List.set_cons_zero, List.set_cons_succ])); (refine wpAnyT_take 3 (v := ?_) rfl (by kernel_rfl) (fun _ _ _ h => h) (Or.inl ⟨by kernel_rfl, ?_⟩) (by assumption) ?_; rotate_left; (intro wS hSw; (try dsimp only at hSw); go_simp; (try with_reducible rfl)); (try simp only [Act.put, List.setIfInBounds_toArray, List.set_cons_zero, List.set_cons_succ])); (refine wpAnyT_take 4 (v := ?_) rfl (by kernel_rfl) (fun _ _ _ h => h) (Or.inl ⟨by kernel_rfl, ?_⟩) (by assumption) ?_; rotate_left; (intro wS hSw; (try dsimp only at hSw); go_simp; (try with_reducible rfl)); (try simp only [Act.put, List.setIfInBounds_toArray, List.set_cons_zero, List.set_cons_succ])); (refine wpAnyT_take 5 (v := ?_) rfl (by kernel_rfl) (fun _ _ _ h => h) (Or.inl ⟨by kernel_rfl, ?_⟩) (by assumption) ?_; rotate_left; (intro wS hSw; (try dsimp only at hSw); go_simp; (try with_reducible rfl)); (try simp only [Act.put, List.setIfInBounds_toArray, List.set_cons_zero, List.set_cons_succ])))
          have hD0 : (World.drew W5).ownsMap Try.prog 113 bElem mb sn D := hown
          (refine wpAnyT_lastB 6 (by kernel_rfl) rfl (by decide) (by kernel_rfl) (fun K hK => ?_))
          refine step_updK hD0 wLaw bMapTy (by unfold maxLen; omega) hkey hvE rfl rfl (by kernel_rfl) (by kernel_rfl) (by kernel_rfl) ?_
          intro w9 m9 g9
          go_simp
          (refine hK _ _ ?_; clear hK K; (try simp only [Act.put, List.setIfInBounds_toArray, List.set_cons_zero, List.set_cons_succ]))
          have hx0 : m5 (Wire.ix (t, c)) = 0 := Classical.byContradiction (fun h => hlow (hN5 _ hx h hm))
          have K9 := Lib.hid (KnM.put (F := valW k regs ins) hown hsn HH1.out HH2.out hx hx0 (by have e := HRV.out; rw [e]; exact m9))
          have G9 : w.grownBy w9 (some mb) := Gr.trans (Gr.trans GG5 (Gr.ext (Ext.drew _) _)) g9
          clear hS0 hD0 hown m9 g9 xx0 xx1 rr3
          go_wp2
          go_ret
          refine ⟨_, by rw [HRV.out]; rfl, K9.out, fun y hy h1 h2 => ?_, G9⟩
          by_cases e : y = (t, c)
          · subst e; omega
          · rw [upd_ne _ _ (fun e2 => e (Wire.ix_inj hy hx e2))] at h1
            have h3 := hN5 y hy h1 h2
            omega
        · replace HRV : Hid (valW k regs ins (t, c) = regs.getD t false) := Lib.hid (by rw [HRV.out, hrg]; rfl)
          obtain ⟨b3, o3, rfl, hb3, hc3⟩ := (hri.ext hR1.e).get (by omega)
          have q3 := hc3 t (by omega)
          obtain ⟨v, hv⟩ : ∃ v, v = regs.getD t false := ⟨_, rfl⟩
          rw [← hv] at HRV q3
          rw [hrg] at p2
          clear hrg TC NC hv hc3 x1 r2 HNB
          go_wp2_with fail
          go_quiet (fail)
          have hD : Ext W4 (W4.drewN nq) := Ext.drewN W4 nq
          obtain ⟨W5, hW5⟩ : ∃ W5, W5 = W4.drewN nq := ⟨_, rfl⟩
          rw [← hW5] at hD ⊢
          replace A1 := A1.trans hD
          replace hK1 := hK1.ext hD
          replace hR1 := hR1.ext hD
          replace yx := yx.ext hD
          clear hW5 nq
          clear hD x0 r0 r1 p2 q3
          obtain ⟨sn, D, hown, hsn, hhas, hat⟩ := hK1
          have hvE : bElem (.bool v) = some (.lit (.bool v), []) := bElem_of v
          have xx0 := yx.cell (i := 0) rfl
          have xx1 := yx.cell (i := 1) rfl
          have xxl := yx.lt
          have rr3 := hR1.r.cell (i := 3) rfl
          have rrl := hR1.r.lt
          have HH1 := Lib.hid hhas
          have HH2 := Lib.hid hat
          clear hhas hat
          go_wp2_with fail
          refine wp_regionT (fun w' => w'.cell? ⟨rn, 3, none⟩ = some (.map (some mb)) ∧ w'.cell? ⟨w.heap.size, 0, none⟩ = some (.int .i64 t) ∧ w'.cell? ⟨w.heap.size, 1, none⟩ = some (.int .i64 c)) 6 (by kernel_rfl) ?_
          have hS0 := And.intro (a := (World.drew W5).cell? ⟨rn, 3, none⟩ = some (.map (some mb))) rr3 (And.intro (a := (World.drew W5).cell? ⟨w.heap.size, 0, none⟩ = some (.int .i64 t)) xx0 (show (World.drew W5).cell? ⟨w.heap.size, 1, none⟩ = some (.int .i64 c) from xx1))
          ((refine wpAnyT_take 0 (v := ?_) rfl (by kernel_rfl) (fun _ _ _ h => h) (Or.inl ⟨by kernel_rfl, ?_⟩) (by assumption) ?_; rotate_left; (intro wS hSw; (try dsimp only at hSw); go_simp; (try with_reducible rfl)); (try simp only [Act.put, List.setIfInBounds_toArray, List.set_cons_zero, List.set_cons_succ])); (refine wpAnyT_take 1 (v := ?_) rfl (by kernel_rfl) (fun _ _ _ h => h) (Or.inl ⟨by kernel_rfl, ?_⟩) (by assumption) ?_; rotate_left; (intro wS hSw; (try dsimp only at hSw); go_simp; (try with_reducible rfl)); (try simp only [Act.put, List.setIfInBounds_toArray, List.set_cons_zero, List.set_cons_succ])); (refine wpAnyT_take 2 (v := ?_) rfl (by kernel_rfl) (fun _ _ _ h => h) (Or.inl ⟨by kernel_rfl, ?_⟩) (by assumption) ?_; rotate_left; (intro wS hSw; (try dsimp only at hSw); go_simp; (try with_reducible rfl)); (try simp only [Act.put, List.setIfInBounds_toArray, List.set_cons_zero, List.set_cons_succ])); (refine wpAnyT_take 3 (v := ?_) rfl (by kernel_rfl) (fun _ _ _ h => h) (Or.inl ⟨by kernel_rfl, ?_⟩) (by assumption) ?_; rotate_left; (intro wS hSw; (try dsimp only at hSw); go_simp; (try with_reducible rfl)); (try simp only [Act.put, List.setIfInBounds_toArray, List.set_cons_zero, List.set_cons_succ])); (refine wpAnyT_take 4 (v := ?_) rfl (by kernel_rfl) (fun _ _ _ h => h) (Or.inl ⟨by kernel_rfl, ?_⟩) (by assumption) ?_; rotate_left; (intro wS hSw; (try dsimp only at hSw); go_simp; (try with_reducible rfl)); (try simp only [Act.put, List.setIfInBounds_toArray, List.set_cons_zero, List.set_cons_succ])); (refine wpAnyT_take 5 (v := ?_) rfl (by kernel_rfl) (fun _ _ _ h => h) (Or.inl ⟨by kernel_rfl, ?_⟩) (by assumption) ?_; rotate_left; (intro wS hSw; (try dsimp only at hSw); go_simp; (try with_reducible rfl)); (try simp only [Act.put, List.setIfInBounds_toArray, List.set_cons_zero, List.set_cons_succ])))
          have hD0 : (World.drew W5).ownsMap Try.prog 113 bElem mb sn D := hown
          (refine wpAnyT_lastB 6 (by kernel_rfl) rfl (by decide) (by kernel_rfl) (fun K hK => ?_))
          refine step_updK hD0 wLaw bMapTy (by unfold maxLen; omega) hkey hvE rfl rfl (by kernel_rfl) (by kernel_rfl) (by kernel_rfl) ?_
          intro w9 m9 g9
          go_simp
          (refine hK _ _ ?_; clear hK K; (try simp only [Act.put, List.setIfInBounds_toArray, List.set_cons_zero, List.set_cons_succ]))
          have hx0 : m (Wire.ix (t, c)) = 0 := hm
          have K9 := Lib.hid (KnM.put (F := valW k regs ins) hown hsn HH1.out HH2.out hx hx0 (by have e := HRV.out; rw [e]; exact m9))
          have G9 : w.grownBy w9 (some mb) := Gr.trans (Gr.trans (Gr.ext A1 _) (Gr.ext (Ext.drew _) _)) g9
          clear hS0 hD0 hown m9 g9 xx0 xx1 rr3
          go_wp2
          go_ret
          refine ⟨_, by rw [HRV.out]; rfl, K9.out, fun y hy h1 h2 => ?_, G9⟩
          by_cases e : y = (t, c)
          · subst e; omega
          · rw [upd_ne _ _ (fun e2 => e (Wire.ix_inj hy hx e2))] at h1
            have h3 := (fun y hy h1 h2 => absurd h2 h1 : ∀ y : Wire, y.Ok → m y.ix ≠ 0 → m y.ix = 0 → rk k y < n) y hy h1 h2
            omega
      · obtain ⟨nb0, nb1⟩ := HNB.out h2 h5
        replace HRV : Hid (valW k regs ins (t, c) = valW k regs ins ((nbV t d).toNat, c)) := Lib.hid (by
          have := HRV.out
          rwa [if_neg (by omega), if_neg (by omega), if_neg (by omega)] at this)
        have N2 := NC.out h2 h5
        have T := Lib.hid (fun w => neighbours_c t ht w)
        obtain ⟨nb, hnb⟩ : ∃ nb : Nat, nbV t d = nb := ⟨(nbV t d).toNat, by omega⟩
        rw [hnb] at HRV N2
        rw [Int.toNat_natCast] at HRV N2
        have N3 := Lib.hid N2
        obtain ⟨v, hv⟩ : ∃ v, v = valW k regs ins (nb, c) := ⟨_, rfl⟩
        rw [← hv] at HRV
        have i40 := idx4_0
        have i41 := idx4_1
        have i42 := idx4_2
        have i43 := idx4_3
        have hd : d = 2 ∨ d = 3 ∨ d = 4 ∨ d = 5 := by omega
        clear NC TC HNB N2 nb0 nb1 p2 r0 r1 r2
        have HV := Lib.hid hv
        clear hv
        rcases hd with rfl | rfl | rfl | rfl
        all_goals
          rw [hnb] at T
          clear hnb h2 h5
          go_wp2_with fail
          refine wp_regionT (fun w' => w'.cell? ⟨w.heap.size, 0, none⟩ = some (.int .i64 t) ∧ w'.cell? ⟨w.heap.size, 1, none⟩ = some (.int .i64 c)) 10 (by kernel_rfl) ?_
          have hS0 := And.intro (a := (World.drew W4).cell? ⟨w.heap.size, 0, none⟩ = some (.int .i64 t)) x0 (show (World.drew W4).cell? ⟨w.heap.size, 1, none⟩ = some (.int .i64 c) from x1)
          ((refine wpAnyT_take 0 (v := ?_) rfl (by kernel_rfl) (fun _ _ _ h => h) (Or.inl ⟨by kernel_rfl, ?_⟩) (by assumption) ?_; rotate_left; (intro wS hSw; (try dsimp only at hSw); go_simp; (try with_reducible rfl)); (try simp only [Act.put, List.setIfInBounds_toArray, List.set_cons_zero, List.set_cons_succ])); (refine wpAnyT_take 1 (v := ?_) rfl (by kernel_rfl) (fun _ _ _ h => h) (Or.inl ⟨by kernel_rfl, ?_⟩) (by assumption) ?_; rotate_left; (intro wS hSw; (try dsimp only at hSw); go_simp; (try with_reducible rfl)); (try simp only [Act.put, List.setIfInBounds_toArray, List.set_cons_zero, List.set_cons_succ])); (refine wpAnyT_take 2 (v := ?_) rfl (by kernel_rfl) (fun _ _ _ h => h) (Or.inl ⟨by kernel_rfl, ?_⟩) (by assumption) ?_; rotate_left; (intro wS hSw; (try dsimp only at hSw); go_simp; (try with_reducible rfl)); (try simp only [Act.put, List.setIfInBounds_toArray, List.set_cons_zero, List.set_cons_succ])); (refine wpAnyT_take 4 (v := ?_) rfl (by kernel_rfl) (fun _ _ _ h => h) (Or.inl ⟨by kernel_rfl, ?_⟩) (by assumption) ?_; rotate_left; (intro wS hSw; (try dsimp only at hSw); go_simp; (try with_reducible rfl)); (try simp only [Act.put, List.setIfInBounds_toArray, List.set_cons_zero, List.set_cons_succ])); (refine wpAnyT_take 5 (v := ?_) rfl (by kernel_rfl) (fun _ _ _ h => h) (Or.inl ⟨by kernel_rfl, ?_⟩) (by assumption) ?_; rotate_left; (intro wS hSw; (try dsimp only at hSw); go_simp; (try with_reducible rfl)); (try simp only [Act.put, List.setIfInBounds_toArray, List.set_cons_zero, List.set_cons_succ])); (refine wpAnyT_take 7 (v := ?_) rfl (by kernel_rfl) (fun _ _ _ h => h) (Or.inl ⟨by kernel_rfl, ?_⟩) (by assumption) ?_; rotate_left; (intro wS hSw; (try dsimp only at hSw); go_simp; (try with_reducible rfl)); (try simp only [Act.put, List.setIfInBounds_toArray, List.set_cons_zero, List.set_cons_succ])); (refine wpAnyT_take 8 (v := ?_) rfl (by kernel_rfl) (fun _ _ _ h => h) (Or.inl ⟨by kernel_rfl, ?_⟩) (by assumption) ?_; rotate_left; (intro wS hSw; (try dsimp only at hSw); go_simp; (try with_reducible rfl)); (try simp only [Act.put, List.setIfInBounds_toArray, List.set_cons_zero, List.set_cons_succ])))
          (refine wpAnyT_do 3 (by kernel_rfl) rfl (fun K hK => ?_))
          go_simp
          refine (T.out _).mono ?_
          rintro e W5 ⟨rfl, hE5⟩
          have hd5 := (Ext.drew W4).trans hE5
          have yx5 := yx.ext hd5
          have hS1 := And.intro (yx5.cell (i := 0) rfl) (yx5.cell (i := 1) rfl)
          (refine hK _ _ hS1 ?_; clear hK K; (try simp only [Act.put, List.setIfInBounds_toArray, List.set_cons_zero, List.set_cons_succ]))
          ((refine wpAnyT_take 6 (v := ?_) rfl (by kernel_rfl) (fun _ _ _ h => h) (Or.inl ⟨by kernel_rfl, ?_⟩) (by assumption) ?_; rotate_left; (intro wS hSw; (try dsimp only at hSw); go_simp; (try with_reducible rfl)); (try simp only [Act.put, List.setIfInBounds_toArray, List.set_cons_zero, List.set_cons_succ])); (refine wpAnyT_take 9 (v := ?_) rfl (by kernel_rfl) (fun _ _ _ h => h) (Or.inl ⟨by kernel_rfl, ?_⟩) (by assumption) ?_; rotate_left; (intro wS hSw; (try dsimp only at hSw); go_simp; (try with_reducible rfl)); (try simp only [Act.put, List.setIfInBounds_toArray, List.set_cons_zero, List.set_cons_succ])))
          (refine wpAnyT_doN 10 (by kernel_rfl) rfl (by decide) (fun K hK => ?_))
          go_simp
          refine (N3.out m W5 (hR1.ext hd5) (hK1.ext hd5)).mono ?_
          rintro e W6 ⟨m6, rfl, hK6, hN6, hG6⟩
          rw [← HV.out]
          (refine hK _ _ ?_; clear hK K; (try simp only [Act.put, List.setIfInBounds_toArray, List.set_cons_zero, List.set_cons_succ]))
          (refine wpAnyT_last 11 (by kernel_rfl) rfl (by decide) (by kernel_rfl) (fun K hK => ?_))
          go_simp
          (refine hK _ _ ?_; clear hK K; (try simp only [Act.put, List.setIfInBounds_toArray, List.set_cons_zero, List.set_cons_succ]))
          have hR6 := (hR1.ext hd5).gr hG6
          have yx6 := yx5.gr hG6 (someNe (by omega))
          have GG6 := Gr.trans (Gr.ext (A1.trans hd5) _) hG6
          clear hS0 hS1 x0 x1
          obtain ⟨sn, D, hown, hsn, hhas, hat⟩ := hK6
          have hvE : bElem (.bool v) = some (.lit (.bool v), []) := bElem_of v
          have xx0 := yx6.cell (i := 0) rfl
          have xx1 := yx6.cell (i := 1) rfl
          have xxl := yx6.lt
          have rr3 := hR6.r.cell (i := 3) rfl
          have rrl := hR6.r.lt
          have HH1 := Lib.hid hhas
          have HH2 := Lib.hid hat
          clear hhas hat
          go_wp2_with fail
          refine wp_regionT (fun w' => w'.cell? ⟨rn, 3, none⟩ = some (.map (some mb)) ∧ w'.cell? ⟨w.heap.size, 0, none⟩ = some (.int .i64 t) ∧ w'.cell? ⟨w.heap.size, 1, none⟩ = some (.int .i64 c)) 6 (by kernel_rfl) ?_
          have hS0 := And.intro (a := (World.drew W6).cell? ⟨rn, 3, none⟩ = some (.map (some mb))) rr3 (And.intro (a := (World.drew W6).cell? ⟨w.heap.size, 0, none⟩ = some (.int .i64 t)) xx0 (show (World.drew W6).cell? ⟨w.heap.size, 1, none⟩ = some (.int .i64 c) from xx1))
          ((refine wpAnyT_take 0 (v := ?_) rfl (by kernel_rfl) (fun _ _ _ h => h) (Or.inl ⟨by kernel_rfl, ?_⟩) (by assumption) ?_; rotate_left; (intro wS hSw; (try dsimp only at hSw); go_simp; (try with_reducible rfl)); (try simp only [Act.put, List.setIfInBounds_toArray, List.set_cons_zero, List.set_cons_succ])); (refine wpAnyT_take 1 (v := ?_) rfl (by kernel_rfl) (fun _ _ _ h => h) (Or.inl ⟨by kernel_rfl, ?_⟩) (by assumption) ?_; rotate_left; (intro wS hSw; (try dsimp only at hSw); go_simp; (try with_reducible rfl)); (try simp only [Act.put, List.setIfInBounds_toArray, List.set_cons_zero, List.set_cons_succ])); (refine wpAnyT_take 2 (v := ?_) rfl (by kernel_rfl) (fun _ _ _ h => h) (Or.inl ⟨by kernel_rfl, ?_⟩) (by assumption) ?_; rotate_left; (intro wS hSw; (try dsimp only at hSw); go_simp; (try with_reducible rfl)); (try simp only [Act.put, List.setIfInBounds_toArray, List.set_cons_zero, List.set_cons_succ])); (refine wpAnyT_take 3 (v := ?_) rfl (by kernel_rfl) (fun _ _ _ h => h) (Or.inl ⟨by kernel_rfl, ?_⟩) (by assumption) ?_; rotate_left; (intro wS hSw; (try dsimp only at hSw); go_simp; (try with_reducible rfl)); (try simp only [Act.put, List.setIfInBounds_toArray, List.set_cons_zero, List.set_cons_succ])); (refine wpAnyT_take 4 (v := ?_) rfl (by kernel_rfl) (fun _ _ _ h => h) (Or.inl ⟨by kernel_rfl, ?_⟩) (by assumption) ?_; rotate_left; (intro wS hSw; (try dsimp only at hSw); go_simp; (try with_reducible rfl)); (try simp only [Act.put, List.setIfInBounds_toArray, List.set_cons_zero, List.set_cons_succ])); (refine wpAnyT_take 5 (v := ?_) rfl (by kernel_rfl) (fun _ _ _ h => h) (Or.inl ⟨by kernel_rfl, ?_⟩) (by assumption) ?_; rotate_left; (intro wS hSw; (try dsimp only at hSw); go_simp; (try with_reducible rfl)); (try simp only [Act.put, List.setIfInBounds_toArray, List.set_cons_zero, List.set_cons_succ])))
          have hD0 : (World.drew W6).ownsMap Try.prog 113 bElem mb sn D := hown
          (refine wpAnyT_lastB 6 (by kernel_rfl) rfl (by decide) (by kernel_rfl) (fun K hK => ?_))
          refine step_updK hD0 wLaw bMapTy (by unfold maxLen; omega) hkey hvE rfl rfl (by kernel_rfl) (by kernel_rfl) (by kernel_rfl) ?_
          intro w9 m9 g9
          go_simp
          (refine hK _ _ ?_; clear hK K; (try simp only [Act.put, List.setIfInBounds_toArray, List.set_cons_zero, List.set_cons_succ]))
          have hx0 : m6 (Wire.ix (t, c)) = 0 := Classical.byContradiction (fun h => hlow (hN6 _ hx h hm))
          have K9 := Lib.hid (KnM.put (F := valW k regs ins) hown hsn HH1.out HH2.out hx hx0 (by have e := HRV.out; rw [e]; exact m9))
          have G9 : w.grownBy w9 (some mb) := Gr.trans (Gr.trans GG6 (Gr.ext (Ext.drew _) _)) g9
          clear hS0 hD0 hown m9 g9 xx0 xx1 rr3
          go_wp2
          go_ret
          refine ⟨_, by rw [HRV.out]; rfl, K9.out, fun y hy h1 h2 => ?_, G9⟩
          by_cases e : y = (t, c)
          · subst e; omega
          · rw [upd_ne _ _ (fun e2 => e (Wire.ix_inj hy hx e2))] at h1
            have h3 := hN6 y hy h1 h2
            omega
    · have hd : decide (m (Wire.ix (t, c)) ≠ 0) = true := by simpa using hm
      rw [hd] at hlk hlk1
      have hv := HCV.out hm
      have HV := Lib.hid hv
      clear hd hm hv
      go_quiet (fail)
      go_wp2
      go_ret
      exact by rw [HV.out]; exact ⟨m, rfl, hK1.ext (by (repeat (first | with_reducible assumption | with_reducible exact Ext.refl _ | with_reducible refine Ext.drew' ?_ | with_reducible refine Ext.drewN' ?_ _ | with_reducible refine Ext.alloc ?_ _ | (with_reducible refine Ext.setNew ?_ (by first | exact Nat.le_refl _ | (simp; done) | (simp; omega) | omega) _)))), fun y hy h1 h2 => absurd h2 h1, Gr.ext (A1.trans (by (repeat (first | with_reducible assumption | with_reducible exact Ext.refl _ | with_reducible refine Ext.drew' ?_ | with_reducible refine Ext.drewN' ?_ _ | with_reducible refine Ext.alloc ?_ _ | (with_reducible refine Ext.setNew ?_ (by first | exact Nat.le_refl _ | (simp; done) | (simp; omega) | omega) _))))) _⟩
end Go.Proofs.Ytkdiniaddnhkdaa

