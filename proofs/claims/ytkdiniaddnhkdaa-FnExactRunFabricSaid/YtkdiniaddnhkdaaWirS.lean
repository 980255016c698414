/- Contracts: the reference's values of wires and lookup tables. -/
import Derived.Test.YtkdiniaddnhkdaaWir0
import Derived.Test.YtkdiniaddnhkdaaEncC
import Derived.Test.YtkdiniaddnhkdaaRegion2
import Derived.Test.YtkdiniaddnhkdaaConfV
import Derived.Deep.DeepCutAuto
namespace Go.Proofs.Ytkdiniaddnhkdaa
open Go.RowKit
set_option maxRecDepth 100000
set_option linter.unusedVariables false
set_option linter.unusedSimpArgs false
/-- Where a configuration, a state and inputs lie. -/
structure FabAt (w : World) (k : Conf) (ta pa : Option Addr) (ra : Option Addr) (regs : List Bool) (ia : Option Addr) (ins : List Bool) : Prop where
  k : ConfAt w k ta pa
  r : BoolsAt w ra regs
  i : BoolsAt w ia ins
theorem FabAt.ext {w w' : World} {k : Conf} {ta pa ra ia : Option Addr} {regs ins : List Bool} (h : FabAt w k ta pa ra regs ia ins) (e : Ext w w') : FabAt w' k ta pa ra regs ia ins := ⟨h.k.ext e, h.r.ext e, h.i.ext e⟩
section
variable (k : Conf) (ta pa ra ia : Option Addr) (tc pc rc ic : Nat) (regs ins : List Bool)
/-- A call on this wire gives its value. -/
def WireC (x : Wire) : Prop := ∀ w : World, FabAt w k ta pa ra regs ia ins →
    Calls Try.prog 133 #[.agg #[.slice ta k.ts.length tc, .slice pa k.ps.length pc], .agg #[.slice ra regs.length rc], .slice ia ins.length ic, .int .i64 x.1, .int .i64 x.2] w fun e w' => e = .returned (.bool (valW k regs ins x)) ∧ Ext w w'
end
theorem shl_add (X j : Nat) (hj : j < 3) (hX : X < 2 ^ j) : wrap64 ((X : Int) + wrap64 (2 ^ j)) = ((X + 2 ^ j : Nat) : Int) := by
  have : j = 0 ∨ j = 1 ∨ j = 2 := by omega
  rcases this with rfl | rfl | rfl
  all_goals
    simp at hX ⊢
    unfold wrap64
    omega
set_option maxHeartbeats 4000000 in
theorem l10Table_c (k : Conf) (ta pa ra ia : Option Addr) (tc pc rc ic : Nat) (regs ins : List Bool) (hok : k.Ok) (t : Nat) (ht : t < 25) (hH : ∀ y ∈ selW t (tileAt k t).sl, WireC k ta pa ra ia tc pc rc ic regs ins y) (w : World) (hF : FabAt w k ta pa ra regs ia ins) :
    Calls Try.prog 134 #[.agg #[.slice ta k.ts.length tc, .slice pa k.ps.length pc], .agg #[.slice ra regs.length rc], .slice ia ins.length ic, .int .i64 t] w fun e w' => e = .returned (.bool (tabV k (valW k regs ins) t)) ∧ Ext w w' := by
  obtain ⟨b, o, rfl, hb, hcc⟩ := hF.k.ts.get (by rw [hok.lt]; omega)
  obtain ⟨sa, sc, da, dc, p0, p1, p2, p3, hsl, hdr⟩ := hcc t (by rw [hok.lt]; omega)
  have hot := tileB_iff.1 (hok.ts t ht)
  have hss : ∀ j, j < 3 → trackB ((tileAt k t).sl.getD j 0) = true := hot.ss
  have ls := hot.ls
  have tb0 := hot.t0
  have tb1 := hot.t1
  have e1 : k.ts.getD t tile0 = tileAt k t := rfl
  rw [e1] at p0 p1 p2 p3 hsl ls tb0 tb1
  have htab : tabV k (valW k regs ins) t = (((tileAt k t).tb / 2 ^ ixT (rdV (valW k regs ins) t) (tileAt k t).sl 3) % 2 == 1) := rfl
  obtain ⟨x, hxx⟩ : ∃ x, x = tileAt k t := ⟨_, rfl⟩
  rw [← hxx] at p0 p1 p2 p3 hsl ls hss tb0 tb1 htab hH
  obtain ⟨T, hT⟩ : ∃ T, T = tabV k (valW k regs ins) t := ⟨_, rfl⟩
  rw [← hT] at htab ⊢
  have HT := Lib.hid htab
  have HH := Lib.hid hH
  have HSS := Lib.hid hss
  have HF := Lib.hid hF
  obtain ⟨ls1, ls2⟩ : x.sl.length ≤ 3 ∧ 3 ≤ x.sl.length := by omega
  obtain ⟨lt1, lt2⟩ : k.ts.length ≤ 25 ∧ 25 ≤ k.ts.length := by have := hok.lt; omega
  have y0 := (Blk.at w [.slice (some ⟨b, o, none⟩) k.ts.length tc, .slice pa k.ps.length pc] 25 rfl).alloc (.cells #[.slice ra regs.length rc] 63)
  have s0 := Blk.at (w.alloc (.cells #[.slice (some ⟨b, o, none⟩) k.ts.length tc, .slice pa k.ps.length pc] 25)) [.slice ra regs.length rc] 63 (B := w.heap.size + 1) (by simp)
  clear e1 hxx hcc hot htab hH hss hdr hT ls hF p3 p2
  go_enter Try.func134, Try.ntmps134
  go_wp2_with fail
  go_loopw [9, 10] (fun u9 u10 wr => ∃ j : Nat, j ≤ 3 ∧ u10 = .int .i64 j ∧ u9 = .int .i64 (ixT (rdV (valW k regs ins) t) x.sl j : Nat) ∧ Blk wr w.heap.size 25 [.slice (some ⟨b, o, none⟩) k.ts.length tc, .slice pa k.ps.length pc] ∧ Blk wr (w.heap.size + 1) 63 [.slice ra regs.length rc] ∧ Ext w wr) (fun _ i _ => 3 - (intOf i).toNat)
  case atStart => exact ⟨0, Nat.zero_le _, rfl, rfl, y0, s0, by (repeat (first | with_reducible assumption | with_reducible exact Ext.refl _ | with_reducible refine Ext.drew' ?_ | with_reducible refine Ext.drewN' ?_ _ | with_reducible refine Ext.alloc ?_ _ | (with_reducible refine Ext.setNew ?_ (by first | exact Nat.le_refl _ | (simp; done) | (simp; omega) | omega) _)))⟩
  case round =>
    clear y0 s0
    obtain ⟨j, hj, rfl, rfl, y0, s0, hE⟩ := hrel
    have yc0 := y0.cell (i := 0) rfl
    have yc1 := y0.cell (i := 1) rfl
    have sc0 := s0.cell (i := 0) rfl
    have yl := y0.lt
    have sl := s0.lt
    replace p0 := ((ecell hE).1 b _ hb).trans p0
    replace p1 := ((ecell hE).1 b _ hb).trans p1
    by_cases hlt : j < 3
    · obtain ⟨b3, o3, rfl, hb3, hc3⟩ := (hsl.ext hE).get (by omega)
      have q3 := hc3 j (by omega)
      have htr := trackB_cases (HSS.out j hlt)
      have hmem : x.sl.getD j 0 ∈ x.sl := by rw [List.getD_eq_getElem?_getD, List.getElem?_eq_getElem (by omega)]; exact List.getElem_mem _
      have hstep : ixT (rdV (valW k regs ins) t) x.sl (j + 1) = ixT (rdV (valW k regs ins) t) x.sl j + if rdV (valW k regs ins) t (x.sl.getD j 0) then 2 ^ j else 0 := rfl
      have hjl : j < x.sl.length := by omega
      have hji : (j : Int) < (x.sl.length : Int) := by omega
      obtain ⟨s, hs⟩ : ∃ s, s = x.sl.getD j 0 := ⟨_, rfl⟩
      rw [← hs] at q3 htr hmem hstep
      have HSTEP := Lib.hid hstep
      have hlt2 := ixT_lt (rdV (valW k regs ins) t) x.sl j
      obtain ⟨X, hX⟩ : ∃ X, X = ixT (rdV (valW k regs ins) t) x.sl j := ⟨_, rfl⟩
      rw [← hX] at HSTEP hlt2 ⊢
      clear hc3 hs hstep hX
      obtain ⟨w2, rfl⟩ : ∃ z : World, z = wr := ⟨_, rfl⟩
      by_cases h15 : s = 15
      · have hne : (s != 15) = false := by simp [h15]
        have hst : ixT (rdV (valW k regs ins) t) x.sl (j + 1) = X := by rw [HSTEP.out]; simp [rdV, h15]
        have HST := Lib.hid hst
        clear hst h15 htr hmem
        go_wp2
        go_roundw
        case rel => exact ⟨j + 1, by omega, by go_num, by rw [HST.out], y0, s0, hE⟩
        case measure => simp [intOf]; omega
      · have hne : (s != 15) = true := by simpa using h15
        obtain ⟨s0', s8⟩ : 0 ≤ s ∧ s < 8 := by omega
        have hc := HH.out _ (mem_selW hmem h15) w2 (HF.out.ext hE)
        obtain ⟨s', rfl⟩ : ∃ s' : Nat, s = s' := ⟨s.toNat, by omega⟩
        rw [Int.toNat_natCast] at hc
        have hst : ixT (rdV (valW k regs ins) t) x.sl (j + 1) = X + if valW k regs ins (t, s') then 2 ^ j else 0 := by
          rw [HSTEP.out]; unfold rdV; rw [hne, Int.toNat_natCast, Bool.true_and]
        obtain ⟨v, hv⟩ : ∃ v, v = valW k regs ins (t, s') := ⟨_, rfl⟩
        rw [← hv] at hc hst
        have HST := Lib.hid hst
        have HC := Lib.hid hc
        clear hst h15 htr hmem hc hv
        go_wp2_with fail
        refine HC.out.mono ?_
        rintro e w3 ⟨rfl, hE3⟩
        have y3 := y0.ext hE3
        have s3 := s0.ext hE3
        have hEE := hE.trans hE3
        have hpow : 2 ^ j ≤ 4 := by
          have : j = 0 ∨ j = 1 ∨ j = 2 := by omega
          rcases this with rfl | rfl | rfl <;> decide
        cases v
        · go_wp2
          go_roundw
          case rel => exact ⟨j + 1, by omega, by go_num, by rw [HST.out]; rfl, y3, s3, hEE⟩
          case measure => simp [intOf]; omega
        · have hw := shl_add X j hlt hlt2
          go_wp2
          go_roundw
          case rel => exact ⟨j + 1, by omega, by go_num, by rw [hw, HST.out, if_pos (by first | trivial | rfl)], y3, s3, hEE⟩
          case measure => simp [intOf]; omega
    · have hj3 : j = 3 := by omega
      subst hj3
      have hlt2 := ixT_lt (rdV (valW k regs ins) t) x.sl 3
      obtain ⟨X, hX⟩ : ∃ X, X = ixT (rdV (valW k regs ins) t) x.sl 3 := ⟨_, rfl⟩
      rw [← hX] at HT hlt2 ⊢
      have hX8 : X < 8 := hlt2
      have hnn : 0 ≤ x.tb / 2 ^ X := Int.ediv_nonneg tb0 (Int.pow_nonneg (by decide))
      have em : (x.tb / 2 ^ X).tmod 2 = (x.tb / 2 ^ X) % 2 := Int.tmod_eq_emod_of_nonneg hnn
      clear hX hlt2
      go_wp2
      go_ret
      exact ⟨by rw [HT.out]; rfl, hE⟩
theorem div5 (t : Nat) : ((t : Int) / 5) = ((t / 5 : Nat) : Int) := by omega
set_option maxHeartbeats 4000000 in
theorem l10Wire_c (k : Conf) (ta pa ra ia : Option Addr) (tc pc rc ic : Nat) (regs ins : List Bool) (hok : k.Ok) (hf : ∀ x : Wire, x.Ok → ∃ n, FinN k n x) (hr : 25 ≤ regs.length ∧ regs.length ≤ 25) (hil : ins.length ≤ 4) :
    ∀ (n : Nat) (x : Wire), x.Ok → rk k x < n → WireC k ta pa ra ia tc pc rc ic regs ins x := by
  intro n
  induction n with
  | zero => intro x _ h; exact absurd h (Nat.not_lt_zero _)
  | succ n ih =>
    intro ⟨t, c⟩ hx hn w hF
    have IH := Lib.hid (fun y (hy : y ∈ needW k (t, c)) => ih y (hok.need hx y hy) (by have := rk_lt (hf _ hx) hy; omega))
    clear ih
    have ht := hx.1
    have hc := hx.2
    dsimp only at ht hc
    dsimp only
    obtain ⟨b, o, rfl, hb, hcc⟩ := hF.k.ts.get (by rw [hok.lt]; omega)
    obtain ⟨sa, sc, da, dc, p0, p1, p2, p3, hsl, hdr⟩ := hcc t (by rw [hok.lt]; omega)
    have hot := tileB_iff.1 (hok.ts t ht)
    have hdv := hok.drv hx
    have hnbr := fun h2 h5 => hok.nb hx h2 h5
    have hneed : needW k (t, c) = if 2 ≤ drvAt k (t, c) ∧ drvAt k (t, c) ≤ 5 then [((nbV t (drvAt k (t, c))).toNat, c)] else if drvAt k (t, c) = 1 ∧ (tileAt k t).rg = false then selW t (tileAt k t).sl else [] := rfl
    have hval := valW_eq hok hf (regs := regs) (ins := ins) hx
    have hbody : bodyW k regs ins (valW k regs ins) (t, c) = if drvAt k (t, c) = 0 then false else if drvAt k (t, c) = 6 then decide (t / 5 < ins.length) && ins.getD (t / 5) false
      else if drvAt k (t, c) = 1 then (if (tileAt k t).rg then regs.getD t false else tabV k (valW k regs ins) t) else valW k regs ins ((nbV t (drvAt k (t, c))).toNat, c) := rfl
    have hdR := hok.drvR hx
    rw [hbody] at hval
    obtain ⟨b2, o2, rfl, hb2, hd2⟩ := hdr.get (by rw [hot.ld]; omega)
    have p4 := hd2 c (by rw [hot.ld]; omega)
    have ls := hot.ls
    have ld := hot.ld
    obtain ⟨d, hd⟩ : ∃ d, d = drvAt k (t, c) := ⟨_, rfl⟩
    have hd' : (tileAt k t).dr.getD c 0 = d := hd.symm
    have e1 : k.ts.getD t tile0 = tileAt k t := rfl
    rw [e1] at p0 p1 p2 p3 p4 hsl ls ld hd2
    rw [hd'] at p4
    rw [← hd] at hnbr hneed hval hdR
    have TC := Lib.hid (fun (h : d = 1 ∧ (tileAt k t).rg = false) => l10Table_c k (some ⟨b, o, none⟩) pa ra ia tc pc rc ic regs ins hok t ht (fun y hy => IH.out y (by rw [hneed, if_neg (by omega), if_pos h]; exact hy)))
    have NC := Lib.hid (fun (h2 : 2 ≤ d) (h5 : d ≤ 5) => IH.out ((nbV t d).toNat, c) (by rw [hneed, if_pos ⟨h2, h5⟩]; simp))
    clear hd hd' hcc hdr hot hdv hd2 hbody hneed IH
    obtain ⟨x, hxx⟩ : ∃ x, x = tileAt k t := ⟨_, rfl⟩
    rw [← hxx] at p0 p1 p2 p3 hsl ls ld hval TC
    clear e1 hxx
    obtain ⟨lt1, lt2⟩ : k.ts.length ≤ 25 ∧ 25 ≤ k.ts.length := by have := hok.lt; omega
    obtain ⟨ld1, ld2⟩ : x.dr.length ≤ 8 ∧ 8 ≤ x.dr.length := by omega
    obtain ⟨r1, r2⟩ := hr
    obtain ⟨R, hR⟩ : ∃ R, R = valW k regs ins (t, c) := ⟨_, rfl⟩
    rw [← hR] at hval ⊢
    have HR := Lib.hid hval
    have HNB := Lib.hid hnbr
    have HF := Lib.hid hF
    have y0 := (Blk.at w [.slice (some ⟨b, o, none⟩) k.ts.length tc, .slice pa k.ps.length pc] 25 rfl).alloc (.cells #[.slice ra regs.length rc] 63)
    have s0 := Blk.at (w.alloc (.cells #[.slice (some ⟨b, o, none⟩) k.ts.length tc, .slice pa k.ps.length pc] 25)) [.slice ra regs.length rc] 63 (B := w.heap.size + 1) (by simp)
    have Ey : Ext w ((w.alloc (.cells #[.slice (some ⟨b, o, none⟩) k.ts.length tc, .slice pa k.ps.length pc] 25)).alloc (.cells #[.slice ra regs.length rc] 63)) := by (repeat (first | with_reducible assumption | with_reducible exact Ext.refl _ | with_reducible refine Ext.drew' ?_ | with_reducible refine Ext.drewN' ?_ _ | with_reducible refine Ext.alloc ?_ _ | (with_reducible refine Ext.setNew ?_ (by first | exact Nat.le_refl _ | (simp; done) | (simp; omega) | omega) _)))
    have hdc : d = 0 ∨ d = 6 ∨ d = 1 ∨ (2 ≤ d ∧ d ≤ 5) := by omega
    have hri := hF.r
    have hii := hF.i
    clear hR hval hnbr hF ls ld hdR
    rcases hdc with rfl | rfl | rfl | ⟨h2, h5⟩
    · have hRR : R = false := HR.out
      subst hRR
      go_enter Try.func133, Try.ntmps133
      go_wp2
      go_ret
      exact ⟨rfl, Ey⟩
    · have hRR : R = (decide (t / 5 < ins.length) && ins.getD (t / 5) false) := HR.out
      have td : (t : Int).tdiv 5 = ((t / 5 : Nat) : Int) := by rw [Int.tdiv_eq_ediv_of_nonneg (by omega)]; omega
      have td2 : (t : Int) / 5 = ((t / 5 : Nat) : Int) := by omega
      by_cases hlt : t / 5 < ins.length
      · obtain ⟨b3, o3, rfl, hb3, hc3⟩ := hii.get (by omega)
        have q3 := hc3 (t / 5) hlt
        rw [decide_eq_true hlt, Bool.true_and] at hRR
        rw [← hRR] at q3
        have hli : ((t / 5 : Nat) : Int) < (ins.length : Int) := by omega
        obtain ⟨m, hm⟩ : ∃ m, m = t / 5 := ⟨_, rfl⟩
        rw [← hm] at q3 hlt hli td td2
        clear hRR hc3 hm
        go_enter Try.func133, Try.ntmps133
        go_wp2
        go_ret
        exact ⟨rfl, Ey⟩
      · rw [decide_eq_false hlt, Bool.false_and] at hRR
        subst hRR
        have hli : ¬ ((t / 5 : Nat) : Int) < (ins.length : Int) := by omega
        obtain ⟨m, hm⟩ : ∃ m, m = t / 5 := ⟨_, rfl⟩
        rw [← hm] at hlt hli td td2
        clear hm
        go_enter Try.func133, Try.ntmps133
        go_wp2
        go_ret
        exact ⟨rfl, Ey⟩
    · cases hrg : x.rg
      · have hRR : R = tabV k (valW k regs ins) t := by have := HR.out; rw [hrg] at this; exact this
        have T2 := Lib.hid (TC.out ⟨rfl, hrg⟩)
        rw [← hRR] at T2
        rw [hrg] at p2
        clear hRR HR TC NC hrg
        go_enter Try.func133, Try.ntmps133
        go_wp2_with fail
        refine (T2.out _ (HF.out.ext Ey)).mono ?_
        rintro e w3 ⟨rfl, hE3⟩
        go_wp2
        go_ret
        exact ⟨rfl, Ey.trans hE3⟩
      · have hRR : R = regs.getD t false := by have := HR.out; rw [hrg] at this; exact this
        obtain ⟨b3, o3, rfl, hb3, hc3⟩ := hri.get (by omega)
        have q3 := hc3 t (by omega)
        rw [← hRR] at q3
        rw [hrg] at p2
        clear hRR HR TC NC hrg hc3
        go_enter Try.func133, Try.ntmps133
        go_wp2
        go_ret
        exact ⟨rfl, Ey⟩
    · obtain ⟨nb0, nb1⟩ := HNB.out h2 h5
      dsimp only at nb0 nb1
      have hRR : R = valW k regs ins ((nbV t d).toNat, c) := by
        have := HR.out
        rwa [if_neg (by omega), if_neg (by omega), if_neg (by omega)] at this
      have NB := Lib.hid (fun w => l9Neighbour_c t ht d h2 h5 w)
      have N2 := Lib.hid (NC.out h2 h5)
      obtain ⟨nb, hnb⟩ : ∃ nb : Nat, nbV t d = nb := ⟨(nbV t d).toNat, by omega⟩
      rw [hnb] at NB N2 hRR
      rw [Int.toNat_natCast] at N2 hRR
      have N3 : Hid (∀ w : World, FabAt w k (some ⟨b, o, none⟩) pa ra regs ia ins → Calls Try.prog 133 #[.agg #[.slice (some ⟨b, o, none⟩) k.ts.length tc, .slice pa k.ps.length pc], .agg #[.slice ra regs.length rc], .slice ia ins.length ic, .int .i64 nb, .int .i64 c] w fun e w' => e = .returned (.bool R) ∧ Ext w w') := Lib.hid (by rw [hRR]; exact N2.out)
      have e0 : (d == 0) = false := by simp; omega
      have e6 : (d == 6) = false := by simp; omega
      have e1 : (d == 1) = false := by simp; omega
      have c0 := y0.cell (i := 0) rfl
      have c1 := y0.cell (i := 1) rfl
      have c2 := s0.cell (i := 0) rfl
      have zs : w.heap.size + 1 < ((w.alloc (.cells #[.slice (some ⟨b, o, none⟩) k.ts.length tc, .slice pa k.ps.length pc] 25)).alloc (.cells #[.slice ra regs.length rc] 63)).heap.size := by simp
      replace p0 := ((ecell Ey).1 b _ hb).trans p0
      replace p1 := ((ecell Ey).1 b _ hb).trans p1
      replace p2 := ((ecell Ey).1 b _ hb).trans p2
      replace p3 := ((ecell Ey).1 b _ hb).trans p3
      replace p4 := ((ecell Ey).1 b2 _ hb2).trans p4
      have HFE := Lib.hid (HF.out.ext Ey)
      clear hRR hnb NC TC HR N2 nb0 nb1 HNB
      go_enter Try.func133, Try.ntmps133
      go_upto_region 1 with fail
      generalize (w.alloc (.cells #[.slice (some ⟨b, o, none⟩) k.ts.length tc, .slice pa k.ps.length pc] 25)).alloc (.cells #[.slice ra regs.length rc] 63) = W at *
      go_wp2_with fail
      refine wp_regionT (fun w' => w'.cell? ⟨w.heap.size, 0, none⟩ = some (.slice (some ⟨b, o, none⟩) k.ts.length tc) ∧ w'.cell? ⟨w.heap.size, 1, none⟩ = some (.slice pa k.ps.length pc) ∧ w'.cell? ⟨w.heap.size + 1, 0, none⟩ = some (.slice ra regs.length rc)) 7 (by kernel_rfl) ?_
      have hS0 := And.intro (a := W.drew.cell? ⟨w.heap.size, 0, none⟩ = some (.slice (some ⟨b, o, none⟩) k.ts.length tc)) c0 (And.intro (a := W.drew.cell? ⟨w.heap.size, 1, none⟩ = some (.slice pa k.ps.length pc)) c1 (show W.drew.cell? ⟨w.heap.size + 1, 0, none⟩ = some (.slice ra regs.length rc) from c2))
      ((refine wpAnyT_take 0 (v := ?_) rfl (by kernel_rfl) (fun _ _ _ h => h) (Or.inl ⟨by kernel_rfl, ?_⟩) (by assumption) ?_; rotate_left; (intro wS hSw; (try dsimp only at hSw); go_simp; (try with_reducible rfl)); (try simp only [Act.put, List.setIfInBounds_toArray, List.set_cons_zero, List.set_cons_succ])); (refine wpAnyT_take 1 (v := ?_) rfl (by kernel_rfl) (fun _ _ _ h => h) (Or.inl ⟨by kernel_rfl, ?_⟩) (by assumption) ?_; rotate_left; (intro wS hSw; (try dsimp only at hSw); go_simp; (try with_reducible rfl)); (try simp only [Act.put, List.setIfInBounds_toArray, List.set_cons_zero, List.set_cons_succ])); (refine wpAnyT_take 2 (v := ?_) rfl (by kernel_rfl) (fun _ _ _ h => h) (Or.inl ⟨by kernel_rfl, ?_⟩) (by assumption) ?_; rotate_left; (intro wS hSw; (try dsimp only at hSw); go_simp; (try with_reducible rfl)); (try simp only [Act.put, List.setIfInBounds_toArray, List.set_cons_zero, List.set_cons_succ])); (refine wpAnyT_take 3 (v := ?_) rfl (by kernel_rfl) (fun _ _ _ h => h) (Or.inl ⟨by kernel_rfl, ?_⟩) (by assumption) ?_; rotate_left; (intro wS hSw; (try dsimp only at hSw); go_simp; (try with_reducible rfl)); (try simp only [Act.put, List.setIfInBounds_toArray, List.set_cons_zero, List.set_cons_succ])); (refine wpAnyT_take 4 (v := ?_) rfl (by kernel_rfl) (fun _ _ _ h => h) (Or.inl ⟨by kernel_rfl, ?_⟩) (by assumption) ?_; rotate_left; (intro wS hSw; (try dsimp only at hSw); go_simp; (try with_reducible rfl)); (try simp only [Act.put, List.setIfInBounds_toArray, List.set_cons_zero, List.set_cons_succ])); (refine wpAnyT_take 6 (v := ?_) rfl (by kernel_rfl) (fun _ _ _ h => h) (Or.inl ⟨by kernel_rfl, ?_⟩) (by assumption) ?_; rotate_left; (intro wS hSw; (try dsimp only at hSw); go_simp; (try with_reducible rfl)); (try simp only [Act.put, List.setIfInBounds_toArray, List.set_cons_zero, List.set_cons_succ])))
      (refine wpAnyT_do 5 (by kernel_rfl) rfl (fun K hK => ?_))
      go_simp
      refine (NB.out _).mono ?_
      rintro e w3 ⟨rfl, rfl⟩
      (refine hK _ _ hS0 ?_; clear hK K; (try simp only [Act.put, List.setIfInBounds_toArray, List.set_cons_zero, List.set_cons_succ]))
      (refine wpAnyT_doN 7 (by kernel_rfl) rfl (by decide) (fun K hK => ?_))
      go_simp
      refine (N3.out _ (HFE.out.ext (Ext.drew W))).mono ?_
      rintro e w4 ⟨rfl, hE4⟩
      (refine hK _ _ ?_; clear hK K; (try simp only [Act.put, List.setIfInBounds_toArray, List.set_cons_zero, List.set_cons_succ]))
      (refine wpAnyT_last 8 (by kernel_rfl) rfl (by decide) (by kernel_rfl) (fun K hK => ?_))
      go_simp
      (refine hK _ _ ?_; clear hK K; (try simp only [Act.put, List.setIfInBounds_toArray, List.set_cons_zero, List.set_cons_succ]))
      clear hS0
      go_wp2
      go_ret
      exact ⟨rfl, (Ey.trans (Ext.drew W)).trans hE4⟩
end Go.Proofs.Ytkdiniaddnhkdaa
