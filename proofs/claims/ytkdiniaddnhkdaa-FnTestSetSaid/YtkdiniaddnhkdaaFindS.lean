/- Contracts of FindTest and Detects: the reference's. -/
import Derived.Test.YtkdiniaddnhkdaaDetS2
import Derived.Test.YtkdiniaddnhkdaaFind
namespace Go.Proofs.Ytkdiniaddnhkdaa
open Go.RowKit
set_option maxRecDepth 100000
set_option linter.unusedVariables false
set_option linter.unusedSimpArgs false
def FindSRel (w : World) (c : Circ) (p : Where3) (s : Int) (v : Bool) (u : Value) (wr : World) : Prop :=
  ∃ k : Nat, k ≤ assigns c ∧ u = .int .i64 k ∧ Hid (∀ y, y < k → detV c s v y = false) ∧ CircBox wr w.heap.size c p ∧ Blk wr (w.heap.size + 1) 50 [.int .i64 s, .bool v] ∧ Ext w wr
theorem l12Find_c (c : Circ) (p : Where3) (s : Int) (v : Bool) (w : World) (hc : CircAt w c p) (V : c.Valid) (h1s : 1 ≤ s) (hs : s < c.vars) :
    Calls Try.prog 84 #[.agg #[.int .i64 c.inputs, .slice p.an c.next.length p.cn, .slice p.ag c.gates.length p.cg, .slice p.ao c.outs.length p.co], .agg #[.int .i64 s, .bool v]] w fun e w' => e = .returned (.int .i64 (firstD (detV c s v) (assigns c))) ∧ Ext w w' := by
  have al := assigns_le V
  have hw := shl_wrap V
  have i0 := V.i0
  have i4 := V.i4
  have ln := V.ln
  have y := (CircBox.made w c p 42).ext ((Ext.refl _).alloc (.cells #[.int .i64 s, .bool v] 50))
  have f0 := Blk.at (w.alloc (.cells #[.int .i64 c.inputs, .slice p.an c.next.length p.cn, .slice p.ag c.gates.length p.cg, .slice p.ao c.outs.length p.co] 42)) [.int .i64 s, .bool v] 50 (B := w.heap.size + 1) (by simp)
  obtain ⟨D, hD⟩ : ∃ D, D = firstD (detV c s v) (assigns c) := ⟨_, rfl⟩
  have HD := Lib.hid hD
  rw [← hD]
  clear hD
  go_enter Try.func84, Try.ntmps84
  go_wp2_with fail
  go_loopw [5] (FindSRel w c p s v) (fun i _ => assigns c - (intOf i).toNat)
  case atStart => exact ⟨0, Nat.zero_le _, rfl, Lib.hid (fun y hy => by omega), y, f0, by (repeat (first | with_reducible assumption | with_reducible exact Ext.refl _ | with_reducible refine Ext.drew' ?_ | with_reducible refine Ext.drewN' ?_ _ | with_reducible refine Ext.alloc ?_ _ | (with_reducible refine Ext.setNew ?_ (by first | exact Nat.le_refl _ | (simp; done) | (simp; omega) | omega) _)))⟩
  case round =>
    obtain ⟨k, hk, rfl, hpre, hb, hf, hE⟩ := hrel
    clear f0 y
    (obtain ⟨lb, b0, b1, b2, b3⟩ := (id hb))
    by_cases hlt : k < assigns c
    · have f00 := hf.cell (i := 0) rfl
      have f01 := hf.cell (i := 1) rfl
      cases hd : detV c s v k
      all_goals
        have HDD := Lib.hid hd
        clear hd
        go_wp2_with fail
        refine (l12Detects_c c p s v k (by omega) _ (hc.ext hE) V h1s hs).mono ?_
        rw [HDD.out]
        rintro e w2 ⟨rfl, hE2⟩
        go_wp2
      · go_roundw
        case rel =>
          refine ⟨k + 1, by omega, by go_num, Lib.hid (fun y hy => ?_), hb.ext hE2, hf.ext hE2, hE.trans hE2⟩
          rcases Nat.lt_or_ge y k with h | h
          · exact hpre.out y h
          · have : y = k := by omega
            subst this; exact HDD.out
        case measure => simp [intOf]; omega
      · go_ret
        refine ⟨?_, hE.trans hE2⟩
        rw [HD.out, firstD_hit _ _ k hlt hpre.out HDD.out]; rfl
    · go_wp2
      go_ret
      refine ⟨?_, hE⟩
      rw [HD.out, firstD_none _ _ (fun y hy => hpre.out y (by omega))]; rfl
end Go.Proofs.Ytkdiniaddnhkdaa
