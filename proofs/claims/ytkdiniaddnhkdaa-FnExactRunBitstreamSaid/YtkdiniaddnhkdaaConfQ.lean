/- How the exact laws mark configurations, and look at the marks. -/
import Derived.Test.YtkdiniaddnhkdaaConfO
namespace Go.Proofs.Ytkdiniaddnhkdaa
open Go.RowKit
set_option maxRecDepth 100000
set_option linter.unusedVariables false
set_option linter.unusedSimpArgs false
def mkK (k : Int) (K : Conf) : Conf := { K with ts := mkTs k K.ts, ps := mksP (k + totM K.ts) K.ps.length }
def BlkK (tv pv : Value) (us : List Value) (n : Nat) (q : Nat) : Prop := BlkT tv us n q ∨ pv.ownBlock = some q
theorem Blk.only {S : Nat → Prop} {w w' : World} {B : Nat} {t : TypeId} {cs : List Value} (h : Blk w B t cs) (m : OnlyIn S w w') (hr : ¬ S B) : Blk w' B t cs := (m.block B h.lt hr).trans h
theorem OwnT.blk {w : World} {base : Nat} {v : Value} {us : List Value} {ts : List Tile} (h : OwnT w base v us ts) {q : Nat} (hq : BlkT v us ts.length q) : base ≤ q ∧ q < w.heap.size := by
  rcases hq with h1 | ⟨j, hj, h1⟩
  · exact World.ownsRow.lt h.row q h1
  · exact h.els.lt (by rw [flT_length]; exact hj) h1
set_option maxHeartbeats 1000000 in
theorem markConfig_c (base : Nat) (ta pa : Option Addr) (tc pc : Nat) (us : List Value) (K : Conf) (k : Int) (w : World) (hk : OwnK w base (.slice ta K.ts.length tc) (.slice pa K.ps.length pc) us K) (h0 : 0 ≤ k) (h1 : k + totM K.ts ≤ 100000000) (hl : K.ts.length ≤ 1048576) (hp : K.ps.length ≤ 1048576) (hls : ∀ j, j < K.ts.length → (K.ts.getD j tile0).sl.length ≤ 1048576 ∧ (K.ts.getD j tile0).dr.length ≤ 1048576) :
    Calls Try.prog 15 #[.agg #[.slice ta K.ts.length tc, .slice pa K.ps.length pc], .int .i64 k] w fun e w' => e = .returned (.int .i64 (k + totM K.ts + 2 * K.ps.length)) ∧ OwnK w' base (.slice ta K.ts.length tc) (.slice pa K.ps.length pc) us (mkK k K) ∧ OnlyIn (BlkK (.slice ta K.ts.length tc) (.slice pa K.ps.length pc) us K.ts.length) w w' := by
  have y := Blk.at w [.slice ta K.ts.length tc, .slice pa K.ps.length pc] 25 rfl
  have HK := Lib.hid hk
  go_enter Try.func15, Try.ntmps15
  go_wp2_with fail
  refine (markTileConfigS_c base ta tc us K.ts k _ (HK.out.ts.ext (by (repeat (first | with_reducible assumption | with_reducible exact Ext.refl _ | with_reducible refine Ext.drew' ?_ | with_reducible refine Ext.drewN' ?_ _ | with_reducible refine Ext.alloc ?_ _ | (with_reducible refine Ext.setNew ?_ (by first | exact Nat.le_refl _ | (simp; done) | (simp; omega) | omega) _))))) h0 h1 hl hls).mono ?_
  rintro e w1 ⟨rfl, O1, M1⟩
  have hn : ¬ BlkT (.slice ta K.ts.length tc) us K.ts.length w.heap.size := fun e => by have := (HK.out.ts.blk e).2; omega
  have y1 := y.only M1 hn
  have a1 := y1.cell (i := 1) rfl
  have al := y1.lt
  have P1 := ownsRow_only (ownsRow_ext HK.out.ps (w' := w.alloc (.cells #[.slice ta K.ts.length tc, .slice pa K.ps.length pc] 25)) (by (repeat (first | with_reducible assumption | with_reducible exact Ext.refl _ | with_reducible refine Ext.drew' ?_ | with_reducible refine Ext.drewN' ?_ _ | with_reducible refine Ext.alloc ?_ _ | (with_reducible refine Ext.setNew ?_ (by first | exact Nat.le_refl _ | (simp; done) | (simp; omega) | omega) _))))) M1 (fun q hq e => by
    rcases e with e | ⟨j, hj, e⟩
    · exact (HK.out.op q hq).1 e
    · exact (HK.out.op q hq).2 j hj e)
  have HO1 := Lib.hid O1
  have HM1 := Lib.hid M1
  clear O1 M1 hk
  go_wp2_with fail
  refine (markPadConfigS_c base pa pc K.ps (k + totM K.ts) _ P1 (by omega) (by omega) hp).mono ?_
  rintro e w2 ⟨rfl, O2, G2⟩
  have HOwn : Hid (OwnK w2 base (.slice ta K.ts.length tc) (.slice pa K.ps.length pc) us (mkK k K)) := Lib.hid ⟨{ HO1.out with
      row := ownsRow_gr HO1.out.row G2 (off_rowI (v := .slice pa K.ps.length pc) (fun q hq e => (HK.out.op q e).1 hq))
      els := { HO1.out.els with el := fun j hj => ownsRow_gr (HO1.out.els.el j hj) G2 (off_rowI (v := .slice pa K.ps.length pc) (fun q hq e => (HK.out.op q e).2 j (by have e2 : (mkK k K).ts.length = K.ts.length := mkTs_length _ _; rw [flT_length] at hj; omega) hq)) } }, by
      show w2.ownsRow base 87 2 (.slice pa K.ps.length pc) (mksP (k + totM K.ts) K.ps.length).length (flatP (mksP (k + totM K.ts) K.ps.length))
      rw [mksP_length]; exact O2, fun q hq => ⟨(HK.out.op q hq).1, fun j hj => (HK.out.op q hq).2 j (by have : (mkK k K).ts.length = K.ts.length := mkTs_length _ _; omega)⟩⟩
  have HOnly : Hid (OnlyIn (BlkK (.slice ta K.ts.length tc) (.slice pa K.ps.length pc) us K.ts.length) w w2) := Lib.hid (((OnlyIn.ofExt (by (repeat (first | with_reducible assumption | with_reducible exact Ext.refl _ | with_reducible refine Ext.drew' ?_ | with_reducible refine Ext.drewN' ?_ _ | with_reducible refine Ext.alloc ?_ _ | (with_reducible refine Ext.setNew ?_ (by first | exact Nat.le_refl _ | (simp; done) | (simp; omega) | omega) _))))).trans (HM1.out.wider (fun q hq => .inl hq))).trans (OnlyIn.ofGr G2 (fun q hq => .inr hq)))
  clear O2 G2 P1 a1 al y1
  go_wp2
  go_ret
  exact ⟨by go_num, HOwn.out, HOnly.out⟩
theorem heldConfig_c (ta pa : Option Addr) (tc pc : Nat) (K : Conf) (k : Int) (w : World) (ht : TilesAt w ta (mkTs k K.ts)) (hpp : PadsAt w pa (mksP (k + totM K.ts) K.ps.length)) (h0 : 0 ≤ k) (h1 : k + totM K.ts ≤ 100000000) (hl : K.ts.length ≤ 1048576) (hp : K.ps.length ≤ 1048576) (hls : ∀ j, j < K.ts.length → (K.ts.getD j tile0).sl.length ≤ 1048576 ∧ (K.ts.getD j tile0).dr.length ≤ 1048576) :
    Calls Try.prog 16 #[.agg #[.slice ta K.ts.length tc, .slice pa K.ps.length pc], .int .i64 k] w fun e w' => e = .returned (.int .i64 (k + totM K.ts + 2 * K.ps.length)) ∧ Ext w w' := by
  have y := Blk.at w [.slice ta K.ts.length tc, .slice pa K.ps.length pc] 25 rfl
  go_enter Try.func16, Try.ntmps16
  go_wp2_with fail
  refine (heldTileConfigS_c ta tc K.ts k _ (ht.ext (by (repeat (first | with_reducible assumption | with_reducible exact Ext.refl _ | with_reducible refine Ext.drew' ?_ | with_reducible refine Ext.drewN' ?_ _ | with_reducible refine Ext.alloc ?_ _ | (with_reducible refine Ext.setNew ?_ (by first | exact Nat.le_refl _ | (simp; done) | (simp; omega) | omega) _))))) h0 h1 hl hls).mono ?_
  rintro e w1 ⟨rfl, hE1⟩
  have E1 := Ext.trans (a := w) (by (repeat (first | with_reducible assumption | with_reducible exact Ext.refl _ | with_reducible refine Ext.drew' ?_ | with_reducible refine Ext.drewN' ?_ _ | with_reducible refine Ext.alloc ?_ _ | (with_reducible refine Ext.setNew ?_ (by first | exact Nat.le_refl _ | (simp; done) | (simp; omega) | omega) _)))) hE1
  have y1 := y.ext hE1
  have a1 := y1.cell (i := 1) rfl
  have al := y1.lt
  go_wp2_with fail
  refine (heldPadConfigS_c pa pc K.ps.length (k + totM K.ts) _ (hpp.ext E1) (by omega) (by omega) hp).mono ?_
  rintro e w2 ⟨rfl, hE2⟩
  have E2 := E1.trans hE2
  go_wp2
  go_ret
  exact ⟨by go_num, E2⟩
end Go.Proofs.Ytkdiniaddnhkdaa
