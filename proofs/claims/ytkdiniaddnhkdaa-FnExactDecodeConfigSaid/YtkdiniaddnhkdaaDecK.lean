/- A configuration that is built while a reader moves. -/
import Derived.Test.YtkdiniaddnhkdaaDecM
import Derived.Test.YtkdiniaddnhkdaaConfX
import Derived.Test.YtkdiniaddnhkdaaConfU2
namespace Go.Proofs.Ytkdiniaddnhkdaa
open Go.RowKit
set_option maxRecDepth 100000
set_option linter.unusedVariables false
set_option linter.unusedSimpArgs false
theorem ext_gr {w w1 w' : World} {R : Nat} (h : Ext w w1) (hg : w1.grownBy w' (some R)) (hR : w.heap.size ≤ R) : Ext w w' := ext_grown (v := .slice (some ⟨R, 0, none⟩) 0 0) h hg (fun k hk => by have e : R = k := Option.some.inj hk; omega)
theorem own_gr {w w' : World} {base R : Nat} {e : TypeId} {size : Nat} {v : Value} {n : Nat} {xs : List Value} (h : w.ownsRow base e size v n xs) (hg : w.grownBy w' (some R)) (hR : R < base) : w'.ownsRow base e size v n xs :=
  ownsRow_gr h hg (off_rowI (u := v) (v := .slice (some ⟨R, 0, none⟩) 0 0) (fun k hk e => by have := (World.ownsRow.lt h k hk).1; have e2 : R = k := Option.some.inj e; omega))
theorem OwnK.grown {w w' : World} {base R : Nat} {tv pv : Value} {us : List Value} {K : Conf} (h : OwnK w base tv pv us K) (hg : w.grownBy w' (some R)) (hR : R < base) : OwnK w' base tv pv us K :=
  { h with
    ts := { h.ts with row := own_gr h.ts.row hg hR, els := h.ts.els.gr (v := .slice (some ⟨R, 0, none⟩) 0 0) hg (fun j k hj hk e => by have := (h.ts.els.lt hj hk).1; have e2 : R = k := Option.some.inj e; omega) }
    ps := own_gr h.ps hg hR }
theorem OwnK.appTile3 {w0 w w' : World} {base : Nat} {tv pv v' u1 u2 : Value} {us : List Value} {K : Conf} {x : Tile} (h0 : OwnK w0 base tv pv us K) (h : OwnK w base tv pv us K) (hsz : w0.heap.size ≤ w.heap.size) (hrow : w'.ownsRow base 85 4 v' (K.ts.length + 1) (cellsT K.ts us ++ [.int .i64 x.tb, u1, .bool x.rg, u2])) (hg : w.grownBy w' tv.ownBlock) (hm : RowMoved w tv v')
    (o1 : OwnInts w base 3 u1 x.sl) (o2 : OwnInts w base 3 u2 x.dr) (n1 : ∀ q, u1.ownBlock = some q → w0.heap.size ≤ q) (n2 : ∀ q, u2.ownBlock = some q → w0.heap.size ≤ q) (n12 : ∀ q, u1.ownBlock = some q → u2.ownBlock ≠ some q) :
    OwnK w' base v' pv (us ++ [u1, u2]) { K with ts := K.ts ++ [x] } := by
  have hv : ∀ q, tv.ownBlock = some q → q < w0.heap.size := fun q hq => (World.ownsRow.lt h0.ts.row q hq).2
  have hu : ∀ j q, j < 2 * K.ts.length → (us.getD j vnil).ownBlock = some q → q < w0.heap.size := fun j q hj hq => (h0.ts.els.lt (by rw [flT_length]; exact hj) hq).2
  have hp : ∀ q, pv.ownBlock = some q → q < w0.heap.size := fun q hq => (World.ownsRow.lt h0.ps q hq).2
  have hul := h.ts.ul
  refine ⟨h.ts.app2 hrow hg hm o1 o2 hv hu n1 n2 n12, ownsRow_gr h.ps hg (off_rowI (fun q hq e => (h.op q hq).1 e)), fun q hq => ⟨fun e5 => ?_, fun j hj hk => ?_⟩⟩
  · rcases hm with e6 | ⟨r, e6, hr⟩
    · rw [e6] at e5; exact (h.op q hq).1 e5
    · rw [e6] at e5
      have := hp q hq
      have : r = q := Option.some.inj e5
      omega
  · have hq2 := hp q hq
    have hj2 : j < 2 * (K.ts ++ [x]).length := hj
    rw [List.length_append] at hj2
    simp only [List.length_cons, List.length_nil] at hj2
    have e4 : us ++ [u1, u2] = (us ++ [u1]) ++ [u2] := by simp
    rw [e4, getD_app _ _ _ _ (by rw [List.length_append]; simp; omega)] at hk
    split at hk
    · have := n2 q hk; omega
    · rename_i hne
      rw [List.length_append] at hne
      simp only [List.length_cons, List.length_nil] at hne
      rw [getD_app _ _ _ _ (by omega)] at hk
      split at hk
      · have := n1 q hk; omega
      · exact (h.op q hq).2 j (by omega) hk
/-- A configuration and a flag are given back. -/
def GiveKB (w : World) (k : Conf) (b : Bool) (e : Ending) (w' : World) : Prop := ∃ tv pv us, e = .returned (.tuple #[.agg #[tv, pv], .bool b]) ∧ OwnK w' w.heap.size tv pv us k ∧ Ext w w'
/-- The configuration under way: its box is c, its rows lie from c + 1 on, the result's box is r, the reader's box is r + 1. -/
structure DRel (w : World) (bs : List Int) (p : Nat) (K : Conf) (tv pv : Value) (us : List Value) (wr : World) : Prop where
  b : Blk wr (w.heap.size + 1 + 1) 25 [tv, pv]
  o : OwnK wr (w.heap.size + 1 + 1 + 1) tv pv us K
  r : Blk wr w.heap.size 25 [vnil, vnil]
  d : RdP wr (w.heap.size + 1) bs p
  e : Ext w wr
end Go.Proofs.Ytkdiniaddnhkdaa
