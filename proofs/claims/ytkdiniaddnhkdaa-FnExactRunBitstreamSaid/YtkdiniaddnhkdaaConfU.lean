/- A configuration that the call builds: a tile or a pad behind its rows. -/
import Derived.Test.YtkdiniaddnhkdaaConfR
namespace Go.Proofs.Ytkdiniaddnhkdaa
open Go.RowKit
set_option maxRecDepth 100000
set_option linter.unusedVariables false
set_option linter.unusedSimpArgs false
theorem row_le {w : World} {b b2 : Nat} {e : TypeId} {size : Nat} {v : Value} {n : Nat} {xs : List Value} (h : w.ownsRow b e size v n xs) (hb : b2 ≤ b) : w.ownsRow b2 e size v n xs := by
  refine ⟨h.1, ?_⟩
  rcases h.2 with h | ⟨g, cap, cur, h1, h2, h3⟩
  · exact .inl h
  · exact .inr ⟨g, cap, cur, h1, Nat.le_trans hb h2, h3⟩
section
variable {w0 w w' : World} {base : Nat} {tv pv v' : Value} {us : List Value} {K : Conf}
theorem OwnK.le {b : Nat} (h : OwnK w base tv pv us K) (hb : b ≤ base) : OwnK w b tv pv us K := { h with ts := h.ts.le hb, ps := row_le h.ps hb }
theorem OwnK.none_ : OwnK w base vnil vnil [] { ts := [], ps := [] } := ⟨OwnT.nil, ownsRow_nil, fun q hq => by cases hq⟩
theorem OwnK.setCell (h : OwnK w base tv pv us K) {p : Addr} (hp : p.block < base) (v : Value) : OwnK (w.setCell p v) base tv pv us K :=
  { h with
    ts := { h.ts with row := ownsRow_set h.ts.row (fun e => by have := (World.ownsRow.lt h.ts.row _ e).1; omega) v, els := h.ts.els.setCell (fun j hj e => by have := (h.ts.els.lt hj e).1; omega) v }
    ps := ownsRow_set h.ps (fun e => by have := (World.ownsRow.lt h.ps _ e).1; omega) v }
theorem OwnK.appTile {x : Tile} {B1 B2 : Nat} (h : OwnK w0 base tv pv us K) (e : Ext w0 w) (hrow : w'.ownsRow base 85 4 v' (K.ts.length + 1) (cellsT K.ts us ++ [.int .i64 x.tb, .slice (some ⟨B1, 0, none⟩) x.sl.length x.sl.length, .bool x.rg, .slice (some ⟨B2, 0, none⟩) x.dr.length x.dr.length])) (hg : w.grownBy w' tv.ownBlock) (hm : RowMoved w tv v')
    (b1 : Blk w B1 3 (x.sl.map (Value.int .i64))) (b2 : Blk w B2 3 (x.dr.map (Value.int .i64))) (hB : w0.heap.size ≤ B1) (hbase : base ≤ B1) (h12 : B1 < B2) (l1 : x.sl.length ≤ 1048576) (l2 : x.dr.length ≤ 1048576) :
    OwnK w' base v' pv (us ++ [.slice (some ⟨B1, 0, none⟩) x.sl.length x.sl.length, .slice (some ⟨B2, 0, none⟩) x.dr.length x.dr.length]) { K with ts := K.ts ++ [x] } := by
  have hv : ∀ q, tv.ownBlock = some q → q < w0.heap.size := fun q hq => (World.ownsRow.lt h.ts.row q hq).2
  have hu : ∀ j q, j < 2 * K.ts.length → (us.getD j vnil).ownBlock = some q → q < w0.heap.size := fun j q hj hq => (h.ts.els.lt (by rw [flT_length]; exact hj) hq).2
  have hp : ∀ q, pv.ownBlock = some q → q < w0.heap.size := fun q hq => (World.ownsRow.lt h.ps q hq).2
  have hul := h.ts.ul
  have hsz := e.size
  refine ⟨(h.ts.ext e).app hrow hg hm b1 b2 hbase h12 (fun q hq => by have := hv q hq; omega) (fun j q hj hq => by have := hu j q hj hq; omega) l1 l2, ownsRow_gr (ownsRow_ext h.ps e) hg (off_rowI (fun q hq e => (h.op q hq).1 e)), fun q hq => ⟨fun e5 => ?_, fun j hj hk => ?_⟩⟩
  · rcases hm with e6 | ⟨r, e6, hr⟩
    · rw [e6] at e5; exact (h.op q hq).1 e5
    · rw [e6] at e5
      have := hp q hq
      have : r = q := Option.some.inj e5
      omega
  · have hq2 := hp q hq
    have hj2 : j < 2 * (K.ts ++ [x]).length := hj
    rw [List.length_append] at hj2
    simp only [List.length_cons, List.length_nil] at hj2
    have e4 : us ++ [Value.slice (some ⟨B1, 0, none⟩) x.sl.length x.sl.length, .slice (some ⟨B2, 0, none⟩) x.dr.length x.dr.length] = (us ++ [Value.slice (some ⟨B1, 0, none⟩) x.sl.length x.sl.length]) ++ [.slice (some ⟨B2, 0, none⟩) x.dr.length x.dr.length] := by simp
    rw [e4, getD_app _ _ _ _ (by rw [List.length_append]; simp; omega)] at hk
    split at hk
    · have e3 : B2 = q := Option.some.inj hk
      omega
    · rename_i hne
      rw [List.length_append] at hne
      simp only [List.length_cons, List.length_nil] at hne
      rw [getD_app _ _ _ _ (by omega)] at hk
      split at hk
      · have e3 : B1 = q := Option.some.inj hk
        omega
      · exact (h.op q hq).2 j (by omega) hk
theorem OwnK.appPad {y : Int × Bool} (h : OwnK w base tv pv us K) (hrow : w'.ownsRow base 87 2 v' (K.ps.length + 1) (flatP K.ps ++ [.int .i64 y.1, .bool y.2])) (hg : w.grownBy w' pv.ownBlock) (hm : RowMoved w pv v') :
    OwnK w' base tv v' us { K with ps := K.ps ++ [y] } := by
  have hv : ∀ q, tv.ownBlock = some q → q < w.heap.size := fun q hq => (World.ownsRow.lt h.ts.row q hq).2
  have hu : ∀ j q, j < 2 * K.ts.length → (us.getD j vnil).ownBlock = some q → q < w.heap.size := fun j q hj hq => (h.ts.els.lt (by rw [flT_length]; exact hj) hq).2
  refine ⟨{ h.ts with row := ownsRow_gr h.ts.row hg (off_rowI (v := pv) (fun q hq e => (h.op q e).1 hq)), els := h.ts.els.gr hg (fun j k hj hk e => (h.op k e).2 j (by rw [flT_length] at hj; exact hj) hk) }, ?_, fun q hq => ?_⟩
  · show w'.ownsRow base 87 2 v' (K.ps ++ [y]).length (flatP (K.ps ++ [y]))
    rw [List.length_append, flatP_append]; exact hrow
  · rcases hm with e6 | ⟨r, e6, hr⟩
    · rw [e6] at hq; exact h.op q hq
    · rw [e6] at hq
      have e7 : r = q := Option.some.inj hq
      exact ⟨fun e => by have := hv q e; omega, fun j hj e => by have := hu j q hj e; omega⟩
end
end Go.Proofs.Ytkdiniaddnhkdaa
