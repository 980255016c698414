/- A tile behind a row of tiles whose slices may have room to spare. -/
import Derived.Test.YtkdiniaddnhkdaaConfU
namespace Go.Proofs.Ytkdiniaddnhkdaa
open Go.RowKit
set_option maxRecDepth 100000
set_option linter.unusedVariables false
set_option linter.unusedSimpArgs false
theorem OwnT.app2 {w w' : World} {base N : Nat} {v v' u1 u2 : Value} {us : List Value} {ts : List Tile} {x : Tile} (h : OwnT w base v us ts) (hrow : w'.ownsRow base 85 4 v' (ts.length + 1) (cellsT ts us ++ [.int .i64 x.tb, u1, .bool x.rg, u2])) (hg : w.grownBy w' v.ownBlock) (hm : RowMoved w v v')
    (o1 : OwnInts w base 3 u1 x.sl) (o2 : OwnInts w base 3 u2 x.dr) (hv : ∀ q, v.ownBlock = some q → q < N) (hu : ∀ j q, j < 2 * ts.length → (us.getD j vnil).ownBlock = some q → q < N) (n1 : ∀ q, u1.ownBlock = some q → N ≤ q) (n2 : ∀ q, u2.ownBlock = some q → N ≤ q) (n12 : ∀ q, u1.ownBlock = some q → u2.ownBlock ≠ some q) :
    OwnT w' base v' (us ++ [u1, u2]) (ts ++ [x]) := by
  have hul := h.ul
  have hfl := flT_length ts
  have g1 : OwnInts w' base 3 u1 x.sl := ownsRow_gr o1 hg (off_rowI (fun k hk e => by have := hv k e; have := n1 k hk; omega))
  have g2 : OwnInts w' base 3 u2 x.dr := ownsRow_gr o2 hg (off_rowI (fun k hk e => by have := hv k e; have := n2 k hk; omega))
  have hE := (h.els.gr hg (fun j k hj hk => h.off j k (by omega) hk)).snoc g1 (fun j k hj hk e => by have := hu j k (by omega) hk; have := n1 k e; omega)
  have hE2 := hE.snoc g2 (fun j k hj hk e => by
    rw [List.length_append] at hj
    simp only [List.length_cons, List.length_nil] at hj
    rw [getD_app _ _ _ _ (by omega)] at hk
    split at hk
    · exact n12 k hk e
    · have := hu j k (by omega) hk; have := n2 k e; omega)
  rw [List.append_assoc, List.append_assoc] at hE2
  refine ⟨by rw [cellsT_append ts us hul, List.length_append]; exact hrow, by rw [flT_append]; exact hE2, fun j k hj hk e => ?_⟩
  rw [List.length_append] at hj
  simp only [List.length_cons, List.length_nil] at hj
  have hkk : k < w.heap.size ∧ v.ownBlock ≠ some k := by
    have e4 : us ++ [u1, u2] = (us ++ [u1]) ++ [u2] := by simp
    rw [e4, getD_app _ _ _ _ (by rw [List.length_append]; simp; omega)] at hk
    split at hk
    · exact ⟨(ownI_lt o2 k hk).2, fun e => by have := hv k e; have := n2 k hk; omega⟩
    · rename_i hne
      rw [List.length_append] at hne
      simp only [List.length_cons, List.length_nil] at hne
      rw [getD_app _ _ _ _ (by omega)] at hk
      split at hk
      · exact ⟨(ownI_lt o1 k hk).2, fun e => by have := hv k e; have := n1 k hk; omega⟩
      · exact ⟨(h.els.lt (by omega) hk).2, h.off j k (by omega) hk⟩
  rcases hm with e5 | ⟨q, e5, hq⟩
  · rw [e5] at e; exact hkk.2 e
  · rw [e5] at e
    have : q = k := Option.some.inj e
    omega
theorem OwnK.appTile2 {w0 w w' : World} {base : Nat} {tv pv v' u1 u2 : Value} {us : List Value} {K : Conf} {x : Tile} (h : OwnK w0 base tv pv us K) (e : Ext w0 w) (hrow : w'.ownsRow base 85 4 v' (K.ts.length + 1) (cellsT K.ts us ++ [.int .i64 x.tb, u1, .bool x.rg, u2])) (hg : w.grownBy w' tv.ownBlock) (hm : RowMoved w tv v')
    (o1 : OwnInts w base 3 u1 x.sl) (o2 : OwnInts w base 3 u2 x.dr) (n1 : ∀ q, u1.ownBlock = some q → w0.heap.size ≤ q) (n2 : ∀ q, u2.ownBlock = some q → w0.heap.size ≤ q) (n12 : ∀ q, u1.ownBlock = some q → u2.ownBlock ≠ some q) :
    OwnK w' base v' pv (us ++ [u1, u2]) { K with ts := K.ts ++ [x] } := by
  have hv : ∀ q, tv.ownBlock = some q → q < w0.heap.size := fun q hq => (World.ownsRow.lt h.ts.row q hq).2
  have hu : ∀ j q, j < 2 * K.ts.length → (us.getD j vnil).ownBlock = some q → q < w0.heap.size := fun j q hj hq => (h.ts.els.lt (by rw [flT_length]; exact hj) hq).2
  have hp : ∀ q, pv.ownBlock = some q → q < w0.heap.size := fun q hq => (World.ownsRow.lt h.ps q hq).2
  have hul := h.ts.ul
  have hsz := e.size
  refine ⟨(h.ts.ext e).app2 hrow hg hm o1 o2 hv hu n1 n2 n12, ownsRow_gr (ownsRow_ext h.ps e) hg (off_rowI (fun q hq e => (h.op q hq).1 e)), fun q hq => ⟨fun e5 => ?_, fun j hj hk => ?_⟩⟩
  · rcases hm with e6 | ⟨r, e6, hr⟩
    · rw [e6] at e5; exact (h.op q hq).1 e5
    · rw [e6] at e5
      have := hp q hq
      have : r = q := Option.some.inj e5
      omega
  · have hq2 := hp q hq
    have hj2 : j < 2 * (K.ts ++ [x]).length := hj
    rw [List.length_append] at hj2
    simp only [List.length_cons, List.length_nil] at hj2
    have e4 : us ++ [u1, u2] = (us ++ [u1]) ++ [u2] := by simp
    rw [e4, getD_app _ _ _ _ (by rw [List.length_append]; simp; omega)] at hk
    split at hk
    · have := n2 q hk; omega
    · rename_i hne
      rw [List.length_append] at hne
      simp only [List.length_cons, List.length_nil] at hne
      rw [getD_app _ _ _ _ (by omega)] at hk
      split at hk
      · have := n1 q hk; omega
      · exact (h.op q hq).2 j (by omega) hk
end Go.Proofs.Ytkdiniaddnhkdaa
