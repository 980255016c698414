/- The empty configuration's tile, and a tile behind a row of tiles. -/
import Derived.Test.YtkdiniaddnhkdaaConfQ
import Derived.Test.YtkdiniaddnhkdaaApp2
namespace Go.Proofs.Ytkdiniaddnhkdaa
open Go.RowKit
set_option maxRecDepth 100000
set_option linter.unusedVariables false
set_option linter.unusedSimpArgs false
def etile : Tile := ⟨0, List.replicate 3 15, false, List.replicate 8 0⟩
def econf : Conf := { ts := List.replicate 25 etile, ps := List.replicate 3 (15, false) }
theorem intInfo8 : (Try.prog.info? 3).map (fun i => (i.zero, i.size, i.bytes)) = some (some (.int .i64 0), 1, 8) := by kernel_rfl
theorem make8 (w : World) : (Instr.makeSlice 39 (.int .i64 8) (.int .i64 8)).run Try.prog w = .ok (.slice (some ⟨w.heap.size, 0, none⟩) 8 8) (w.alloc (.cells ((List.replicate 8 (0 : Int)).map (Value.int .i64)).toArray 3)) :=
  run_zeros (P := Try.prog) 39 3 (.int .i64 0) [.int .i64 0] 8 Try.underlying39 intInfo8 rfl (by decide) (by decide) 8 (by decide) w
theorem emptyTile_c (w : World) : Calls Try.prog 60 #[] w (MadeTile w etile) := by
  have hm := make8
  go_enter Try.func60, Try.ntmps60
  go_wp2
  refine bodyPost_ret (v := .agg #[.int .i64 etile.tb, .slice (some ⟨w.heap.size + 1, 0, none⟩) etile.sl.length 3, .bool etile.rg, .slice (some ⟨w.heap.size + 2, 0, none⟩) etile.dr.length 8]) (by simp [results, Try.results60, go_sem, etile]) rfl ?_
  refine ⟨w.heap.size + 1, w.heap.size + 2, rfl, by omega, by omega, ?_, ?_, by (repeat (first | with_reducible assumption | with_reducible exact Ext.refl _ | with_reducible refine Ext.drew' ?_ | with_reducible refine Ext.drewN' ?_ _ | with_reducible refine Ext.alloc ?_ _ | (with_reducible refine Ext.setNew ?_ (by first | exact Nat.le_refl _ | (simp; done) | (simp; omega) | omega) _)))⟩
  · show Blk _ (w.heap.size + 1) 3 [.int .i64 15, .int .i64 15, .int .i64 15]
    repeat (first | with_reducible exact (Blk.at (w.alloc _) [.int .i64 15, .int .i64 15, .int .i64 15] 3 (by simp)).alloc _ | with_reducible refine Blk.setOther ?_ (by simp) _)
  · show Blk _ (w.heap.size + 2) 3 [.int .i64 0, .int .i64 0, .int .i64 0, .int .i64 0, .int .i64 0, .int .i64 0, .int .i64 0, .int .i64 0]
    exact Blk.at _ [.int .i64 0, .int .i64 0, .int .i64 0, .int .i64 0, .int .i64 0, .int .i64 0, .int .i64 0, .int .i64 0] _ (by simp)
theorem cellsT_append : ∀ (ts : List Tile) (us : List Value), us.length = 2 * ts.length → ∀ (x : Tile) (a b : Value), cellsT (ts ++ [x]) (us ++ [a, b]) = cellsT ts us ++ [.int .i64 x.tb, a, .bool x.rg, b]
  | [], [], _, _, _, _ => rfl
  | [], _ :: _, h, _, _, _ => by simp at h
  | y :: ys, [], h, _, _, _ => by simp at h
  | y :: ys, [_], h, _, _, _ => by simp at h; omega
  | y :: ys, c :: d :: us, h, x, a, b => by
    have := cellsT_append ys us (by simp at h; omega) x a b
    simp only [List.cons_append, cellsT, this]
theorem flT_append : ∀ (ts : List Tile) (x : Tile), flT (ts ++ [x]) = flT ts ++ [x.sl, x.dr]
  | [], _ => rfl
  | y :: ys, x => by
    have := flT_append ys x
    simp only [List.cons_append, flT, this]
theorem getD_app {α : Type} (xs : List α) (x d : α) (j : Nat) (hj : j ≤ xs.length) : (xs ++ [x]).getD j d = if j = xs.length then x else xs.getD j d := by
  rw [List.getD_eq_getElem?_getD, List.getD_eq_getElem?_getD]
  by_cases e : j = xs.length
  · subst e; simp
  · rw [if_neg e, List.getElem?_append_left (by omega)]
theorem Elts.snoc {w : World} {base : Nat} {us : List Value} {xss : List (List Int)} (h : Elts w base us xss) {u : Value} {x : List Int} (hu : OwnInts w base 3 u x) (ha : ∀ j k, j < xss.length → (us.getD j vnil).ownBlock = some k → u.ownBlock ≠ some k) : Elts w base (us ++ [u]) (xss ++ [x]) := by
  have hl := h.len
  refine ⟨by simp [hl], fun j hj => ?_, fun a b k hab hb hk => ?_⟩
  · rw [List.length_append] at hj
    simp only [List.length_cons, List.length_nil] at hj
    rw [getD_app _ _ _ _ (by omega), getD_app _ _ _ _ (by omega), hl]
    by_cases e : j = xss.length
    · rw [if_pos e, if_pos e]; exact hu
    · rw [if_neg e, if_neg e]; exact h.el j (by omega)
  · rw [List.length_append] at hb
    simp only [List.length_cons, List.length_nil] at hb
    rw [getD_app _ _ _ _ (by omega), if_neg (by omega)] at hk
    rw [getD_app _ _ _ _ (by omega)]
    by_cases e : b = us.length
    · rw [if_pos e]; exact ha a k (by omega) hk
    · rw [if_neg e]; exact h.dis a b k hab (by omega) hk
theorem Elts.gr {w w' : World} {base : Nat} {us : List Value} {xss : List (List Int)} {v : Value} (h : Elts w base us xss) (hg : w.grownBy w' v.ownBlock) (ho : ∀ j k, j < xss.length → (us.getD j vnil).ownBlock = some k → v.ownBlock ≠ some k) : Elts w' base us xss :=
  { h with el := fun j hj => ownsRow_gr (h.el j hj) hg (off_rowI (fun k hk => ho j k hj hk)) }
/-- A tile behind a row of tiles: its slices are the newest blocks. -/
theorem OwnT.app {w w' : World} {base : Nat} {v v' : Value} {us : List Value} {ts : List Tile} {x : Tile} {B1 B2 : Nat} (h : OwnT w base v us ts) (hrow : w'.ownsRow base 85 4 v' (ts.length + 1) (cellsT ts us ++ [.int .i64 x.tb, .slice (some ⟨B1, 0, none⟩) x.sl.length x.sl.length, .bool x.rg, .slice (some ⟨B2, 0, none⟩) x.dr.length x.dr.length])) (hg : w.grownBy w' v.ownBlock) (hm : RowMoved w v v')
    (b1 : Blk w B1 3 (x.sl.map (Value.int .i64))) (b2 : Blk w B2 3 (x.dr.map (Value.int .i64))) (h1 : base ≤ B1) (h12 : B1 < B2) (hv : ∀ q, v.ownBlock = some q → q < B1) (hu : ∀ j q, j < 2 * ts.length → (us.getD j vnil).ownBlock = some q → q < B1) (l1 : x.sl.length ≤ 1048576) (l2 : x.dr.length ≤ 1048576) :
    OwnT w' base v' (us ++ [.slice (some ⟨B1, 0, none⟩) x.sl.length x.sl.length, .slice (some ⟨B2, 0, none⟩) x.dr.length x.dr.length]) (ts ++ [x]) := by
  have hul := h.ul
  have hfl := flT_length ts
  have k1 := b1.lt
  have k2 := b2.lt
  have o1 : OwnInts w base 3 (.slice (some ⟨B1, 0, none⟩) x.sl.length x.sl.length) x.sl := b1.owns (n := x.sl.length) (size := 1) (by simp) h1 (by unfold maxLen; omega)
  have o2 : OwnInts w base 3 (.slice (some ⟨B2, 0, none⟩) x.dr.length x.dr.length) x.dr := b2.owns (n := x.dr.length) (size := 1) (by simp) (by omega) (by unfold maxLen; omega)
  have g1 : w'.ownsRow base 3 1 (.slice (some ⟨B1, 0, none⟩) x.sl.length x.sl.length) x.sl.length (x.sl.map (Value.int .i64)) := ownsRow_gr o1 hg (off_rowI (fun k hk e => by have := hv k e; have e2 : B1 = k := Option.some.inj hk; omega))
  have g2 : w'.ownsRow base 3 1 (.slice (some ⟨B2, 0, none⟩) x.dr.length x.dr.length) x.dr.length (x.dr.map (Value.int .i64)) := ownsRow_gr o2 hg (off_rowI (fun k hk e => by have := hv k e; have e2 : B2 = k := Option.some.inj hk; omega))
  have hE := (h.els.gr hg (fun j k hj hk => h.off j k (by omega) hk)).snoc g1 (fun j k hj hk e => by have := hu j k (by omega) hk; have e2 : B1 = k := Option.some.inj e; omega)
  have hE2 := hE.snoc g2 (fun j k hj hk e => by
    have e2 : B2 = k := Option.some.inj e
    rw [List.length_append] at hj
    simp only [List.length_cons, List.length_nil] at hj
    rw [getD_app _ _ _ _ (by omega)] at hk
    split at hk
    · have e3 : B1 = k := Option.some.inj hk
      omega
    · have := hu j k (by omega) hk; omega)
  rw [List.append_assoc, List.append_assoc] at hE2
  refine ⟨by rw [cellsT_append ts us hul, List.length_append]; exact hrow, by rw [flT_append]; exact hE2, fun j k hj hk e => ?_⟩
  rw [List.length_append] at hj
  simp only [List.length_cons, List.length_nil] at hj
  have hkk : k < w.heap.size ∧ v.ownBlock ≠ some k := by
    have e4 : us ++ [Value.slice (some ⟨B1, 0, none⟩) x.sl.length x.sl.length, .slice (some ⟨B2, 0, none⟩) x.dr.length x.dr.length] = (us ++ [Value.slice (some ⟨B1, 0, none⟩) x.sl.length x.sl.length]) ++ [.slice (some ⟨B2, 0, none⟩) x.dr.length x.dr.length] := by simp
    rw [e4, getD_app _ _ _ _ (by rw [List.length_append]; simp; omega)] at hk
    split at hk
    · have e3 : B2 = k := Option.some.inj hk
      exact ⟨by omega, fun e => by have := hv k e; omega⟩
    · rename_i hne
      rw [List.length_append] at hne
      simp only [List.length_cons, List.length_nil] at hne
      rw [getD_app _ _ _ _ (by omega)] at hk
      split at hk
      · have e3 : B1 = k := Option.some.inj hk
        exact ⟨by omega, fun e => by have := hv k e; omega⟩
      · exact ⟨(h.els.lt (by omega) hk).2, h.off j k (by omega) hk⟩
  rcases hm with e5 | ⟨q, e5, hq⟩
  · rw [e5] at e; exact hkk.2 e
  · rw [e5] at e
    have : q = k := Option.some.inj e
    omega
end Go.Proofs.Ytkdiniaddnhkdaa
