/- More small lemmas for the walks: an append inside a statement whose order is open. -/
import Derived.Test.YtgialedmbmfejaaDraw1
import Derived.Deep.RegionLaw
namespace Go.Proofs.Ytgialedmbmfejaa
open Go.RowKit
theorem step_app {P : Program} {w : World} {t e : TypeId} {size bytes : Nat} (T : RowTy P t e size bytes) {base : Nat} {v : Value} {n : Nat} {xs : List Value} (hown : w.ownsRow base e size v n xs)
  {ax : Option Addr} {m c : Nat} {news : List Value} (hr : RowAt w ax news) (hl : news.length = m * size) (h1 : ∀ u ∈ news, u.oneCell' = true) (hb : n + m ≤ 1073741824) (hbase : base ≤ w.heap.size)
  {ops : Array Oper} {o : Oper} {a : Act} {K : Act → World → Prop} {Q : Exit → Act → World → Prop} {E : Prop} (hgd : o.guard = none) {s x : Operand} (ho : o.op = .call { callee := .builtin .append, args := #[s, x], argTypes := #[t, t] })
  (hs : a.eval s = v) (hx : a.eval x = .slice ax m c)
  (h : ∀ v' w', w'.ownsRow base e size v' (n + m) (xs ++ news) → w.grownBy w' v.ownBlock → RowMoved w v v' → K (a.put o.dst v') w') : if Region.wanted o (yielded ops a.tmps) = true then o.wp P a w K Q else E := by
 rw [if_pos (by simp [Region.wanted, hgd])]
 exact wp_app T hown hr hl h1 hb hbase ho hs hx h
theorem oneCell_int1 (x : Int) : ∀ u ∈ [Value.int .i64 x], u.oneCell' = true := by simp [Value.oneCell']
theorem Ext.drew' {a w : World} (h : Ext a w) : Ext a w.drew := h.trans (Ext.drew w)
end Go.Proofs.Ytgialedmbmfejaa
