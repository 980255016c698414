/- What marks on a call's own memory leave as it was. -/
import Derived.Test.YtgialedmbmfejaaBlk
namespace Go.Proofs.Ytgialedmbmfejaa
open Go.RowKit
set_option maxRecDepth 100000
set_option linter.unusedVariables false
set_option linter.unusedSimpArgs false
/-- Of the old blocks, only those from b up to N may have changed. -/
structure Mid (b N : Nat) (w w' : World) : Prop where
 os : w'.os = w.os
 tape : w'.tape = w.tape
 output : w'.output = w.output
 size : w.heap.size ≤ w'.heap.size
 block : ∀ k, k < w.heap.size → (k < b ∨ N ≤ k) → w'.heap[k]? = w.heap[k]?
section
variable {b N : Nat} {w w' w'' a : World}
theorem Mid.refl (w : World) : Mid b N w w := ⟨rfl, rfl, rfl, Nat.le_refl _, fun _ _ _ => rfl⟩
theorem Mid.trans (h : Mid b N w w') (k : Mid b N w' w'') : Mid b N w w'' :=
 ⟨k.os.trans h.os, k.tape.trans h.tape, k.output.trans h.output, Nat.le_trans h.size k.size, fun i hi hr => (k.block i (Nat.lt_of_lt_of_le hi h.size) hr).trans (h.block i hi hr)⟩
theorem Mid.ofExt (h : Ext w w') : Mid b N w w' := ⟨Below.os h, Below.tape h, Below.output h, Below.size h, fun i hi _ => Below.block h i hi⟩
theorem Mid.ofGr {B : Nat} (h : w.grownBy w' (some B)) (h1 : b ≤ B) (h2 : B < N) : Mid b N w w' :=
 ⟨h.os, h.tape, h.output, h.size, fun i hi hr => h.block i hi (by intro e; have e2 := Option.some.inj e; omega)⟩
theorem Mid.wider {b2 N2 : Nat} (h : Mid b N w w') (h1 : b2 ≤ b) (h2 : N ≤ N2) : Mid b2 N2 w w' :=
 ⟨h.os, h.tape, h.output, h.size, fun i hi hr => h.block i hi (by omega)⟩
theorem Ext.mid (h : Ext a w) (m : Mid b N w w') (hb : a.heap.size ≤ b) : Ext a w' :=
 ⟨m.os.trans (Below.os h), m.tape.trans (Below.tape h), m.output.trans (Below.output h), Nat.le_trans h.size m.size, fun k hk => (m.block k (Nat.lt_of_lt_of_le hk h.size) (.inl (by omega))).trans (Below.block h k hk)⟩
theorem Mid.ext2 (h : Mid b N w w') (e : Ext w' w'') : Mid b N w w'' := h.trans (Mid.ofExt e)
theorem Mid.cell (h : Mid b N w w') {k : Nat} (hk : k < w.heap.size) (hr : k < b ∨ N ≤ k) (o : Nat) : w'.cell? ⟨k, o, none⟩ = w.cell? ⟨k, o, none⟩ :=
 World.cell?_of_block (a := ⟨k, o, none⟩) (h.block k hk hr)
theorem Blk.mid {B : Nat} {t : TypeId} {cs : List Value} (h : Blk w B t cs) (m : Mid b N w w') (hr : B < b ∨ N ≤ B) : Blk w' B t cs := (m.block B h.lt hr).trans h
theorem ownsRow_mid {base : Nat} {e : TypeId} {size : Nat} {v : Value} {n : Nat} {xs : List Value} (h : w.ownsRow base e size v n xs) (m : Mid b N w w') (hr : ∀ k, v.ownBlock = some k → k < b ∨ N ≤ k) : w'.ownsRow base e size v n xs := by
 refine ⟨h.1, ?_⟩
 rcases h.2 with hn | ⟨g, cap, cur, rfl, hb, hgg, rest⟩
 ·exact .inl hn
 ·exact .inr ⟨g, cap, cur, rfl, hb, (m.block g (Array.getElem?_eq_some_iff.1 hgg).1 (hr g rfl)).trans hgg, rest⟩
theorem ownsRow_from {base : Nat} {e : TypeId} {size : Nat} {v : Value} {n : Nat} {xs : List Value} (h : w.ownsRow base e size v n xs) : ∀ k, v.ownBlock = some k → base ≤ k := by
 rcases h.2 with ⟨rfl, _⟩ | ⟨g, cap, cur, rfl, hb, hgg, rest⟩
 ·intro k hk; cases hk
 ·intro k hk; cases hk; exact hb
theorem ownsRow_hi {base : Nat} {e : TypeId} {size : Nat} {v : Value} {n : Nat} {xs : List Value} (h : w.ownsRow base e size v n xs) (m : Mid b N w w') (hr : N ≤ base) : w'.ownsRow base e size v n xs :=
 ownsRow_mid h m (fun k hk => .inr (Nat.le_trans hr (ownsRow_from h k hk)))
end
end Go.Proofs.Ytgialedmbmfejaa
