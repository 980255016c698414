/- Definitions and small lemmas that the proofs over the circuit toolchain share: how slices read, what a call leaves as it was. No condition. -/
import Derived.Test.YtgialedmbmfejaaProg
import Derived.WalkKit
import Derived.WalkLawsBesides
import Derived.WalkSpells
import Derived.Lib.Hide
import Derived.Deep.QuietTactic
import Derived.BigQuiet
import Derived.Deep.RegionHeld3
namespace Go.Proofs.Ytgialedmbmfejaa
open Go.RowKit
/-- w' extends w: no block that was there has changed. -/
def Ext (w w' : World) : Prop := Below w.heap.size w w'
theorem Ext.refl (w : World) : Ext w w := Below.refl _ _
theorem Ext.below {w w' : World} (h : Ext w w') : Below w.heap.size w w' := h
theorem Ext.size {w w' : World} (h : Ext w w') : w.heap.size ≤ w'.heap.size := Below.size h
theorem Ext.trans {a b c : World} (h : Ext a b) (k : Ext b c) : Ext a c := Below.trans h (Below.mono k (Below.size h))
theorem Ext.drewN (w : World) (n : Nat) : Ext w (w.drewN n) := ⟨rfl, rfl, rfl, Nat.le_refl _, fun _ _ => rfl⟩
theorem Ext.of_below {B : Nat} {w w' : World} (h : Below B w w') (hB : w.heap.size ≤ B) : Ext w w' := h.mono hB
theorem bcell {B : Nat} {W w1 : World} (hb : Below B W w1) : (∀ b o, b < B → w1.cell? ⟨b, o, none⟩ = W.cell? ⟨b, o, none⟩) ∧ (∀ b o, b < B → w1.frozen? ⟨b, o, none⟩ = W.frozen? ⟨b, o, none⟩) :=
 ⟨fun b o h => hb.cell (p := ⟨b, o, none⟩) h, fun b o h => hb.frozen (p := ⟨b, o, none⟩) h⟩
theorem ecell {W w1 : World} (hb : Ext W w1) : (∀ b o, b < W.heap.size → w1.cell? ⟨b, o, none⟩ = W.cell? ⟨b, o, none⟩) ∧ (∀ b o, b < W.heap.size → w1.frozen? ⟨b, o, none⟩ = W.frozen? ⟨b, o, none⟩) := bcell hb
theorem cell_lt {w : World} {b o : Nat} {v : Value} (h : w.cell? ⟨b, o, none⟩ = some v) : b < w.heap.size := World.block_lt_of_cell? w _ h

/-- How a slice of integers reads. -/
def IntsAt (w : World) (a : Option Addr) (xs : List Int) : Prop :=
 xs = [] ∨ ∃ b o, a = some ⟨b, o, none⟩ ∧ b < w.heap.size ∧ ∀ j, j < xs.length → w.cell? ⟨b, o + j, none⟩ = some (.int .i64 (xs.getD j 0))
def BoolsAt (w : World) (a : Option Addr) (xs : List Bool) : Prop :=
 xs = [] ∨ ∃ b o, a = some ⟨b, o, none⟩ ∧ b < w.heap.size ∧ ∀ j, j < xs.length → w.cell? ⟨b, o + j, none⟩ = some (.bool (xs.getD j false))
def PairsAt (w : World) (a : Option Addr) (gs : List (Int × Int)) : Prop :=
 gs = [] ∨ ∃ b o, a = some ⟨b, o, none⟩ ∧ b < w.heap.size ∧ (∀ j, j < gs.length → w.cell? ⟨b, o + j * 2, none⟩ = some (.int .i64 (gs.getD j (0, 0)).1)) ∧ (∀ j, j < gs.length → w.cell? ⟨b, o + j * 2 + 1, none⟩ = some (.int .i64 (gs.getD j (0, 0)).2))
section
variable {w w' : World} {a : Option Addr}
theorem IntsAt.get {xs : List Int} (h : IntsAt w a xs) (hn : 0 < xs.length) : ∃ b o, a = some ⟨b, o, none⟩ ∧ b < w.heap.size ∧ ∀ j, j < xs.length → w.cell? ⟨b, o + j, none⟩ = some (.int .i64 (xs.getD j 0)) := by
 rcases h with rfl | h
 ·simp at hn
 ·exact h
theorem BoolsAt.get {xs : List Bool} (h : BoolsAt w a xs) (hn : 0 < xs.length) : ∃ b o, a = some ⟨b, o, none⟩ ∧ b < w.heap.size ∧ ∀ j, j < xs.length → w.cell? ⟨b, o + j, none⟩ = some (.bool (xs.getD j false)) := by
 rcases h with rfl | h
 ·simp at hn
 ·exact h
theorem PairsAt.get {gs : List (Int × Int)} (h : PairsAt w a gs) (hn : 0 < gs.length) : ∃ b o, a = some ⟨b, o, none⟩ ∧ b < w.heap.size ∧ (∀ j, j < gs.length → w.cell? ⟨b, o + j * 2, none⟩ = some (.int .i64 (gs.getD j (0, 0)).1)) ∧ (∀ j, j < gs.length → w.cell? ⟨b, o + j * 2 + 1, none⟩ = some (.int .i64 (gs.getD j (0, 0)).2)) := by
 rcases h with rfl | h
 ·simp at hn
 ·exact h
/-- Facts on old blocks stay. -/
theorem IntsAt.ext {xs : List Int} (h : IntsAt w a xs) (e : Ext w w') : IntsAt w' a xs := by
 rcases h with rfl | ⟨b, o, ha, hb, hc⟩
 ·exact .inl rfl
 ·exact .inr ⟨b, o, ha, Nat.lt_of_lt_of_le hb e.size, fun j hj => ((ecell e).1 b _ hb).trans (hc j hj)⟩
theorem BoolsAt.ext {xs : List Bool} (h : BoolsAt w a xs) (e : Ext w w') : BoolsAt w' a xs := by
 rcases h with rfl | ⟨b, o, ha, hb, hc⟩
 ·exact .inl rfl
 ·exact .inr ⟨b, o, ha, Nat.lt_of_lt_of_le hb e.size, fun j hj => ((ecell e).1 b _ hb).trans (hc j hj)⟩
theorem PairsAt.ext {gs : List (Int × Int)} (h : PairsAt w a gs) (e : Ext w w') : PairsAt w' a gs := by
 rcases h with rfl | ⟨b, o, ha, hb, hc, hd⟩
 ·exact .inl rfl
 ·exact .inr ⟨b, o, ha, Nat.lt_of_lt_of_le hb e.size, fun j hj => ((ecell e).1 b _ hb).trans (hc j hj), fun j hj => ((ecell e).1 b _ hb).trans (hd j hj)⟩
end
/-- A circuit, as data; and where its three slices lie. -/
structure Circ where
 inputs : Int
 next : List Int
 gates : List (Int × Int)
 outs : List Int
structure Where3 where
 an : Option Addr
 cn : Nat
 ag : Option Addr
 cg : Nat
 ao : Option Addr
 co : Nat
/-- The circuit's slices read as c says; none is very long. -/
structure CircAt (w : World) (c : Circ) (p : Where3) : Prop where
 nx : IntsAt w p.an c.next
 gs : PairsAt w p.ag c.gates
 ou : IntsAt w p.ao c.outs
 ln : c.next.length ≤ 1048576
 lg : c.gates.length ≤ 1048576
 lo : c.outs.length ≤ 1048576
theorem CircAt.ext {w w' : World} {c : Circ} {p : Where3} (h : CircAt w c p) (e : Ext w w') : CircAt w' c p :=
 ⟨h.nx.ext e, h.gs.ext e, h.ou.ext e, h.ln, h.lg, h.lo⟩
/-- Block b holds a circuit. -/
structure CircBox (w : World) (b : Nat) (c : Circ) (p : Where3) : Prop where
 lt : b < w.heap.size
 h0 : w.cell? ⟨b, 0, none⟩ = some (.int .i64 c.inputs)
 h1 : w.cell? ⟨b, 1, none⟩ = some (.slice p.an c.next.length p.cn)
 h2 : w.cell? ⟨b, 2, none⟩ = some (.slice p.ag c.gates.length p.cg)
 h3 : w.cell? ⟨b, 3, none⟩ = some (.slice p.ao c.outs.length p.co)
theorem CircBox.ext {w w' : World} {b : Nat} {c : Circ} {p : Where3} (h : CircBox w b c p) (e : Ext w w') : CircBox w' b c p :=
 ⟨Nat.lt_of_lt_of_le h.lt e.size, ((ecell e).1 b _ h.lt).trans h.h0, ((ecell e).1 b _ h.lt).trans h.h1, ((ecell e).1 b _ h.lt).trans h.h2, ((ecell e).1 b _ h.lt).trans h.h3⟩

/-- A row of cells, as a slice's elements lie. -/
def RowAt (w : World) (a : Option Addr) (cs : List Value) : Prop :=
 cs = [] ∨ ∃ b o, a = some ⟨b, o, none⟩ ∧ b < w.heap.size ∧ ∀ j u, cs[j]? = some u → w.cell? ⟨b, o + j, none⟩ = some u
theorem RowAt.ext {w w' : World} {a : Option Addr} {cs : List Value} (h : RowAt w a cs) (e : Ext w w') : RowAt w' a cs := by
 rcases h with rfl | ⟨b, o, ha, hb, hc⟩
 ·exact .inl rfl
 ·exact .inr ⟨b, o, ha, Nat.lt_of_lt_of_le hb e.size, fun j u hj => ((ecell e).1 b _ hb).trans (hc j u hj)⟩
theorem RowAt.new (w : World) (cs : Array Value) (e : TypeId) : RowAt (w.alloc (.cells cs e)) (some ⟨w.heap.size, 0, none⟩) cs.toList := by
 refine .inr ⟨_, _, rfl, by simp, fun j u hj => ?_⟩
 simp only [Nat.zero_add]
 have hk : (w.alloc (.cells cs e)).heap[w.heap.size]? = some (.cells cs e) := heap_alloc_new w _
 simp only [World.cell?, hk]
 simpa using hj
theorem IntsAt.row {w : World} {a : Option Addr} {xs : List Int} (h : IntsAt w a xs) : RowAt w a (xs.map (Value.int .i64)) := by
 rcases h with rfl | ⟨b, o, ha, hb, hc⟩
 ·exact .inl rfl
 ·refine .inr ⟨b, o, ha, hb, fun j u hj => ?_⟩
  simp only [List.getElem?_map, Option.map_eq_some_iff] at hj
  obtain ⟨x, hx, rfl⟩ := hj
  have hlt : j < xs.length := by
   rcases Nat.lt_or_ge j xs.length with h | h
   ·exact h
   ·simp [List.getElem?_eq_none h] at hx
  rw [hc j hlt, List.getD_eq_getElem?_getD, hx]; rfl
theorem BoolsAt.row {w : World} {a : Option Addr} {xs : List Bool} (h : BoolsAt w a xs) : RowAt w a (xs.map Value.bool) := by
 rcases h with rfl | ⟨b, o, ha, hb, hc⟩
 ·exact .inl rfl
 ·refine .inr ⟨b, o, ha, hb, fun j u hj => ?_⟩
  simp only [List.getElem?_map, Option.map_eq_some_iff] at hj
  obtain ⟨x, hx, rfl⟩ := hj
  have hlt : j < xs.length := by
   rcases Nat.lt_or_ge j xs.length with h | h
   ·exact h
   ·simp [List.getElem?_eq_none h] at hx
  rw [hc j hlt, List.getD_eq_getElem?_getD, hx]; rfl
/-- The facts on a slice type that an append wants. -/
structure RowTy (P : Program) (t e : TypeId) (size bytes : Nat) : Prop where
 ht : P.underlying t = some (.slice e)
 hi : ∃ i z, P.info? e = some i ∧ i.zero = some z ∧ i.size = size ∧ i.bytes = bytes ∧ z.cells.size = size
 hs : 0 < size
 hb : bytes ≤ 1024
theorem RowTy.mk' {P : Program} {t e : TypeId} {z : Value} {size bytes : Nat} (ht : P.underlying t = some (.slice e)) (hi : (P.info? e).map (fun i => (i.zero, i.size, i.bytes)) = some (some z, size, bytes)) (hz : z.cells.size = size) (hs : 0 < size) (hb : bytes ≤ 1024) : RowTy P t e size bytes := by
 refine ⟨ht, ?_, hs, hb⟩
 cases h : P.info? e with
 | none => rw [h] at hi; cases hi
 | some i =>
  rw [h] at hi
  simp only [Option.map_some, Option.some.injEq, Prod.mk.injEq] at hi
  exact ⟨i, z, rfl, hi.1, hi.2.1, hi.2.2, hz⟩
/-- Where an append's result lies: in the old row, or in a new block. -/
def RowMoved (w : World) (v v' : Value) : Prop := v'.ownBlock = v.ownBlock ∨ ∃ k, v'.ownBlock = some k ∧ w.heap.size ≤ k
theorem run_app {P : Program} {w : World} {t e : TypeId} {size bytes : Nat} (T : RowTy P t e size bytes) (ty : TypeId) {base : Nat} {v : Value} {n : Nat} {xs : List Value} (hown : w.ownsRow base e size v n xs)
  {ax : Option Addr} {m c : Nat} {news : List Value} (hr : RowAt w ax news) (hl : news.length = m * size) (h1 : ∀ u ∈ news, u.oneCell' = true) (hb : n + m ≤ 1073741824) (hbase : base ≤ w.heap.size) :
  ∃ v' w', (Builtin.append_ #[t, t] ty #[v, .slice ax m c]).run P w = .ok v' w' ∧ w'.ownsRow base e size v' (n + m) (xs ++ news) ∧ w.grownBy w' v.ownBlock ∧ RowMoved w v v' := by
 obtain ⟨ht, ⟨i, z, hi, hz, h2, h3, hzs⟩, hs, hby⟩ := T
 rcases hr with rfl | ⟨b, o, rfl, hblt, hc⟩
 ·have hm : m = 0 := by
   rcases Nat.eq_zero_or_pos m with h | h
   ·exact h
   ·have := Nat.mul_pos h hs
    simp at hl; omega
  subst hm
  refine ⟨v, w, ?_, by simpa using hown, ⟨rfl, rfl, rfl, Nat.le_refl _, fun _ _ _ => rfl⟩, .inl rfl⟩
  rcases hown.2 with ⟨rfl, rfl⟩ | ⟨g, cap, cur, rfl, _, _, hnc, _⟩
  ·cases ax <;> simp [Builtin.append_, run_underlying ht, sizeOf, typeInfo, hi, Builtin.lenOf, Builtin.firstCells, loadCells, loadCellsFrom]
  ·cases ax <;> simp [Builtin.append_, run_underlying ht, sizeOf, typeInfo, hi, Builtin.lenOf, Builtin.firstCells, hnc, storeCells, loadCells, loadCellsFrom]
 ·have hnews : ∀ j u, news[j]? = some u → w.cell? ((⟨b, o, none⟩ : Addr).add j) = some u := by
   intro j u hj
   have hadd : (⟨b, o, none⟩ : Addr).add j = ⟨b, o + j, none⟩ := by unfold Addr.add; split <;> simp_all
   rw [hadd]; exact hc j u hj
  have h63 : n + m ≤ maxLen := by simp only [maxLen]; omega
  have hbytes : (n + m) * bytes ≤ 140737488355328 := by
   have : (n + m) * bytes ≤ 1073741824 * 1024 := Nat.mul_le_mul hb hby
   omega
  subst h2
  subst h3
  have hlen : (xs ++ news).length = (n + m) * i.size := by rw [List.length_append, hown.1, hl, Nat.add_mul]
  have grown : ∀ (old : Nat), old < n + m → ∀ (row : Option Nat),
    (w.drew.alloc (.cells (xs.toArray ++ news.toArray ++ Builtin.zeroCells z.cells (grownCap w (n + m) old e - (n + m))) e)).ownsRow base e i.size
     (.slice (some ⟨w.heap.size, 0, none⟩) (n + m) (grownCap w (n + m) old e)) (n + m) (xs ++ news) ∧
    w.grownBy (w.drew.alloc (.cells (xs.toArray ++ news.toArray ++ Builtin.zeroCells z.cells (grownCap w (n + m) old e - (n + m))) e)) row := by
   intro old ho row
   have hge := grownCap_ge w (n + m) old e
   have hcm : grownCap w (n + m) old e ≤ maxLen := grownCap_le_maxLen w (n + m) old e h63
   refine ⟨⟨hlen, .inr ⟨w.heap.size, _, _, rfl, hbase, heap_alloc_new w.drew _, hge, hcm, ?_, ?_⟩⟩, ⟨rfl, rfl, rfl, by simp, fun k hk _ => Below.heap_alloc w.drew _ k hk⟩⟩
   ·simp only [Array.size_append, List.size_toArray, size_zeroCells, hzs, hown.1, hl, ← Nat.add_mul]
    congr 1
    omega
   ·simp only [Array.toList_append, List.append_assoc]
    rw [← List.append_assoc, ← hlen]
    exact List.take_left
  have hnew : ∀ old, RowMoved w v (.slice (some ⟨w.heap.size, 0, none⟩) (n + m) (grownCap w (n + m) old e)) := fun old => .inr ⟨_, rfl, Nat.le_refl _⟩
  rcases hown.2 with ⟨rfl, rfl⟩ | ⟨g, cap, cur, rfl, hbg, hg, hnc, hcm, hcs, htake⟩
  ·have hx : xs = [] := List.eq_nil_of_length_eq_zero (by simpa using hown.1)
   subst hx
   by_cases hm : m = 0
   ·subst hm
    have hn : news = [] := List.eq_nil_of_length_eq_zero (by simpa using hl)
    subst hn
    refine ⟨.slice none 0 0, w, ?_, World.ownsRow_nil w base e i.size, ⟨rfl, rfl, rfl, Nat.le_refl _, fun _ _ _ => rfl⟩, .inl rfl⟩
    simp [Builtin.append_, run_underlying ht, sizeOf, typeInfo, hi, Builtin.lenOf, Builtin.firstCells, loadCells, loadCellsFrom]
   ·have hr := run_append_nil (P := P) w t ty e i z ht hi hz _ m c news hl hnews (by omega) (by simp only [maxLen] at h63; omega) (by simp only [Nat.zero_add] at hbytes; omega)
    have hgr := grown 0 (by omega) (Value.ownBlock (.slice none 0 0))
    have hnw := hnew 0
    simp only [Nat.zero_add, List.nil_append, Array.empty_append] at hgr hnw ⊢
    exact ⟨_, _, hr, hgr.1, hgr.2, hnw⟩
  ·by_cases hroom : n + m ≤ cap
   ·have hfit : n * i.size + news.length ≤ cur.size := by rw [hl, hcs, ← Nat.add_mul]; exact Nat.mul_le_mul_right _ hroom
    have hr := run_append_room (P := P) w t ty e i ht hi g n cap cur hg _ m c news hl hnews h1 hroom hfit
    refine ⟨_, _, hr, ⟨hlen, .inr ⟨g, cap, _, rfl, hbg, setRow_heap w g cur _ e _ hg, hroom, hcm, ?_, ?_⟩⟩, ⟨rfl, rfl, rfl, by simp, fun k _ hk => setRow_other w g k _ (fun e => hk (by simp [Value.ownBlock, e]))⟩, .inl rfl⟩
    ·simp only [List.size_toArray, List.length_append, List.length_take, List.length_drop, Array.length_toList]
     omega
    ·rw [htake, ← hlen]
     exact List.take_left
   ·have holds : ∀ j u, xs[j]? = some u → w.cell? ((⟨g, 0, none⟩ : Addr).add j) = some u := hown.cells (g := g) rfl
    have hr := run_append_grow (P := P) w t ty e i z ht hi hz ⟨g, 0, none⟩ n cap xs hown.1 holds _ m c news hl hnews (by omega) (by simp only [maxLen] at h63; omega) (growslice_fits (by omega) hbytes)
    have hgr := grown cap (by omega) (Value.ownBlock (.slice (some ⟨g, 0, none⟩) n cap))
    exact ⟨_, _, hr, hgr.1, hgr.2, hnew cap⟩
section
variable {P : Program} {w : World} {t e : TypeId} {size bytes : Nat}
theorem wp_app (T : RowTy P t e size bytes) {base : Nat} {v : Value} {n : Nat} {xs : List Value} (hown : w.ownsRow base e size v n xs)
  {ax : Option Addr} {m c : Nat} {news : List Value} (hr : RowAt w ax news) (hl : news.length = m * size) (h1 : ∀ u ∈ news, u.oneCell' = true) (hb : n + m ≤ 1073741824) (hbase : base ≤ w.heap.size)
  {o : Oper} {a : Act} {K : Act → World → Prop} {Q : Exit → Act → World → Prop} {s x : Operand} (ho : o.op = .call { callee := .builtin .append, args := #[s, x], argTypes := #[t, t] })
  (hs : a.eval s = v) (hx : a.eval x = .slice ax m c)
  (h : ∀ v' w', w'.ownsRow base e size v' (n + m) (xs ++ news) → w.grownBy w' v.ownBlock → RowMoved w v v' → K (a.put o.dst v') w') : o.wp P a w K Q := by
 obtain ⟨v', w', hr, h2, h3, h4⟩ := run_app T o.type hown (c := c) hr hl h1 hb hbase
 unfold Oper.wp execOp
 simp only [ho, resolve, invoke, builtin, Sem.run_bind, Sem.run_pure, Result.andThen_ok, List.map_toArray, List.map_cons, List.map_nil, hs, hx, hr]
 exact h v' w' h2 h3 h4
theorem wpList_app (T : RowTy P t e size bytes) {base : Nat} {v : Value} {n : Nat} {xs : List Value} (hown : w.ownsRow base e size v n xs)
  {ax : Option Addr} {m c : Nat} {news : List Value} (hr : RowAt w ax news) (hl : news.length = m * size) (h1 : ∀ u ∈ news, u.oneCell' = true) (hb : n + m ≤ 1073741824) (hbase : base ≤ w.heap.size)
  {ops : Array Oper} {rest : List Oper} {o : Oper} {a : Act} {Q : Exit → Act → World → Prop} (hgd : o.guard = none) {s x : Operand} (ho : o.op = .call { callee := .builtin .append, args := #[s, x], argTypes := #[t, t] })
  (hs : a.eval s = v) (hx : a.eval x = .slice ax m c)
  (h : ∀ v' w', w'.ownsRow base e size v' (n + m) (xs ++ news) → w.grownBy w' v.ownBlock → RowMoved w v v' → wpList P ops Q rest (a.put o.dst v') w') : wpList P ops Q (o :: rest) a w :=
 wpList_plain hgd fun _ hK => wp_app T hown hr hl h1 hb hbase ho hs hx fun v' w' h2 h3 h4 => hK _ _ (h v' w' h2 h3 h4)
end
/-- A slice of integers that the call owns: it starts at the head of a block from 'base' on. -/
def OwnInts (w : World) (base : Nat) (e : TypeId) (v : Value) (xs : List Int) : Prop := w.ownsRow base e 1 v xs.length (xs.map (Value.int .i64))
theorem ownsRow_nil {w : World} {base : Nat} {e : TypeId} {size : Nat} : w.ownsRow base e size (.slice none 0 0) 0 [] := World.ownsRow_nil _ _ _ _
theorem ownsRow_ext {w w' : World} {base : Nat} {e : TypeId} {size : Nat} {v : Value} {n : Nat} {xs : List Value} (h : w.ownsRow base e size v n xs) (hE : Ext w w') : w'.ownsRow base e size v n xs := by
 refine ⟨h.1, ?_⟩
 rcases h.2 with hn | ⟨g, cap, cur, rfl, hb, hgg, rest⟩
 ·exact .inl hn
 ·exact .inr ⟨g, cap, cur, rfl, hb, (Below.block hE g (Array.getElem?_eq_some_iff.1 hgg).1).trans hgg, rest⟩
/-- How an owned row reads. -/
theorem ownsRow_row {w : World} {base : Nat} {e : TypeId} {size : Nat} {v : Value} {n : Nat} {xs : List Value} (h : w.ownsRow base e size v n xs) :
  ∃ a c, v = .slice a n c ∧ RowAt w a xs ∧ n ≤ c ∧ c ≤ maxLen ∧ (∀ x, a = some x → base ≤ x.block ∧ x.block < w.heap.size) := by
 obtain ⟨hl, rfl, rfl⟩ | ⟨hl, g, cap, cur, rfl, hbg, hg, hnc, hcm, hcs, htake⟩ : (xs.length = n * size ∧ v = .slice none 0 0 ∧ n = 0) ∨ (xs.length = n * size ∧ ∃ g cap cur, v = .slice (some ⟨g, 0, none⟩) n cap ∧ base ≤ g ∧ w.heap[g]? = some (.cells cur e (0, 0)) ∧ n ≤ cap ∧ cap ≤ maxLen ∧ cur.size = cap * size ∧ cur.toList.take (n * size) = xs) := by
  rcases h with ⟨h1, h2 | h2⟩
  ·exact .inl ⟨h1, h2⟩
  ·exact .inr ⟨h1, h2⟩
 ·exact ⟨none, 0, rfl, .inl (List.eq_nil_of_length_eq_zero (by simpa using hl)), Nat.le_refl _, Nat.zero_le _, fun x hx => by cases hx⟩
 ·have hlt := (Array.getElem?_eq_some_iff.1 hg).1
  refine ⟨_, cap, rfl, .inr ⟨g, 0, rfl, hlt, fun j u hj => ?_⟩, hnc, hcm, fun x hx => by cases hx; exact ⟨hbg, hlt⟩⟩
  have hown : w.ownsRow base e size (.slice (some ⟨g, 0, none⟩) n cap) n xs := ⟨hl, .inr ⟨g, cap, cur, rfl, hbg, hg, hnc, hcm, hcs, htake⟩⟩
  have := hown.cells (g := g) rfl j u hj
  have hadd : (⟨g, 0, none⟩ : Addr).add j = ⟨g, 0 + j, none⟩ := by unfold Addr.add; split <;> simp_all
  rwa [hadd] at this
theorem intsAt_of_row {w : World} {a : Option Addr} {xs : List Int} (h : RowAt w a (xs.map (Value.int .i64))) : IntsAt w a xs := by
 rcases h with h | ⟨b, o, ha, hb, hc⟩
 ·exact .inl (by simpa using h)
 ·exact .inr ⟨b, o, ha, hb, fun j hj => hc j _ (by simp [hj, List.getD_eq_getElem?_getD])⟩
theorem boolsAt_of_row {w : World} {a : Option Addr} {xs : List Bool} (h : RowAt w a (xs.map Value.bool)) : BoolsAt w a xs := by
 rcases h with h | ⟨b, o, ha, hb, hc⟩
 ·exact .inl (by simpa using h)
 ·exact .inr ⟨b, o, ha, hb, fun j hj => hc j _ (by simp [hj, List.getD_eq_getElem?_getD])⟩
theorem OwnInts.ext {w w' : World} {base : Nat} {e : TypeId} {v : Value} {xs : List Int} (h : OwnInts w base e v xs) (hE : Ext w w') : OwnInts w' base e v xs := ownsRow_ext h hE
theorem OwnInts.opened {w : World} {base : Nat} {e : TypeId} {v : Value} {xs : List Int} (h : OwnInts w base e v xs) :
  ∃ a c, v = .slice a xs.length c ∧ IntsAt w a xs ∧ (∀ x, a = some x → base ≤ x.block ∧ x.block < w.heap.size) := by
 obtain ⟨a, c, hv, hr, _, _, hx⟩ := ownsRow_row h
 exact ⟨a, c, hv, intsAt_of_row hr, hx⟩
theorem ext_grown {w w1 w' : World} {v : Value} (h : Ext w w1) (hg : w1.grownBy w' v.ownBlock) (hv : ∀ k, v.ownBlock = some k → w.heap.size ≤ k) : Ext w w' := Below.grown h hg (h.size) hv
theorem oneCell_ints (xs : List Int) : ∀ u ∈ xs.map (Value.int .i64), u.oneCell' = true := by
 intro u hu
 obtain ⟨x, _, rfl⟩ := List.mem_map.1 hu
 rfl
theorem oneCell_bools (xs : List Bool) : ∀ u ∈ xs.map Value.bool, u.oneCell' = true := by
 intro u hu
 obtain ⟨x, _, rfl⟩ := List.mem_map.1 hu
 rfl

/-- What a drawn region keeps, where it only makes new memory. -/
theorem held_ext {w w' : World} (h : (∀ b o, b < w.heap.size → w'.cell? ⟨b, o, none⟩ = w.cell? ⟨b, o, none⟩) ∧ Ext w w') : Ext w w' := h.2
theorem held_mk {w w' : World} (h : Ext w w') : (∀ b o, b < w.heap.size → w'.cell? ⟨b, o, none⟩ = w.cell? ⟨b, o, none⟩) ∧ Ext w w' := ⟨(ecell h).1, h⟩
theorem Ext.drew (w : World) : Ext w w.drew := Ext.drewN w 1

theorem Ext.alloc {a w : World} (h : Ext a w) (o : Obj) : Ext a (w.alloc o) := Below.alloc h h.size o
theorem Ext.setNew {a w : World} (h : Ext a w) {p : Addr} (hp : a.heap.size ≤ p.block) (u : Value) : Ext a (w.setCell p u) := Below.setCell h hp u
theorem Ext.drewN' {a w : World} (h : Ext a w) (n : Nat) : Ext a (w.drewN n) := h.trans (Ext.drewN w n)
theorem CircBox.made (w : World) (c : Circ) (p : Where3) (t : TypeId) : CircBox (w.alloc (.cells #[.int .i64 c.inputs, .slice p.an c.next.length p.cn, .slice p.ag c.gates.length p.cg, .slice p.ao c.outs.length p.co] t)) w.heap.size c p := by
 have hk := heap_alloc_new w (.cells #[.int .i64 c.inputs, .slice p.an c.next.length p.cn, .slice p.ag c.gates.length p.cg, .slice p.ao c.outs.length p.co] t)
 exact ⟨by simp, by rw [cell_of_row _ _ _ _ _ _ hk]; rfl, by rw [cell_of_row _ _ _ _ _ _ hk]; rfl, by rw [cell_of_row _ _ _ _ _ _ hk]; rfl, by rw [cell_of_row _ _ _ _ _ _ hk]; rfl⟩

/-! ### Worlds in which one old block, 'rb', may have changed -/
theorem Gr.refl (w : World) (r : Option Nat) : w.grownBy w r := ⟨rfl, rfl, rfl, Nat.le_refl _, fun _ _ _ => rfl⟩
theorem Gr.trans {a b c : World} {r : Option Nat} (h : a.grownBy b r) (k : b.grownBy c r) : a.grownBy c r :=
 ⟨k.os.trans h.os, k.tape.trans h.tape, k.output.trans h.output, Nat.le_trans h.size k.size, fun i hi hne => (k.block i (Nat.lt_of_lt_of_le hi h.size) hne).trans (h.block i hi hne)⟩
theorem Gr.ext {a b : World} (h : Ext a b) (r : Option Nat) : a.grownBy b r := ⟨Below.os h, Below.tape h, Below.output h, Below.size h, fun i hi _ => Below.block h i hi⟩
theorem Gr.toExt {a b : World} (h : a.grownBy b none) : Ext a b := ⟨h.os, h.tape, h.output, h.size, fun k hk => h.block k hk (by simp)⟩
theorem Gr.alloc {a w : World} {r : Option Nat} (h : a.grownBy w r) (o : Obj) : a.grownBy (w.alloc o) r := Gr.trans h (World.grownBy_alloc w o r)
theorem Gr.drewN {a w : World} {r : Option Nat} (h : a.grownBy w r) (n : Nat) : a.grownBy (w.drewN n) r := ⟨h.os, h.tape, h.output, h.size, h.block⟩
theorem Gr.setNew {a w : World} {r : Option Nat} (h : a.grownBy w r) {p : Addr} (hp : a.heap.size ≤ p.block) (u : Value) : a.grownBy (w.setCell p u) r :=
 ⟨h.os, h.tape, h.output, by simpa using h.size, fun k hk hne => (heap_setCell_other w p k u (by omega)).trans (h.block k hk hne)⟩
/-- A change to a row that was made since. -/
theorem Gr.row {a w w' : World} {r : Option Nat} {v : Value} (h : a.grownBy w r) (hg : w.grownBy w' v.ownBlock) (hv : ∀ k, v.ownBlock = some k → a.heap.size ≤ k) : a.grownBy w' r :=
 ⟨hg.os.trans h.os, hg.tape.trans h.tape, hg.output.trans h.output, Nat.le_trans h.size hg.size, fun k hk hne => (hg.block k (Nat.lt_of_lt_of_le hk h.size) (fun e => by have := hv k e.symm; omega)).trans (h.block k hk hne)⟩
theorem gcell {w w1 : World} {rb : Nat} (h : w.grownBy w1 (some rb)) : ∀ b o, b < w.heap.size → b ≠ rb → w1.cell? ⟨b, o, none⟩ = w.cell? ⟨b, o, none⟩ :=
 fun b o hb hne => World.cell?_of_block (a := ⟨b, o, none⟩) (h.block b hb (by intro h; exact hne (by simpa using h)))
theorem ownsRow_gr {w w' : World} {base : Nat} {e : TypeId} {size : Nat} {v : Value} {n : Nat} {xs : List Value} {r : Option Nat} (h : w.ownsRow base e size v n xs) (hE : w.grownBy w' r) (hne : v.ownBlock = none ∨ v.ownBlock ≠ r) : w'.ownsRow base e size v n xs := h.kept hE hne
/-- A value's own block lies elsewhere than in k. -/
def Off (v : Value) (k : Nat) : Prop := v.ownBlock ≠ some k
theorem ownsRow_set {w : World} {base : Nat} {e : TypeId} {size : Nat} {v : Value} {n : Nat} {xs : List Value} (h : w.ownsRow base e size v n xs) {p : Addr} (hne : v.ownBlock ≠ some p.block) (u : Value) : (w.setCell p u).ownsRow base e size v n xs := by
 refine h.kept (row := some p.block) ⟨rfl, rfl, rfl, by simp, fun k _ hk => heap_setCell_other w p k u (fun e => hk (by rw [e]))⟩ ?_
 exact .inr hne
def flat (gs : List (Int × Int)) : List Value := gs.flatMap fun g => [.int .i64 g.1, .int .i64 g.2]
theorem flat_append (a b : List (Int × Int)) : flat (a ++ b) = flat a ++ flat b := by simp [flat]
theorem flat_length (gs : List (Int × Int)) : (flat gs).length = gs.length * 2 := by
 induction gs with
 | nil => rfl
 | cons g gs ih =>
  have e : flat (g :: gs) = .int .i64 g.1 :: .int .i64 g.2 :: flat gs := rfl
  rw [e]; simp only [List.length_cons, ih]; omega
theorem flat_get (gs : List (Int × Int)) : ∀ j, j < gs.length → (flat gs)[j * 2]? = some (.int .i64 (gs.getD j (0, 0)).1) ∧ (flat gs)[j * 2 + 1]? = some (.int .i64 (gs.getD j (0, 0)).2) := by
 induction gs with
 | nil => intro j hj; simp at hj
 | cons g gs ih =>
  intro j hj
  have e : flat (g :: gs) = .int .i64 g.1 :: .int .i64 g.2 :: flat gs := rfl
  rw [e]
  cases j with
  | zero => simp
  | succ j =>
   have := ih j (by simpa using hj)
   have e1 : (j + 1) * 2 = j * 2 + 1 + 1 := by omega
   rw [e1]
   simpa using this
theorem pairsAt_of_row {w : World} {a : Option Addr} {gs : List (Int × Int)} (h : RowAt w a (flat gs)) : PairsAt w a gs := by
 rcases h with h | ⟨b, o, ha, hb, hc⟩
 ·left
  cases gs with
  | nil => rfl
  | cons g gs => simp [flat] at h
 ·exact .inr ⟨b, o, ha, hb, fun j hj => hc _ _ (flat_get gs j hj).1, fun j hj => by rw [Nat.add_assoc]; exact hc _ _ (flat_get gs j hj).2⟩
theorem PairsAt.row {w : World} {a : Option Addr} {gs : List (Int × Int)} (h : PairsAt w a gs) : RowAt w a (flat gs) := by
 rcases h with rfl | ⟨b, o, ha, hb, hc, hd⟩
 ·exact .inl rfl
 ·refine .inr ⟨b, o, ha, hb, fun j u hj => ?_⟩
  have hlt : j < gs.length * 2 := by
   rw [← flat_length]
   rcases Nat.lt_or_ge j (flat gs).length with h | h
   ·exact h
   ·simp [List.getElem?_eq_none h] at hj
  rcases Nat.mod_two_eq_zero_or_one j with h | h
  ·have e : j = (j / 2) * 2 := by omega
   have := flat_get gs (j / 2) (by omega)
   rw [e] at hj ⊢
   rw [this.1] at hj
   cases hj
   exact hc (j / 2) (by omega)
  ·have e : j = (j / 2) * 2 + 1 := by omega
   have := flat_get gs (j / 2) (by omega)
   rw [e] at hj ⊢
   rw [this.2] at hj
   cases hj
   exact hd (j / 2) (by omega)
theorem oneCell_flat (gs : List (Int × Int)) : ∀ u ∈ flat gs, u.oneCell' = true := by
 intro u hu
 simp only [flat, List.mem_flatMap, List.mem_cons, List.not_mem_nil, or_false] at hu
 obtain ⟨g, _, rfl | rfl⟩ := hu <;> rfl
theorem Gr.below {a w w' : World} {r : Option Nat} {B : Nat} (h : a.grownBy w r) (hb : Below B w w') (hB : a.heap.size ≤ B) : a.grownBy w' r :=
 ⟨hb.os.trans h.os, hb.tape.trans h.tape, hb.output.trans h.output, Nat.le_trans h.size hb.size, fun k hk hne => (hb.block k (by omega)).trans (h.block k hk hne)⟩
end Go.Proofs.Ytgialedmbmfejaa
