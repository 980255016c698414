/- The program's builder: its gates, levels and the map of the gates that are known; no condition. -/
import Derived.Test.YtpfhlodlefcomaaOptB0
import Derived.Test.YtpfhlodlefcomaaRegion
import Derived.Test.YtpfhlodlefcomaaApp2
import Derived.Test.YtpfhlodlefcomaaOptR
import Derived.Maps.OwnSet
import Derived.Maps.Views
import Derived.DeepKeys4
namespace Go.Proofs.Ytpfhlodlefcomaa
open Go.RowKit Go.Maps
set_option maxRecDepth 100000
set_option linter.unusedVariables false
set_option linter.unusedSimpArgs false
/-! ### Which old blocks a call changes -/
structure Chg (S : Nat → Prop) (w w' : World) : Prop where
  os : w'.os = w.os
  tape : w'.tape = w.tape
  output : w'.output = w.output
  size : w.heap.size ≤ w'.heap.size
  block : ∀ k, k < w.heap.size → ¬ S k → w'.heap[k]? = w.heap[k]?
section
variable {S T : Nat → Prop} {w w1 w' : World}
theorem Chg.ext (h : Ext w w') : Chg S w w' := ⟨Below.os h, Below.tape h, Below.output h, Below.size h, fun k hk _ => Below.block h k hk⟩
theorem Chg.refl (w : World) : Chg S w w := Chg.ext (Ext.refl w)
theorem Chg.of_gr {r : Option Nat} (h : w.grownBy w' r) (hr : ∀ k, r = some k → k < w.heap.size → S k) : Chg S w w' := ⟨h.os, h.tape, h.output, h.size, fun k hk hn => h.block k hk (fun e => hn (hr k e.symm hk))⟩
theorem Chg.trans (h : Chg S w w1) (k : Chg T w1 w') (ht : ∀ j, j < w.heap.size → T j → S j) : Chg S w w' :=
  ⟨k.os.trans h.os, k.tape.trans h.tape, k.output.trans h.output, Nat.le_trans h.size k.size, fun j hj hn => (k.block j (Nat.lt_of_lt_of_le hj h.size) (fun e => hn (ht j hj e))).trans (h.block j hj hn)⟩
theorem Chg.set (h : Chg S w w') {p : Addr} (hp : p.block < w.heap.size → S p.block) (u : Value) : Chg S w (w'.setCell p u) :=
  ⟨h.os, h.tape, h.output, by simpa using h.size, fun k hk hn => (heap_setCell_other w' p k u (fun e => hn (by subst e; exact hp hk))).trans (h.block k hk hn)⟩
theorem Chg.mono (h : Chg S w w') (hT : ∀ j, j < w.heap.size → S j → T j) : Chg T w w' := ⟨h.os, h.tape, h.output, h.size, fun j hj hn => h.block j hj (fun e => hn (hT j hj e))⟩
theorem Chg.toExt (h : Chg S w w') (hS : ∀ j, j < w.heap.size → ¬ S j) : Ext w w' := ⟨h.os, h.tape, h.output, h.size, fun k hk => h.block k hk (hS k hk)⟩
theorem Chg.behind {w0 : World} (h : Chg S w w') (e : Ext w0 w) (hS : ∀ j, j < w0.heap.size → ¬ S j) : Ext w0 w' :=
  ⟨h.os.trans (Below.os e), h.tape.trans (Below.tape e), h.output.trans (Below.output e), Nat.le_trans e.size h.size, fun k hk => (h.block k (Nat.lt_of_lt_of_le hk e.size) (hS k hk)).trans (Below.block e k hk)⟩
theorem ownsRow_chg {base : Nat} {e : TypeId} {size : Nat} {v : Value} {n : Nat} {xs : List Value} (h : w.ownsRow base e size v n xs) (hc : Chg S w w') (hS : ∀ k, v.ownBlock = some k → ¬ S k) : w'.ownsRow base e size v n xs := by
  refine ⟨h.1, ?_⟩
  rcases h.2 with hn | ⟨g, cap, cur, rfl, hb, hgg, rest⟩
  · exact .inl hn
  · exact .inr ⟨g, cap, cur, rfl, hb, (hc.block g (Array.getElem?_eq_some_iff.1 hgg).1 (hS g rfl)).trans hgg, rest⟩
theorem Blk.chg {B : Nat} {t : TypeId} {cs : List Value} (h : Blk w B t cs) (hc : Chg S w w') (hS : ¬ S B) : Blk w' B t cs := (hc.block B h.lt hS).trans h
end
/-! ### The map of the gates that are known -/
/-- How a gate reads as a map's key. -/
def gKey (g : Int × Int) : Lit := .string (keyBytes [.int .i64 g.1, .int .i64 g.2])
def gVal (g : Int × Int) : Value := .agg #[.int .i64 g.1, .int .i64 g.2]
def GOk (g : Int × Int) : Prop := (Lit.int .i64 g.1).wf = true ∧ (Lit.int .i64 g.2).wf = true
theorem wf_small {x : Int} (h : -9000000000000000000 ≤ x) (h2 : x ≤ 9000000000000000000) : (Lit.int .i64 x).wf = true := WalkArith.wf_i64 (by omega)
theorem gOk_of {a b : Int} (h1 : 0 ≤ a) (h2 : a ≤ 10000) (h3 : 0 ≤ b) (h4 : b ≤ 10000) : GOk (a, b) := ⟨wf_small (by dsimp only; omega) (by dsimp only; omega), wf_small (by dsimp only; omega) (by dsimp only; omega)⟩
theorem gLaidOut : laidOutB Try.prog = true := by kernel_rfl
theorem gLaw : Keyed Try.prog 46 := Keyed.of_law (deep_law_laid gLaidOut (m := 2) (by omega) (of_decide_eq_true (by kernel_rfl)) (by kernel_rfl) (by rw [Try.underlying46]))
theorem keyOf_gate {P : Program} {t i : TypeId} (hu : P.underlying t = some (.struct #[{ name := "A", type := i, offset := 0, embedded := false, tag := "", pkgPath := "", byteOffset := 0 }, { name := "B", type := i, offset := 1, embedded := false, tag := "", pkgPath := "", byteOffset := 8 }]))
    (hk : P.keyType t = true) (h0 : 0 < P.types.size) (hc : P.cellsOf t = 2) (hi : P.underlying i = some (.int .i64)) (hc3 : P.cellsOf i = 1) {a b : Int} (h1 : (Lit.int .i64 a).wf = true) (h2 : (Lit.int .i64 b).wf = true) :
    keyOf P t (.agg #[.int .i64 a, .int .i64 b]) = some (.string (keyBytes [.int .i64 a, .int .i64 b])) := by
  obtain ⟨m, hm⟩ : ∃ m, P.types.size = m + 1 := ⟨P.types.size - 1, by omega⟩
  have ki : ∀ x, (Lit.int .i64 x).wf = true → P.keyLits (m + 1) i [.int .i64 x] = some [.int .i64 x] := by
    intro x hx
    unfold Program.keyLits
    simp [hi, hx]
  have k1 : P.keyLits (m + 1 + 1) t [.int .i64 a, .int .i64 b] = some [.int .i64 a, .int .i64 b] := by
    unfold Program.keyLits
    simp [hu, hc, hc3, ki a h1, ki b h2]
  unfold keyOf
  rw [hu]
  simp [hk, hm, Value.formed, hu, hc, Value.cells, k1]
theorem gKeyOf (g : Int × Int) (h : GOk g) : keyOf Try.prog 46 (gVal g) = some (gKey g) :=
  keyOf_gate Try.underlying46 (by kernel_rfl) (of_decide_eq_true (by kernel_rfl)) (by kernel_rfl) Try.underlying3 (by kernel_rfl) h.1 h.2
theorem gKey_ne {g g' : Int × Int} (h : GOk g) (h' : GOk g') (hne : g ≠ g') : gKey g ≠ gKey g' := by
  intro e
  have h1 := gKeyOf g h
  have h2 := gKeyOf g' h'
  rw [e] at h1
  have := gLaw.inj h1 h2
  simp [gVal] at this
  exact hne (Prod.ext this.1 this.2)
theorem gKey_is {g : Int × Int} (h : GOk g) : WideAt.IsKeyLit (gKey g) := gLaw.key (gKeyOf g h)
noncomputable abbrev gElem : Value → Option (DataW Unit × List MemPlace) := plainElem (H := Unit) Try.prog 3
theorem gMapTy : Try.prog.underlying 89 = some (.map 46 3) := Try.underlying89
theorem gZero (w : World) : (zeroValue 3).run Try.prog w = .ok (.int .i64 0) w := by kernel_rfl
/-- Block mb holds the literals of the gates ks. -/
def KnownAt (w : World) (mb : Nat) (f : Int) (ks : List (Int × Int)) : Prop :=
  ∃ D : DataW Unit, w.ownsMap Try.prog 46 gElem mb ks.length D ∧ (∀ g, GOk g → Maps.has D (gKey g) = decide (g ∈ ks)) ∧
    ∀ g, GOk g → g ∈ ks → D.atKey (gKey g) (.lit (.int .i64 0)) = .lit (.int .i64 (2 * (f + (ks.idxOf g : Nat))))
section
variable {w w' : World} {mb : Nat} {f : Int} {ks : List (Int × Int)}
theorem KnownAt.lt (h : KnownAt w mb f ks) : mb < w.heap.size := by obtain ⟨D, h, _⟩ := h; exact h.lt
theorem KnownAt.kept {r : Option Nat} (h : KnownAt w mb f ks) (hg : w.grownBy w' r) (hne : some mb ≠ r) : KnownAt w' mb f ks := by obtain ⟨D, h, r⟩ := h; exact ⟨D, h.kept hg hne, r⟩
theorem KnownAt.ext (h : KnownAt w mb f ks) (e : Ext w w') : KnownAt w' mb f ks := h.kept (Gr.ext e none) (by simp)
theorem KnownAt.made (w : World) (f : Int) : KnownAt (w.alloc (.map #[] 0)) w.heap.size f [] := ⟨.map [], World.ownsMap_made _ _ _ _, fun g _ => by simp [Maps.has], fun g _ h => by simp at h⟩
theorem KnownAt.chg {S : Nat → Prop} (h : KnownAt w mb f ks) (hc : Chg S w w') (hS : ¬ S mb) : KnownAt w' mb f ks := by
  obtain ⟨D, h, r⟩ := h
  have hlt := h.lt
  obtain ⟨es, clock, hb, F, hs, hD⟩ := h
  exact ⟨D, ⟨es, clock, (hc.block mb hlt hS).trans hb, F, hs, hD⟩, r⟩
/-- 'l, ok := known[g]' -/
theorem KnownAt.look (h : KnownAt w mb f ks) {g : Int × Int} (hg : GOk g) : ∃ c, (∀ n, (Instr.lookup 89 (.map (some mb)) (gVal g) true).run Try.prog (w.drewN n) = .ok (.tuple #[.int .i64 c, .bool (decide (g ∈ ks))]) (w.drewN n)) ∧ (g ∈ ks → c = 2 * (f + (ks.idxOf g : Nat))) := by
  obtain ⟨D, h, hh, ha⟩ := h
  obtain ⟨v, ps, hr, hv⟩ := h.look_ok gLaw gMapTy (gZero w) (plainElem_int Try.underlying3 (wf_small (by omega) (by omega))) (gKeyOf g hg)
  obtain ⟨c, rfl, e, _⟩ := plainElem_int_inv Try.underlying3 hv
  refine ⟨c, fun n => ?_, fun hm => ?_⟩
  · have h' := h.kept (Gr.ext (Ext.drewN w n) none) (by simp)
    obtain ⟨v, ps, hr, hv⟩ := h'.look_ok gLaw gMapTy (gZero _) (plainElem_int Try.underlying3 (wf_small (by omega) (by omega))) (gKeyOf g hg)
    obtain ⟨c', rfl, e', _⟩ := plainElem_int_inv Try.underlying3 hv
    simp at e e'
    rw [e.1] at e'
    simp at e'
    rw [hr, hh g hg, e'.1]
  · rw [ha g hg hm] at e
    simp at e
    exact e.1.symm
theorem KnownAt.put {D : DataW Unit} {w1 : World} (h : w.ownsMap Try.prog 46 gElem mb ks.length D) (hh : ∀ g, GOk g → Maps.has D (gKey g) = decide (g ∈ ks)) (ha : ∀ g, GOk g → g ∈ ks → D.atKey (gKey g) (.lit (.int .i64 0)) = .lit (.int .i64 (2 * (f + (ks.idxOf g : Nat)))))
    {g : Int × Int} (hg : GOk g) (hn : g ∉ ks) (h1 : w1.ownsMap Try.prog 46 gElem mb (ks.length + 1) (D.put (gKey g) (.lit (.int .i64 (2 * (f + ks.length)))))) : KnownAt w1 mb f (ks ++ [g]) := by
  refine ⟨_, by rw [List.length_append]; exact h1, fun g' hg' => ?_, fun g' hg' hm => ?_⟩
  · by_cases e : g' = g
    · subst e; rw [has_put_same h.isMap (gKey_is hg)]; simp
    · rw [has_put_other (gKey_ne hg' hg e), hh g' hg']; simp [e]
  · by_cases e : g' = g
    · subst e
      rw [atKey_put_same h.isMap (gKey_is hg), List.idxOf_append, if_neg hn]
      simp
    · have hm2 : g' ∈ ks := by simpa [e] using hm
      rw [atKey_put_other (gKey_ne hg' hg e), ha g' hg' hm2, List.idxOf_append, if_pos hm2]
end
/-- 'm[k] = v' in a statement whose order is open. -/
theorem step_upd {H : Type} {P : Program} {w : World} {k e t : TypeId} {R : Value → Option (DataW H × List MemPlace)} {b n : Nat} {D : DataW H} (hown : w.ownsMap P k R b n D) (K : Keyed P k) (ht : P.underlying t = some (.map k e)) (hn : n < maxLen)
    {key val : Value} {kl : Lit} {d : DataW H} {ps : List MemPlace} (hkey : keyOf P k key = some kl) (hval : R val = some (d, ps))
    {ops : Array Oper} {o : Oper} {a : Act} {K' : Act → World → Prop} {Q : Exit → Act → World → Prop} {E : Prop} (hgd : o.guard = none) {m x v : Operand} (ho : o.op = Op.mapUpdate t m x v)
    (hm : a.eval m = .map (some b)) (hx : a.eval x = key) (hv : a.eval v = val)
    (h : ∀ w', w'.ownsMap P k R b (n + 1) (D.put kl d) → w.grownBy w' (some b) → K' (a.put o.dst undef) w') : if Region.wanted o (yielded ops a.tmps) = true then o.wp P a w K' Q else E := by
  rw [if_pos (by simp [Region.wanted, hgd])]
  obtain ⟨w', hrun, r1, r2⟩ := hown.update K ht hn hkey hval
  unfold Oper.wp
  simp [execOp, ho, hm, hx, hv, hrun, Result.andThen]
  exact h w' r1 r2
theorem step_updB {H : Type} {P : Program} {w : World} {k e t : TypeId} {R : Value → Option (DataW H × List MemPlace)} {b n : Nat} {D : DataW H} (hown : w.ownsMap P k R b n D) (K : Keyed P k) (ht : P.underlying t = some (.map k e)) (hn : n < maxLen)
    {key val : Value} {kl : Lit} {d : DataW H} {ps : List MemPlace} (hkey : keyOf P k key = some kl) (hval : R val = some (d, ps))
    {ops : Array Oper} {o : Oper} {a : Act} {K' : Act → World → Prop} {Q : Exit → Act → World → Prop} {E : Prop} (hgd : o.guard = none) {m x v : Operand} (ho : o.op = Op.mapUpdate t m x v)
    (hm : a.eval m = .map (some b)) (hx : a.eval x = key) (hv : a.eval v = val)
    (h : ∀ w', w'.ownsMap P k R b (n + 1) (D.put kl d) → w.grownBy w' (some b) → K' (a.put o.dst undef) w') : Bx (if Region.wanted o (yielded ops a.tmps) = true then o.wp P a w K' Q else E) :=
  ⟨step_upd hown K ht hn hkey hval hgd ho hm hx hv h⟩
/-! ### The builder -/
structure Bu (w : World) (base bb mb : Nat) (f : Int) (ks gs : List (Int × Int)) (gv lv : Value) (ls : List Int) : Prop where
  blk : Blk w bb 91 [.int .i64 f, gv, lv, .map (some mb)]
  hb : base ≤ bb
  hm : base ≤ mb
  ne : bb ≠ mb
  kn : KnownAt w mb f ks
  gs : w.ownsRow base 46 2 gv gs.length (flat gs)
  ls : w.ownsRow base 3 1 lv ls.length (ls.map (Value.int .i64))
  gb : gv.ownBlock ≠ some bb
  gm : gv.ownBlock ≠ some mb
  lb : lv.ownBlock ≠ some bb
  lm : lv.ownBlock ≠ some mb
  gl : ∀ k, gv.ownBlock = some k → lv.ownBlock ≠ some k
section
variable {w w' : World} {base bb mb : Nat} {f : Int} {ks gs : List (Int × Int)} {gv lv : Value} {ls : List Int}
theorem Bu.ext (h : Bu w base bb mb f ks gs gv lv ls) (e : Ext w w') : Bu w' base bb mb f ks gs gv lv ls := { h with blk := h.blk.ext e, kn := h.kn.ext e, gs := ownsRow_ext h.gs e, ls := ownsRow_ext h.ls e }
theorem Bu.chg {S : Nat → Prop} (h : Bu w base bb mb f ks gs gv lv ls) (hc : Chg S w w') (h1 : ¬ S bb) (h2 : ¬ S mb) (h3 : ∀ k, gv.ownBlock = some k → ¬ S k) (h4 : ∀ k, lv.ownBlock = some k → ¬ S k) : Bu w' base bb mb f ks gs gv lv ls :=
  { h with blk := h.blk.chg hc h1, kn := h.kn.chg hc h2, gs := ownsRow_chg h.gs hc h3, ls := ownsRow_chg h.ls hc h4 }
theorem Bu.put (h : Bu w base bb mb f ks gs gv lv ls) {w1 : World} {ks' : List (Int × Int)} (hg : w.grownBy w1 (some mb)) (hk : KnownAt w1 mb f ks') : Bu w1 base bb mb f ks' gs gv lv ls :=
  { h with blk := h.blk.gr hg (fun e => h.ne (Option.some.inj e).symm), kn := hk, gs := ownsRow_gr h.gs hg (.inr h.gm), ls := ownsRow_gr h.ls hg (.inr h.lm) }
theorem Bu.addGate (h : Bu w base bb mb f ks gs gv lv ls) {w1 : World} {gv' : Value} {gs' : List (Int × Int)} (hg : w.grownBy w1 gv.ownBlock) (hm : RowMoved w gv gv') (ho : w1.ownsRow base 46 2 gv' gs'.length (flat gs')) : Bu (w1.setCell ⟨bb, 1, none⟩ gv') base bb mb f ks gs' gv' lv ls := by
  have gcb := moved_cb hm h.blk.lt h.gb
  have B1 : Blk w1 bb 91 [.int .i64 f, gv, lv, .map (some mb)] := h.blk.gr hg h.gb
  refine ⟨B1.set 1 gv', h.hb, h.hm, h.ne, ?_, ownsRow_set ho gcb _, ownsRow_set (ownsRow_gr h.ls hg (off_row (off_swap h.gl))) h.lb _, gcb, moved_cb hm h.kn.lt h.gm, h.lb, h.lm, off_swap (moved_off hm (fun k hk => (h.ls.lt k hk).2) (off_swap h.gl))⟩
  exact (h.kn.kept hg h.gm.symm).chg (S := fun k => k = bb) (Chg.set (S := fun k => k = bb) (Chg.refl w1) (p := ⟨bb, 1, none⟩) (fun _ => rfl) _) (fun e => h.ne e.symm)
theorem Bu.addLev (h : Bu w base bb mb f ks gs gv lv ls) {w1 : World} {lv' : Value} {ls' : List Int} (hg : w.grownBy w1 lv.ownBlock) (hm : RowMoved w lv lv') (ho : w1.ownsRow base 3 1 lv' ls'.length (ls'.map (Value.int .i64))) : Bu (w1.setCell ⟨bb, 2, none⟩ lv') base bb mb f ks gs gv lv' ls' := by
  have lcb := moved_cb hm h.blk.lt h.lb
  have B1 : Blk w1 bb 91 [.int .i64 f, gv, lv, .map (some mb)] := h.blk.gr hg h.lb
  refine ⟨B1.set 2 lv', h.hb, h.hm, h.ne, ?_, ownsRow_set (ownsRow_gr h.gs hg (off_row h.gl)) h.gb _, ownsRow_set ho lcb _, h.gb, h.gm, lcb, moved_cb hm h.kn.lt h.lm, moved_off hm (fun k hk => (h.gs.lt k hk).2) h.gl⟩
  exact (h.kn.kept hg h.lm.symm).chg (S := fun k => k = bb) (Chg.set (S := fun k => k = bb) (Chg.refl w1) (p := ⟨bb, 2, none⟩) (fun _ => rfl) _) (fun e => h.ne e.symm)
end
theorem rowMoved_le {w w1 : World} {v v' : Value} (h : RowMoved w1 v v') (hs : w.heap.size ≤ w1.heap.size) : RowMoved w v v' := h.imp id (fun ⟨k, e, hk⟩ => ⟨k, e, Nat.le_trans hs hk⟩)
/-- The old blocks that the builder's own are. -/
def BuS (bb mb : Nat) (gv lv : Value) (k : Nat) : Prop := k = bb ∨ k = mb ∨ gv.ownBlock = some k ∨ lv.ownBlock = some k
def AndBu (w : World) (base bb mb : Nat) (f : Int) (gv lv : Value) (R : List (Int × Int) × Int) (e : Ending) (w' : World) : Prop :=
  ∃ gv' lv' ls', e = .returned (.int .i64 R.2) ∧ Bu w' base bb mb f R.1 R.1 gv' lv' ls' ∧ (ls'.length : Int) = f + R.1.length ∧ RowMoved w gv gv' ∧ RowMoved w lv lv' ∧ Chg (BuS bb mb gv lv) w w'
end Go.Proofs.Ytpfhlodlefcomaa
