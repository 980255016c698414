/- Bundle: the drawing of configurations. -/
import Derived.Test.YtgialedmbmfejaaBCf
import Derived.Test.YtgialedmbmfejaaDraw2
import Derived.Test.YtgialedmbmfejaaDraw3
import Derived.Test.YtgialedmbmfejaaDrawB
import Derived.Test.YtgialedmbmfejaaBKf
import Derived.Test.YtgialedmbmfejaaRegion2
import Derived.Deep.DeepCutAuto
import Derived.Test.YtgialedmbmfejaaBEv
--@from BCut BBest BLut BCel BSnk
namespace Go.Proofs.Ytgialedmbmfejaa
open Go.RowKit
set_option maxRecDepth 100000
set_option linter.unusedVariables false
set_option linter.unusedSimpArgs false
theorem off_rb {b rb : Nat} {w : World} {v : Value} (h : ∀ g, v.ownBlock = some g → b ≤ g ∧ g < w.heap.size) (hr : rb < b) : v.ownBlock = none ∨ v.ownBlock ≠ some rb := by
 cases e : v.ownBlock with
 | none => exact .inl rfl
 | some q => exact .inr (fun e2 => by have := (h q e).1; have := Option.some.inj e2; omega)
theorem OwnK.gr {w w' : World} {b rb : Nat} {tv pv : Value} {us : List Value} {K : Conf} (h : OwnK w b tv pv us K) (g : w.grownBy w' (some rb)) (hr : rb < b) : OwnK w' b tv pv us K := by
 obtain ⟨l1, l2, l3⟩ := h.lts
 refine ⟨⟨ownsRow_gr h.ts.row g (off_rb l1 hr), { h.ts.els with el := fun j hj => ownsRow_gr (h.ts.els.el j hj) g (off_rb (fun q hq => h.ts.els.lt hj hq) hr) }, h.ts.off⟩, ownsRow_gr h.ps g (off_rb l2 hr), h.op⟩
theorem OwnK.tv {w : World} {base n c j gs n1 cs gd n2 cd g : Nat} {pv : Value} {us : List Value} {K : Conf} (h : OwnK w base (.slice (some ⟨g, 0, none⟩) n c) pv us K) (hj : j < K.ts.length) (e1 : us.getD (2 * j) vnil = .slice (some ⟨gs, 0, none⟩) n1 cs) (e2 : us.getD (2 * j + 1) vnil = .slice (some ⟨gd, 0, none⟩) n2 cd) (h1 : 0 < (K.ts.getD j tile0).sl.length) (h2 : 0 < (K.ts.getD j tile0).dr.length) : TileV w g j gs cs gd cd (K.ts.getD j tile0) := by
 obtain ⟨g', c', gs', cs', gd', cd', ev, _, _, _, eu1, eu2, hTV⟩ := h.tile hj h1 h2
 obtain ⟨a1, _, _⟩ := Value.slice.inj ev
 obtain ⟨a2, _, a3⟩ := Value.slice.inj (e1.symm.trans eu1)
 obtain ⟨a4, _, a5⟩ := Value.slice.inj (e2.symm.trans eu2)
 cases a1; cases a2; cases a3; cases a4; cases a5
 exact hTV
structure DInv (w0 : World) (rb Bk : Nat) (bs : List Int) (M : Nat) (tv pv : Value) (us : List Value) (K : Conf) (w : World) : Prop where
 bk : Blk w Bk 52 [tv, pv]
 k : OwnK w w0.heap.size tv pv us K
 off : (∀ g, tv.ownBlock = some g → g ≠ Bk) ∧ (∀ g, pv.ownBlock = some g → g ≠ Bk) ∧ ∀ i g, i < 2 * K.ts.length → (us.getD i vnil).ownBlock = some g → g ≠ Bk
 rd : Rdr w rb bs M
 g : w0.grownBy w (some rb)
 lb : w0.heap.size ≤ Bk
 lr : rb < w0.heap.size
section
variable {w0 w w' : World} {rb Bk M M' : Nat} {bs : List Int} {tv pv : Value} {us : List Value} {K K' : Conf}
theorem DInv.draw (h : DInv w0 rb Bk bs M tv pv us K w) (G : w.grownBy w' (some rb)) (R : Rdr w' rb bs M') : DInv w0 rb Bk bs M' tv pv us K w' :=
 { h with bk := h.bk.gr G (fun e => by have := Option.some.inj e; have := h.lb; have := h.lr; omega), k := h.k.gr G h.lr, rd := R, g := Gr.trans h.g G }
theorem DInv.ext (h : DInv w0 rb Bk bs M tv pv us K w) (e : Ext w w') : DInv w0 rb Bk bs M tv pv us K w' := h.draw (Gr.ext e _) (h.rd.ext e)
theorem DInv.mono (h : DInv w0 rb Bk bs M tv pv us K w) (hm : M ≤ M') : DInv w0 rb Bk bs M' tv pv us K w := { h with rd := h.rd.mono hm }
theorem DInv.upd (h : DInv w0 rb Bk bs M tv pv us K w) {gb i : Nat} (hp : w0.heap.size ≤ gb) (hne : gb ≠ Bk) {v : Value} (hK : OwnK (w.setCell ⟨gb, i, none⟩ v) w0.heap.size tv pv us K') (hl : K'.ts.length = K.ts.length) : DInv w0 rb Bk bs M tv pv us K' (w.setCell ⟨gb, i, none⟩ v) :=
 { h with
  bk := h.bk.setOther (p := ⟨gb, i, none⟩) (fun e => hne e.symm) v
  k := hK
  off := ⟨h.off.1, h.off.2.1, fun i g hi => h.off.2.2 i g (by rw [← hl]; exact hi)⟩
  rd := h.rd.grn (r := some gb) (grown_setCell w gb i v) (fun k hk => by have := Option.some.inj hk; have := h.lr; omega)
  g := Gr.setNew h.g (p := ⟨gb, i, none⟩) hp v }
theorem tile_set {ts : List Tile} {j : Nat} (hj : j < ts.length) (y : Tile) : (ts.set j y).getD j tile0 = y := by rw [getD_set _ _ _ _ _ hj, if_pos rfl]
theorem conf_back {K : Conf} (h : K.Ok) {j : Nat} (hj : j < 25) (t : Nat) (d old : Int) (ho : drvB j old = true) (y : Tile) (hy : y = { K.ts.getD j tile0 with dr := (K.ts.getD j tile0).dr.set t d }) :
  Conf.Ok { K with ts := (K.ts.set j y).set j { (K.ts.set j y).getD j tile0 with dr := ((K.ts.set j y).getD j tile0).dr.set t old } } := by
 rw [tile_set (by rw [h.lt]; exact hj), List.set_set]
 have e : ({ y with dr := y.dr.set t old } : Tile) = { K.ts.getD j tile0 with dr := (K.ts.getD j tile0).dr.set t old } := by
  rw [hy]
  dsimp only
  rw [List.set_set]
 rw [e]
 exact h.put hj ((h.tile hj).dr' t ho)
/-- The sources of the tiles, with their slices' room. -/
def DrC (w : World) (ta : Option Addr) (ts : List Tile) : Prop := ∀ j, j < ts.length → ∃ b o da dc, ta = some ⟨b, o, none⟩ ∧ w.cell? ⟨b, o + j * 4 + 3, none⟩ = some (.slice da (ts.getD j tile0).dr.length dc) ∧ IntsAt w da (ts.getD j tile0).dr ∧ (ts.getD j tile0).dr.length ≤ dc ∧ dc ≤ maxLen
theorem OwnK.drc {w : World} {b n tc : Nat} {ta : Option Addr} {pv : Value} {us : List Value} {K : Conf} (h : OwnK w b (.slice ta n tc) pv us K) : DrC w ta K.ts := fun j hj => by
 obtain ⟨c0, c1, c2, c3⟩ := cellsT_get K.ts us h.ts.ul j hj
 obtain ⟨g0, g1⟩ := flT_get K.ts j hj
 have e1 := h.ts.els.el (2 * j + 1) (by rw [flT_length]; omega)
 rw [g1] at e1
 obtain ⟨da, dc, ed, hr, h5, h6, _⟩ := ownsRow_row e1
 rw [ed] at c3
 have hrow := h.ts.row
 obtain ⟨a', c', e, _⟩ := ownsRow_row hrow
 cases e
 obtain ⟨g, rfl, _, _⟩ := ownsRow_block hrow (by omega)
 exact ⟨g, 0, da, dc, rfl, by rw [Nat.zero_add]; exact ownsRow_cell hrow c3, intsAt_of_row hr, h5, h6⟩
/-- A configuration that stays readable while only the reader moves on. -/
def KeptK (b : Nat) (w' : World) (K : Conf) (ta pa : Option Addr) : Prop := ∀ w'', (∀ g, b ≤ g → g < w'.heap.size → w''.heap[g]? = w'.heap[g]?) → ConfAt w'' K ta pa ∧ DrC w'' ta K.ts
def ConfDrawn (w : World) (rb : Nat) (bs : List Int) (N : Nat) (n : Int) (e : Ending) (w' : World) : Prop :=
 ∃ ta tc pa pc K, e = .returned (.agg #[.slice ta K.ts.length tc, .slice pa K.ps.length pc]) ∧ KeptK w.heap.size w' K ta pa ∧ (K.ts.length ≤ tc ∧ tc ≤ maxLen ∧ K.ps.length ≤ pc ∧ pc ≤ maxLen) ∧ (n ≤ 0 → K.Ok) ∧ Rdr w' rb bs (N + 500) ∧ w.grownBy w' (some rb)
end
end Go.Proofs.Ytgialedmbmfejaa

--@from BCut BBest BLut BCel BSnk
namespace Go.Proofs.Ytgialedmbmfejaa
open Go.RowKit
set_option maxRecDepth 100000
set_option linter.unusedVariables false
set_option linter.unusedSimpArgs false
theorem tileSize : (Try.prog.info? 61).map (·.size) = some 4 := by kernel_rfl
/-- The shape of a configuration, valid or not. -/
structure Shp (K : Conf) : Prop where
 lt : K.ts.length = 25
 lp : K.ps.length = 3
 ls : ∀ j, j < 25 → (K.ts.getD j tile0).sl.length = 3 ∧ (K.ts.getD j tile0).dr.length = 8
theorem Conf.Ok.shp {K : Conf} (h : K.Ok) : Shp K := ⟨h.lt, h.lp, fun j hj => ⟨(h.tile hj).ls, (h.tile hj).ld⟩⟩
theorem Shp.put {K : Conf} (h : Shp K) {j : Nat} (hj : j < 25) {y : Tile} (h1 : y.sl.length = 3) (h2 : y.dr.length = 8) : Shp { K with ts := K.ts.set j y } where
 lt := by show (K.ts.set j y).length = 25; rw [List.length_set]; exact h.lt
 lp := h.lp
 ls := fun i hi => by
  show ((K.ts.set j y).getD i tile0).sl.length = 3 ∧ ((K.ts.set j y).getD i tile0).dr.length = 8
  rw [getD_set _ _ _ _ _ (by rw [h.lt]; exact hj)]
  split
  ·exact ⟨h1, h2⟩
  ·exact h.ls i hi
theorem Shp.pad {K : Conf} (h : Shp K) (o : Nat) (y : Int × Bool) : Shp { K with ps := K.ps.set o y } where
 lt := h.lt
 lp := by show (K.ps.set o y).length = 3; rw [List.length_set]; exact h.lp
 ls := h.ls
theorem Shp.big {K : Conf} (h : Shp K) : K.ts.length ≤ 1048576 ∧ K.ps.length ≤ 1048576 ∧ ∀ j, j < K.ts.length → (K.ts.getD j tile0).sl.length ≤ 1048576 ∧ (K.ts.getD j tile0).dr.length ≤ 1048576 :=
 ⟨by rw [h.lt]; decide, by rw [h.lp]; decide, fun j hj => by
  have := h.ls j (by rw [← h.lt]; exact hj)
  omega⟩
section
variable {w w' w'' : World} {b lo : Nat} {tv pv : Value} {us : List Value} {K : Conf}
theorem OwnK.keepAll (h : OwnK w' b tv pv us K) (hk : ∀ g, b ≤ g → g < w'.heap.size → w''.heap[g]? = w'.heap[g]?) : OwnK w'' b tv pv us K := by
 obtain ⟨l1, l2, l3⟩ := h.lts
 exact ⟨⟨ownsRow_keep h.ts.row (fun g hg => hk g (l1 g hg).1 (l1 g hg).2), { h.ts.els with el := fun j hj => ownsRow_keep (h.ts.els.el j hj) (fun g hg => hk g (h.ts.els.lt hj hg).1 (h.ts.els.lt hj hg).2) }, h.ts.off⟩, ownsRow_keep h.ps (fun g hg => hk g (l2 g hg).1 (l2 g hg).2), h.op⟩
theorem OwnK.kept {ta pa : Option Addr} {n m tc pc : Nat} (h : OwnK w' b (.slice ta n tc) (.slice pa m pc) us K) (hlo : lo ≤ b) (hs : Shp K) : KeptK lo w' K ta pa := fun w'' hk => by
 have h2 := h.keepAll (w'' := w'') (fun g hg h3 => hk g (by omega) h3)
 obtain ⟨a1, a2, a3⟩ := hs.big
 exact ⟨h2.at_ a1 a2 a3, h2.drc⟩
theorem TilesAt.drop1 {w : World} {g o : Nat} {ts : List Tile} (h : TilesAt w (some ⟨g, 0, none⟩) ts) (ho : o = 4) : TilesAt w (some ⟨g, o, none⟩) (ts.drop 1) := by
 subst ho
 rcases h with rfl | ⟨b, o, ha, hb, hc⟩
 ·exact .inl rfl
 ·cases ha
  refine .inr ⟨g, 4, rfl, hb, fun j hj => ?_⟩
  rw [List.length_drop] at hj
  have h2 := hc (j + 1) (by omega)
  have e : (ts.drop 1).getD j tile0 = ts.getD (j + 1) tile0 := by
   rw [List.getD_eq_getElem?_getD, List.getD_eq_getElem?_getD, List.getElem?_drop, Nat.add_comm 1 j]
  rw [e, show 4 + j * 4 = 0 + (j + 1) * 4 from by omega]
  exact h2
theorem OwnK.kept1 {g o : Nat} {pa : Option Addr} {n m tc pc : Nat} (h : OwnK w' b (.slice (some ⟨g, 0, none⟩) n tc) (.slice pa m pc) us K) (hlo : lo ≤ b) (hs : Shp K) (ho : o = 4) : KeptK lo w' { K with ts := K.ts.drop 1 } (some ⟨g, o, none⟩) pa := fun w'' hk => by
 obtain ⟨h2, h2d⟩ := h.kept hlo hs w'' hk
 have hlt := hs.lt
 have hd : DrC w'' (some ⟨g, o, none⟩) (K.ts.drop 1) := fun j hj => by
  rw [List.length_drop] at hj
  obtain ⟨b1, o1, da, dc, e, q1, q2, q3, q4⟩ := h2d (j + 1) (by omega)
  cases e
  have e : (K.ts.drop 1).getD j tile0 = K.ts.getD (j + 1) tile0 := by
   rw [List.getD_eq_getElem?_getD, List.getD_eq_getElem?_getD, List.getElem?_drop, Nat.add_comm 1 j]
  rw [e]
  exact ⟨g, o, da, dc, rfl, by rw [ho, show 4 + j * 4 + 3 = 0 + (j + 1) * 4 + 3 from by omega]; exact q1, q2, q3, q4⟩
 refine ⟨?_, hd⟩
 refine ⟨h2.ts.drop1 ho, h2.ps, by show (K.ts.drop 1).length ≤ _; rw [List.length_drop]; omega, h2.lp, fun j hj => ?_⟩
 have hj2 : j < (K.ts.drop 1).length := hj
 rw [List.length_drop] at hj2
 have e : (K.ts.drop 1).getD j tile0 = K.ts.getD (j + 1) tile0 := by
  rw [List.getD_eq_getElem?_getD, List.getD_eq_getElem?_getD, List.getElem?_drop, Nat.add_comm 1 j]
 show ((K.ts.drop 1).getD j tile0).sl.length ≤ _ ∧ ((K.ts.drop 1).getD j tile0).dr.length ≤ _
 rw [e]
 have := hs.ls (j + 1) (by omega)
 omega
theorem KeptK.set {lo2 : Nat} {ta pa : Option Addr} (h : KeptK lo w K ta pa) {p : Addr} (hp : p.block < lo) (hl : lo2 ≤ lo) (v : Value) : KeptK lo2 (w.setCell p v) K ta pa := fun w'' hk =>
 h w'' (fun g h1 h2 => (hk g (by omega) (by simpa using h2)).trans (heap_setCell_other w p g v (fun e => by omega)))
theorem OwnK.caps {ta pa : Option Addr} {n m tc pc : Nat} (h : OwnK w b (.slice ta n tc) (.slice pa m pc) us K) : K.ts.length ≤ tc ∧ tc ≤ maxLen ∧ K.ps.length ≤ pc ∧ pc ≤ maxLen := by
 obtain ⟨a1, c1, e1, _, h1, h2, _⟩ := ownsRow_row h.ts.row
 obtain ⟨a2, c2, e2, _, h3, h4, _⟩ := ownsRow_row h.ps
 cases e1; cases e2
 exact ⟨h1, h2, h3, h4⟩
end
theorem DInv.kSet {w0 w : World} {rb Bk M : Nat} {bs : List Int} {tv pv : Value} {us : List Value} {K : Conf} (h : DInv w0 rb Bk bs M tv pv us K w) (i : Nat) (v : Value) : OwnK (w.setCell ⟨Bk, i, none⟩ v) w0.heap.size tv pv us K :=
 ⟨⟨ownsRow_set h.k.ts.row (fun e => h.off.1 _ e rfl) _, h.k.ts.els.setCell (fun j hj e => h.off.2.2 j _ (by rw [flT_length] at hj; exact hj) e rfl) _, h.k.ts.off⟩, ownsRow_set h.k.ps (fun e => h.off.2.1 _ e rfl) _, h.k.op⟩
theorem flatP_set1 (x : Int) : ∀ (gs : List (Int × Bool)) (k : Nat), (flatP gs).set (k * 2) (.int .i64 x) = flatP (gs.set k (x, (gs.getD k (0, false)).2))
 | [], k => by simp [flatP]
 | g :: gs, 0 => by simp [flatP_cons]
 | g :: gs, k + 1 => by
  have := flatP_set1 x gs k
  rw [show (k + 1) * 2 = k * 2 + 1 + 1 from by omega]
  simp only [flatP_cons, List.set_cons_succ, List.getD_cons_succ]
  rw [this]
theorem OwnK.setPad1 {w : World} {base : Nat} {tv pv : Value} {us : List Value} {K : Conf} (h : OwnK w base tv pv us K) {o g c n : Nat} (ho : o < K.ps.length) (hv : pv = .slice (some ⟨g, 0, none⟩) n c) (x : Int) : OwnK (w.setCell ⟨g, o * 2, none⟩ (.int .i64 x)) base tv pv us { K with ps := K.ps.set o (x, (K.ps.getD o (0, false)).2) } := by
 have hn : n = K.ps.length := by
  obtain ⟨a, c2, e, _⟩ := ownsRow_row h.ps
  rw [hv] at e; cases e; rfl
 subst hn hv
 obtain ⟨p1, p2⟩ := h.op g rfl
 have hfl := flatP_length K.ps
 have h1 := ownsRow_setAt h.ps (o * 2) (by omega) (.int .i64 x)
 rw [flatP_set1] at h1
 refine ⟨⟨ownsRow_set h.ts.row p1 _, h.ts.els.setCell (fun i hi => p2 i (by rw [flT_length] at hi; exact hi)) _, h.ts.off⟩, by rw [List.length_set]; exact h1, fun q hq => h.op q hq⟩
/-- What is left of the drawing. -/
def FinK (w1 : World) (rb Bk : Nat) (bs : List Int) (M : Nat) (n : Int) (w : World) : Prop :=
 ∃ ta tc pa pc K, Blk w Bk 52 [.slice ta K.ts.length tc, .slice pa K.ps.length pc] ∧ KeptK w1.heap.size w K ta pa ∧ (K.ts.length ≤ tc ∧ tc ≤ maxLen ∧ K.ps.length ≤ pc ∧ pc ≤ maxLen) ∧ (n ≤ 0 → K.Ok) ∧ Rdr w rb bs M ∧ w1.grownBy w (some rb)
theorem DInv.fin {w1 w : World} {rb Bk M M' : Nat} {bs : List Int} {ta pa : Option Addr} {a tc b pc : Nat} {us : List Value} {K : Conf} {n : Int} (h : DInv w1 rb Bk bs M (.slice ta a tc) (.slice pa b pc) us K w) (ha : a = K.ts.length) (hb : b = K.ps.length) (hs : Shp K) (hn : n ≤ 0 → K.Ok) (hm : M ≤ M') : FinK w1 rb Bk bs M' n w := by
 subst ha hb
 exact ⟨ta, tc, pa, pc, K, h.bk, h.k.kept (Nat.le_refl _) hs, h.k.caps, hn, h.rd.mono hm, h.g⟩
end Go.Proofs.Ytgialedmbmfejaa

--@from BCut BBest BLut BCel BSnk
namespace Go.Proofs.Ytgialedmbmfejaa
open Go.RowKit
set_option maxRecDepth 1000000
set_option linter.unusedVariables false
set_option linter.unusedSimpArgs false
/-- The arm of the test in a slot. -/
def condArm (t : Nat) : Code → Option Code
 | .cond (.tmp k) a b => if k = t then some a else (match condArm t a with
  | some c => some c
  | none => condArm t b)
 | .cond _ a b => match condArm t a with
  | some c => some c
  | none => condArm t b
 | .seq a b => match condArm t a with
  | some c => some c
  | none => condArm t b
 | .loop c => condArm t c
 | .block _ c => condArm t c
 | .scope c => condArm t c
 | _ => none
/-- Only the normal way out. -/
def armQ (Q : Exit → Act → World → Prop) : Exit → Act → World → Prop
 | .normal, a, w => Q .normal a w
 | _, _, _ => False
noncomputable def badArm : Code := ((Try.f83.body.bind (condArm 112)).getD .skip)
set_option maxHeartbeats 32000000 in
theorem badArm_c (c2 c3 c4 c6 c7 c8 c9 c10 c11 c12 c13 c14 c15 c16 c17 c18 c19 c20 c21 c22 c23 c24 c25 c26 c27 c28 c29 c30 c31 c32 c33 c34 c35 c36 c37 c38 c39 c40 c41 c42 c43 c44 c45 c46 c47 c48 c49 c50 c51 c52 c53 c54 c55 c56 c57 c58 c59 c60 c61 c62 c63 c64 c65 c66 c67 c68 c69 c70 c71 c72 c73 c74 c75 c76 c77 c78 c79 c80 c81 c82 c83 c84 c85 c86 c87 c88 c89 c90 c91 c92 c93 c94 c95 c96 c97 c98 c99 c100 c101 c102 c103 c104 c105 c106 c107 c108 c109 c110 c111 c112 c113 c114 c115 c116 c117 c118 c119 c120 c121 c122 c123 c124 c125 c126 c127 c128 c129 c130 c131 c132 c133 c134 c135 c136 c137 c138 c139 c140 c141 c142 c143 c144 c145 c146 c147 c148 c149 c150 c151 c152 c153 c154 c155 c156 c157 c158 c159 c160 c161 c162 c163 c164 c165 c166 c167 c168 c169 c170 c171 c172 c173 c174 c175 : Value) (rb : Nat) (bs : List Int) (N M : Nat) (n : Int) (w1 w7 : World) (Bk : Nat) (ta pa : Option Addr) (tc pc : Nat) (us : List Value) (K : Conf) (hD7 : DInv w1 rb Bk bs M (.slice ta 25 tc) (.slice pa 3 pc) us K w7) (HOK : Hid K.Ok) (HM : Hid (M + 50 ≤ N + 500)) (hMl : M ≤ 10000000) (hn : ¬ n ≤ 0) (s13 : w1.heap.size ≤ Bk) {Q1 : Exit → Act → World → Prop}
  (HQ1 : Hid (∀ (d11 d113 d114 d115 d116 d117 d118 d119 d120 d121 d122 d123 d124 d125 d126 d127 d128 d129 d130 d131 d132 d133 d134 d135 d136 d137 d138 d139 d140 d141 d142 d143 d144 d145 d146 d147 d148 d149 d150 d151 d152 d153 d154 d155 d156 d157 d158 d159 d160 d161 d162 d163 d164 d165 d166 d167 d168 d169 d170 d171 d172 d173 d174 : Value) (w' : World), FinK w1 rb Bk bs (N + 500) n w' → Q1 .normal ⟨#[.pointer (some ⟨rb, 0, none⟩), .int .i64 n, c2, c3, c4, .pointer (some ⟨Bk, 0, none⟩), c6, c7, c8, c9, c10, d11, c12, c13, c14, c15, c16, c17, c18, c19, c20, c21, c22, c23, c24, c25, c26, c27, c28, c29, c30, c31, c32, c33, c34, c35, c36, c37, c38, c39, c40, c41, c42, c43, c44, c45, c46, c47, c48, c49, c50, c51, c52, c53, c54, c55, c56, c57, c58, c59, c60, c61, c62, c63, c64, c65, c66, c67, c68, c69, c70, c71, c72, c73, c74, c75, c76, c77, c78, c79, c80, c81, c82, c83, c84, c85, c86, c87, c88, c89, c90, c91, c92, c93, c94, c95, c96, c97, c98, c99, c100, c101, c102, c103, c104, c105, c106, c107, c108, c109, c110, c111, c112, d113, d114, d115, d116, d117, d118, d119, d120, d121, d122, d123, d124, d125, d126, d127, d128, d129, d130, d131, d132, d133, d134, d135, d136, d137, d138, d139, d140, d141, d142, d143, d144, d145, d146, d147, d148, d149, d150, d151, d152, d153, d154, d155, d156, d157, d158, d159, d160, d161, d162, d163, d164, d165, d166, d167, d168, d169, d170, d171, d172, d173, d174, c175], []⟩ w')) :
  Code.wp Try.prog badArm Q1 ⟨#[.pointer (some ⟨rb, 0, none⟩), .int .i64 n, c2, c3, c4, .pointer (some ⟨Bk, 0, none⟩), c6, c7, c8, c9, c10, c11, c12, c13, c14, c15, c16, c17, c18, c19, c20, c21, c22, c23, c24, c25, c26, c27, c28, c29, c30, c31, c32, c33, c34, c35, c36, c37, c38, c39, c40, c41, c42, c43, c44, c45, c46, c47, c48, c49, c50, c51, c52, c53, c54, c55, c56, c57, c58, c59, c60, c61, c62, c63, c64, c65, c66, c67, c68, c69, c70, c71, c72, c73, c74, c75, c76, c77, c78, c79, c80, c81, c82, c83, c84, c85, c86, c87, c88, c89, c90, c91, c92, c93, c94, c95, c96, c97, c98, c99, c100, c101, c102, c103, c104, c105, c106, c107, c108, c109, c110, c111, c112, c113, c114, c115, c116, c117, c118, c119, c120, c121, c122, c123, c124, c125, c126, c127, c128, c129, c130, c131, c132, c133, c134, c135, c136, c137, c138, c139, c140, c141, c142, c143, c144, c145, c146, c147, c148, c149, c150, c151, c152, c153, c154, c155, c156, c157, c158, c159, c160, c161, c162, c163, c164, c165, c166, c167, c168, c169, c170, c171, c172, c173, c174, c175], []⟩ w7 := by
 refine wp_mono (Q := armQ Q1) ?_ (fun e a w h => by cases e <;> first | exact h | exact h.elim)
 conv => arg 2; whnf
 have HNN := Lib.hid hn
 go_wp2_with fail
 refine (pick_c rb bs _ 25 _ hD7.rd (by omega) (by omega)).mono ?_
 rintro e w8 ⟨k, rfl, k0, k1, hR8, hG8⟩
 obtain ⟨j, rfl⟩ : ∃ j : Nat, k = (j : Int) := ⟨k.toNat, by omega⟩
 have hj25 : j < 25 := by rcases k1 with h | h <;> omega
 have hji : (j : Int) < 25 := by omega
 have hD8 := hD7.draw hG8 hR8
 clear hD7 hR8 hG8 k0 k1
 go_wp2_with fail
 refine (pick_c rb bs _ 6 _ hD8.rd (by omega) (by omega)).mono ?_
 rintro e w9 ⟨k, rfl, k0, k1, hR9, hG9⟩
 have hcase : k = 0 ∨ k = 1 ∨ k = 2 ∨ k = 3 ∨ k = 4 ∨ k = 5 := by rcases k1 with h | h <;> omega
 have hD9 := hD8.draw hG9 hR9
 clear hD8 hR9 hG9 k0 k1
 have HSH := Lib.hid HOK.out.shp
 have HOKK := Lib.hid (HOK.out)
 have hMM := HM.out
 have view : ∀ i, i < 25 → ∃ g gs csl gd cd, ta = some ⟨g, 0, none⟩ ∧ w1.heap.size ≤ g ∧ w1.heap.size ≤ gs ∧ w1.heap.size ≤ gd ∧ g ≠ Bk ∧ gs ≠ Bk ∧ gd ≠ Bk ∧ us.getD (2 * i) vnil = .slice (some ⟨gs, 0, none⟩) 3 csl ∧ us.getD (2 * i + 1) vnil = .slice (some ⟨gd, 0, none⟩) 8 cd ∧ g < w9.heap.size ∧ gs < w9.heap.size ∧ gd < w9.heap.size := by
  intro i hi
  have ht := HOKK.out.tile hi
  obtain ⟨g, cg, gs, csl, gd, cd, ev, hbg, hbs, hbd, eu1, eu2, hTV⟩ := hD9.k.tile (j := i) (by rw [HOKK.out.lt]; exact hi) (by rw [ht.ls]; omega) (by rw [ht.ld]; omega)
  rw [ht.ls] at eu1
  rw [ht.ld] at eu2
  have ev2 := (Value.slice.inj ev).1
  exact ⟨g, gs, csl, gd, cd, ev2, hbg, hbs, hbd, hD9.off.1 g (by rw [ev2]; rfl), hD9.off.2.2 (2 * i) gs (by rw [HOKK.out.lt]; omega) (by rw [eu1]; rfl), hD9.off.2.2 (2 * i + 1) gd (by rw [HOKK.out.lt]; omega) (by rw [eu2]; rfl), eu1, eu2, hTV.lg, hTV.ls, hTV.ld⟩
 have HVIEW := Lib.hid view
 clear view
 have hlr := hD9.lr
 have z0' := hD9.bk.cell (i := 0) rfl
 have z1' := hD9.bk.cell (i := 1) rfl
 have zl := hD9.bk.lt
 have zf := fun i => hD9.bk.frozen i
 rcases hcase with rfl | rfl | rfl | rfl | rfl | rfl
 ·obtain ⟨g, gs, csl, gd, cd, eta, hbg, hbs, hbd, hng, hngs, hngd, eu1, eu2, hlg, hlgs, hlgd⟩ := HVIEW.out 0 (by omega)
  subst eta
  obtain ⟨o6, ho6, _, hsl⟩ := run_from (P := Try.prog) (t := 49) (e := 61) (sz := 4) Try.underlying49 tileSize g 25 tc 1 (by omega) (by omega)
  have hcaps := hD9.k.caps
  have ho4 : o6 = 4 := by have h1 := HOKK.out.lt; have h2 := hcaps.1; exact ho6 (by omega)
  have HF : Hid (FinK w1 rb Bk bs (N + 500) n (w9.setCell ⟨Bk, 0, none⟩ (.slice (some ⟨g, o6, none⟩) (25 - Int.toNat 1) (tc - Int.toNat 1)))) := Lib.hid (by
   have hk1 := (hD9.kSet 0 (.slice (some ⟨g, o6, none⟩) (25 - Int.toNat 1) (tc - Int.toNat 1))).kept1 (lo := w1.heap.size) (Nat.le_refl _) HSH.out ho4
   have h25 := HOKK.out.lt
   have h3 := HOKK.out.lp
   refine ⟨some ⟨g, o6, none⟩, tc - Int.toNat 1, pa, pc, { K with ts := K.ts.drop 1 }, ?_, ?_, ?_, fun h => absurd h (by have := HNN.out; omega), ?_, ?_⟩
   ·have hb := hD9.bk.set 0 (.slice (some ⟨g, o6, none⟩) (25 - Int.toNat 1) (tc - Int.toNat 1))
    have e1 : ({ K with ts := K.ts.drop 1 } : Conf).ts.length = 25 - Int.toNat 1 := by show (K.ts.drop 1).length = _; rw [List.length_drop, h25]; rfl
    have e2 : ({ K with ts := K.ts.drop 1 } : Conf).ps.length = 3 := h3
    rw [e1, e2]; exact hb
   ·exact hk1
   ·refine ⟨by show (K.ts.drop 1).length ≤ _; rw [List.length_drop]; show _ ≤ tc - 1; omega, by have := hcaps.2.1; show tc - 1 ≤ _; omega, hcaps.2.2.1, hcaps.2.2.2⟩
   ·exact (hD9.rd.mono (by omega)).grn (r := some Bk) (grown_setCell _ _ 0 _) (fun k hk => by have := Option.some.inj hk; have := hD9.lb; omega)
   ·exact Gr.setNew hD9.g (p := ⟨Bk, 0, none⟩) hD9.lb _)
  clear hcaps ho6 ho4 hD9
  go_wp2_with fail
  apply HQ1.out
  exact HF.out
 ·obtain ⟨g, gs, csl, gd, cd, eta, hbg, hbs, hbd, hng, hngs, hngd, eu1, eu2, hlg, hlgs, hlgd⟩ := HVIEW.out j (by omega)
  subst eta
  have HU1 := Lib.hid eu1
  have HU2 := Lib.hid eu2
  have hJ : j < K.ts.length := by rw [HOKK.out.lt]; omega
  have HJ := Lib.hid hJ
  have htk := HOKK.out.tile (j := j) (by omega)
  have hls := htk.ls
  have hld := htk.ld
  have HLS := Lib.hid hls
  have HLD := Lib.hid hld
  have HTV := Lib.hid (fun (W : World) M (h : DInv w1 rb Bk bs M (.slice (some ⟨g, 0, none⟩) 25 tc) (.slice pa 3 pc) us K W) => h.k.tv (j := j) HJ.out eu1 eu2 (by rw [hls]; omega) (by rw [hld]; omega))
  have T9 := HTV.out _ _ hD9
  have x0 := T9.c0
  have x1 := T9.c1
  have x2 := T9.c2
  have x3 := T9.c3
  rw [hls] at x1
  rw [hld] at x3
  obtain ⟨X, hX⟩ : ∃ X, X = K.ts.getD j tile0 := ⟨_, rfl⟩
  have HX := Lib.hid hX
  rw [← hX] at x0 x2
  have HREL : Hid (∀ W, w9.grownBy W (some rb) → ∀ o, W.cell? ⟨Bk, o, none⟩ = w9.cell? ⟨Bk, o, none⟩ ∧ W.cell? ⟨g, o, none⟩ = w9.cell? ⟨g, o, none⟩) := Lib.hid (fun W G o => ⟨gcell G Bk o zl (by omega), gcell G g o hlg (by omega)⟩)
  have hrb9 : rb < w9.heap.size := hD9.rd.lt
  have HUPD : Hid (∀ W M' (y : Int), DInv w1 rb Bk bs M' (.slice (some ⟨g, 0, none⟩) 25 tc) (.slice pa 3 pc) us K W → M' ≤ N + 500 → FinK w1 rb Bk bs (N + 500) n (W.setCell ⟨g, j * 4, none⟩ (.int .i64 y))) := Lib.hid (fun W M' y h hm => (h.upd (K' := { K with ts := K.ts.set j { K.ts.getD j tile0 with tb := y } }) hbg hng (h.k.setTb HJ.out rfl y) (by show (K.ts.set _ _).length = _; rw [List.length_set])).fin (by show 25 = (K.ts.set _ _).length; rw [List.length_set, HOKK.out.lt]) HOKK.out.lp.symm (HSH.out.put (by omega) HLS.out HLD.out) (fun h => absurd h (by have := HNN.out; omega)) hm)
  clear eu1 eu2 hJ htk hls hld T9 hX
  go_upto_region 27 with fail
  refine wp_regionT (fun w' => ∀ o, w'.cell? ⟨Bk, o, none⟩ = w9.cell? ⟨Bk, o, none⟩ ∧ w'.cell? ⟨g, o, none⟩ = w9.cell? ⟨g, o, none⟩) 10 (by kernel_rfl) ?_
  have hS0 := HREL.out _ (Gr.ext (Ext.drew w9) _)
  have hD9d := hD9.ext (Ext.drew w9)
  ((refine tkT 0 (v := ?_) rfl (by kernel_rfl) (by kernel_rfl) ?_ (by assumption) ?_; rotate_left; (intro wS hSw; (try dsimp only at hSw); go_simp; (try with_reducible rfl)); (try simp only [Act.put, lA, lB, lC])); (refine tkT 1 (v := ?_) rfl (by kernel_rfl) (by kernel_rfl) ?_ (by assumption) ?_; rotate_left; (intro wS hSw; (try dsimp only at hSw); go_simp; (try with_reducible rfl)); (try simp only [Act.put, lA, lB, lC])); (refine tkT 2 (v := ?_) rfl (by kernel_rfl) (by kernel_rfl) ?_ (by assumption) ?_; rotate_left; (intro wS hSw; (try dsimp only at hSw); go_simp; (try with_reducible rfl)); (try simp only [Act.put, lA, lB, lC])); (refine tkT 4 (v := ?_) rfl (by kernel_rfl) (by kernel_rfl) ?_ (by assumption) ?_; rotate_left; (intro wS hSw; (try dsimp only at hSw); go_simp; (try with_reducible rfl)); (try simp only [Act.put, lA, lB, lC])))
  (refine wpAnyT_do2 3 5 (by kernel_rfl) rfl rfl (fun K hK => ?_) (fun K hK => ?_))
  ·skip
   go_simp
   have eA : Ext (World.drew w9) ((World.drew w9).alloc (.cells #[.int .i64 (-1), .int .i64 256] 3)) := (Ext.refl _).alloc _
   have bk := Blk.at (World.drew w9) [.int .i64 (-1), .int .i64 256] 3 (B := w9.heap.size) rfl
   have hD10 := hD9d.ext eA
   have G10 := Gr.trans (Gr.ext (Ext.drew w9) (some rb)) (Gr.ext eA _)
   have hS1 := HREL.out _ G10
   (refine hK _ _ hS1 ?_; clear hK K; (try simp only [Act.put, lA, lB, lC]))
   (refine wpAnyT_do 5 (by kernel_rfl) rfl (fun K hK => ?_))
   go_simp
   refine (pick_c rb bs _ 2 _ hD10.rd (by omega) (by omega)).mono ?_
   rintro e w11 ⟨k, rfl, k0, k1, hR11, hG11⟩
   have hk2 : k = 0 ∨ k = 1 := by rcases k1 with h | h <;> omega
   have hD11 := hD10.draw hG11 hR11
   have hS4 := HREL.out _ (Gr.trans G10 hG11)
   have bk12 := bk.gr hG11 (fun e => by have := Option.some.inj e; have h5 : rb = w9.heap.size := this; omega)
   clear k0 k1 hG11 hR11 bk
   (refine hK _ _ hS4 ?_; clear hK K; (try simp only [Act.put, lA, lB, lC]))
   obtain ⟨kk, hkk⟩ : ∃ kk : Nat, k = (kk : Int) ∧ kk < 2 := ⟨k.toNat, by omega, by omega⟩
   obtain ⟨rfl, hkl⟩ := hkk
   have hkli : (kk : Int) < 2 := by omega
   obtain ⟨Y, zk⟩ : ∃ Y : Int, w11.cell? ⟨w9.heap.size, kk, none⟩ = some (.int .i64 Y) := by
    have h9 : kk = 0 ∨ kk = 1 := by omega
    rcases h9 with rfl | rfl
    ·exact ⟨_, bk12.cell (i := 0) rfl⟩
    ·exact ⟨_, bk12.cell (i := 1) rfl⟩
   have zl2 := bk12.lt
   have T12 := HTV.out _ _ hD11
   have fg := T12.fg
   have hlg12 := T12.lg
   have HF := Lib.hid (HUPD.out _ _ Y hD11 (by omega))
   clear T12 hD11 bk12 hk2
   (refine wpAnyT_do 6 (by kernel_rfl) rfl (fun K hK => ?_))
   go_simp
   (refine hK _ _ hS4 ?_; clear hK K; (try simp only [Act.put, lA, lB, lC]))
   (refine wpAnyT_do 7 (by kernel_rfl) rfl (fun K hK => ?_))
   go_simp
   (refine hK _ _ hS4 ?_; clear hK K; (try simp only [Act.put, lA, lB, lC]))
   (refine wpAnyT_do 8 (by kernel_rfl) rfl (fun K hK => ?_))
   go_simp
   (refine hK _ _ hS4 ?_; clear hK K; (try simp only [Act.put, lA, lB, lC]))
   (refine wpAnyT_do 9 (by kernel_rfl) rfl (fun K hK => ?_))
   go_simp
   (refine hK _ _ hS4 ?_; clear hK K; (try simp only [Act.put, lA, lB, lC]))
   (refine wpAnyT_last 10 (by kernel_rfl) rfl (by decide) (by kernel_rfl) (fun K hK => ?_))
   go_simp
   (refine hK _ _ ?_; clear hK K; (try simp only [Act.put, lA, lB, lC]))
   go_wp2_with fail
   apply HQ1.out
   exact HF.out
  ·skip
   go_simp
   refine (pick_c rb bs _ 2 _ hD9d.rd (by omega) (by omega)).mono ?_
   rintro e w10 ⟨k, rfl, k0, k1, hR10, hG10⟩
   have hk2 : k = 0 ∨ k = 1 := by rcases k1 with h | h <;> omega
   have hD10 := hD9d.draw hG10 hR10
   have G10 := Gr.trans (Gr.ext (Ext.drew w9) (some rb)) hG10
   have hS1 := HREL.out _ G10
   (refine hK _ _ hS1 ?_; clear hK K; (try simp only [Act.put, lA, lB, lC]))
   (refine wpAnyT_do 3 (by kernel_rfl) rfl (fun K hK => ?_))
   go_simp
   have eA : Ext w10 (w10.alloc (.cells #[.int .i64 (-1), .int .i64 256] 3)) := (Ext.refl _).alloc _
   have bk12 := Blk.at w10 [.int .i64 (-1), .int .i64 256] 3 rfl
   have hD11 := hD10.ext eA
   have hS4 := HREL.out _ (Gr.trans G10 (Gr.ext eA _))
   clear k0 k1 hG10 hR10
   (refine hK _ _ hS4 ?_; clear hK K; (try simp only [Act.put, lA, lB, lC]))
   obtain ⟨kk, hkk⟩ : ∃ kk : Nat, k = (kk : Int) ∧ kk < 2 := ⟨k.toNat, by omega, by omega⟩
   obtain ⟨rfl, hkl⟩ := hkk
   have hkli : (kk : Int) < 2 := by omega
   obtain ⟨Y, zk⟩ : ∃ Y : Int, (w10.alloc (.cells #[.int .i64 (-1), .int .i64 256] 3)).cell? ⟨w10.heap.size, kk, none⟩ = some (.int .i64 Y) := by
    have h9 : kk = 0 ∨ kk = 1 := by omega
    rcases h9 with rfl | rfl
    ·exact ⟨_, bk12.cell (i := 0) rfl⟩
    ·exact ⟨_, bk12.cell (i := 1) rfl⟩
   have zl2 := bk12.lt
   have T12 := HTV.out _ _ hD11
   have fg := T12.fg
   have hlg12 := T12.lg
   have HF := Lib.hid (HUPD.out _ _ Y hD11 (by omega))
   clear T12 hD11 bk12 hk2
   (refine wpAnyT_do 6 (by kernel_rfl) rfl (fun K hK => ?_))
   go_simp
   (refine hK _ _ hS4 ?_; clear hK K; (try simp only [Act.put, lA, lB, lC]))
   (refine wpAnyT_do 7 (by kernel_rfl) rfl (fun K hK => ?_))
   go_simp
   (refine hK _ _ hS4 ?_; clear hK K; (try simp only [Act.put, lA, lB, lC]))
   (refine wpAnyT_do 8 (by kernel_rfl) rfl (fun K hK => ?_))
   go_simp
   (refine hK _ _ hS4 ?_; clear hK K; (try simp only [Act.put, lA, lB, lC]))
   (refine wpAnyT_do 9 (by kernel_rfl) rfl (fun K hK => ?_))
   go_simp
   (refine hK _ _ hS4 ?_; clear hK K; (try simp only [Act.put, lA, lB, lC]))
   (refine wpAnyT_last 10 (by kernel_rfl) rfl (by decide) (by kernel_rfl) (fun K hK => ?_))
   go_simp
   (refine hK _ _ ?_; clear hK K; (try simp only [Act.put, lA, lB, lC]))
   go_wp2_with fail
   apply HQ1.out
   exact HF.out
 ·obtain ⟨g, gs, csl, gd, cd, eta, hbg, hbs, hbd, hng, hngs, hngd, eu1, eu2, hlg, hlgs, hlgd⟩ := HVIEW.out j (by omega)
  subst eta
  have HU1 := Lib.hid eu1
  have HU2 := Lib.hid eu2
  have hJ : j < K.ts.length := by rw [HOKK.out.lt]; omega
  have HJ := Lib.hid hJ
  have htk := HOKK.out.tile (j := j) (by omega)
  have hls := htk.ls
  have hld := htk.ld
  have HLS := Lib.hid hls
  have HLD := Lib.hid hld
  have HTV := Lib.hid (fun (W : World) M (h : DInv w1 rb Bk bs M (.slice (some ⟨g, 0, none⟩) 25 tc) (.slice pa 3 pc) us K W) => h.k.tv (j := j) HJ.out eu1 eu2 (by rw [hls]; omega) (by rw [hld]; omega))
  have T9 := HTV.out _ _ hD9
  have x0 := T9.c0
  have x1 := T9.c1
  have x2 := T9.c2
  have x3 := T9.c3
  rw [hls] at x1
  rw [hld] at x3
  obtain ⟨X, hX⟩ : ∃ X, X = K.ts.getD j tile0 := ⟨_, rfl⟩
  have HX := Lib.hid hX
  rw [← hX] at x0 x2
  have HREL : Hid (∀ W, w9.grownBy W (some rb) → ∀ o, W.cell? ⟨Bk, o, none⟩ = w9.cell? ⟨Bk, o, none⟩ ∧ W.cell? ⟨g, o, none⟩ = w9.cell? ⟨g, o, none⟩) := Lib.hid (fun W G o => ⟨gcell G Bk o zl (by omega), gcell G g o hlg (by omega)⟩)
  have hrb9 : rb < w9.heap.size := hD9.rd.lt
  have HUPD : Hid (∀ W M' (y : Int), DInv w1 rb Bk bs M' (.slice (some ⟨g, 0, none⟩) 25 tc) (.slice pa 3 pc) us K W → M' ≤ N + 500 → FinK w1 rb Bk bs (N + 500) n (W.setCell ⟨gs, 0, none⟩ (.int .i64 y))) := Lib.hid (fun W M' y h hm => (h.upd (K' := { K with ts := K.ts.set j { K.ts.getD j tile0 with sl := (K.ts.getD j tile0).sl.set 0 y } }) hbs hngs (h.k.setSl HJ.out HU1.out (by rw [HLS.out]; omega) y) (by show (K.ts.set _ _).length = _; rw [List.length_set])).fin (by show 25 = (K.ts.set _ _).length; rw [List.length_set, HOKK.out.lt]) HOKK.out.lp.symm (HSH.out.put (by omega) (by show (List.set _ _ _).length = 3; rw [List.length_set]; exact HLS.out) HLD.out) (fun h => absurd h (by have := HNN.out; omega)) hm)
  clear eu1 eu2 hJ htk hls hld T9 hX
  go_upto_region 29 with fail
  refine wp_regionT (fun w' => ∀ o, w'.cell? ⟨Bk, o, none⟩ = w9.cell? ⟨Bk, o, none⟩ ∧ w'.cell? ⟨g, o, none⟩ = w9.cell? ⟨g, o, none⟩) 12 (by kernel_rfl) ?_
  have hS0 := HREL.out _ (Gr.ext (Ext.drew w9) _)
  have hD9d := hD9.ext (Ext.drew w9)
  ((refine tkT 0 (v := ?_) rfl (by kernel_rfl) (by kernel_rfl) ?_ (by assumption) ?_; rotate_left; (intro wS hSw; (try dsimp only at hSw); go_simp; (try with_reducible rfl)); (try simp only [Act.put, lA, lB, lC])); (refine tkT 1 (v := ?_) rfl (by kernel_rfl) (by kernel_rfl) ?_ (by assumption) ?_; rotate_left; (intro wS hSw; (try dsimp only at hSw); go_simp; (try with_reducible rfl)); (try simp only [Act.put, lA, lB, lC])); (refine tkT 2 (v := ?_) rfl (by kernel_rfl) (by kernel_rfl) ?_ (by assumption) ?_; rotate_left; (intro wS hSw; (try dsimp only at hSw); go_simp; (try with_reducible rfl)); (try simp only [Act.put, lA, lB, lC])); (refine tkT 3 (v := ?_) rfl (by kernel_rfl) (by kernel_rfl) ?_ (by assumption) ?_; rotate_left; (intro wS hSw; (try dsimp only at hSw); go_simp; (try with_reducible rfl)); (try simp only [Act.put, lA, lB, lC])); (refine tkT 4 (v := ?_) rfl (by kernel_rfl) (by kernel_rfl) ?_ (by assumption) ?_; rotate_left; (intro wS hSw; (try dsimp only at hSw); go_simp; (try with_reducible rfl)); (try simp only [Act.put, lA, lB, lC])); (refine tkT 5 (v := ?_) rfl (by kernel_rfl) (by kernel_rfl) ?_ (by assumption) ?_; rotate_left; (intro wS hSw; (try dsimp only at hSw); go_simp; (try with_reducible rfl)); (try simp only [Act.put, lA, lB, lC])); (refine tkT 7 (v := ?_) rfl (by kernel_rfl) (by kernel_rfl) ?_ (by assumption) ?_; rotate_left; (intro wS hSw; (try dsimp only at hSw); go_simp; (try with_reducible rfl)); (try simp only [Act.put, lA, lB, lC])))
  (refine wpAnyT_do2 6 8 (by kernel_rfl) rfl rfl (fun K hK => ?_) (fun K hK => ?_))
  ·skip
   go_simp
   have eA : Ext (World.drew w9) ((World.drew w9).alloc (.cells #[.int .i64 (-1), .int .i64 8, .int .i64 16] 3)) := (Ext.refl _).alloc _
   have bk := Blk.at (World.drew w9) [.int .i64 (-1), .int .i64 8, .int .i64 16] 3 (B := w9.heap.size) rfl
   have hD10 := hD9d.ext eA
   have G10 := Gr.trans (Gr.ext (Ext.drew w9) (some rb)) (Gr.ext eA _)
   have hS1 := HREL.out _ G10
   (refine hK _ _ hS1 ?_; clear hK K; (try simp only [Act.put, lA, lB, lC]))
   (refine wpAnyT_do 8 (by kernel_rfl) rfl (fun K hK => ?_))
   go_simp
   refine (pick_c rb bs _ 3 _ hD10.rd (by omega) (by omega)).mono ?_
   rintro e w11 ⟨k, rfl, k0, k1, hR11, hG11⟩
   have hk2 : k = 0 ∨ k = 1 ∨ k = 2 := by rcases k1 with h | h <;> omega
   have hD11 := hD10.draw hG11 hR11
   have hS4 := HREL.out _ (Gr.trans G10 hG11)
   have bk12 := bk.gr hG11 (fun e => by have := Option.some.inj e; have h5 : rb = w9.heap.size := this; omega)
   clear k0 k1 hG11 hR11 bk
   (refine hK _ _ hS4 ?_; clear hK K; (try simp only [Act.put, lA, lB, lC]))
   obtain ⟨kk, hkk⟩ : ∃ kk : Nat, k = (kk : Int) ∧ kk < 3 := ⟨k.toNat, by omega, by omega⟩
   obtain ⟨rfl, hkl⟩ := hkk
   have hkli : (kk : Int) < 3 := by omega
   obtain ⟨Y, zk⟩ : ∃ Y : Int, w11.cell? ⟨w9.heap.size, kk, none⟩ = some (.int .i64 Y) := by
    have h9 : kk = 0 ∨ kk = 1 ∨ kk = 2 := by omega
    rcases h9 with rfl | rfl | rfl
    ·exact ⟨_, bk12.cell (i := 0) rfl⟩
    ·exact ⟨_, bk12.cell (i := 1) rfl⟩
    ·exact ⟨_, bk12.cell (i := 2) rfl⟩
   have zl2 := bk12.lt
   have T12 := HTV.out _ _ hD11
   have fs := T12.fs
   have ls12 := T12.ls
   have q12 := T12.s 0 (by rw [HLS.out]; omega)
   have HF := Lib.hid (HUPD.out _ _ Y hD11 (by omega))
   clear T12 hD11 bk12 hk2
   (refine wpAnyT_do 9 (by kernel_rfl) rfl (fun K hK => ?_))
   go_simp
   (refine hK _ _ hS4 ?_; clear hK K; (try simp only [Act.put, lA, lB, lC]))
   (refine wpAnyT_do 10 (by kernel_rfl) rfl (fun K hK => ?_))
   go_simp
   (refine hK _ _ hS4 ?_; clear hK K; (try simp only [Act.put, lA, lB, lC]))
   (refine wpAnyT_do 11 (by kernel_rfl) rfl (fun K hK => ?_))
   go_simp
   (refine hK _ _ hS4 ?_; clear hK K; (try simp only [Act.put, lA, lB, lC]))
   (refine wpAnyT_last 12 (by kernel_rfl) rfl (by decide) (by kernel_rfl) (fun K hK => ?_))
   go_simp
   (refine hK _ _ ?_; clear hK K; (try simp only [Act.put, lA, lB, lC]))
   go_wp2_with fail
   apply HQ1.out
   exact HF.out
  ·skip
   go_simp
   refine (pick_c rb bs _ 3 _ hD9d.rd (by omega) (by omega)).mono ?_
   rintro e w10 ⟨k, rfl, k0, k1, hR10, hG10⟩
   have hk2 : k = 0 ∨ k = 1 ∨ k = 2 := by rcases k1 with h | h <;> omega
   have hD10 := hD9d.draw hG10 hR10
   have G10 := Gr.trans (Gr.ext (Ext.drew w9) (some rb)) hG10
   have hS1 := HREL.out _ G10
   (refine hK _ _ hS1 ?_; clear hK K; (try simp only [Act.put, lA, lB, lC]))
   (refine wpAnyT_do 6 (by kernel_rfl) rfl (fun K hK => ?_))
   go_simp
   have eA : Ext w10 (w10.alloc (.cells #[.int .i64 (-1), .int .i64 8, .int .i64 16] 3)) := (Ext.refl _).alloc _
   have bk12 := Blk.at w10 [.int .i64 (-1), .int .i64 8, .int .i64 16] 3 rfl
   have hD11 := hD10.ext eA
   have hS4 := HREL.out _ (Gr.trans G10 (Gr.ext eA _))
   clear k0 k1 hG10 hR10
   (refine hK _ _ hS4 ?_; clear hK K; (try simp only [Act.put, lA, lB, lC]))
   obtain ⟨kk, hkk⟩ : ∃ kk : Nat, k = (kk : Int) ∧ kk < 3 := ⟨k.toNat, by omega, by omega⟩
   obtain ⟨rfl, hkl⟩ := hkk
   have hkli : (kk : Int) < 3 := by omega
   obtain ⟨Y, zk⟩ : ∃ Y : Int, (w10.alloc (.cells #[.int .i64 (-1), .int .i64 8, .int .i64 16] 3)).cell? ⟨w10.heap.size, kk, none⟩ = some (.int .i64 Y) := by
    have h9 : kk = 0 ∨ kk = 1 ∨ kk = 2 := by omega
    rcases h9 with rfl | rfl | rfl
    ·exact ⟨_, bk12.cell (i := 0) rfl⟩
    ·exact ⟨_, bk12.cell (i := 1) rfl⟩
    ·exact ⟨_, bk12.cell (i := 2) rfl⟩
   have zl2 := bk12.lt
   have T12 := HTV.out _ _ hD11
   have fs := T12.fs
   have ls12 := T12.ls
   have q12 := T12.s 0 (by rw [HLS.out]; omega)
   have HF := Lib.hid (HUPD.out _ _ Y hD11 (by omega))
   clear T12 hD11 bk12 hk2
   (refine wpAnyT_do 9 (by kernel_rfl) rfl (fun K hK => ?_))
   go_simp
   (refine hK _ _ hS4 ?_; clear hK K; (try simp only [Act.put, lA, lB, lC]))
   (refine wpAnyT_do 10 (by kernel_rfl) rfl (fun K hK => ?_))
   go_simp
   (refine hK _ _ hS4 ?_; clear hK K; (try simp only [Act.put, lA, lB, lC]))
   (refine wpAnyT_do 11 (by kernel_rfl) rfl (fun K hK => ?_))
   go_simp
   (refine hK _ _ hS4 ?_; clear hK K; (try simp only [Act.put, lA, lB, lC]))
   (refine wpAnyT_last 12 (by kernel_rfl) rfl (by decide) (by kernel_rfl) (fun K hK => ?_))
   go_simp
   (refine hK _ _ ?_; clear hK K; (try simp only [Act.put, lA, lB, lC]))
   go_wp2_with fail
   apply HQ1.out
   exact HF.out
 ·obtain ⟨g, gs, csl, gd, cd, eta, hbg, hbs, hbd, hng, hngs, hngd, eu1, eu2, hlg, hlgs, hlgd⟩ := HVIEW.out j (by omega)
  subst eta
  have HU1 := Lib.hid eu1
  have HU2 := Lib.hid eu2
  have hJ : j < K.ts.length := by rw [HOKK.out.lt]; omega
  have HJ := Lib.hid hJ
  have htk := HOKK.out.tile (j := j) (by omega)
  have hls := htk.ls
  have hld := htk.ld
  have HLS := Lib.hid hls
  have HLD := Lib.hid hld
  have HTV := Lib.hid (fun (W : World) M (h : DInv w1 rb Bk bs M (.slice (some ⟨g, 0, none⟩) 25 tc) (.slice pa 3 pc) us K W) => h.k.tv (j := j) HJ.out eu1 eu2 (by rw [hls]; omega) (by rw [hld]; omega))
  have T9 := HTV.out _ _ hD9
  have x0 := T9.c0
  have x1 := T9.c1
  have x2 := T9.c2
  have x3 := T9.c3
  rw [hls] at x1
  rw [hld] at x3
  obtain ⟨X, hX⟩ : ∃ X, X = K.ts.getD j tile0 := ⟨_, rfl⟩
  have HX := Lib.hid hX
  rw [← hX] at x0 x2
  have HREL : Hid (∀ W, w9.grownBy W (some rb) → ∀ o, W.cell? ⟨Bk, o, none⟩ = w9.cell? ⟨Bk, o, none⟩ ∧ W.cell? ⟨g, o, none⟩ = w9.cell? ⟨g, o, none⟩) := Lib.hid (fun W G o => ⟨gcell G Bk o zl (by omega), gcell G g o hlg (by omega)⟩)
  have hrb9 : rb < w9.heap.size := hD9.rd.lt
  have HUPD : Hid (∀ W M' (y : Int), DInv w1 rb Bk bs M' (.slice (some ⟨g, 0, none⟩) 25 tc) (.slice pa 3 pc) us K W → M' ≤ N + 500 → FinK w1 rb Bk bs (N + 500) n (W.setCell ⟨gd, 0, none⟩ (.int .i64 y))) := Lib.hid (fun W M' y h hm => (h.upd (K' := { K with ts := K.ts.set j { K.ts.getD j tile0 with dr := (K.ts.getD j tile0).dr.set 0 y } }) hbd hngd (h.k.setDr HJ.out HU2.out (by rw [HLD.out]; omega) y) (by show (K.ts.set _ _).length = _; rw [List.length_set])).fin (by show 25 = (K.ts.set _ _).length; rw [List.length_set, HOKK.out.lt]) HOKK.out.lp.symm (HSH.out.put (by omega) HLS.out (by show (List.set _ _ _).length = 8; rw [List.length_set]; exact HLD.out)) (fun h => absurd h (by have := HNN.out; omega)) hm)
  clear eu1 eu2 hJ htk hls hld T9 hX
  go_upto_region 31 with fail
  refine wp_regionT (fun w' => ∀ o, w'.cell? ⟨Bk, o, none⟩ = w9.cell? ⟨Bk, o, none⟩ ∧ w'.cell? ⟨g, o, none⟩ = w9.cell? ⟨g, o, none⟩) 12 (by kernel_rfl) ?_
  have hS0 := HREL.out _ (Gr.ext (Ext.drew w9) _)
  have hD9d := hD9.ext (Ext.drew w9)
  ((refine tkT 0 (v := ?_) rfl (by kernel_rfl) (by kernel_rfl) ?_ (by assumption) ?_; rotate_left; (intro wS hSw; (try dsimp only at hSw); go_simp; (try with_reducible rfl)); (try simp only [Act.put, lA, lB, lC])); (refine tkT 1 (v := ?_) rfl (by kernel_rfl) (by kernel_rfl) ?_ (by assumption) ?_; rotate_left; (intro wS hSw; (try dsimp only at hSw); go_simp; (try with_reducible rfl)); (try simp only [Act.put, lA, lB, lC])); (refine tkT 2 (v := ?_) rfl (by kernel_rfl) (by kernel_rfl) ?_ (by assumption) ?_; rotate_left; (intro wS hSw; (try dsimp only at hSw); go_simp; (try with_reducible rfl)); (try simp only [Act.put, lA, lB, lC])); (refine tkT 3 (v := ?_) rfl (by kernel_rfl) (by kernel_rfl) ?_ (by assumption) ?_; rotate_left; (intro wS hSw; (try dsimp only at hSw); go_simp; (try with_reducible rfl)); (try simp only [Act.put, lA, lB, lC])); (refine tkT 4 (v := ?_) rfl (by kernel_rfl) (by kernel_rfl) ?_ (by assumption) ?_; rotate_left; (intro wS hSw; (try dsimp only at hSw); go_simp; (try with_reducible rfl)); (try simp only [Act.put, lA, lB, lC])); (refine tkT 5 (v := ?_) rfl (by kernel_rfl) (by kernel_rfl) ?_ (by assumption) ?_; rotate_left; (intro wS hSw; (try dsimp only at hSw); go_simp; (try with_reducible rfl)); (try simp only [Act.put, lA, lB, lC])); (refine tkT 7 (v := ?_) rfl (by kernel_rfl) (by kernel_rfl) ?_ (by assumption) ?_; rotate_left; (intro wS hSw; (try dsimp only at hSw); go_simp; (try with_reducible rfl)); (try simp only [Act.put, lA, lB, lC])))
  (refine wpAnyT_do2 6 8 (by kernel_rfl) rfl rfl (fun K hK => ?_) (fun K hK => ?_))
  ·skip
   go_simp
   have eA : Ext (World.drew w9) ((World.drew w9).alloc (.cells #[.int .i64 (-1), .int .i64 7] 3)) := (Ext.refl _).alloc _
   have bk := Blk.at (World.drew w9) [.int .i64 (-1), .int .i64 7] 3 (B := w9.heap.size) rfl
   have hD10 := hD9d.ext eA
   have G10 := Gr.trans (Gr.ext (Ext.drew w9) (some rb)) (Gr.ext eA _)
   have hS1 := HREL.out _ G10
   (refine hK _ _ hS1 ?_; clear hK K; (try simp only [Act.put, lA, lB, lC]))
   (refine wpAnyT_do 8 (by kernel_rfl) rfl (fun K hK => ?_))
   go_simp
   refine (pick_c rb bs _ 2 _ hD10.rd (by omega) (by omega)).mono ?_
   rintro e w11 ⟨k, rfl, k0, k1, hR11, hG11⟩
   have hk2 : k = 0 ∨ k = 1 := by rcases k1 with h | h <;> omega
   have hD11 := hD10.draw hG11 hR11
   have hS4 := HREL.out _ (Gr.trans G10 hG11)
   have bk12 := bk.gr hG11 (fun e => by have := Option.some.inj e; have h5 : rb = w9.heap.size := this; omega)
   clear k0 k1 hG11 hR11 bk
   (refine hK _ _ hS4 ?_; clear hK K; (try simp only [Act.put, lA, lB, lC]))
   obtain ⟨kk, hkk⟩ : ∃ kk : Nat, k = (kk : Int) ∧ kk < 2 := ⟨k.toNat, by omega, by omega⟩
   obtain ⟨rfl, hkl⟩ := hkk
   have hkli : (kk : Int) < 2 := by omega
   obtain ⟨Y, zk⟩ : ∃ Y : Int, w11.cell? ⟨w9.heap.size, kk, none⟩ = some (.int .i64 Y) := by
    have h9 : kk = 0 ∨ kk = 1 := by omega
    rcases h9 with rfl | rfl
    ·exact ⟨_, bk12.cell (i := 0) rfl⟩
    ·exact ⟨_, bk12.cell (i := 1) rfl⟩
   have zl2 := bk12.lt
   have T12 := HTV.out _ _ hD11
   have fd := T12.fd
   have ld12 := T12.ld
   have q12 := T12.d 0 (by rw [HLD.out]; omega)
   have HF := Lib.hid (HUPD.out _ _ Y hD11 (by omega))
   clear T12 hD11 bk12 hk2
   (refine wpAnyT_do 9 (by kernel_rfl) rfl (fun K hK => ?_))
   go_simp
   (refine hK _ _ hS4 ?_; clear hK K; (try simp only [Act.put, lA, lB, lC]))
   (refine wpAnyT_do 10 (by kernel_rfl) rfl (fun K hK => ?_))
   go_simp
   (refine hK _ _ hS4 ?_; clear hK K; (try simp only [Act.put, lA, lB, lC]))
   (refine wpAnyT_do 11 (by kernel_rfl) rfl (fun K hK => ?_))
   go_simp
   (refine hK _ _ hS4 ?_; clear hK K; (try simp only [Act.put, lA, lB, lC]))
   (refine wpAnyT_last 12 (by kernel_rfl) rfl (by decide) (by kernel_rfl) (fun K hK => ?_))
   go_simp
   (refine hK _ _ ?_; clear hK K; (try simp only [Act.put, lA, lB, lC]))
   go_wp2_with fail
   apply HQ1.out
   exact HF.out
  ·skip
   go_simp
   refine (pick_c rb bs _ 2 _ hD9d.rd (by omega) (by omega)).mono ?_
   rintro e w10 ⟨k, rfl, k0, k1, hR10, hG10⟩
   have hk2 : k = 0 ∨ k = 1 := by rcases k1 with h | h <;> omega
   have hD10 := hD9d.draw hG10 hR10
   have G10 := Gr.trans (Gr.ext (Ext.drew w9) (some rb)) hG10
   have hS1 := HREL.out _ G10
   (refine hK _ _ hS1 ?_; clear hK K; (try simp only [Act.put, lA, lB, lC]))
   (refine wpAnyT_do 6 (by kernel_rfl) rfl (fun K hK => ?_))
   go_simp
   have eA : Ext w10 (w10.alloc (.cells #[.int .i64 (-1), .int .i64 7] 3)) := (Ext.refl _).alloc _
   have bk12 := Blk.at w10 [.int .i64 (-1), .int .i64 7] 3 rfl
   have hD11 := hD10.ext eA
   have hS4 := HREL.out _ (Gr.trans G10 (Gr.ext eA _))
   clear k0 k1 hG10 hR10
   (refine hK _ _ hS4 ?_; clear hK K; (try simp only [Act.put, lA, lB, lC]))
   obtain ⟨kk, hkk⟩ : ∃ kk : Nat, k = (kk : Int) ∧ kk < 2 := ⟨k.toNat, by omega, by omega⟩
   obtain ⟨rfl, hkl⟩ := hkk
   have hkli : (kk : Int) < 2 := by omega
   obtain ⟨Y, zk⟩ : ∃ Y : Int, (w10.alloc (.cells #[.int .i64 (-1), .int .i64 7] 3)).cell? ⟨w10.heap.size, kk, none⟩ = some (.int .i64 Y) := by
    have h9 : kk = 0 ∨ kk = 1 := by omega
    rcases h9 with rfl | rfl
    ·exact ⟨_, bk12.cell (i := 0) rfl⟩
    ·exact ⟨_, bk12.cell (i := 1) rfl⟩
   have zl2 := bk12.lt
   have T12 := HTV.out _ _ hD11
   have fd := T12.fd
   have ld12 := T12.ld
   have q12 := T12.d 0 (by rw [HLD.out]; omega)
   have HF := Lib.hid (HUPD.out _ _ Y hD11 (by omega))
   clear T12 hD11 bk12 hk2
   (refine wpAnyT_do 9 (by kernel_rfl) rfl (fun K hK => ?_))
   go_simp
   (refine hK _ _ hS4 ?_; clear hK K; (try simp only [Act.put, lA, lB, lC]))
   (refine wpAnyT_do 10 (by kernel_rfl) rfl (fun K hK => ?_))
   go_simp
   (refine hK _ _ hS4 ?_; clear hK K; (try simp only [Act.put, lA, lB, lC]))
   (refine wpAnyT_do 11 (by kernel_rfl) rfl (fun K hK => ?_))
   go_simp
   (refine hK _ _ hS4 ?_; clear hK K; (try simp only [Act.put, lA, lB, lC]))
   (refine wpAnyT_last 12 (by kernel_rfl) rfl (by decide) (by kernel_rfl) (fun K hK => ?_))
   go_simp
   (refine hK _ _ ?_; clear hK K; (try simp only [Act.put, lA, lB, lC]))
   go_wp2_with fail
   apply HQ1.out
   exact HF.out
 ·obtain ⟨gp, cp, ev, hbp, hgp, p0, p1, hfp⟩ := hD9.k.pad (o := 0) (by rw [HOKK.out.lp]; omega)
  obtain rfl := (Value.slice.inj ev).1
  have hngp : gp ≠ Bk := hD9.off.2.1 gp rfl
  obtain ⟨pd, hpd⟩ : ∃ x, x = K.ps.getD 0 (0, false) := ⟨_, rfl⟩
  rw [← hpd] at p0 p1
  have HF : Hid (FinK w1 rb Bk bs (N + 500) n (w9.setCell ⟨gp, 0, none⟩ (.int .i64 8))) := Lib.hid (by
   have hk : OwnK (w9.setCell ⟨gp, 0, none⟩ (.int .i64 8)) w1.heap.size (.slice ta 25 tc) (.slice (some ⟨gp, 0, none⟩) 3 pc) us { K with ps := K.ps.set 0 (8, (K.ps.getD 0 (0, false)).2) } := hD9.k.setPad1 (o := 0) (by rw [HOKK.out.lp]; omega) rfl 8
   rw [← hpd] at hk
   exact (hD9.upd (K' := { K with ps := K.ps.set 0 (8, pd.2) }) hbp hngp hk rfl).fin HOKK.out.lt.symm (by show 3 = (K.ps.set 0 (8, pd.2)).length; rw [List.length_set, HOKK.out.lp]) (HSH.out.pad 0 _) (fun h => absurd h (by have := HNN.out; omega)) (by omega))
  clear ev hpd hD9
  go_wp2_with fail
  apply HQ1.out
  exact HF.out
 ·obtain ⟨g, gs, csl, gd, cd, eta, hbg, hbs, hbd, hng, hngs, hngd, eu1, eu2, hlg, hlgs, hlgd⟩ := HVIEW.out 7 (by omega)
  subst eta
  have HU1 := Lib.hid eu1
  have HU2 := Lib.hid eu2
  have hJ : 7 < K.ts.length := by rw [HOKK.out.lt]; omega
  have HJ := Lib.hid hJ
  have htk := HOKK.out.tile (j := 7) (by omega)
  have hls := htk.ls
  have hld := htk.ld
  have HLS := Lib.hid hls
  have HLD := Lib.hid hld
  have HTV := Lib.hid (fun (W : World) M (h : DInv w1 rb Bk bs M (.slice (some ⟨g, 0, none⟩) 25 tc) (.slice pa 3 pc) us K W) => h.k.tv (j := 7) HJ.out eu1 eu2 (by rw [hls]; omega) (by rw [hld]; omega))
  have T9 := HTV.out _ _ hD9
  have x0 := T9.c0
  have x1 := T9.c1
  have x2 := T9.c2
  have x3 := T9.c3
  rw [hls] at x1
  rw [hld] at x3
  obtain ⟨X, hX⟩ : ∃ X, X = K.ts.getD 7 tile0 := ⟨_, rfl⟩
  have HX := Lib.hid hX
  rw [← hX] at x0 x2
  have HREL : Hid (∀ W, w9.grownBy W (some rb) → ∀ o, W.cell? ⟨Bk, o, none⟩ = w9.cell? ⟨Bk, o, none⟩ ∧ W.cell? ⟨g, o, none⟩ = w9.cell? ⟨g, o, none⟩) := Lib.hid (fun W G o => ⟨gcell G Bk o zl (by omega), gcell G g o hlg (by omega)⟩)
  have hrb9 : rb < w9.heap.size := hD9.rd.lt
  have HUPD : Hid (∀ W M' (y : Int), DInv w1 rb Bk bs M' (.slice (some ⟨g, 0, none⟩) 25 tc) (.slice pa 3 pc) us K W → M' ≤ N + 500 → FinK w1 rb Bk bs (N + 500) n (W.setCell ⟨gd, 1, none⟩ (.int .i64 y))) := Lib.hid (fun W M' y h hm => (h.upd (K' := { K with ts := K.ts.set 7 { K.ts.getD 7 tile0 with dr := (K.ts.getD 7 tile0).dr.set 1 y } }) hbd hngd (h.k.setDr HJ.out HU2.out (by rw [HLD.out]; omega) y) (by show (K.ts.set _ _).length = _; rw [List.length_set])).fin (by show 25 = (K.ts.set _ _).length; rw [List.length_set, HOKK.out.lt]) HOKK.out.lp.symm (HSH.out.put (by omega) HLS.out (by show (List.set _ _ _).length = 8; rw [List.length_set]; exact HLD.out)) (fun h => absurd h (by have := HNN.out; omega)) hm)
  have y3 : w9.cell? ⟨g, 31, none⟩ = some (.slice (some ⟨gd, 0, none⟩) 8 cd) := x3
  have q12 := T9.d 1 (by rw [hld]; omega)
  have fd := T9.fd
  obtain ⟨sv, hsv⟩ : ∃ x, x = (K.ts.getD 7 tile0).dr.getD 1 0 := ⟨_, rfl⟩
  rw [← hsv] at q12
  have HF := Lib.hid (HUPD.out _ _ 6 hD9 (by omega))
  clear hsv x0 x1 x2 x3 hD9
  clear eu1 eu2 hJ htk hls hld T9 hX
  go_wp2_with fail
  apply HQ1.out
  exact HF.out
end Go.Proofs.Ytgialedmbmfejaa

--@from BCut BBest BLut BCel BSnk
namespace Go.Proofs.Ytgialedmbmfejaa
open Go.RowKit
set_option maxRecDepth 100000
set_option linter.unusedVariables false
set_option linter.unusedSimpArgs false
set_option maxHeartbeats 32000000 in
theorem l20Config_c (rb : Nat) (bs : List Int) (N : Nat) (n : Int) (w : World) (hr : Rdr w rb bs N) (hN : N ≤ 1000000) (hn0 : 0 ≤ n) (hn1 : n ≤ 100) :
    Calls Try.prog 83 #[.pointer (some ⟨rb, 0, none⟩), .int .i64 n] w (ConfDrawn w rb bs N n) := by
  have hrb := hr.lt
  have E0 : Ext w (w.alloc (.cells #[.slice none 0 0, .slice none 0 0] 52)) := (Ext.refl w).alloc _
  have R0 := Blk.at w [.slice none 0 0, .slice none 0 0] 52 rfl
  go_enter Try.func83, Try.ntmps83
  go_upto_region 1 with fail
  obtain ⟨w1, hw1⟩ : ∃ x : World, x = w.alloc (.cells #[.slice none 0 0, .slice none 0 0] 52) := ⟨_, rfl⟩
  have s1 : w.heap.size < w1.heap.size := by rw [hw1]; simp
  rw [← hw1] at E0 R0
  rw [← hw1]
  clear hw1
  have hr1 := hr.ext E0
  go_wp2_with fail
  refine (l20Circuit_c rb bs N 0 _ hr1 (by omega) (by omega) (by omega)).mono ?_
  rintro e w2 hD
  obtain ⟨d, p, rfl, hC, _, _, hR2, hG2, _⟩ := drawn_open hD
  clear hD hr1
  go_wp2_with fail
  refine (Configure_c d p w2 hC).mono ?_
  rintro e w3 ⟨tv, pv, us, K, ok, rfl, hK, hok, hE3⟩
  obtain ⟨ta, tc, pa, pc, rfl, rfl⟩ := hK.sl
  have s12 := hG2.size
  have s23 := hE3.size
  have BK := Blk.at w3 [.slice ta K.ts.length tc, .slice pa K.ps.length pc] 52 rfl
  have E34 := (Ext.refl w3).alloc (.cells #[.slice ta K.ts.length tc, .slice pa K.ps.length pc] 52)
  have HOK := Lib.hid hok
  clear hok hC
  go_upto_if 19 with fail
  go_cut [5] (fun v wx => ∃ tv pv us K, v = .pointer (some ⟨w3.heap.size, 0, none⟩) ∧ DInv w1 rb w3.heap.size bs (N + 200) tv pv us K wx ∧ Hid K.Ok)
  case first =>
    obtain ⟨w4, hw4⟩ : ∃ x : World, x = w3.alloc (.cells #[.slice ta K.ts.length tc, .slice pa K.ps.length pc] 52) := ⟨_, rfl⟩
    have s34 : w4.heap.size = w3.heap.size + 1 := by rw [hw4]; simp
    rw [← hw4] at BK E34
    rw [← hw4]
    have S34 := Lib.hid s34
    have s34b : w3.heap.size < w4.heap.size := by omega
    clear hw4 s34
    have hlts := hK.lts
    cases ok
    · go_wp2_with fail
      refine (specEmptyConfig_c w4).mono ?_
      obtain ⟨K1, hK1⟩ : ∃ K, K = econf := ⟨_, rfl⟩
      have hok1 : K1.Ok := by rw [hK1]; exact econf_ok
      rw [← hK1]
      clear hK1
      rintro e w5 ⟨tv2, pv2, us2, rfl, hK2, hE5⟩
      obtain ⟨ta2, tc2, pa2, pc2, rfl, rfl⟩ := hK2.sl
      have B5 := BK.ext hE5
      have b0 := B5.cell (i := 0) rfl
      have b1 := B5.cell (i := 1) rfl
      have bf := fun i => B5.frozen i
      have bl := B5.lt
      have B9 := (B5.set 0 (.slice ta2 K1.ts.length tc2)).set 1 (.slice pa2 K1.ps.length pc2)
      have hl2 := hK2.lts
      have hK9 := (hK2.setCell (p := ⟨w3.heap.size, 0, none⟩) s34b (.slice ta2 K1.ts.length tc2)).setCell (p := ⟨w3.heap.size, 1, none⟩) s34b (.slice pa2 K1.ps.length pc2)
      have s13 : w1.heap.size ≤ w3.heap.size := by omega
      have HD9 : Hid (DInv w1 rb w3.heap.size bs (N + 200) (.slice ta2 K1.ts.length tc2) (.slice pa2 K1.ps.length pc2) us2 K1 ((w5.setCell ⟨w3.heap.size, 0, none⟩ (.slice ta2 K1.ts.length tc2)).setCell ⟨w3.heap.size, 1, none⟩ (.slice pa2 K1.ps.length pc2))) := Lib.hid {
        bk := B9
        k := hK9.le (by omega)
        off := ⟨fun g hg => by have := (hl2.1 g hg).1; omega, fun g hg => by have := (hl2.2.1 g hg).1; omega, fun i g hi hg => by have := (hl2.2.2 i g hi hg).1; omega⟩
        rd := (((hR2.ext (hE3.trans (E34.trans hE5))).grn (r := some w3.heap.size) (grown_setCell _ _ 0 _) (fun k hk => by have := Option.some.inj hk; omega))).grn (r := some w3.heap.size) (grown_setCell _ _ 1 _) (fun k hk => by have := Option.some.inj hk; omega)
        g := Gr.setNew (Gr.setNew (Gr.trans hG2 (Gr.ext (hE3.trans (E34.trans hE5)) _)) (p := ⟨w3.heap.size, 0, none⟩) s13 _) (p := ⟨w3.heap.size, 1, none⟩) s13 _
        lb := s13
        lr := by omega }
      clear B5 B9 hK9 hK2 hl2 hK hlts BK
      go_wp2_with fail
      go_meet
      exact ⟨_, _, us2, K1, rfl, HD9.out, Lib.hid hok1⟩
    · have HD9 : Hid (DInv w1 rb w3.heap.size bs (N + 200) (.slice ta K.ts.length tc) (.slice pa K.ps.length pc) us K w4) := Lib.hid {
        bk := BK
        k := (hK.ext E34).le (by omega)
        off := ⟨fun g hg => by have := (hlts.1 g hg).2; omega, fun g hg => by have := (hlts.2.1 g hg).2; omega, fun i g hi hg => by have := (hlts.2.2 i g hi hg).2; omega⟩
        rd := hR2.ext (hE3.trans E34)
        g := Gr.trans hG2 (Gr.ext (hE3.trans E34) _)
        lb := by omega
        lr := by omega }
      go_wp2_with fail
      go_meet
      exact ⟨_, _, us, K, rfl, HD9.out, Lib.hid (HOK.out (by first | rfl | trivial))⟩
  clear hK BK E34 HOK hR2 hG2 hE3 hr
  obtain ⟨tv, pv, us, K, rfl, hD, HOK⟩ := hcut
  obtain ⟨w4, rfl⟩ : ∃ z : World, z = wc := ⟨_, rfl⟩
  obtain ⟨Bk, hBk⟩ : ∃ b, b = w3.heap.size := ⟨_, rfl⟩
  rw [← hBk] at hD ⊢
  have s13 : w1.heap.size ≤ Bk := hD.lb
  clear hBk s12 s23
  go_wp2_with fail
  refine (pick_c rb bs _ 12 _ hD.rd (by omega) (by omega)).mono ?_
  rintro e w5 ⟨k, rfl, k0, k1, hR5, hG5⟩
  obtain ⟨m, rfl⟩ : ∃ m : Nat, k = (m : Int) := ⟨k.toNat, by omega⟩
  have hm : m ≤ 11 := by rcases k1 with h | h <;> omega
  have hD5 := (hD.draw hG5 hR5).mono (M' := N + 300 + (11 - m) * 10) (by omega)
  clear hD hR5 hG5 k0 k1
  go_wp2_with fail
  go_loopw [7] (fun u7 wr => ∃ (m : Nat) (K : Conf), m ≤ 11 ∧ u7 = .int .i64 m ∧ DInv w1 rb Bk bs (N + 300 + (11 - m) * 10) tv pv us K wr ∧ Hid K.Ok) (fun v _ => (intOf v).toNat)
  case atStart => exact ⟨m, K, hm, rfl, hD5, HOK⟩
  case round =>
    clear hD5 HOK hm
    obtain ⟨m, K, hm, rfl, hD, HOK⟩ := hrel
    obtain ⟨w6, rfl⟩ : ∃ z : World, z = wr := ⟨_, rfl⟩
    by_cases hlt : 0 < m
    · have hlti : (0 : Int) < (m : Int) := by omega
      go_wp2_with fail
      refine (pick_c rb bs _ 25 _ hD.rd (by omega) (by omega)).mono ?_
      rintro e w7 ⟨k, rfl, k0, k1, hR7, hG7⟩
      obtain ⟨j, rfl⟩ : ∃ j : Nat, k = (j : Int) := ⟨k.toNat, by omega⟩
      have hj25 : j < 25 := by rcases k1 with h | h <;> omega
      have hji : (j : Int) < 25 := by omega
      have hD7 := hD.draw hG7 hR7
      clear hD hR7 hG7 k0 k1
      go_wp2_with fail
      refine (pick_c rb bs _ 4 _ hD7.rd (by omega) (by omega)).mono ?_
      rintro e w8 ⟨k, rfl, k0, k1, hR8, hG8⟩
      have hcase : k = 0 ∨ k = 1 ∨ k = 2 ∨ k = 3 := by rcases k1 with h | h <;> omega
      have hD8 := hD7.draw hG8 hR8
      clear hD7 hR8 hG8 k0 k1
      have htok := HOK.out.tile hj25
      obtain ⟨g, cg, gs, csl, gd, cd, ev, hbg, hbs, hbd, eu1, eu2, hTV⟩ := hD8.k.tile (j := j) (by rw [HOK.out.lt]; exact hj25) (by rw [htok.ls]; omega) (by rw [htok.ld]; omega)
      have ev2 : tv = .slice (some ⟨g, 0, none⟩) 25 cg := by rw [ev, HOK.out.lt]
      clear ev
      subst ev2
      have hls := htok.ls
      have hld := htok.ld
      rw [hls] at eu1
      rw [hld] at eu2
      have x0 := hTV.c0
      have x1 := hTV.c1
      have x2 := hTV.c2
      have x3 := hTV.c3
      rw [hls] at x1
      rw [hld] at x3
      have hlg := hTV.lg
      have hlgs := hTV.ls
      have hlgd := hTV.ld
      have hng : g ≠ Bk := hD8.off.1 g rfl
      have hngs : gs ≠ Bk := hD8.off.2.2 (2 * j) gs (by rw [HOK.out.lt]; omega) (by rw [eu1]; rfl)
      have hngd : gd ≠ Bk := hD8.off.2.2 (2 * j + 1) gd (by rw [HOK.out.lt]; omega) (by rw [eu2]; rfl)
      have hlr := hD8.lr
      have z0 := hD8.bk.cell (i := 0) rfl
      have zl := hD8.bk.lt
      have HU1 := Lib.hid eu1
      have HU2 := Lib.hid eu2
      have HTV := Lib.hid (fun (W : World) M (h : DInv w1 rb Bk bs M (.slice (some ⟨g, 0, none⟩) 25 cg) pv us K W) => h.k.tv (j := j) (by rw [HOK.out.lt]; exact hj25) eu1 eu2 (by rw [hls]; omega) (by rw [hld]; omega))
      have HREL : Hid (∀ W, w8.grownBy W (some rb) → ∀ o, W.cell? ⟨Bk, o, none⟩ = w8.cell? ⟨Bk, o, none⟩ ∧ W.cell? ⟨g, o, none⟩ = w8.cell? ⟨g, o, none⟩) := Lib.hid (fun W G o => ⟨gcell G Bk o zl (by omega), gcell G g o hlg (by omega)⟩)
      have hJ : j < K.ts.length := by rw [HOK.out.lt]; exact hj25
      have HJ := Lib.hid hJ
      have HTO := Lib.hid htok
      have HLS := Lib.hid hls
      have HLD := Lib.hid hld
      obtain ⟨X, hX⟩ : ∃ X, X = K.ts.getD j tile0 := ⟨_, rfl⟩
      have HX := Lib.hid hX
      rw [← hX] at x0 x2
      have hmm : ∃ q : Nat, (m : Int) - 1 = (q : Int) ∧ q + 1 = m := ⟨m - 1, by omega, by omega⟩
      obtain ⟨q, hq1, hq2⟩ := hmm
      have HQ1 := Lib.hid hq1
      have HQ2 := Lib.hid hq2
      clear eu1 eu2 hTV hls hld htok hJ hX hq1 hq2
      rcases hcase with rfl | rfl | rfl | rfl
      · go_wp2_with fail
        refine wp_regionT (fun w' => ∀ o, w'.cell? ⟨Bk, o, none⟩ = w8.cell? ⟨Bk, o, none⟩ ∧ w'.cell? ⟨g, o, none⟩ = w8.cell? ⟨g, o, none⟩) 7 (by kernel_rfl) ?_
        have hS0 := HREL.out _ (Gr.ext (Ext.drew w8) _)
        ((refine tkT 0 (v := ?_) rfl (by kernel_rfl) (by kernel_rfl) ?_ (by assumption) ?_; rotate_left; (intro wS hSw; (try dsimp only at hSw); go_simp; (try with_reducible rfl)); (try simp only [Act.put, lA, lB, lC])); (refine tkT 1 (v := ?_) rfl (by kernel_rfl) (by kernel_rfl) ?_ (by assumption) ?_; rotate_left; (intro wS hSw; (try dsimp only at hSw); go_simp; (try with_reducible rfl)); (try simp only [Act.put, lA, lB, lC])); (refine tkT 2 (v := ?_) rfl (by kernel_rfl) (by kernel_rfl) ?_ (by assumption) ?_; rotate_left; (intro wS hSw; (try dsimp only at hSw); go_simp; (try with_reducible rfl)); (try simp only [Act.put, lA, lB, lC])); (refine tkT 3 (v := ?_) rfl (by kernel_rfl) (by kernel_rfl) ?_ (by assumption) ?_; rotate_left; (intro wS hSw; (try dsimp only at hSw); go_simp; (try with_reducible rfl)); (try simp only [Act.put, lA, lB, lC])))
        (refine wpAnyT_do 4 (by kernel_rfl) rfl (fun K hK => ?_))
        go_simp
        refine (pick_c rb bs _ 256 _ (hD8.rd.ext (Ext.drew w8)) (by omega) (by omega)).mono ?_
        rintro e w9 ⟨k, rfl, k0, k1, hR9, hG9⟩
        have hk : 0 ≤ k ∧ k < 256 := by rcases k1 with h | h <;> omega
        have hD9 := (hD8.ext (Ext.drew w8)).draw hG9 hR9
        have hS1 := HREL.out _ (Gr.trans (Gr.ext (Ext.drew w8) _) hG9)
        (refine hK _ _ hS1 ?_; clear hK K; (try simp only [Act.put, lA, lB, lC]))
        ((refine tkT 5 (v := ?_) rfl (by kernel_rfl) (by kernel_rfl) ?_ (by assumption) ?_; rotate_left; (intro wS hSw; (try dsimp only at hSw); go_simp; (try with_reducible rfl)); (try simp only [Act.put, lA, lB, lC])); (refine tkT 6 (v := ?_) rfl (by kernel_rfl) (by kernel_rfl) ?_ (by assumption) ?_; rotate_left; (intro wS hSw; (try dsimp only at hSw); go_simp; (try with_reducible rfl)); (try simp only [Act.put, lA, lB, lC])))
        have T9 := HTV.out _ _ hD9
        have fg := T9.fg
        have hlg9 := T9.lg
        have HD10 := Lib.hid (hD9.upd (i := j * 4) hbg hng (hD9.k.setTb HJ.out rfl k) (by show (K.ts.set j _).length = _; rw [List.length_set]))
        have HO10 := Lib.hid (HOK.out.put hj25 (HTO.out.tb' hk.1 hk.2))
        clear T9 hD9 hD8 HTV k1 hR9 hG9
        (refine wpAnyT_last 7 (by kernel_rfl) rfl (by decide) (by kernel_rfl) (fun K hK => ?_))
        go_simp
        (refine hK _ _ ?_; clear hK K; (try simp only [Act.put, lA, lB, lC]))
        go_wp2_with fail
        go_roundw
        case rel => exact ⟨q, _, by have := HQ2.out; omega, by rw [← HQ1.out], HD10.out.mono (by have := HQ2.out; omega), HO10⟩
        case measure => have := HQ2.out; simp [intOf]; omega
      · go_wp2_with fail
        refine wp_regionT (fun w' => ∀ o, w'.cell? ⟨Bk, o, none⟩ = w8.cell? ⟨Bk, o, none⟩ ∧ w'.cell? ⟨g, o, none⟩ = w8.cell? ⟨g, o, none⟩) 16 (by kernel_rfl) ?_
        have hS0 := HREL.out _ (Gr.ext (Ext.drew w8) _)
        ((refine tkT 0 (v := ?_) rfl (by kernel_rfl) (by kernel_rfl) ?_ (by assumption) ?_; rotate_left; (intro wS hSw; (try dsimp only at hSw); go_simp; (try with_reducible rfl)); (try simp only [Act.put, lA, lB, lC])); (refine tkT 1 (v := ?_) rfl (by kernel_rfl) (by kernel_rfl) ?_ (by assumption) ?_; rotate_left; (intro wS hSw; (try dsimp only at hSw); go_simp; (try with_reducible rfl)); (try simp only [Act.put, lA, lB, lC])); (refine tkT 2 (v := ?_) rfl (by kernel_rfl) (by kernel_rfl) ?_ (by assumption) ?_; rotate_left; (intro wS hSw; (try dsimp only at hSw); go_simp; (try with_reducible rfl)); (try simp only [Act.put, lA, lB, lC])); (refine tkT 3 (v := ?_) rfl (by kernel_rfl) (by kernel_rfl) ?_ (by assumption) ?_; rotate_left; (intro wS hSw; (try dsimp only at hSw); go_simp; (try with_reducible rfl)); (try simp only [Act.put, lA, lB, lC])); (refine tkT 4 (v := ?_) rfl (by kernel_rfl) (by kernel_rfl) ?_ (by assumption) ?_; rotate_left; (intro wS hSw; (try dsimp only at hSw); go_simp; (try with_reducible rfl)); (try simp only [Act.put, lA, lB, lC])); (refine tkT 5 (v := ?_) rfl (by kernel_rfl) (by kernel_rfl) ?_ (by assumption) ?_; rotate_left; (intro wS hSw; (try dsimp only at hSw); go_simp; (try with_reducible rfl)); (try simp only [Act.put, lA, lB, lC])); (refine tkT 6 (v := ?_) rfl (by kernel_rfl) (by kernel_rfl) ?_ (by assumption) ?_; rotate_left; (intro wS hSw; (try dsimp only at hSw); go_simp; (try with_reducible rfl)); (try simp only [Act.put, lA, lB, lC])); (refine tkT 8 (v := ?_) rfl (by kernel_rfl) (by kernel_rfl) ?_ (by assumption) ?_; rotate_left; (intro wS hSw; (try dsimp only at hSw); go_simp; (try with_reducible rfl)); (try simp only [Act.put, lA, lB, lC])); (refine tkT 11 (v := ?_) rfl (by kernel_rfl) (by kernel_rfl) ?_ (by assumption) ?_; rotate_left; (intro wS hSw; (try dsimp only at hSw); go_simp; (try with_reducible rfl)); (try simp only [Act.put, lA, lB, lC])))
        (refine wpAnyT_do 7 (by kernel_rfl) rfl (fun K hK => ?_))
        go_simp
        refine (pick_c rb bs _ 3 _ (hD8.rd.ext (Ext.drew w8)) (by omega) (by omega)).mono ?_
        rintro e w9 ⟨k, rfl, k0, k1, hR9, hG9⟩
        obtain ⟨i, rfl⟩ : ∃ i : Nat, k = (i : Int) := ⟨k.toNat, by omega⟩
        have hi3 : i < 3 := by rcases k1 with h | h <;> omega
        have hi3i : (i : Int) < 3 := by omega
        have hD9 := (hD8.ext (Ext.drew w8)).draw hG9 hR9
        have G9 := Gr.trans (Gr.ext (Ext.drew w8) _) hG9
        have hS1 := HREL.out _ G9
        clear k0 k1 hR9 hG9
        (refine hK _ _ hS1 ?_; clear hK K; (try simp only [Act.put, lA, lB, lC]))
        (refine wpAnyT_do 9 (by kernel_rfl) rfl (fun K hK => ?_))
        go_simp
        refine (pick_c rb bs _ 8 _ hD9.rd (by omega) (by omega)).mono ?_
        rintro e w10 ⟨v, rfl, v0, v1, hR10, hG10⟩
        have hv8 : 0 ≤ v ∧ v < 8 := by rcases v1 with h | h <;> omega
        have hD10 := hD9.draw hG10 hR10
        have G10 := Gr.trans G9 hG10
        have hS2 := HREL.out _ G10
        have hsz10 := G10.size
        clear v0 v1 hR10 hG10
        (refine hK _ _ hS2 ?_; clear hK K; (try simp only [Act.put, lA, lB, lC]))
        have HUPD : Hid (∀ W M y, DInv w1 rb Bk bs M (.slice (some ⟨g, 0, none⟩) 25 cg) pv us K W → (y = v ∨ y = 15) → DInv w1 rb Bk bs M (.slice (some ⟨g, 0, none⟩) 25 cg) pv us { K with ts := K.ts.set j { K.ts.getD j tile0 with sl := (K.ts.getD j tile0).sl.set i y } } (W.setCell ⟨gs, i, none⟩ (.int .i64 y)) ∧ Conf.Ok { K with ts := K.ts.set j { K.ts.getD j tile0 with sl := (K.ts.getD j tile0).sl.set i y } }) := Lib.hid (fun W M y h hy => ⟨h.upd hbs hngs (h.k.setSl HJ.out HU1.out (by rw [HLS.out]; exact hi3) y) (by show (K.ts.set j _).length = _; rw [List.length_set]), HOK.out.put hj25 (HTO.out.sl' i (by rcases hy with rfl | rfl; exact trackB_sm hv8.1 hv8.2; rfl))⟩)
        (refine wpAnyT_do2 10 12 (by kernel_rfl) rfl rfl (fun K hK => ?_) (fun K hK => ?_))
        · skip
          go_simp
          have eA : Ext w10 (w10.alloc (.cells #[.int .i64 v, .int .i64 15] 3)) := (Ext.refl _).alloc _
          have bk := Blk.at w10 [.int .i64 v, .int .i64 15] 3 rfl
          have hD11 := hD10.ext eA
          have G11 := Gr.trans G10 (Gr.ext eA _)
          have hS3 := HREL.out _ G11
          (refine hK _ _ hS3 ?_; clear hK K; (try simp only [Act.put, lA, lB, lC]))
          (refine wpAnyT_do 12 (by kernel_rfl) rfl (fun K hK => ?_))
          go_simp
          refine (pick_c rb bs _ 2 _ hD11.rd (by omega) (by omega)).mono ?_
          rintro e w12 ⟨k, rfl, k0, k1, hR12, hG12⟩
          have hk2 : k = 0 ∨ k = 1 := by rcases k1 with h | h <;> omega
          have hD12 := hD11.draw hG12 hR12
          have hS4 := HREL.out _ (Gr.trans G11 hG12)
          have bk12 := bk.gr hG12 (fun e => by have := Option.some.inj e; omega)
          clear k0 k1 hG12 hR12 bk
          (refine hK _ _ hS4 ?_; clear hK K; (try simp only [Act.put, lA, lB, lC]))
          have z0 := bk12.cell (i := 0) rfl
          have z1 := bk12.cell (i := 1) rfl
          have zl2 := bk12.lt
          have T12 := HTV.out _ _ hD12
          have fs := T12.fs
          have ls12 := T12.ls
          have q12 := T12.s i (by rw [HLS.out]; exact hi3)
          rcases hk2 with rfl | rfl
          all_goals
            (refine wpAnyT_do 13 (by kernel_rfl) rfl (fun K hK => ?_))
            go_simp
            (refine hK _ _ hS4 ?_; clear hK K; (try simp only [Act.put, lA, lB, lC]))
            (refine wpAnyT_do 14 (by kernel_rfl) rfl (fun K hK => ?_))
            go_simp
            (refine hK _ _ hS4 ?_; clear hK K; (try simp only [Act.put, lA, lB, lC]))
            (refine wpAnyT_do 15 (by kernel_rfl) rfl (fun K hK => ?_))
            go_simp
            (refine hK _ _ hS4 ?_; clear hK K; (try simp only [Act.put, lA, lB, lC]))
            (refine wpAnyT_last 16 (by kernel_rfl) rfl (by decide) (by kernel_rfl) (fun K hK => ?_))
            go_simp
            (refine hK _ _ ?_; clear hK K; (try simp only [Act.put, lA, lB, lC]))
            first
              | (obtain ⟨HD14, HO14⟩ := HUPD.out _ _ v hD12 (.inl rfl)
                 have HDH := Lib.hid HD14
                 have HOH := Lib.hid HO14
                 clear HD14 HO14 T12
                 go_wp2_with fail
                 go_roundw
                 case rel => exact ⟨q, _, by have := HQ2.out; omega, by rw [← HQ1.out], HDH.out.mono (by have := HQ2.out; omega), HOH⟩
                 case measure => have := HQ2.out; simp [intOf]; omega)
              | (obtain ⟨HD14, HO14⟩ := HUPD.out _ _ 15 hD12 (.inr rfl)
                 have HDH := Lib.hid HD14
                 have HOH := Lib.hid HO14
                 clear HD14 HO14 T12
                 go_wp2_with fail
                 go_roundw
                 case rel => exact ⟨q, _, by have := HQ2.out; omega, by rw [← HQ1.out], HDH.out.mono (by have := HQ2.out; omega), HOH⟩
                 case measure => have := HQ2.out; simp [intOf]; omega)
        · skip
          go_simp
          refine (pick_c rb bs _ 2 _ hD10.rd (by omega) (by omega)).mono ?_
          rintro e w11 ⟨k, rfl, k0, k1, hR11, hG11⟩
          have hk2 : k = 0 ∨ k = 1 := by rcases k1 with h | h <;> omega
          have hD11 := hD10.draw hG11 hR11
          have hS3 := HREL.out _ (Gr.trans G10 hG11)
          clear k0 k1
          (refine hK _ _ hS3 ?_; clear hK K; (try simp only [Act.put, lA, lB, lC]))
          (refine wpAnyT_do 10 (by kernel_rfl) rfl (fun K hK => ?_))
          go_simp
          have eA : Ext w11 (w11.alloc (.cells #[.int .i64 v, .int .i64 15] 3)) := (Ext.refl _).alloc _
          have bk := Blk.at w11 [.int .i64 v, .int .i64 15] 3 rfl
          have hD12 := hD11.ext eA
          have hS4 := HREL.out _ (Gr.trans (Gr.trans G10 hG11) (Gr.ext eA _))
          clear hG11 hR11
          (refine hK _ _ hS4 ?_; clear hK K; (try simp only [Act.put, lA, lB, lC]))
          have z0 := bk.cell (i := 0) rfl
          have z1 := bk.cell (i := 1) rfl
          have zl2 := bk.lt
          have T12 := HTV.out _ _ hD12
          have fs := T12.fs
          have ls12 := T12.ls
          have q12 := T12.s i (by rw [HLS.out]; exact hi3)
          rcases hk2 with rfl | rfl
          all_goals
            (refine wpAnyT_do 13 (by kernel_rfl) rfl (fun K hK => ?_))
            go_simp
            (refine hK _ _ hS4 ?_; clear hK K; (try simp only [Act.put, lA, lB, lC]))
            (refine wpAnyT_do 14 (by kernel_rfl) rfl (fun K hK => ?_))
            go_simp
            (refine hK _ _ hS4 ?_; clear hK K; (try simp only [Act.put, lA, lB, lC]))
            (refine wpAnyT_do 15 (by kernel_rfl) rfl (fun K hK => ?_))
            go_simp
            (refine hK _ _ hS4 ?_; clear hK K; (try simp only [Act.put, lA, lB, lC]))
            (refine wpAnyT_last 16 (by kernel_rfl) rfl (by decide) (by kernel_rfl) (fun K hK => ?_))
            go_simp
            (refine hK _ _ ?_; clear hK K; (try simp only [Act.put, lA, lB, lC]))
            first
              | (obtain ⟨HD14, HO14⟩ := HUPD.out _ _ v hD12 (.inl rfl)
                 have HDH := Lib.hid HD14
                 have HOH := Lib.hid HO14
                 clear HD14 HO14 T12
                 go_wp2_with fail
                 go_roundw
                 case rel => exact ⟨q, _, by have := HQ2.out; omega, by rw [← HQ1.out], HDH.out.mono (by have := HQ2.out; omega), HOH⟩
                 case measure => have := HQ2.out; simp [intOf]; omega)
              | (obtain ⟨HD14, HO14⟩ := HUPD.out _ _ 15 hD12 (.inr rfl)
                 have HDH := Lib.hid HD14
                 have HOH := Lib.hid HO14
                 clear HD14 HO14 T12
                 go_wp2_with fail
                 go_roundw
                 case rel => exact ⟨q, _, by have := HQ2.out; omega, by rw [← HQ1.out], HDH.out.mono (by have := HQ2.out; omega), HOH⟩
                 case measure => have := HQ2.out; simp [intOf]; omega)
      · go_wp2_with fail
        refine (pick_c rb bs _ 8 _ hD8.rd (by omega) (by omega)).mono ?_
        rintro e w9 ⟨k, rfl, k0, k1, hR9, hG9⟩
        obtain ⟨t, rfl⟩ : ∃ t : Nat, k = (t : Int) := ⟨k.toNat, by omega⟩
        have ht8 : t < 8 := by rcases k1 with h | h <;> omega
        have hti : (t : Int) < 8 := by omega
        have hD9 := hD8.draw hG9 hR9
        have G9 := hG9
        have T9 := HTV.out _ _ hD9
        have u0 := hD9.bk.cell (i := 0) rfl
        have ul := hD9.bk.lt
        have u3 := T9.c3
        rw [HLD.out] at u3
        have ulg := T9.lg
        have uld := T9.ld
        have ud := T9.d t (by rw [HLD.out]; exact ht8)
        obtain ⟨old, hold⟩ : ∃ x, x = (K.ts.getD j tile0).dr.getD t 0 := ⟨_, rfl⟩
        rw [← hold] at ud
        have HOD : Hid (drvB j old = true) := Lib.hid (by rw [hold]; exact HTO.out.ds t ht8)
        clear T9 k0 k1 hR9 hG9 hold
        go_wp2_with fail
        refine wp_regionT (fun w' => ∀ o, w'.cell? ⟨Bk, o, none⟩ = w8.cell? ⟨Bk, o, none⟩ ∧ w'.cell? ⟨g, o, none⟩ = w8.cell? ⟨g, o, none⟩) 10 (by kernel_rfl) ?_
        have hS0 := HREL.out _ (Gr.trans G9 (Gr.ext (Ext.drew w9) _))
        clear u0 ul u3 ulg uld ud
        ((refine tkT 0 (v := ?_) rfl (by kernel_rfl) (by kernel_rfl) ?_ (by assumption) ?_; rotate_left; (intro wS hSw; (try dsimp only at hSw); go_simp; (try with_reducible rfl)); (try simp only [Act.put, lA, lB, lC])); (refine tkT 1 (v := ?_) rfl (by kernel_rfl) (by kernel_rfl) ?_ (by assumption) ?_; rotate_left; (intro wS hSw; (try dsimp only at hSw); go_simp; (try with_reducible rfl)); (try simp only [Act.put, lA, lB, lC])); (refine tkT 2 (v := ?_) rfl (by kernel_rfl) (by kernel_rfl) ?_ (by assumption) ?_; rotate_left; (intro wS hSw; (try dsimp only at hSw); go_simp; (try with_reducible rfl)); (try simp only [Act.put, lA, lB, lC])); (refine tkT 3 (v := ?_) rfl (by kernel_rfl) (by kernel_rfl) ?_ (by assumption) ?_; rotate_left; (intro wS hSw; (try dsimp only at hSw); go_simp; (try with_reducible rfl)); (try simp only [Act.put, lA, lB, lC])); (refine tkT 4 (v := ?_) rfl (by kernel_rfl) (by kernel_rfl) ?_ (by assumption) ?_; rotate_left; (intro wS hSw; (try dsimp only at hSw); go_simp; (try with_reducible rfl)); (try simp only [Act.put, lA, lB, lC])); (refine tkT 5 (v := ?_) rfl (by kernel_rfl) (by kernel_rfl) ?_ (by assumption) ?_; rotate_left; (intro wS hSw; (try dsimp only at hSw); go_simp; (try with_reducible rfl)); (try simp only [Act.put, lA, lB, lC])); (refine tkT 6 (v := ?_) rfl (by kernel_rfl) (by kernel_rfl) ?_ (by assumption) ?_; rotate_left; (intro wS hSw; (try dsimp only at hSw); go_simp; (try with_reducible rfl)); (try simp only [Act.put, lA, lB, lC])); (refine tkT 7 (v := ?_) rfl (by kernel_rfl) (by kernel_rfl) ?_ (by assumption) ?_; rotate_left; (intro wS hSw; (try dsimp only at hSw); go_simp; (try with_reducible rfl)); (try simp only [Act.put, lA, lB, lC])))
        (refine wpAnyT_do 8 (by kernel_rfl) rfl (fun K hK => ?_))
        go_simp
        refine (pick_c rb bs _ 7 _ (hD9.rd.ext (Ext.drew w9)) (by omega) (by omega)).mono ?_
        rintro e w10 ⟨d, rfl, k0, k1, hR10, hG10⟩
        have hD10 := (hD9.ext (Ext.drew w9)).draw hG10 hR10
        have hS1 := HREL.out _ (Gr.trans (Gr.trans G9 (Gr.ext (Ext.drew w9) _)) hG10)
        clear k0 k1 hR10 hG10
        (refine hK _ _ hS1 ?_; clear hK K; (try simp only [Act.put, lA, lB, lC]))
        ((refine tkT 9 (v := ?_) rfl (by kernel_rfl) (by kernel_rfl) ?_ (by assumption) ?_; rotate_left; (intro wS hSw; (try dsimp only at hSw); go_simp; (try with_reducible rfl)); (try simp only [Act.put, lA, lB, lC])))
        have T10 := HTV.out _ _ hD10
        have ud := T10.d t (by rw [HLD.out]; exact ht8)
        have fd := T10.fd
        have uld := T10.ld
        obtain ⟨sv, hsv⟩ : ∃ x, x = (K.ts.getD j tile0).dr.getD t 0 := ⟨_, rfl⟩
        rw [← hsv] at ud
        obtain ⟨Y, hY⟩ : ∃ Y, Y = ({ K.ts.getD j tile0 with dr := (K.ts.getD j tile0).dr.set t d } : Tile) := ⟨_, rfl⟩
        have hK11 := hD10.k.setDr HJ.out HU2.out (by rw [HLD.out]; exact ht8) d (k := t)
        rw [← hY] at hK11
        have HD11 := Lib.hid (hD10.upd hbd hngd hK11 (by show (K.ts.set j _).length = _; rw [List.length_set]))
        have HY := Lib.hid hY
        have hYs : Y.sl.length = 3 ∧ Y.dr.length = 8 := by rw [hY]; exact ⟨HLS.out, by show (List.set _ _ _).length = 8; rw [List.length_set]; exact HLD.out⟩
        obtain ⟨hy3, hy8⟩ := hYs
        have HY3 := Lib.hid hy3
        have HY8 := Lib.hid hy8
        clear T10 hD10 hD9 hD8 hY hsv hK11 hy3 hy8
        (refine wpAnyT_last 10 (by kernel_rfl) rfl (by decide) (by kernel_rfl) (fun K hK => ?_))
        go_simp
        (refine hK _ _ ?_; clear hK K; (try simp only [Act.put, lA, lB, lC]))
        obtain ⟨w11, hw11⟩ : ∃ z, z = w10.setCell ⟨gd, t, none⟩ (.int .i64 d) := ⟨_, rfl⟩
        rw [← hw11] at HD11
        rw [← hw11]
        clear hw11 ud fd uld hS0 hS1
        have hjK : j < (K.ts.set j Y).length := by rw [List.length_set]; exact HJ.out
        have eY : (K.ts.set j Y).getD j tile0 = Y := tile_set HJ.out Y
        have T11 := HD11.out.k.tv (j := j) hjK HU1.out HU2.out (by show 0 < ((K.ts.set j Y).getD j tile0).sl.length; rw [eY, HY3.out]; omega) (by show 0 < ((K.ts.set j Y).getD j tile0).dr.length; rw [eY, HY8.out]; omega)
        have T11' : TileV w11 g j gs csl gd cd Y := by
          have h := T11
          dsimp only at h
          rw [eY] at h
          exact h
        have u0 := HD11.out.bk.cell (i := 0) rfl
        have ul := HD11.out.bk.lt
        have v0 := T11'.c0
        have v1 := T11'.c1
        have v2 := T11'.c2
        have v3 := T11'.c3
        have ulg := T11'.lg
        have iS : IntsAt w11 (some ⟨gs, 0, none⟩) Y.sl := .inr ⟨gs, 0, rfl, T11'.ls, fun i hi => by rw [Nat.zero_add]; exact T11'.s i hi⟩
        have iD : IntsAt w11 (some ⟨gd, 0, none⟩) Y.dr := .inr ⟨gd, 0, rfl, T11'.ld, fun i hi => by rw [Nat.zero_add]; exact T11'.d i hi⟩
        have hcall := l9Tile_c Y j hj25 (some ⟨gs, 0, none⟩) (some ⟨gd, 0, none⟩) csl cd w11 iS iD (by rw [HY3.out]; omega) (by rw [HY8.out]; omega)
        have HEY := Lib.hid eY
        clear T11 T11' iS iD eY hjK
        go_wp2_with fail
        refine hcall.mono ?_
        obtain ⟨B, hB⟩ : ∃ B, B = tileB Y j := ⟨_, rfl⟩
        rw [← hB]
        rintro e w12 ⟨rfl, hE12⟩
        have hD12 := HD11.out.ext hE12
        clear hcall u0 ul v0 v1 v2 v3 ulg
        cases B
        · have hjK : j < (K.ts.set j Y).length := by rw [List.length_set]; exact HJ.out
          have T12 := hD12.k.tv (j := j) hjK HU1.out HU2.out (by show 0 < ((K.ts.set j Y).getD j tile0).sl.length; rw [HEY.out, HY3.out]; omega) (by show 0 < ((K.ts.set j Y).getD j tile0).dr.length; rw [HEY.out, HY8.out]; omega)
          dsimp only at T12
          rw [HEY.out] at T12
          have u0 := hD12.bk.cell (i := 0) rfl
          have ul := hD12.bk.lt
          have v3 := T12.c3
          rw [HY8.out] at v3
          have ulg := T12.lg
          have uld := T12.ld
          have ud := T12.d t (by rw [HY8.out]; exact ht8)
          have fd := T12.fd
          obtain ⟨sv, hsv⟩ : ∃ x, x = Y.dr.getD t 0 := ⟨_, rfl⟩
          rw [← hsv] at ud
          have HD13 := Lib.hid (hD12.upd hbd hngd (hD12.k.setDr (j := j) hjK HU2.out (by show t < ((K.ts.set j Y).getD j tile0).dr.length; rw [HEY.out, HY8.out]; exact ht8) old (k := t)) (by show ((K.ts.set j Y).set j _).length = (K.ts.set j Y).length; rw [List.length_set]))
          have HO13 := Lib.hid (conf_back HOK.out hj25 t d old HOD.out Y HY.out)
          clear T12 hD12 hsv hjK hB
          go_wp2_with fail
          go_roundw
          case rel => exact ⟨q, _, by have := HQ2.out; omega, by rw [← HQ1.out], HD13.out.mono (by have := HQ2.out; omega), HO13⟩
          case measure => have := HQ2.out; simp [intOf]; omega
        · have HO13 := Lib.hid (HOK.out.put hj25 (tileB_iff.1 hB.symm))
          have HD13 := Lib.hid hD12
          clear hD12 hB
          go_wp2_with fail
          go_roundw
          case rel => exact ⟨q, _, by have := HQ2.out; omega, by rw [← HQ1.out], HD13.out.mono (by have := HQ2.out; omega), HO13⟩
          case measure => have := HQ2.out; simp [intOf]; omega
      · have fg := (HTV.out _ _ hD8).fg
        have HD10 := Lib.hid (hD8.upd (i := j * 4 + 2) hbg hng (hD8.k.setRg HJ.out rfl (!X.rg)) (by show (K.ts.set j _).length = _; rw [List.length_set]))
        have HO10 := Lib.hid (HOK.out.put hj25 (HTO.out.rg' (!X.rg)))
        clear hD8 HTV
        go_wp2_with fail
        (refine wp_regionT ((fun w' => (∀ b o, b < w8.heap.size → w'.cell? ⟨b, o, none⟩ = w8.cell? ⟨b, o, none⟩) ∧ Ext w8 w')) 12 (by kernel_rfl) ?_; have hS0 := held_mk (Ext.drew w8))
        ((refine tkT 0 (v := ?_) rfl (by kernel_rfl) (by kernel_rfl) ?_ (by assumption) ?_; rotate_left; (intro wS hSw; (try dsimp only at hSw); go_simp; (try with_reducible rfl)); (try simp only [Act.put, lA, lB, lC])); (refine tkT 1 (v := ?_) rfl (by kernel_rfl) (by kernel_rfl) ?_ (by assumption) ?_; rotate_left; (intro wS hSw; (try dsimp only at hSw); go_simp; (try with_reducible rfl)); (try simp only [Act.put, lA, lB, lC])); (refine tkT 2 (v := ?_) rfl (by kernel_rfl) (by kernel_rfl) ?_ (by assumption) ?_; rotate_left; (intro wS hSw; (try dsimp only at hSw); go_simp; (try with_reducible rfl)); (try simp only [Act.put, lA, lB, lC])); (refine tkT 3 (v := ?_) rfl (by kernel_rfl) (by kernel_rfl) ?_ (by assumption) ?_; rotate_left; (intro wS hSw; (try dsimp only at hSw); go_simp; (try with_reducible rfl)); (try simp only [Act.put, lA, lB, lC])); (refine tkT 4 (v := ?_) rfl (by kernel_rfl) (by kernel_rfl) ?_ (by assumption) ?_; rotate_left; (intro wS hSw; (try dsimp only at hSw); go_simp; (try with_reducible rfl)); (try simp only [Act.put, lA, lB, lC])); (refine tkT 5 (v := ?_) rfl (by kernel_rfl) (by kernel_rfl) ?_ (by assumption) ?_; rotate_left; (intro wS hSw; (try dsimp only at hSw); go_simp; (try with_reducible rfl)); (try simp only [Act.put, lA, lB, lC])); (refine tkT 6 (v := ?_) rfl (by kernel_rfl) (by kernel_rfl) ?_ (by assumption) ?_; rotate_left; (intro wS hSw; (try dsimp only at hSw); go_simp; (try with_reducible rfl)); (try simp only [Act.put, lA, lB, lC])); (refine tkT 7 (v := ?_) rfl (by kernel_rfl) (by kernel_rfl) ?_ (by assumption) ?_; rotate_left; (intro wS hSw; (try dsimp only at hSw); go_simp; (try with_reducible rfl)); (try simp only [Act.put, lA, lB, lC])); (refine tkT 8 (v := ?_) rfl (by kernel_rfl) (by kernel_rfl) ?_ (by assumption) ?_; rotate_left; (intro wS hSw; (try dsimp only at hSw); go_simp; (try with_reducible rfl)); (try simp only [Act.put, lA, lB, lC])); (refine tkT 9 (v := ?_) rfl (by kernel_rfl) (by kernel_rfl) ?_ (by assumption) ?_; rotate_left; (intro wS hSw; (try dsimp only at hSw); go_simp; (try with_reducible rfl)); (try simp only [Act.put, lA, lB, lC])); (refine tkT 10 (v := ?_) rfl (by kernel_rfl) (by kernel_rfl) ?_ (by assumption) ?_; rotate_left; (intro wS hSw; (try dsimp only at hSw); go_simp; (try with_reducible rfl)); (try simp only [Act.put, lA, lB, lC])); (refine tkT 11 (v := ?_) rfl (by kernel_rfl) (by kernel_rfl) ?_ (by assumption) ?_; rotate_left; (intro wS hSw; (try dsimp only at hSw); go_simp; (try with_reducible rfl)); (try simp only [Act.put, lA, lB, lC])))
        (refine wpAnyT_last 12 (by kernel_rfl) rfl (by decide) (by kernel_rfl) (fun K hK => ?_))
        go_simp
        (refine hK _ _ ?_; clear hK K; (try simp only [Act.put, lA, lB, lC]))
        go_wp2_with fail
        go_roundw
        case rel => exact ⟨q, _, by have := HQ2.out; omega, by rw [← HQ1.out], (HD10.out.ext (Ext.drew _)).mono (by have := HQ2.out; omega), HO10⟩
        case measure => have := HQ2.out; simp [intOf]; omega
    · -- the end
      have hlti : ¬ ((0 : Int) < (m : Int)) := by omega
      go_wp2_with fail
      refine (odd_c rb bs _ n _ hD.rd (by omega) (by omega) (by omega)).mono ?_
      rintro e w7 ⟨bo, rfl, hbo, hR7, hG7⟩
      have hD7 := hD.draw hG7 hR7
      have HBO := Lib.hid hbo
      clear hD hR7 hG7 hbo
      obtain ⟨ta, tc, pa, pc, etv, epv⟩ := hD7.k.sl
      rw [HOK.out.lt] at etv
      rw [HOK.out.lp] at epv
      subst etv epv
      have HM : Hid (N + 300 + (11 - m) * 10 + 60 ≤ N + 500) := Lib.hid (by omega)
      obtain ⟨M, hM⟩ : ∃ M, M = N + 300 + (11 - m) * 10 := ⟨_, rfl⟩
      rw [← hM] at hD7 HM
      have hMl : M ≤ 10000000 := by omega
      clear hM
      go_upto_if 112 with fail
      go_cut [5] (fun v wx => v = .pointer (some ⟨Bk, 0, none⟩) ∧ FinK w1 rb Bk bs (N + 500) n wx)
      case first =>
        cases bo
        · have HF : Hid (FinK w1 rb Bk bs (N + 500) n w7) := Lib.hid (hD7.fin HOK.out.lt.symm HOK.out.lp.symm HOK.out.shp (fun _ => HOK.out) (by have := HM.out; omega))
          clear hD7
          go_wp2_with fail
          go_meet
          exact ⟨rfl, HF.out⟩
        · have hn : ¬ n ≤ 0 := fun h => by have := HBO.out h; cases this
          refine wp_cond_true rfl ?_
          refine badArm_c _ _ _ _ _ _ _ _ _ _ _ _ _ _ _ _ _ _ _ _ _ _ _ _ _ _ _ _ _ _ _ _ _ _ _ _ _ _ _ _ _ _ _ _ _ _ _ _ _ _ _ _ _ _ _ _ _ _ _ _ _ _ _ _ _ _ _ _ _ _ _ _ _ _ _ _ _ _ _ _ _ _ _ _ _ _ _ _ _ _ _ _ _ _ _ _ _ _ _ _ _ _ _ _ _ _ _ _ _ _ _ _ _ _ _ _ _ _ _ _ _ _ _ _ _ _ _ _ _ _ _ _ _ _ _ _ _ _ _ _ _ _ _ _ _ _ _ _ _ _ _ _ _ _ _ _ _ _ _ _ _ _ _ _ _ _ _ _ _ _ _ _ _ rb bs N (M + 1) n w1 w7 Bk ta pa tc pc us K hD7 HOK (Lib.hid (by have := HM.out; omega)) (by have := HM.out; omega) hn s13 (Lib.hid (fun d11 d113 d114 d115 d116 d117 d118 d119 d120 d121 d122 d123 d124 d125 d126 d127 d128 d129 d130 d131 d132 d133 d134 d135 d136 d137 d138 d139 d140 d141 d142 d143 d144 d145 d146 d147 d148 d149 d150 d151 d152 d153 d154 d155 d156 d157 d158 d159 d160 d161 d162 d163 d164 d165 d166 d167 d168 d169 d170 d171 d172 d173 d174 w' hF => ?_))
          dsimp only [armQ, Exit.then]
          try go_wp2_with fail
          go_meet
          exact ⟨rfl, hF⟩
      obtain ⟨rfl, hF⟩ := hcut
      obtain ⟨w10, rfl⟩ : ∃ z : World, z = wc := ⟨_, rfl⟩
      clear hD7 HOK HBO
      obtain ⟨ta, tc, pa, pc, K, hB, hKp, hcaps, hok, hRd, hG⟩ := hF
      have R10 : Blk w10 w.heap.size 52 [.slice none 0 0, .slice none 0 0] := R0.gr hG (fun e => by have := Option.some.inj e; omega)
      have b0 := R10.cell (i := 0) rfl
      have b1 := R10.cell (i := 1) rfl
      have bf := fun i => R10.frozen i
      have bl := R10.lt
      have z0 := hB.cell (i := 0) rfl
      have z1 := hB.cell (i := 1) rfl
      have zl := hB.lt
      have R11 := (R10.set 0 (.slice ta K.ts.length tc)).set 1 (.slice pa K.ps.length pc)
      have d0 := R11.cell (i := 0) rfl
      have d1 := R11.cell (i := 1) rfl
      have HK11 := Lib.hid ((hKp.set (lo2 := w1.heap.size) (p := ⟨w.heap.size, 0, none⟩) s1 (Nat.le_refl _) (.slice ta K.ts.length tc)).set (lo2 := w1.heap.size) (p := ⟨w.heap.size, 1, none⟩) s1 (Nat.le_refl _) (.slice pa K.ps.length pc))
      have HR11 := Lib.hid ((hRd.grn (r := some w.heap.size) (grown_setCell _ _ 0 (.slice ta K.ts.length tc)) (fun k hk => by have := Option.some.inj hk; omega)).grn (r := some w.heap.size) (grown_setCell _ _ 1 (.slice pa K.ps.length pc)) (fun k hk => by have := Option.some.inj hk; omega))
      have HG11 := Lib.hid (Gr.setNew (Gr.setNew (Gr.trans (Gr.ext E0 _) hG) (p := ⟨w.heap.size, 0, none⟩) (Nat.le_refl _) (.slice ta K.ts.length tc)) (p := ⟨w.heap.size, 1, none⟩) (Nat.le_refl _) (.slice pa K.ps.length pc))
      have HOK := Lib.hid hok
      clear R10 R11 hB hKp hRd hG hok
      go_wp2_with fail
      refine bodyPost_ret (v := .agg #[.slice ta K.ts.length tc, .slice pa K.ps.length pc]) (by simp [results, Try.results83, go_sem, d0, d1]) rfl ?_
      exact ⟨ta, tc, pa, pc, K, rfl, fun w'' hk => HK11.out w'' (fun g h1 h2 => hk g (by omega) h2), hcaps, HOK.out, HR11.out, HG11.out⟩
end Go.Proofs.Ytgialedmbmfejaa

--@from BCut BBest BLut BCel BSnk
namespace Go.Proofs.Ytgialedmbmfejaa
open Go.RowKit
set_option maxRecDepth 100000
set_option linter.unusedVariables false
set_option linter.unusedSimpArgs false
def DrawnK (w : World) (e : Ending) (w' : World) : Prop := ∃ ta tc pa pc K, e = .returned (.agg #[.slice ta (Conf.ts K).length tc, .slice pa K.ps.length pc]) ∧ (ConfAt w' K ta pa ∧ DrC w' ta K.ts) ∧ (K.ts.length ≤ tc ∧ tc ≤ maxLen ∧ K.ps.length ≤ pc ∧ pc ≤ maxLen) ∧ Ext w w'
set_option maxHeartbeats 4000000 in
theorem DrawConfigValid_c (a : Option Addr) (c : Nat) (bs : List Int) (w : World) (hB : BytesAt w a bs) (hl : bs.length ≤ 1048576) (hc : bs.length ≤ c) (hcm : c ≤ maxLen) :
  Calls Try.prog 34 #[.slice a bs.length c] w (DrawnK w) := by
 have R0 := Blk.at w [.slice none 0 0, .slice none 0 0] 52 rfl
 have E0 : Ext w (w.alloc (.cells #[.slice none 0 0, .slice none 0 0] 52)) := (Ext.refl w).alloc _
 have s0 : w.heap.size < (w.alloc (.cells #[.slice none 0 0, .slice none 0 0] 52)).heap.size := by simp
 go_enter Try.func34, Try.ntmps34
 go_upto_region 1 with fail
 obtain ⟨w0, hw0⟩ : ∃ x : World, x = w.alloc (.cells #[.slice none 0 0, .slice none 0 0] 52) := ⟨_, rfl⟩
 rw [← hw0] at R0 E0 s0
 rw [← hw0]
 clear hw0
 go_wp2_with fail
 refine (open_c a c bs _ (hB.ext E0) hl hc hcm).mono ?_
 rintro e w1 ⟨rb, bs', rfl, hR1, hrb, hE1⟩
 go_wp2_with fail
 refine (l20Config_c rb bs' 0 2 _ hR1 (by omega) (by omega) (by omega)).mono ?_
 rintro e w2 ⟨ta, tc, pa, pc, K, rfl, hK, hcaps, _, hR2, hG2⟩
 have s1 := hE1.size
 have R2 := (R0.ext hE1).gr hG2 (fun e => by have := Option.some.inj e; omega)
 have E2 := ext_of_gr hE1 hG2 hrb
 have b0 := R2.cell (i := 0) rfl
 have b1 := R2.cell (i := 1) rfl
 have bf := fun i => R2.frozen i
 have bl := R2.lt
 have R9 := (R2.set 0 (.slice ta K.ts.length tc)).set 1 (.slice pa K.ps.length pc)
 have d0 := R9.cell (i := 0) rfl
 have d1 := R9.cell (i := 1) rfl
 have HK := Lib.hid ((hK.set (lo2 := w1.heap.size) (p := ⟨w.heap.size, 0, none⟩) (by show w.heap.size < w1.heap.size; omega) (Nat.le_refl _) (.slice ta K.ts.length tc)).set (lo2 := w1.heap.size) (p := ⟨w.heap.size, 1, none⟩) (by show w.heap.size < w1.heap.size; omega) (Nat.le_refl _) (.slice pa K.ps.length pc))
 have EW : Ext w ((w2.setCell ⟨w.heap.size, 0, none⟩ (.slice ta K.ts.length tc)).setCell ⟨w.heap.size, 1, none⟩ (.slice pa K.ps.length pc)) := Ext.setNew (Ext.setNew (E0.trans E2) (Nat.le_refl _) _) (Nat.le_refl _) _
 clear R2 R9 hK hR2 hG2
 go_wp2_with fail
 refine bodyPost_ret (v := .agg #[.slice ta K.ts.length tc, .slice pa K.ps.length pc]) (by simp [results, Try.results34, go_sem, d0, d1]) rfl ?_
 exact ⟨ta, tc, pa, pc, K, rfl, HK.out _ (fun _ _ _ => rfl), hcaps, EW⟩
set_option maxHeartbeats 4000000 in
theorem DrawEncodeConfig_c (a : Option Addr) (c : Nat) (bs : List Int) (w : World) (hB : BytesAt w a bs) (hl : bs.length ≤ 1048576) (hc : bs.length ≤ c) (hcm : c ≤ maxLen) :
  Calls Try.prog 40 #[.slice a bs.length c] w (DrawnK w) := by
 have R0 := Blk.at w [.slice none 0 0, .slice none 0 0] 52 rfl
 have E0 : Ext w (w.alloc (.cells #[.slice none 0 0, .slice none 0 0] 52)) := (Ext.refl w).alloc _
 have s0 : w.heap.size < (w.alloc (.cells #[.slice none 0 0, .slice none 0 0] 52)).heap.size := by simp
 go_enter Try.func40, Try.ntmps40
 go_upto_region 1 with fail
 obtain ⟨w0, hw0⟩ : ∃ x : World, x = w.alloc (.cells #[.slice none 0 0, .slice none 0 0] 52) := ⟨_, rfl⟩
 rw [← hw0] at R0 E0 s0
 rw [← hw0]
 clear hw0
 go_wp2_with fail
 refine (open_c a c bs _ (hB.ext E0) hl hc hcm).mono ?_
 rintro e w1 ⟨rb, bs', rfl, hR1, hrb, hE1⟩
 go_wp2_with fail
 refine (l20Config_c rb bs' 0 9 _ hR1 (by omega) (by omega) (by omega)).mono ?_
 rintro e w2 ⟨ta, tc, pa, pc, K, rfl, hK, hcaps, _, hR2, hG2⟩
 have s1 := hE1.size
 have R2 := (R0.ext hE1).gr hG2 (fun e => by have := Option.some.inj e; omega)
 have E2 := ext_of_gr hE1 hG2 hrb
 have b0 := R2.cell (i := 0) rfl
 have b1 := R2.cell (i := 1) rfl
 have bf := fun i => R2.frozen i
 have bl := R2.lt
 have R9 := (R2.set 0 (.slice ta K.ts.length tc)).set 1 (.slice pa K.ps.length pc)
 have d0 := R9.cell (i := 0) rfl
 have d1 := R9.cell (i := 1) rfl
 have HK := Lib.hid ((hK.set (lo2 := w1.heap.size) (p := ⟨w.heap.size, 0, none⟩) (by show w.heap.size < w1.heap.size; omega) (Nat.le_refl _) (.slice ta K.ts.length tc)).set (lo2 := w1.heap.size) (p := ⟨w.heap.size, 1, none⟩) (by show w.heap.size < w1.heap.size; omega) (Nat.le_refl _) (.slice pa K.ps.length pc))
 have EW : Ext w ((w2.setCell ⟨w.heap.size, 0, none⟩ (.slice ta K.ts.length tc)).setCell ⟨w.heap.size, 1, none⟩ (.slice pa K.ps.length pc)) := Ext.setNew (Ext.setNew (E0.trans E2) (Nat.le_refl _) _) (Nat.le_refl _) _
 clear R2 R9 hK hR2 hG2
 go_wp2_with fail
 refine bodyPost_ret (v := .agg #[.slice ta K.ts.length tc, .slice pa K.ps.length pc]) (by simp [results, Try.results40, go_sem, d0, d1]) rfl ?_
 exact ⟨ta, tc, pa, pc, K, rfl, HK.out _ (fun _ _ _ => rfl), hcaps, EW⟩
end Go.Proofs.Ytgialedmbmfejaa

