/- The drawing of circuits. -/
import Derived.Test.YtgialedmbmfejaaCBuild
import Derived.Test.YtgialedmbmfejaaRegion
namespace Go.Proofs.Ytgialedmbmfejaa
open Go.RowKit
set_option maxRecDepth 100000
set_option linter.unusedVariables false
set_option linter.unusedSimpArgs false
/-- What a drawn circuit is: its literals are small; it is valid if no fault was asked for. -/
structure DrawnC (c : Circ) (n : Int) : Prop where
 ln : c.next.length ≤ 10
 lg : c.gates.length ≤ 20
 lo : c.outs.length ≤ 10
 i0 : -1 ≤ c.inputs
 i1 : c.inputs ≤ 5
 ok : n ≤ 0 → c.Valid
def DrawPost (w : World) (rb : Nat) (bs : List Int) (N : Nat) (n : Int) (e : Ending) (w' : World) : Prop :=
 ∃ c nv gv ov, e = .returned (.agg #[.int .i64 c.inputs, nv, gv, ov]) ∧ DrawnC c n ∧ w'.ownsRow w.heap.size 3 1 nv c.next.length (c.next.map (Value.int .i64)) ∧
  w'.ownsRow w.heap.size 100 2 gv c.gates.length (flat c.gates) ∧ w'.ownsRow w.heap.size 3 1 ov c.outs.length (c.outs.map (Value.int .i64)) ∧ Rdr w' rb bs (N + 200) ∧ w.grownBy w' (some rb)
theorem CBuild.snocGate {w7 w8 : World} {base cb : Nat} {k1 : Int} {ns : List Int} {gs : List (Int × Int)} {os : List Int} {nv gv ov v' : Value} {o : Obj} {a b : Int} (hB : CBuild w7 base cb ⟨k1, ns, gs, os⟩ nv gv ov) (g8 : (w7.alloc o).grownBy w8 gv.ownBlock) (m8 : RowMoved (w7.alloc o) gv v') (o8 : w8.ownsRow base 100 2 v' (gs.length + 1) (flat gs ++ flat [(a, b)])) :
  CBuild (w8.setCell ⟨cb, 2, none⟩ v') base cb ⟨k1, ns, gs ++ [(a, b)], os⟩ nv v' ov :=
 (hB.ext ((Ext.refl w7).alloc _)).addGates g8 m8 (by simpa [flat_append] using o8)
theorem CBuild.snocNext {w7 w8 : World} {base cb : Nat} {k1 : Int} {ns : List Int} {gs : List (Int × Int)} {os : List Int} {nv gv ov v' : Value} {o : Obj} {a : Int} (hB : CBuild w7 base cb ⟨k1, ns, gs, os⟩ nv gv ov) (g8 : (w7.alloc o).grownBy w8 nv.ownBlock) (m8 : RowMoved (w7.alloc o) nv v') (o8 : w8.ownsRow base 3 1 v' (ns.length + 1) (ns.map (Value.int .i64) ++ [.int .i64 a])) :
  CBuild (w8.setCell ⟨cb, 1, none⟩ v') base cb ⟨k1, ns ++ [a], gs, os⟩ v' gv ov :=
 (hB.ext ((Ext.refl w7).alloc _)).addNext g8 m8 (by simpa using o8)
theorem CBuild.snocOuts {w7 w8 : World} {base cb : Nat} {k1 : Int} {ns : List Int} {gs : List (Int × Int)} {os : List Int} {nv gv ov v' : Value} {o : Obj} {a : Int} (hB : CBuild w7 base cb ⟨k1, ns, gs, os⟩ nv gv ov) (g8 : (w7.alloc o).grownBy w8 ov.ownBlock) (m8 : RowMoved (w7.alloc o) ov v') (o8 : w8.ownsRow base 3 1 v' (os.length + 1) (os.map (Value.int .i64) ++ [.int .i64 a])) :
  CBuild (w8.setCell ⟨cb, 3, none⟩ v') base cb ⟨k1, ns, gs, os ++ [a]⟩ nv gv v' :=
 (hB.ext ((Ext.refl w7).alloc _)).addOuts g8 m8 (by simpa using o8)
def LsOk (n : Int) (xs : List Int) : Prop := ∀ i, i < xs.length → litB (xs.getD i 0) n = true
theorem LsOk.snoc {n : Int} {xs : List Int} (h : LsOk n xs) {a : Int} (ha : litB a n = true) : LsOk n (xs ++ [a]) := by
 intro i hi
 rcases Nat.lt_or_ge i xs.length with h' | h'
 ·have := h i h'
  simpa [List.getD_eq_getElem?_getD, List.getElem?_append_left h'] using this
 ·have e : i = xs.length := by simp at hi; omega
  subst e
  simpa [List.getD_eq_getElem?_getD] using ha
def GsOk (f : Int) (gs : List (Int × Int)) : Prop := ∀ i, i < gs.length → litB (gs.getD i (0, 0)).1 (f + i) = true ∧ litB (gs.getD i (0, 0)).2 (f + i) = true
theorem GsOk.snoc {f : Int} {gs : List (Int × Int)} (h : GsOk f gs) {a b : Int} (ha : litB a (f + gs.length) = true) (hb : litB b (f + gs.length) = true) : GsOk f (gs ++ [(a, b)]) := by
 intro i hi
 rcases Nat.lt_or_ge i gs.length with h' | h'
 ·have := h i h'
  simpa [List.getD_eq_getElem?_getD, List.getElem?_append_left h'] using this
 ·have e : i = gs.length := by simp at hi; omega
  subst e
  simpa [List.getD_eq_getElem?_getD] using And.intro ha hb
theorem litB_of {l n : Int} (h0 : 0 ≤ l) (h1 : l < 2 * n) : litB l n = true := by simp [litB, h0, h1]
/-- What holds at the head of the second loop. -/
def Rel2 (W0 : World) (rb : Nat) (bs : List Int) (N B cb : Nat) (k1 k2 V : Int) (gs : List (Int × Int)) (u11 : Value) (wr : World) : Prop :=
 ∃ (ns : List Int) (nv gv ov : Value), ns.length ≤ 3 ∧ (ns.length : Int) ≤ k2 ∧ u11 = .int .i64 ns.length ∧ LsOk V ns ∧ Rdr wr rb bs (N + 70 + ns.length) ∧ CBuild wr B cb ⟨k1, ns, gs, []⟩ nv gv ov ∧ W0.grownBy wr (some rb)
def Rel3 (W0 : World) (rb : Nat) (bs : List Int) (N B cb : Nat) (k1 V : Int) (ns : List Int) (gs : List (Int × Int)) (u12 : Value) (wr : World) : Prop :=
 ∃ (os : List Int) (j : Nat) (nv gv ov : Value), os.length + j ≤ 3 ∧ u12 = .int .i64 j ∧ LsOk V os ∧ Rdr wr rb bs (N + 80 + 4 * os.length) ∧ CBuild wr B cb ⟨k1, ns, gs, os⟩ nv gv ov ∧ W0.grownBy wr (some rb)
theorem draw_fin {w w5 W0 : World} {rb : Nat} {bs : List Int} {N M : Nat} {n : Int} {c : Circ} {cb : Nat} {nv gv ov y0 y1 y2 y3 : Value} (hB : CBuild w5 (w.heap.size + 1) cb c nv gv ov) (hR : Rdr w5 rb bs M) (hM : M ≤ N + 200) (hG : W0.grownBy w5 (some rb)) (G0 : w.grownBy W0 (some rb)) (hrb : rb < w.heap.size) (hd : DrawnC c n) :
  DrawPost w rb bs N n (.returned (.agg #[.int .i64 c.inputs, nv, gv, ov])) ((((w5.setCell ⟨w.heap.size, 0, none⟩ y0).setCell ⟨w.heap.size, 1, none⟩ y1).setCell ⟨w.heap.size, 2, none⟩ y2).setCell ⟨w.heap.size, 3, none⟩ y3) := by
 have hb : Below w.heap.size w5 ((((w5.setCell ⟨w.heap.size, 0, none⟩ y0).setCell ⟨w.heap.size, 1, none⟩ y1).setCell ⟨w.heap.size, 2, none⟩ y2).setCell ⟨w.heap.size, 3, none⟩ y3) :=
  Below.setCell (p := ⟨w.heap.size, 3, none⟩) (Below.setCell (p := ⟨w.heap.size, 2, none⟩) (Below.setCell (p := ⟨w.heap.size, 1, none⟩) (Below.setCell (p := ⟨w.heap.size, 0, none⟩) (Below.refl _ w5) (Nat.le_refl _) _) (Nat.le_refl _) _) (Nat.le_refl _) _) (Nat.le_refl _) _
 have off : ∀ {e : TypeId} {size k : Nat} {v : Value} {xs : List Value}, w5.ownsRow (w.heap.size + 1) e size v k xs → v.ownBlock ≠ some w.heap.size := by
  intro e size k v xs h he
  have := (h.lt _ he).1
  omega
 refine ⟨c, nv, gv, ov, rfl, hd, ?_, ?_, ?_, (hR.below hb hrb).mono hM, Gr.below (Gr.trans G0 hG) hb (Nat.le_refl _)⟩
 ·exact ownsRow_base (ownsRow_set (ownsRow_set (ownsRow_set (ownsRow_set hB.nx (off hB.nx) _) (off hB.nx) _) (off hB.nx) _) (off hB.nx) _) (Nat.le_succ _)
 ·exact ownsRow_base (ownsRow_set (ownsRow_set (ownsRow_set (ownsRow_set hB.gs (off hB.gs) _) (off hB.gs) _) (off hB.gs) _) (off hB.gs) _) (Nat.le_succ _)
 ·exact ownsRow_base (ownsRow_set (ownsRow_set (ownsRow_set (ownsRow_set hB.os (off hB.os) _) (off hB.os) _) (off hB.os) _) (off hB.os) _) (Nat.le_succ _)
theorem drawn_valid {k1 k2 V : Int} {ns os : List Int} {gs : List (Int × Int)} (h0 : 0 ≤ k1) (h1 : k1 ≤ 4) (hn : ns.length ≤ 3) (hk : (ns.length : Int) = k2) (hg : gs.length ≤ 14) (ho : os.length ≤ 3) (hV : V = k1 + k2 + 1 + gs.length) (hgs : GsOk (k1 + k2 + 1) gs) (hns : LsOk V ns) (hos : LsOk V os) : Circ.Valid ⟨k1, ns, gs, os⟩ := by
 have e1 : Circ.first ⟨k1, ns, gs, os⟩ = k1 + k2 + 1 := by simp only [Circ.first]; omega
 have e2 : Circ.vars ⟨k1, ns, gs, os⟩ = V := by simp only [Circ.vars, e1]; omega
 refine ⟨h0, h1, hn, hg, ho, ?_, ?_⟩
 ·intro i hi
  rw [e1]
  exact hgs i hi
 ·intro i hi
  rw [e2]
  rcases Nat.lt_or_ge i ns.length with h | h
  ·have := hns i h
   simpa [List.getD_eq_getElem?_getD, List.getElem?_append_left h] using this
  ·have h2 : i - ns.length < os.length := by simp at hi; omega
   have := hos (i - ns.length) h2
   simpa [List.getD_eq_getElem?_getD, List.getElem?_append_right h] using this
def mu4 (cb : Nat) (w : World) : Nat := match w.cell? ⟨cb, 2, none⟩ with | some (.slice _ n _) => 15 - n | _ => 0
theorem mu4_eq {cb : Nat} {w : World} {a : Option Addr} {n c : Nat} (h : w.cell? ⟨cb, 2, none⟩ = some (.slice a n c)) : mu4 cb w = 15 - n := by simp [mu4, h]
def Rel4 (W0 : World) (rb : Nat) (bs : List Int) (M B cb : Nat) (k1 : Int) (ns os : List Int) (wr : World) : Prop :=
 ∃ (gs : List (Int × Int)) (nv gv ov : Value), gs.length ≤ 15 ∧ Rdr wr rb bs M ∧ CBuild wr B cb ⟨k1, ns, gs, os⟩ nv gv ov ∧ W0.grownBy wr (some rb)
set_option maxHeartbeats 4000000 in
theorem l20Circuit_c (rb : Nat) (bs : List Int) (N : Nat) (n : Int) (w : World) (hr : Rdr w rb bs N) (hN : N ≤ 100000000) (hn : n ≤ 1000) (hn0 : 0 ≤ n) :
  Calls Try.prog 58 #[.pointer (some ⟨rb, 0, none⟩), .int .i64 n] w (DrawPost w rb bs N n) := by
 have hrb := hr.lt
 go_enter Try.func58, Try.ntmps58
 go_wp2_with fail
 have b0 := heap_alloc_new w (.cells #[.int .i64 0, .slice none 0 0, .slice none 0 0, .slice none 0 0] 26)
 have G0 : w.grownBy (w.alloc (.cells #[.int .i64 0, .slice none 0 0, .slice none 0 0, .slice none 0 0] 26)) (some rb) := Gr.alloc (Gr.refl _ _) _
 have R0 := hr.ext ((Ext.refl w).alloc (.cells #[.int .i64 0, .slice none 0 0, .slice none 0 0, .slice none 0 0] 26))
 have sz0 : (w.alloc (.cells #[.int .i64 0, .slice none 0 0, .slice none 0 0, .slice none 0 0] 26)).heap.size = w.heap.size + 1 := by simp
 generalize w.alloc (.cells #[.int .i64 0, .slice none 0 0, .slice none 0 0, .slice none 0 0] 26) = W0 at *
 refine (pick_c rb bs N 5 _ R0 (by omega) (by omega)).mono ?_
 rintro e w1 ⟨k1, rfl, k10, k11, hR1, hG1⟩
 have hs1 := hG1.size
 go_wp2_with fail
 refine (pick_c rb bs (N + 1) 4 _ (hR1.ext ((Ext.refl w1).alloc _)) (by omega) (by omega)).mono ?_
 rintro e w2 ⟨k2, rfl, k20, k21, hR2, hG2⟩
 have hB2 := (CBuild.made w1 (w.heap.size + 1) k1 (by omega)).keep hG2 (by omega)
 have G2 : W0.grownBy w2 (some rb) := Gr.trans (Gr.alloc hG1 _) hG2
 have hcb : w.heap.size + 1 ≤ w1.heap.size := by omega
 generalize w1.heap.size = cb at hB2 hcb ⊢
 have hk1 : k1 ≤ 4 := by omega
 have hk2 : k2 ≤ 3 := by omega
 clear k11 k21 hG1 hG2 hs1 hR1 w1
 obtain ⟨x0, x1, x2, x3, fz⟩ := hB2.cells
 go_wp2_with fail
 clear x0 x1 x2 x3 fz
 refine (pick_c rb bs (N + 2) 15 _ hR2 (by omega) (by omega)).mono ?_
 rintro e w3 ⟨k3, rfl, k30, k31, hR3, hG3⟩
 have hB3 := hB2.keep hG3 (by omega)
 have G3 := Gr.trans G2 hG3
 have hk3 : k3 ≤ 14 := by omega
 clear k31 hG3 G2 hB2 hR2 w2
 go_wp2_with fail
 go_loopw [7, 8] (fun u7 u8 wr => ∃ (gs : List (Int × Int)) (j : Nat) (nv gv ov : Value), gs.length + j ≤ 14 ∧ u7 = .int .i64 (k1 + k2 + 1 + gs.length) ∧ u8 = .int .i64 j ∧ Hid (GsOk (k1 + k2 + 1) gs) ∧ Rdr wr rb bs (N + 3 + 4 * gs.length) ∧ CBuild wr (w.heap.size + 1) cb ⟨k1, [], gs, []⟩ nv gv ov ∧ W0.grownBy wr (some rb)) (fun _ u8 _ => (intOf u8).toNat)
 case atStart =>
  exact ⟨[], k3.toNat, _, _, _, by simp; omega, by simp, by simp [Int.toNat_of_nonneg k30], Lib.hid (fun i hi => by simp at hi), hR3, hB3, G3⟩
 case round =>
  obtain ⟨gs, j, nv, gv, ov, hj, rfl, rfl, hok, hR, hB, hG⟩ := hrel
  by_cases hj0 : 0 < j
  ·
   have hlen : gs.length ≤ 13 := by omega
   go_wp2_with fail
   refine (pick_c rb bs _ _ _ hR (by omega) (by omega)).mono ?_
   rintro e w4 ⟨ka, rfl, ka0, ka1, hR4, hG4⟩
   have hB4 := hB.keep hG4 (by omega)
   have hGG4 := Gr.trans hG hG4
   clear hR hB hG hG4
   go_wp2_with fail
   refine (pick_c rb bs _ _ _ hR4 (by omega) (by omega)).mono ?_
   rintro e w5 ⟨kb, rfl, kb0, kb1, hR5, hG5⟩
   have hB5 := hB4.keep hG5 (by omega)
   have hGG5 := Gr.trans hGG4 hG5
   clear hR4 hB4 hGG4 hG5
   go_wp2_with fail
   refine (pick_c rb bs _ _ _ hR5 (by omega) (by omega)).mono ?_
   rintro e w6 ⟨kc, rfl, kc0, kc1, hR6, hG6⟩
   have hB6 := hB5.keep hG6 (by omega)
   have hGG6 := Gr.trans hGG5 hG6
   clear hR5 hB5 hGG5 hG6
   by_cases hkc : 0 < kc
   ·by_cases h6 : 6 ≤ 2 * (k1 + k2 + 1 + gs.length)
    all_goals
     go_wp2_with fail
     refine (pick_c rb bs _ _ _ hR6 (by omega) (by omega)).mono ?_
     rintro e w7 ⟨kd, rfl, kd0, kd1, hR7, hG7⟩
     have hB7 := hB6.keep hG7 (by omega)
     have hGG7 := Gr.trans hGG6 hG7
     clear hR6 hB6 hGG6 hG7
     obtain ⟨x0, x1, x2, x3, fz⟩ := hB7.cells
     have hlt7 := hB7.lt
     clear x0 x1 x3 fz
     go_wp2_with (at_builtin; go_loud (refine wpList_app tyGates (hB7.gs.alloc _) (rowAt_pair _ _ _) rfl (oneCell_flat _) (by dsimp only; omega) (by simp; omega) rfl rfl rfl rfl ?_); intro gv' w8 o8 g8 m8; dsimp only at o8; obtain ⟨ga, gcap, rfl, _⟩ := ownsRow_row o8; obtain ⟨_, ⟨y2, hy2⟩, _, fz8⟩ := (hB7.ext ((Ext.refl w7).alloc _)).box g8 hB7.g1; have hf2 := fz8 2; clear fz8)
     go_roundw
     case rel =>
      have hb8 : Below (w.heap.size + 1) w7 (w8.setCell ⟨cb, 2, none⟩ (.slice ga (gs.length + 1) gcap)) := (((Below.refl _ w7).alloc (by omega) _).grown g8 (by simp; omega) (fun k hk => (hB7.gs.lt k hk).1)).setCell hcb _
      exact ⟨gs ++ [(2 * (k1 + k2 + 1 + gs.length) - 1 - kd, kb)], j - 1, nv, _, ov, by simp; omega, by simp; omega, by go_num, Lib.hid (hok.out.snoc (litB_of (by omega) (by omega)) (litB_of (by omega) (by omega))), (hR7.below hb8 (by omega)).mono (by simp; omega), hB7.snocGate g8 m8 o8, Gr.below hGG7 hb8 (by omega)⟩
     case measure => simp [intOf]; omega
   ·obtain ⟨x0, x1, x2, x3, fz⟩ := hB6.cells
    have hlt6 := hB6.lt
    clear x0 x1 x3 fz
    go_wp2_with (at_builtin; refine wpList_app tyGates (hB6.gs.alloc _) (rowAt_pair _ _ _) rfl (oneCell_flat _) (by dsimp only; omega) (by simp; omega) rfl rfl rfl rfl ?_; intro gv' w8 o8 g8 m8; dsimp only at o8; obtain ⟨ga, gcap, rfl, _⟩ := ownsRow_row o8; obtain ⟨_, ⟨y2, hy2⟩, _, fz8⟩ := (hB6.ext ((Ext.refl w6).alloc _)).box g8 hB6.g1; have hf2 := fz8 2; clear fz8)
    go_roundw
    case rel =>
     have hb8 : Below (w.heap.size + 1) w6 (w8.setCell ⟨cb, 2, none⟩ (.slice ga (gs.length + 1) gcap)) := (((Below.refl _ w6).alloc (by omega) _).grown g8 (by simp; omega) (fun k hk => (hB6.gs.lt k hk).1)).setCell hcb _
     exact ⟨gs ++ [(ka, kb)], j - 1, nv, _, ov, by simp; omega, by simp; omega, by go_num, Lib.hid (hok.out.snoc (litB_of (by omega) (by omega)) (litB_of (by omega) (by omega))), (hR6.below hb8 (by omega)).mono (by simp; omega), hB6.snocGate g8 m8 o8, Gr.below hGG6 hb8 (by omega)⟩
    case measure => simp [intOf]; omega
  ·have hj1 : j = 0 := by omega
   subst hj1
   have hgl : gs.length ≤ 14 := by omega
   clear hj hj0 hR3 hB3 G3 hk3 k30 w3
   obtain ⟨V, hV⟩ : ∃ V, V = k1 + k2 + 1 + (gs.length : Int) := ⟨_, rfl⟩
   have hV1 : 1 ≤ V ∧ V ≤ 30 := by omega
   rw [← hV]
   have HV := Lib.hid hV
   clear hV
   go_wp2_with fail
   go_loopw [11] (fun u11 wr => Rel2 W0 rb bs N (w.heap.size + 1) cb k1 k2 V gs u11 wr) (fun u11 _ => (k2 - intOf u11).toNat)
   case atStart => exact ⟨[], nv, gv, ov, by simp, by simpa using k20, rfl, (fun i hi => by simp at hi), hR.mono (by simp; omega), hB, hG⟩
   case round =>
    clear hR hB hG nv gv ov
    obtain ⟨ns, nv, gv, ov, hn3, hnk, rfl, hns0, hR, hB, hG⟩ := hrel
    have hns := Lib.hid hns0
    clear hns0
    by_cases hlt : (ns.length : Int) < k2
    ·
     obtain ⟨x0, x1, x2, x3, fz⟩ := hB.cells
     have hltc := hB.lt
     clear x0 x2 x3
     have hw2 : IntKind.i64.wrap (2 * V) = 2 * V := IntWalk.i64_in _ (by omega)
     go_wp2_with fail
     go_region_law (first | (refine step_app tyInts (hB5.nx.alloc _) (RowAt.new w5 _ _) rfl (oneCell_int1 _) (by dsimp only; omega) (by simp; omega) rfl rfl rfl rfl ?_; intro nv' w8 o8 g8 m8; dsimp only at o8; obtain ⟨na, ncap, rfl, _⟩ := ownsRow_row o8; obtain ⟨⟨y1, hy1⟩, _, _, fz8⟩ := (hB5.ext ((Ext.refl w5).alloc _)).box g8 hB5.n1; have hf1 := fz8 1; clear fz8) | (go_simp; go_at_call 93; refine (pick_c rb bs _ _ _ (hR.ext (Ext.drew wr)) (by omega) (by omega)).mono ?_; rintro e w5 ⟨ka, rfl, ka0, ka1, hR5, hG5⟩; have hB5 := (hB.ext (Ext.drew wr)).keep hG5 (by omega); obtain ⟨_, z1, _, _, _⟩ := hB5.cells; have hlt5 := hB5.lt))
     all_goals
      clear hw2
      go_wp2
      go_roundw
      case rel =>
       have hb8 : Below (w.heap.size + 1) w5 (w8.setCell ⟨cb, 1, none⟩ (.slice na (ns.length + 1) ncap)) := (((Below.refl _ w5).alloc (by omega) _).grown g8 (by simp; omega) (fun k hk => (hB5.nx.lt k hk).1)).setCell hcb _
       exact ⟨ns ++ [ka], _, gv, ov, (by first | omega | (simp; done) | (simp; omega)), (by first | omega | (simp; done) | (simp; omega)), by first | (simp; done) | go_num, (hns.out.snoc (litB_of (by omega) (by omega))), (hR5.below hb8 (by omega)).mono (by simp; omega), hB5.snocNext g8 m8 o8, Gr.below (Gr.trans (Gr.ext (Ext.drew wr) _ |> Gr.trans hG) hG5) hb8 (by omega)⟩
      case measure => simp [intOf]; omega
    ·have hnk2 : (ns.length : Int) = k2 := by omega
     have HNK := Lib.hid hnk2
     clear hnk2
     go_wp2_with fail
     refine (pick_c rb bs _ 4 _ hR (by omega) (by omega)).mono ?_
     rintro e w4 ⟨k4, rfl, k40, k41, hR4, hG4⟩
     have hB4 := hB.keep hG4 (by omega)
     have hGG4 := Gr.trans hG hG4
     clear hR hB hG hG4
     go_wp2_with fail
     go_loopw [12] (fun u12 wr => Rel3 W0 rb bs N (w.heap.size + 1) cb k1 V ns gs u12 wr) (fun u12 _ => (intOf u12).toNat)
     case atStart => exact ⟨[], k4.toNat, nv, gv, ov, (by first | omega | (simp; done) | (simp; omega)), by simp [Int.toNat_of_nonneg k40], (fun i hi => by simp at hi), hR4.mono (by first | omega | (simp; done) | (simp; omega)), hB4, hGG4⟩
     case round =>
      clear hR4 hB4 hGG4 nv gv ov
      obtain ⟨os, j, nv, gv, ov, hj, rfl, hos0, hR, hB, hG⟩ := hrel
      have hos := Lib.hid hos0
      clear hos0
      by_cases hj0 : 0 < j
      ·
       obtain ⟨x0, x1, x2, x3, fz⟩ := hB.cells
       have hltc := hB.lt
       clear x0 x1 x2
       have hw2 : IntKind.i64.wrap (2 * V) = 2 * V := IntWalk.i64_in _ (by omega)
       have hw3 : IntKind.i64.wrap (2 * V - 1) = 2 * V - 1 := IntWalk.i64_in _ (by omega)
       go_wp2_with fail
       refine wp_regionT (fun w' => w'.cell? ⟨cb, 3, none⟩ = some ov) 23 (by kernel_rfl) ?_
       have hS0 : wr.drew.cell? ⟨cb, 3, none⟩ = some ov := x3
       (refine wpAnyT_take 0 (v := ?_) rfl (by kernel_rfl) (fun _ _ _ h => h) (Or.inl ⟨by rfl, ?_⟩) (by assumption) ?_; rotate_left; (intro wS hSw; (try dsimp only at hSw); go_simp; (try with_reducible rfl)); (try simp only [Act.put, lA, lB, lC]))
       (refine wpAnyT_take 1 (v := ?_) rfl (by kernel_rfl) (fun _ _ _ h => h) (Or.inl ⟨by rfl, ?_⟩) (by assumption) ?_; rotate_left; (intro wS hSw; (try dsimp only at hSw); go_simp; (try with_reducible rfl)); (try simp only [Act.put, lA, lB, lC]))
       (refine wpAnyT_take 2 (v := ?_) rfl (by kernel_rfl) (fun _ _ _ h => h) (Or.inl ⟨by rfl, ?_⟩) (by assumption) ?_; rotate_left; (intro wS hSw; (try dsimp only at hSw); go_simp; (try with_reducible rfl)); (try simp only [Act.put, lA, lB, lC]))
       (refine wpAnyT_take 3 (v := ?_) rfl (by kernel_rfl) (fun _ _ _ h => h) (Or.inl ⟨by rfl, ?_⟩) (by assumption) ?_; rotate_left; (intro wS hSw; (try dsimp only at hSw); go_simp; (try with_reducible rfl)); (try simp only [Act.put, lA, lB, lC]))
       (refine wpAnyT_take 4 (v := ?_) rfl (by kernel_rfl) (fun _ _ _ h => h) (Or.inl ⟨by rfl, ?_⟩) (by assumption) ?_; rotate_left; (intro wS hSw; (try dsimp only at hSw); go_simp; (try with_reducible rfl)); (try simp only [Act.put, lA, lB, lC]))
       (refine wpAnyT_take 5 (v := ?_) rfl (by kernel_rfl) (fun _ _ _ h => h) (Or.inl ⟨by rfl, ?_⟩) (by assumption) ?_; rotate_left; (intro wS hSw; (try dsimp only at hSw); go_simp; (try with_reducible rfl)); (try simp only [Act.put, lA, lB, lC]))
       (refine wpAnyT_take 6 (v := ?_) rfl (by kernel_rfl) (fun _ _ _ h => h) (Or.inl ⟨by rfl, ?_⟩) (by assumption) ?_; rotate_left; (intro wS hSw; (try dsimp only at hSw); go_simp; (try with_reducible rfl)); (try simp only [Act.put, lA, lB, lC]))
       (refine wpAnyT_take 7 (v := ?_) rfl (by kernel_rfl) (fun _ _ _ h => h) (Or.inl ⟨by rfl, ?_⟩) (by assumption) ?_; rotate_left; (intro wS hSw; (try dsimp only at hSw); go_simp; (try with_reducible rfl)); (try simp only [Act.put, lA, lB, lC]))
       (refine wpAnyT_take 8 (v := ?_) rfl (by kernel_rfl) (fun _ _ _ h => h) (Or.inl ⟨by rfl, ?_⟩) (by assumption) ?_; rotate_left; (intro wS hSw; (try dsimp only at hSw); go_simp; (try with_reducible rfl)); (try simp only [Act.put, lA, lB, lC]))
       (refine wpAnyT_take 11 (v := ?_) rfl (by kernel_rfl) (fun _ _ _ h => h) (Or.inl ⟨by rfl, ?_⟩) (by assumption) ?_; rotate_left; (intro wS hSw; (try dsimp only at hSw); go_simp; (try with_reducible rfl)); (try simp only [Act.put, lA, lB, lC]))
       (refine wpAnyT_take 12 (v := ?_) rfl (by kernel_rfl) (fun _ _ _ h => h) (Or.inl ⟨by rfl, ?_⟩) (by assumption) ?_; rotate_left; (intro wS hSw; (try dsimp only at hSw); go_simp; (try with_reducible rfl)); (try simp only [Act.put, lA, lB, lC]))
       (refine wpAnyT_take 13 (v := ?_) rfl (by kernel_rfl) (fun _ _ _ h => h) (Or.inl ⟨by rfl, ?_⟩) (by assumption) ?_; rotate_left; (intro wS hSw; (try dsimp only at hSw); go_simp; (try with_reducible rfl)); (try simp only [Act.put, lA, lB, lC]))
       (refine wpAnyT_take 16 (v := ?_) rfl (by kernel_rfl) (fun _ _ _ h => h) (Or.inl ⟨by rfl, ?_⟩) (by assumption) ?_; rotate_left; (intro wS hSw; (try dsimp only at hSw); go_simp; (try with_reducible rfl)); (try simp only [Act.put, lA, lB, lC]))
       (refine wpAnyT_do 9 (by kernel_rfl) rfl (fun K hK => ?_))
       go_simp
       refine (pick_c rb bs _ (if 2 * V < 8 then 2 * V else 8) _ (hR.ext (Ext.drew wr)) (by omega) (by split <;> omega)).mono ?_
       rintro e w5 ⟨kb, rfl, kb0, kb1, hR5, hG5⟩
       have kb2 : kb ≤ 2 * V - 1 := by split at kb1 <;> omega
       have hB5 := (hB.ext (Ext.drew wr)).keep hG5 (by omega)
       have hGG5 := Gr.trans (Gr.trans hG (Gr.ext (Ext.drew wr) _)) hG5
       have hS5 := hB5.cells.2.2.2.1
       clear kb1 hR hB hG hG5 x3 fz hltc hS0
       (refine hK _ _ hS5 ?_; clear hK K; (try simp only [Act.put, lA, lB, lC]))
       (refine wpAnyT_take 10 (v := ?_) rfl (by kernel_rfl) (fun _ _ _ h => h) (Or.inl ⟨by rfl, ?_⟩) (by assumption) ?_; rotate_left; (intro wS hSw; (try dsimp only at hSw); go_simp; (try with_reducible rfl)); (try simp only [Act.put, lA, lB, lC]))
       (refine wpAnyT_do 14 (by kernel_rfl) rfl (fun K hK => ?_))
       go_simp
       refine (pick_c rb bs _ _ _ hR5 (by omega) (by omega)).mono ?_
       rintro e w6 ⟨kc, rfl, kc0, kc1, hR6, hG6⟩
       have hB6 := hB5.keep hG6 (by omega)
       have hGG6 := Gr.trans hGG5 hG6
       have hS6 := hB6.cells.2.2.2.1
       clear hR5 hB5 hGG5 hG6 hS5
       (refine hK _ _ hS6 ?_; clear hK K; (try simp only [Act.put, lA, lB, lC]))
       have hlt6 := hB6.lt
       have hw4 : IntKind.i64.wrap (2 * V - 1 - kb) = 2 * V - 1 - kb := IntWalk.i64_in _ (by omega)
       (refine wpAnyT_do2 15 17 (by kernel_rfl) rfl rfl (fun K hK => ?_) (fun K hK => ?_))
       ·go_simp
        have hS7 : (w6.alloc (.cells #[.int .i64 (2 * V - 1 - kb), .int .i64 kc] 3)).cell? ⟨cb, 3, none⟩ = some ov := (hB6.ext ((Ext.refl w6).alloc _)).cells.2.2.2.1
        (refine hK _ _ hS7 ?_; clear hK K; (try simp only [Act.put, lA, lB, lC]))
        (refine wpAnyT_do 17 (by kernel_rfl) rfl (fun K hK => ?_))
        go_simp
        refine (pick_c rb bs _ 2 _ (hR6.ext ((Ext.refl w6).alloc _)) (by omega) (by omega)).mono ?_
        rintro e w8 ⟨kd, rfl, kd0, kd1, hR8, hG8⟩
        have hB8 := (hB6.ext ((Ext.refl w6).alloc _)).keep hG8 (by omega)
        have hGG8 := Gr.trans (Gr.trans hGG6 (Gr.alloc (Gr.refl w6 _) _)) hG8
        have hS8 := hB8.cells.2.2.2.1
        have hlt8 := hB8.lt
        have hsz := hB6.hb
        have he0 : w8.cell? ⟨w6.heap.size, 0, none⟩ = some (.int .i64 (2 * V - 1 - kb)) := by rw [gcell hG8 _ _ (by simp) (by omega), cell_of_row _ _ _ _ _ _ (heap_alloc_new w6 _)]; rfl
        have he1 : w8.cell? ⟨w6.heap.size, 1, none⟩ = some (.int .i64 kc) := by rw [gcell hG8 _ _ (by simp) (by omega), cell_of_row _ _ _ _ _ _ (heap_alloc_new w6 _)]; rfl
        have hkd : kd = 0 ∨ kd = 1 := by omega
        clear kd1 hR6 hB6 hGG6 hG8 hS6
        rcases hkd with rfl | rfl
        ·(refine hK _ _ hS8 ?_; clear hK K; (try simp only [Act.put, lA, lB, lC]))
         (refine wpAnyT_take 18 (v := ?_) rfl (by kernel_rfl) (fun _ _ _ h => h) (Or.inl ⟨by rfl, ?_⟩) (by assumption) ?_; rotate_left; (intro wS hSw; (try dsimp only at hSw); go_simp; (try with_reducible rfl)); (try simp only [Act.put, lA, lB, lC]))
         (refine wpAnyT_do 19 (by kernel_rfl) rfl (fun K hK => ?_))
         go_simp
         (refine hK _ _ hS8 ?_; clear hK K; (try simp only [Act.put, lA, lB, lC]))
         have hB9 := hB8.ext ((Ext.refl w8).alloc (.cells #[.int .i64 (2 * V - 1 - kb)] 3))
         (refine wpAnyT_do 20 (by kernel_rfl) rfl (fun K hK => ?_))
         go_simp
         (refine hK _ _ hB9.cells.2.2.2.1 ?_; clear hK K; (try simp only [Act.put, lA, lB, lC]))
         (refine wpAnyT_do 21 (by kernel_rfl) rfl (fun K hK => ?_))
         refine step_app tyInts hB9.os (RowAt.new w8 #[.int .i64 (2 * V - 1 - kb)] _) rfl (oneCell_int1 _) (by dsimp only; omega) (by first | omega | (simp; done) | (simp; omega)) rfl rfl rfl rfl ?_
         intro ov' w9 o9 g9 m9
         dsimp only at o9
         obtain ⟨oa, ocap, rfl, _⟩ := ownsRow_row o9
         obtain ⟨_, _, ⟨y3, hy3⟩, fz9⟩ := hB9.box g9 hB9.o1
         have hf3 := fz9 3
         have hw9 : w9.cell? ⟨cb, 3, none⟩ = some ov := by rw [World.cell?_of_block (a := ⟨cb, 3, none⟩) (g9.block cb hB9.lt (fun e => hB9.o1 e.symm))]; exact hB9.cells.2.2.2.1
         clear fz9
         (refine hK _ _ hw9 ?_; clear hK K; (try simp only [Act.put, lA, lB, lC]))
         (refine wpAnyT_take 22 (v := ?_) rfl (by kernel_rfl) (fun _ _ _ h => h) (Or.inl ⟨by rfl, ?_⟩) (by assumption) ?_; rotate_left; (intro wS hSw; (try dsimp only at hSw); go_simp; (try with_reducible rfl)); (try simp only [Act.put, lA, lB, lC]))
         (refine wpAnyT_last 23 (by kernel_rfl) rfl (by decide) (by kernel_rfl) (fun K hK => ?_))
         go_simp
         (refine hK _ _ ?_; clear hK K; (try simp only [Act.put, lA, lB, lC]))
         have hb9 : Below (w.heap.size + 1) w8 (w9.setCell ⟨cb, 3, none⟩ (.slice oa (os.length + 1) ocap)) := (((Below.refl _ w8).alloc (by omega) _).grown g9 (by simp; omega) (fun k hk => (hB8.os.lt k hk).1)).setCell hcb _
         clear hw2 hw3 hw4
         go_wp2
         go_roundw
         case rel => exact ⟨os ++ [(2 * V - 1 - kb)], j - 1, nv, gv, _, (by first | omega | (simp; done) | (simp; omega)), by first | (simp; done) | go_num, (hos.out.snoc (litB_of (by omega) (by omega))), (hR8.below hb9 (by omega)).mono (by first | omega | (simp; done) | (simp; omega)), hB8.snocOuts g9 m9 o9, Gr.below hGG8 hb9 (by omega)⟩
         case measure => simp [intOf]; omega
        ·(refine hK _ _ hS8 ?_; clear hK K; (try simp only [Act.put, lA, lB, lC]))
         (refine wpAnyT_take 18 (v := ?_) rfl (by kernel_rfl) (fun _ _ _ h => h) (Or.inl ⟨by rfl, ?_⟩) (by assumption) ?_; rotate_left; (intro wS hSw; (try dsimp only at hSw); go_simp; (try with_reducible rfl)); (try simp only [Act.put, lA, lB, lC]))
         (refine wpAnyT_do 19 (by kernel_rfl) rfl (fun K hK => ?_))
         go_simp
         (refine hK _ _ hS8 ?_; clear hK K; (try simp only [Act.put, lA, lB, lC]))
         have hB9 := hB8.ext ((Ext.refl w8).alloc (.cells #[.int .i64 kc] 3))
         (refine wpAnyT_do 20 (by kernel_rfl) rfl (fun K hK => ?_))
         go_simp
         (refine hK _ _ hB9.cells.2.2.2.1 ?_; clear hK K; (try simp only [Act.put, lA, lB, lC]))
         (refine wpAnyT_do 21 (by kernel_rfl) rfl (fun K hK => ?_))
         refine step_app tyInts hB9.os (RowAt.new w8 #[.int .i64 kc] _) rfl (oneCell_int1 _) (by dsimp only; omega) (by first | omega | (simp; done) | (simp; omega)) rfl rfl rfl rfl ?_
         intro ov' w9 o9 g9 m9
         dsimp only at o9
         obtain ⟨oa, ocap, rfl, _⟩ := ownsRow_row o9
         obtain ⟨_, _, ⟨y3, hy3⟩, fz9⟩ := hB9.box g9 hB9.o1
         have hf3 := fz9 3
         have hw9 : w9.cell? ⟨cb, 3, none⟩ = some ov := by rw [World.cell?_of_block (a := ⟨cb, 3, none⟩) (g9.block cb hB9.lt (fun e => hB9.o1 e.symm))]; exact hB9.cells.2.2.2.1
         clear fz9
         (refine hK _ _ hw9 ?_; clear hK K; (try simp only [Act.put, lA, lB, lC]))
         (refine wpAnyT_take 22 (v := ?_) rfl (by kernel_rfl) (fun _ _ _ h => h) (Or.inl ⟨by rfl, ?_⟩) (by assumption) ?_; rotate_left; (intro wS hSw; (try dsimp only at hSw); go_simp; (try with_reducible rfl)); (try simp only [Act.put, lA, lB, lC]))
         (refine wpAnyT_last 23 (by kernel_rfl) rfl (by decide) (by kernel_rfl) (fun K hK => ?_))
         go_simp
         (refine hK _ _ ?_; clear hK K; (try simp only [Act.put, lA, lB, lC]))
         have hb9 : Below (w.heap.size + 1) w8 (w9.setCell ⟨cb, 3, none⟩ (.slice oa (os.length + 1) ocap)) := (((Below.refl _ w8).alloc (by omega) _).grown g9 (by simp; omega) (fun k hk => (hB8.os.lt k hk).1)).setCell hcb _
         clear hw2 hw3 hw4
         go_wp2
         go_roundw
         case rel => exact ⟨os ++ [kc], j - 1, nv, gv, _, (by first | omega | (simp; done) | (simp; omega)), by first | (simp; done) | go_num, (hos.out.snoc (litB_of (by omega) (by omega))), (hR8.below hb9 (by omega)).mono (by first | omega | (simp; done) | (simp; omega)), hB8.snocOuts g9 m9 o9, Gr.below hGG8 hb9 (by omega)⟩
         case measure => simp [intOf]; omega
       ·go_simp
        refine (pick_c rb bs _ 2 _ hR6 (by omega) (by omega)).mono ?_
        rintro e w7 ⟨kd, rfl, kd0, kd1, hR7, hG7⟩
        have hB7 := hB6.keep hG7 (by omega)
        have hGG7 := Gr.trans hGG6 hG7
        have hS7 := hB7.cells.2.2.2.1
        have hkd : kd = 0 ∨ kd = 1 := by omega
        clear kd1 hR6 hB6 hGG6 hG7 hS6
        (refine hK _ _ hS7 ?_; clear hK K; (try simp only [Act.put, lA, lB, lC]))
        have hB8 := hB7.ext ((Ext.refl w7).alloc (.cells #[.int .i64 (2 * V - 1 - kb), .int .i64 kc] 3))
        have hR8 := hR7.ext ((Ext.refl w7).alloc (.cells #[.int .i64 (2 * V - 1 - kb), .int .i64 kc] 3))
        have hGG8 := Gr.trans hGG7 (Gr.alloc (Gr.refl w7 (some rb)) (.cells #[.int .i64 (2 * V - 1 - kb), .int .i64 kc] 3))
        (refine wpAnyT_do 15 (by kernel_rfl) rfl (fun K hK => ?_))
        go_simp
        have he0 : (w7.alloc (.cells #[.int .i64 (2 * V - 1 - kb), .int .i64 kc] 3)).cell? ⟨w7.heap.size, 0, none⟩ = some (.int .i64 (2 * V - 1 - kb)) := by rw [cell_of_row _ _ _ _ _ _ (heap_alloc_new w7 _)]; rfl
        have he1 : (w7.alloc (.cells #[.int .i64 (2 * V - 1 - kb), .int .i64 kc] 3)).cell? ⟨w7.heap.size, 1, none⟩ = some (.int .i64 kc) := by rw [cell_of_row _ _ _ _ _ _ (heap_alloc_new w7 _)]; rfl
        generalize w7.alloc (.cells #[.int .i64 (2 * V - 1 - kb), .int .i64 kc] 3) = w8 at *
        have hS8 := hB8.cells.2.2.2.1
        have hlt8 := hB8.lt
        rcases hkd with rfl | rfl
        ·(refine hK _ _ hS8 ?_; clear hK K; (try simp only [Act.put, lA, lB, lC]))
         (refine wpAnyT_take 18 (v := ?_) rfl (by kernel_rfl) (fun _ _ _ h => h) (Or.inl ⟨by rfl, ?_⟩) (by assumption) ?_; rotate_left; (intro wS hSw; (try dsimp only at hSw); go_simp; (try with_reducible rfl)); (try simp only [Act.put, lA, lB, lC]))
         (refine wpAnyT_do 19 (by kernel_rfl) rfl (fun K hK => ?_))
         go_simp
         (refine hK _ _ hS8 ?_; clear hK K; (try simp only [Act.put, lA, lB, lC]))
         have hB9 := hB8.ext ((Ext.refl w8).alloc (.cells #[.int .i64 (2 * V - 1 - kb)] 3))
         (refine wpAnyT_do 20 (by kernel_rfl) rfl (fun K hK => ?_))
         go_simp
         (refine hK _ _ hB9.cells.2.2.2.1 ?_; clear hK K; (try simp only [Act.put, lA, lB, lC]))
         (refine wpAnyT_do 21 (by kernel_rfl) rfl (fun K hK => ?_))
         refine step_app tyInts hB9.os (RowAt.new w8 #[.int .i64 (2 * V - 1 - kb)] _) rfl (oneCell_int1 _) (by dsimp only; omega) (by first | omega | (simp; done) | (simp; omega)) rfl rfl rfl rfl ?_
         intro ov' w9 o9 g9 m9
         dsimp only at o9
         obtain ⟨oa, ocap, rfl, _⟩ := ownsRow_row o9
         obtain ⟨_, _, ⟨y3, hy3⟩, fz9⟩ := hB9.box g9 hB9.o1
         have hf3 := fz9 3
         have hw9 : w9.cell? ⟨cb, 3, none⟩ = some ov := by rw [World.cell?_of_block (a := ⟨cb, 3, none⟩) (g9.block cb hB9.lt (fun e => hB9.o1 e.symm))]; exact hB9.cells.2.2.2.1
         clear fz9
         (refine hK _ _ hw9 ?_; clear hK K; (try simp only [Act.put, lA, lB, lC]))
         (refine wpAnyT_take 22 (v := ?_) rfl (by kernel_rfl) (fun _ _ _ h => h) (Or.inl ⟨by rfl, ?_⟩) (by assumption) ?_; rotate_left; (intro wS hSw; (try dsimp only at hSw); go_simp; (try with_reducible rfl)); (try simp only [Act.put, lA, lB, lC]))
         (refine wpAnyT_last 23 (by kernel_rfl) rfl (by decide) (by kernel_rfl) (fun K hK => ?_))
         go_simp
         (refine hK _ _ ?_; clear hK K; (try simp only [Act.put, lA, lB, lC]))
         have hb9 : Below (w.heap.size + 1) w8 (w9.setCell ⟨cb, 3, none⟩ (.slice oa (os.length + 1) ocap)) := (((Below.refl _ w8).alloc (by omega) _).grown g9 (by simp; omega) (fun k hk => (hB8.os.lt k hk).1)).setCell hcb _
         clear hw2 hw3 hw4
         go_wp2
         go_roundw
         case rel => exact ⟨os ++ [(2 * V - 1 - kb)], j - 1, nv, gv, _, (by first | omega | (simp; done) | (simp; omega)), by first | (simp; done) | go_num, (hos.out.snoc (litB_of (by omega) (by omega))), (hR8.below hb9 (by omega)).mono (by first | omega | (simp; done) | (simp; omega)), hB8.snocOuts g9 m9 o9, Gr.below hGG8 hb9 (by omega)⟩
         case measure => simp [intOf]; omega
        ·(refine hK _ _ hS8 ?_; clear hK K; (try simp only [Act.put, lA, lB, lC]))
         (refine wpAnyT_take 18 (v := ?_) rfl (by kernel_rfl) (fun _ _ _ h => h) (Or.inl ⟨by rfl, ?_⟩) (by assumption) ?_; rotate_left; (intro wS hSw; (try dsimp only at hSw); go_simp; (try with_reducible rfl)); (try simp only [Act.put, lA, lB, lC]))
         (refine wpAnyT_do 19 (by kernel_rfl) rfl (fun K hK => ?_))
         go_simp
         (refine hK _ _ hS8 ?_; clear hK K; (try simp only [Act.put, lA, lB, lC]))
         have hB9 := hB8.ext ((Ext.refl w8).alloc (.cells #[.int .i64 kc] 3))
         (refine wpAnyT_do 20 (by kernel_rfl) rfl (fun K hK => ?_))
         go_simp
         (refine hK _ _ hB9.cells.2.2.2.1 ?_; clear hK K; (try simp only [Act.put, lA, lB, lC]))
         (refine wpAnyT_do 21 (by kernel_rfl) rfl (fun K hK => ?_))
         refine step_app tyInts hB9.os (RowAt.new w8 #[.int .i64 kc] _) rfl (oneCell_int1 _) (by dsimp only; omega) (by first | omega | (simp; done) | (simp; omega)) rfl rfl rfl rfl ?_
         intro ov' w9 o9 g9 m9
         dsimp only at o9
         obtain ⟨oa, ocap, rfl, _⟩ := ownsRow_row o9
         obtain ⟨_, _, ⟨y3, hy3⟩, fz9⟩ := hB9.box g9 hB9.o1
         have hf3 := fz9 3
         have hw9 : w9.cell? ⟨cb, 3, none⟩ = some ov := by rw [World.cell?_of_block (a := ⟨cb, 3, none⟩) (g9.block cb hB9.lt (fun e => hB9.o1 e.symm))]; exact hB9.cells.2.2.2.1
         clear fz9
         (refine hK _ _ hw9 ?_; clear hK K; (try simp only [Act.put, lA, lB, lC]))
         (refine wpAnyT_take 22 (v := ?_) rfl (by kernel_rfl) (fun _ _ _ h => h) (Or.inl ⟨by rfl, ?_⟩) (by assumption) ?_; rotate_left; (intro wS hSw; (try dsimp only at hSw); go_simp; (try with_reducible rfl)); (try simp only [Act.put, lA, lB, lC]))
         (refine wpAnyT_last 23 (by kernel_rfl) rfl (by decide) (by kernel_rfl) (fun K hK => ?_))
         go_simp
         (refine hK _ _ ?_; clear hK K; (try simp only [Act.put, lA, lB, lC]))
         have hb9 : Below (w.heap.size + 1) w8 (w9.setCell ⟨cb, 3, none⟩ (.slice oa (os.length + 1) ocap)) := (((Below.refl _ w8).alloc (by omega) _).grown g9 (by simp; omega) (fun k hk => (hB8.os.lt k hk).1)).setCell hcb _
         clear hw2 hw3 hw4
         go_wp2
         go_roundw
         case rel => exact ⟨os ++ [kc], j - 1, nv, gv, _, (by first | omega | (simp; done) | (simp; omega)), by first | (simp; done) | go_num, (hos.out.snoc (litB_of (by omega) (by omega))), (hR8.below hb9 (by omega)).mono (by first | omega | (simp; done) | (simp; omega)), hB8.snocOuts g9 m9 o9, Gr.below hGG8 hb9 (by omega)⟩
         case measure => simp [intOf]; omega
      ·go_wp2_with fail
       refine (odd_c rb bs _ n _ hR (by omega) (by omega) (by omega)).mono ?_
       rintro e w5 ⟨kf, rfl, hkf, hR5, hG5⟩
       have hB5 := hB.keep hG5 (by omega)
       have hGG5 := Gr.trans hG hG5
       clear hR hB hG hG5
       cases kf
       ·have hdr : DrawnC ⟨k1, ns, gs, os⟩ n := ⟨by dsimp only; omega, by dsimp only; omega, by dsimp only; omega, by dsimp only; omega, by dsimp only; omega, fun _ => drawn_valid k10 hk1 hn3 HNK.out hgl (by omega) HV.out hok.out hns.out hos.out⟩
        (have hbox : w5.heap[w.heap.size]? = some (.cells #[.int .i64 0, .slice none 0 0, .slice none 0 0, .slice none 0 0] 26) := (hGG5.block _ (by omega) (by simp; omega)).trans b0; (obtain ⟨na, nc, rfl, _⟩ := ownsRow_row hB5.nx; obtain ⟨ga, gc, rfl, _⟩ := ownsRow_row hB5.gs; obtain ⟨oa, oc, rfl, _⟩ := ownsRow_row hB5.os); have hblk := hB5.blk; (have x0 := cell_of_row w5 cb 0 _ _ _ hblk; have x1 := cell_of_row w5 cb 1 _ _ _ hblk; have x2 := cell_of_row w5 cb 2 _ _ _ hblk; have x3 := cell_of_row w5 cb 3 _ _ _ hblk; have fz : ∀ i, w5.frozen? ⟨cb, i, none⟩ = false := (fun i => frozen_of_row _ _ _ _ _ hblk); have y0 := cell_of_row w5 w.heap.size 0 _ _ _ hbox; have y1 := cell_of_row w5 w.heap.size 1 _ _ _ hbox; have y2 := cell_of_row w5 w.heap.size 2 _ _ _ hbox; have y3 := cell_of_row w5 w.heap.size 3 _ _ _ hbox; have fy : ∀ i, w5.frozen? ⟨w.heap.size, i, none⟩ = false := (fun i => frozen_of_row _ _ _ _ _ hbox); simp at x0 x1 x2 x3 y0 y1 y2 y3; have hne : ¬ cb = w.heap.size := (by omega)); clear hblk hbox; go_wp2; (refine bodyPost_ret (v := .agg #[.int .i64 k1, .slice na ns.length nc, .slice ga gs.length gc, .slice oa os.length oc]) (by simp [results, Try.results58, go_sem, y0, y1, y2, y3]) rfl ?_); exact draw_fin (N := N) hB5 hR5 (by omega) hGG5 G0 hrb hdr)
       ·have hn1 : 0 < n := by
         apply Decidable.byContradiction
         intro h
         have := hkf (by omega)
         cases this
        clear hkf hos hns hok HNK HV
        go_wp2_with fail
        refine (pick_c rb bs _ 6 _ hR5 (by omega) (by omega)).mono ?_
        rintro e w6 ⟨k6, rfl, k60, k61, hR6, hG6⟩
        have hB6 := hB5.keep hG6 (by omega)
        have hGG6 := Gr.trans hGG5 hG6
        clear hR5 hB5 hGG5 hG6
        have h6 : k6 = 0 ∨ k6 = 1 ∨ k6 = 2 ∨ k6 = 3 ∨ k6 = 4 ∨ k6 = 5 := by omega
        clear k61
        have hos3 : os.length ≤ 3 := by omega
        have hbox6 : w6.heap[w.heap.size]? = some (.cells #[.int .i64 0, .slice none 0 0, .slice none 0 0, .slice none 0 0] 26) := (hGG6.block _ (by omega) (by simp; omega)).trans b0
        have hlt6 := hB6.lt
        rcases h6 with rfl | rfl | rfl | rfl | rfl | rfl
        ·have hB7 := hB6.ext ((Ext.refl w6).alloc (.cells #[.int .i64 (-1), .int .i64 5] 3))
         go_wp2_with fail
         refine (pick_c rb bs _ 2 _ (hR6.ext ((Ext.refl w6).alloc _)) (by omega) (by omega)).mono ?_
         rintro e w8 ⟨kd, rfl, kd0, kd1, hR8, hG8⟩
         have hB8 := hB7.keep hG8 (by omega)
         have hGG8 := Gr.trans (Gr.trans hGG6 (Gr.alloc (Gr.refl w6 _) _)) hG8
         have he0 : w8.cell? ⟨w6.heap.size, 0, none⟩ = some (.int .i64 (-1)) := by rw [gcell hG8 _ _ (by simp) (by omega), cell_of_row _ _ _ _ _ _ (heap_alloc_new w6 _)]; rfl
         have he1 : w8.cell? ⟨w6.heap.size, 1, none⟩ = some (.int .i64 5) := by rw [gcell hG8 _ _ (by simp) (by omega), cell_of_row _ _ _ _ _ _ (heap_alloc_new w6 _)]; rfl
         have hbox8 : w8.heap[w.heap.size]? = some (.cells #[.int .i64 0, .slice none 0 0, .slice none 0 0, .slice none 0 0] 26) := (hGG8.block _ (by omega) (by simp; omega)).trans b0
         have hblk8 := hB8.blk
         have hkd : kd = 0 ∨ kd = 1 := by omega
         (obtain ⟨na, nc, rfl, _⟩ := ownsRow_row hB8.nx; obtain ⟨ga, gc, rfl, _⟩ := ownsRow_row hB8.gs; obtain ⟨oa, oc, rfl, _⟩ := ownsRow_row hB8.os)
         (have x0 := cell_of_row w8 cb 0 _ _ _ hblk8; have x1 := cell_of_row w8 cb 1 _ _ _ hblk8; have x2 := cell_of_row w8 cb 2 _ _ _ hblk8; have x3 := cell_of_row w8 cb 3 _ _ _ hblk8; have fz : ∀ i, w8.frozen? ⟨cb, i, none⟩ = false := (fun i => frozen_of_row _ _ _ _ _ hblk8); have y0 := cell_of_row w8 w.heap.size 0 _ _ _ hbox8; have y1 := cell_of_row w8 w.heap.size 1 _ _ _ hbox8; have y2 := cell_of_row w8 w.heap.size 2 _ _ _ hbox8; have y3 := cell_of_row w8 w.heap.size 3 _ _ _ hbox8; have fy : ∀ i, w8.frozen? ⟨w.heap.size, i, none⟩ = false := (fun i => frozen_of_row _ _ _ _ _ hbox8); simp at x0 x1 x2 x3 y0 y1 y2 y3; have hne : ¬ cb = w.heap.size := (by omega))
         clear hblk8 hbox8 kd1 hR6 hB6 hGG6 hB7 hG8
         rcases hkd with rfl | rfl
         ·go_wp2
          (refine bodyPost_ret (v := .agg #[.int .i64 (-1), .slice na ns.length nc, .slice ga gs.length gc, .slice oa os.length oc]) (by simp [results, Try.results58, go_sem, y0, y1, y2, y3]) rfl ?_)
          have hb8 : Below (w.heap.size + 1) w8 (w8.setCell ⟨cb, 0, none⟩ (.int .i64 (-1))) := (Below.refl _ w8).setCell hcb _
          exact draw_fin (N := N) (hB8.setInputs (-1)) (hR8.below hb8 (by omega)) (by omega) (Gr.below hGG8 hb8 (by omega)) G0 hrb ⟨by dsimp only; omega, by dsimp only; omega, by dsimp only; omega, by dsimp only; omega, by dsimp only; omega, fun h => by omega⟩
         ·go_wp2
          (refine bodyPost_ret (v := .agg #[.int .i64 5, .slice na ns.length nc, .slice ga gs.length gc, .slice oa os.length oc]) (by simp [results, Try.results58, go_sem, y0, y1, y2, y3]) rfl ?_)
          have hb8 : Below (w.heap.size + 1) w8 (w8.setCell ⟨cb, 0, none⟩ (.int .i64 5)) := (Below.refl _ w8).setCell hcb _
          exact draw_fin (N := N) (hB8.setInputs 5) (hR8.below hb8 (by omega)) (by omega) (Gr.below hGG8 hb8 (by omega)) G0 hrb ⟨by dsimp only; omega, by dsimp only; omega, by dsimp only; omega, by dsimp only; omega, by dsimp only; omega, fun h => by omega⟩
        ·have hw2 : IntKind.i64.wrap (2 * V) = 2 * V := IntWalk.i64_in _ (by omega)
         have x3 := hB6.cells.2.2.2.1
         go_wp2_with fail
         refine wp_regionT (fun w' => w'.cell? ⟨cb, 3, none⟩ = some ov) 12 (by kernel_rfl) ?_
         have hS0 : w6.drew.cell? ⟨cb, 3, none⟩ = some ov := x3
         have hB6' := hB6.ext (Ext.drew w6)
         have hR6' := hR6.ext (Ext.drew w6)
         have hGG6' := Gr.trans hGG6 (Gr.ext (Ext.drew w6) _)
         have hltd := hB6'.lt
         generalize w6.drew = wd at *
         clear hB6 hR6 hGG6 hbox6 hlt6
         (refine wpAnyT_take 0 (v := ?_) rfl (by kernel_rfl) (fun _ _ _ h => h) (Or.inl ⟨by rfl, ?_⟩) (by assumption) ?_; rotate_left; (intro wS hSw; (try dsimp only at hSw); go_simp; (try with_reducible rfl)); (try simp only [Act.put, lA, lB, lC]))
         (refine wpAnyT_take 1 (v := ?_) rfl (by kernel_rfl) (fun _ _ _ h => h) (Or.inl ⟨by rfl, ?_⟩) (by assumption) ?_; rotate_left; (intro wS hSw; (try dsimp only at hSw); go_simp; (try with_reducible rfl)); (try simp only [Act.put, lA, lB, lC]))
         (refine wpAnyT_take 2 (v := ?_) rfl (by kernel_rfl) (fun _ _ _ h => h) (Or.inl ⟨by rfl, ?_⟩) (by assumption) ?_; rotate_left; (intro wS hSw; (try dsimp only at hSw); go_simp; (try with_reducible rfl)); (try simp only [Act.put, lA, lB, lC]))
         (refine wpAnyT_take 3 (v := ?_) rfl (by kernel_rfl) (fun _ _ _ h => h) (Or.inl ⟨by rfl, ?_⟩) (by assumption) ?_; rotate_left; (intro wS hSw; (try dsimp only at hSw); go_simp; (try with_reducible rfl)); (try simp only [Act.put, lA, lB, lC]))
         (refine wpAnyT_take 5 (v := ?_) rfl (by kernel_rfl) (fun _ _ _ h => h) (Or.inl ⟨by rfl, ?_⟩) (by assumption) ?_; rotate_left; (intro wS hSw; (try dsimp only at hSw); go_simp; (try with_reducible rfl)); (try simp only [Act.put, lA, lB, lC]))
         (refine wpAnyT_do2 4 6 (by kernel_rfl) rfl rfl (fun K hK => ?_) (fun K hK => ?_))
         ·go_simp
          have hB7 := hB6'.ext ((Ext.refl wd).alloc (.cells #[.int .i64 (-1), .int .i64 (2 * V)] 3))
          (refine hK _ _ hB7.cells.2.2.2.1 ?_; clear hK K; (try simp only [Act.put, lA, lB, lC]))
          (refine wpAnyT_do 6 (by kernel_rfl) rfl (fun K hK => ?_))
          go_simp
          refine (pick_c rb bs _ 2 _ (hR6'.ext ((Ext.refl wd).alloc _)) (by omega) (by omega)).mono ?_
          rintro e w8 ⟨kd, rfl, kd0, kd1, hR8, hG8⟩
          have hB8 := hB7.keep hG8 (by omega)
          have hGG8 := Gr.trans (Gr.trans hGG6' (Gr.alloc (Gr.refl wd _) _)) hG8
          have hS8 := hB8.cells.2.2.2.1
          have hlt8 := hB8.lt
          have he0 : w8.cell? ⟨wd.heap.size, 0, none⟩ = some (.int .i64 (-1)) := by rw [gcell hG8 _ _ (by simp) (by omega), cell_of_row _ _ _ _ _ _ (heap_alloc_new wd _)]; rfl
          have he1 : w8.cell? ⟨wd.heap.size, 1, none⟩ = some (.int .i64 (2 * V)) := by rw [gcell hG8 _ _ (by simp) (by omega), cell_of_row _ _ _ _ _ _ (heap_alloc_new wd _)]; rfl
          have hkd : kd = 0 ∨ kd = 1 := by omega
          clear kd1 hR6' hB6' hGG6' hG8 hB7
          rcases hkd with rfl | rfl
          ·(refine hK _ _ hS8 ?_; clear hK K; (try simp only [Act.put, lA, lB, lC]))
           (refine wpAnyT_take 7 (v := ?_) rfl (by kernel_rfl) (fun _ _ _ h => h) (Or.inl ⟨by rfl, ?_⟩) (by assumption) ?_; rotate_left; (intro wS hSw; (try dsimp only at hSw); go_simp; (try with_reducible rfl)); (try simp only [Act.put, lA, lB, lC]))
           (refine wpAnyT_do 8 (by kernel_rfl) rfl (fun K hK => ?_))
           go_simp
           (refine hK _ _ hS8 ?_; clear hK K; (try simp only [Act.put, lA, lB, lC]))
           have hB9 := hB8.ext ((Ext.refl w8).alloc (.cells #[.int .i64 (-1)] 3))
           have hbox8 : w8.heap[w.heap.size]? = some (.cells #[.int .i64 0, .slice none 0 0, .slice none 0 0, .slice none 0 0] 26) := (hGG8.block _ (by omega) (by simp; omega)).trans b0
           (refine wpAnyT_do 9 (by kernel_rfl) rfl (fun K hK => ?_))
           go_simp
           (refine hK _ _ hB9.cells.2.2.2.1 ?_; clear hK K; (try simp only [Act.put, lA, lB, lC]))
           (refine wpAnyT_do 10 (by kernel_rfl) rfl (fun K hK => ?_))
           refine step_app tyInts hB9.os (RowAt.new w8 #[.int .i64 (-1)] _) rfl (oneCell_int1 _) (by dsimp only; omega) (by first | omega | (simp; done) | (simp; omega)) rfl rfl rfl rfl ?_
           intro ov' w9 o9 g9 m9
           dsimp only at o9
           obtain ⟨va, vc, rfl, _⟩ := ownsRow_row o9
           obtain ⟨na, nc, rfl, _⟩ := ownsRow_row hB8.nx
           obtain ⟨ga, gc, rfl, _⟩ := ownsRow_row hB8.gs
           have hblk := (g9.block cb hB9.lt (fun e => hB9.o1 e.symm)).trans hB9.blk
           have hbox := (g9.block w.heap.size (by simp; omega) (fun e => by have := (hB9.os.lt _ e.symm).1; omega)).trans ((Below.heap_alloc w8 _ _ (by omega)).trans hbox8)
           have hw9 : w9.cell? ⟨cb, 3, none⟩ = some ov := cell_of_row w9 cb 3 _ _ _ hblk
           (refine hK _ _ hw9 ?_; clear hK K; (try simp only [Act.put, lA, lB, lC]))
           (refine wpAnyT_take 11 (v := ?_) rfl (by kernel_rfl) (fun _ _ _ h => h) (Or.inl ⟨by rfl, ?_⟩) (by assumption) ?_; rotate_left; (intro wS hSw; (try dsimp only at hSw); go_simp; (try with_reducible rfl)); (try simp only [Act.put, lA, lB, lC]))
           have hw9' := Lib.hid hw9
           clear hw9
           (have x0 := cell_of_row w9 cb 0 _ _ _ hblk; have x1 := cell_of_row w9 cb 1 _ _ _ hblk; have x2 := cell_of_row w9 cb 2 _ _ _ hblk; have x3 := cell_of_row w9 cb 3 _ _ _ hblk; have fz : ∀ i, w9.frozen? ⟨cb, i, none⟩ = false := (fun i => frozen_of_row _ _ _ _ _ hblk); have y0 := cell_of_row w9 w.heap.size 0 _ _ _ hbox; have y1 := cell_of_row w9 w.heap.size 1 _ _ _ hbox; have y2 := cell_of_row w9 w.heap.size 2 _ _ _ hbox; have y3 := cell_of_row w9 w.heap.size 3 _ _ _ hbox; have fy : ∀ i, w9.frozen? ⟨w.heap.size, i, none⟩ = false := (fun i => frozen_of_row _ _ _ _ _ hbox); simp at x0 x1 x2 x3 y0 y1 y2 y3; have hne : ¬ cb = w.heap.size := (by omega))
           clear hblk hbox
           (refine wpAnyT_last 12 (by kernel_rfl) rfl (by decide) (by kernel_rfl) (fun K hK => ?_))
           go_simp
           (refine hK _ _ ?_; clear hK K; (try simp only [Act.put, lA, lB, lC]))
           have hb9 : Below (w.heap.size + 1) w8 (w9.setCell ⟨cb, 3, none⟩ (.slice va (os.length + 1) vc)) := (((Below.refl _ w8).alloc (by omega) _).grown g9 (by simp; omega) (fun k hk => (hB8.os.lt k hk).1)).setCell hcb _
           clear hw2
           go_wp2
           (refine bodyPost_ret (v := .agg #[.int .i64 k1, .slice na ns.length nc, .slice ga gs.length gc, .slice va (os.length + 1) vc]) (by simp [results, Try.results58, go_sem, y0, y1, y2, y3]) rfl ?_)
           exact draw_fin (N := N) (hB8.snocOuts g9 m9 o9) (hR8.below hb9 (by omega)) (by omega) (Gr.below hGG8 hb9 (by omega)) G0 hrb ⟨(by first | omega | (simp; done) | (simp; omega)), (by first | omega | (simp; done) | (simp; omega)), (by first | omega | (simp; done) | (simp; omega)), (by first | omega | (simp; done) | (simp; omega)), (by first | omega | (simp; done) | (simp; omega)), fun h => by omega⟩
          ·(refine hK _ _ hS8 ?_; clear hK K; (try simp only [Act.put, lA, lB, lC]))
           (refine wpAnyT_take 7 (v := ?_) rfl (by kernel_rfl) (fun _ _ _ h => h) (Or.inl ⟨by rfl, ?_⟩) (by assumption) ?_; rotate_left; (intro wS hSw; (try dsimp only at hSw); go_simp; (try with_reducible rfl)); (try simp only [Act.put, lA, lB, lC]))
           (refine wpAnyT_do 8 (by kernel_rfl) rfl (fun K hK => ?_))
           go_simp
           (refine hK _ _ hS8 ?_; clear hK K; (try simp only [Act.put, lA, lB, lC]))
           have hB9 := hB8.ext ((Ext.refl w8).alloc (.cells #[.int .i64 (2 * V)] 3))
           have hbox8 : w8.heap[w.heap.size]? = some (.cells #[.int .i64 0, .slice none 0 0, .slice none 0 0, .slice none 0 0] 26) := (hGG8.block _ (by omega) (by simp; omega)).trans b0
           (refine wpAnyT_do 9 (by kernel_rfl) rfl (fun K hK => ?_))
           go_simp
           (refine hK _ _ hB9.cells.2.2.2.1 ?_; clear hK K; (try simp only [Act.put, lA, lB, lC]))
           (refine wpAnyT_do 10 (by kernel_rfl) rfl (fun K hK => ?_))
           refine step_app tyInts hB9.os (RowAt.new w8 #[.int .i64 (2 * V)] _) rfl (oneCell_int1 _) (by dsimp only; omega) (by first | omega | (simp; done) | (simp; omega)) rfl rfl rfl rfl ?_
           intro ov' w9 o9 g9 m9
           dsimp only at o9
           obtain ⟨va, vc, rfl, _⟩ := ownsRow_row o9
           obtain ⟨na, nc, rfl, _⟩ := ownsRow_row hB8.nx
           obtain ⟨ga, gc, rfl, _⟩ := ownsRow_row hB8.gs
           have hblk := (g9.block cb hB9.lt (fun e => hB9.o1 e.symm)).trans hB9.blk
           have hbox := (g9.block w.heap.size (by simp; omega) (fun e => by have := (hB9.os.lt _ e.symm).1; omega)).trans ((Below.heap_alloc w8 _ _ (by omega)).trans hbox8)
           have hw9 : w9.cell? ⟨cb, 3, none⟩ = some ov := cell_of_row w9 cb 3 _ _ _ hblk
           (refine hK _ _ hw9 ?_; clear hK K; (try simp only [Act.put, lA, lB, lC]))
           (refine wpAnyT_take 11 (v := ?_) rfl (by kernel_rfl) (fun _ _ _ h => h) (Or.inl ⟨by rfl, ?_⟩) (by assumption) ?_; rotate_left; (intro wS hSw; (try dsimp only at hSw); go_simp; (try with_reducible rfl)); (try simp only [Act.put, lA, lB, lC]))
           have hw9' := Lib.hid hw9
           clear hw9
           (have x0 := cell_of_row w9 cb 0 _ _ _ hblk; have x1 := cell_of_row w9 cb 1 _ _ _ hblk; have x2 := cell_of_row w9 cb 2 _ _ _ hblk; have x3 := cell_of_row w9 cb 3 _ _ _ hblk; have fz : ∀ i, w9.frozen? ⟨cb, i, none⟩ = false := (fun i => frozen_of_row _ _ _ _ _ hblk); have y0 := cell_of_row w9 w.heap.size 0 _ _ _ hbox; have y1 := cell_of_row w9 w.heap.size 1 _ _ _ hbox; have y2 := cell_of_row w9 w.heap.size 2 _ _ _ hbox; have y3 := cell_of_row w9 w.heap.size 3 _ _ _ hbox; have fy : ∀ i, w9.frozen? ⟨w.heap.size, i, none⟩ = false := (fun i => frozen_of_row _ _ _ _ _ hbox); simp at x0 x1 x2 x3 y0 y1 y2 y3; have hne : ¬ cb = w.heap.size := (by omega))
           clear hblk hbox
           (refine wpAnyT_last 12 (by kernel_rfl) rfl (by decide) (by kernel_rfl) (fun K hK => ?_))
           go_simp
           (refine hK _ _ ?_; clear hK K; (try simp only [Act.put, lA, lB, lC]))
           have hb9 : Below (w.heap.size + 1) w8 (w9.setCell ⟨cb, 3, none⟩ (.slice va (os.length + 1) vc)) := (((Below.refl _ w8).alloc (by omega) _).grown g9 (by simp; omega) (fun k hk => (hB8.os.lt k hk).1)).setCell hcb _
           clear hw2
           go_wp2
           (refine bodyPost_ret (v := .agg #[.int .i64 k1, .slice na ns.length nc, .slice ga gs.length gc, .slice va (os.length + 1) vc]) (by simp [results, Try.results58, go_sem, y0, y1, y2, y3]) rfl ?_)
           exact draw_fin (N := N) (hB8.snocOuts g9 m9 o9) (hR8.below hb9 (by omega)) (by omega) (Gr.below hGG8 hb9 (by omega)) G0 hrb ⟨(by first | omega | (simp; done) | (simp; omega)), (by first | omega | (simp; done) | (simp; omega)), (by first | omega | (simp; done) | (simp; omega)), (by first | omega | (simp; done) | (simp; omega)), (by first | omega | (simp; done) | (simp; omega)), fun h => by omega⟩
         ·go_simp
          refine (pick_c rb bs _ 2 _ hR6' (by omega) (by omega)).mono ?_
          rintro e w7 ⟨kd, rfl, kd0, kd1, hR7, hG7⟩
          have hB7 := hB6'.keep hG7 (by omega)
          have hGG7 := Gr.trans hGG6' hG7
          have hS7 := hB7.cells.2.2.2.1
          have hkd : kd = 0 ∨ kd = 1 := by omega
          clear kd1 hR6' hB6' hGG6' hG7
          (refine hK _ _ hS7 ?_; clear hK K; (try simp only [Act.put, lA, lB, lC]))
          have hB8 := hB7.ext ((Ext.refl w7).alloc (.cells #[.int .i64 (-1), .int .i64 (2 * V)] 3))
          have hR8 := hR7.ext ((Ext.refl w7).alloc (.cells #[.int .i64 (-1), .int .i64 (2 * V)] 3))
          have hGG8 := Gr.trans hGG7 (Gr.alloc (Gr.refl w7 (some rb)) (.cells #[.int .i64 (-1), .int .i64 (2 * V)] 3))
          (refine wpAnyT_do 4 (by kernel_rfl) rfl (fun K hK => ?_))
          go_simp
          have he0 : (w7.alloc (.cells #[.int .i64 (-1), .int .i64 (2 * V)] 3)).cell? ⟨w7.heap.size, 0, none⟩ = some (.int .i64 (-1)) := by rw [cell_of_row _ _ _ _ _ _ (heap_alloc_new w7 _)]; rfl
          have he1 : (w7.alloc (.cells #[.int .i64 (-1), .int .i64 (2 * V)] 3)).cell? ⟨w7.heap.size, 1, none⟩ = some (.int .i64 (2 * V)) := by rw [cell_of_row _ _ _ _ _ _ (heap_alloc_new w7 _)]; rfl
          generalize w7.alloc (.cells #[.int .i64 (-1), .int .i64 (2 * V)] 3) = w8 at *
          have hS8 := hB8.cells.2.2.2.1
          have hlt8 := hB8.lt
          rcases hkd with rfl | rfl
          ·(refine hK _ _ hS8 ?_; clear hK K; (try simp only [Act.put, lA, lB, lC]))
           (refine wpAnyT_take 7 (v := ?_) rfl (by kernel_rfl) (fun _ _ _ h => h) (Or.inl ⟨by rfl, ?_⟩) (by assumption) ?_; rotate_left; (intro wS hSw; (try dsimp only at hSw); go_simp; (try with_reducible rfl)); (try simp only [Act.put, lA, lB, lC]))
           (refine wpAnyT_do 8 (by kernel_rfl) rfl (fun K hK => ?_))
           go_simp
           (refine hK _ _ hS8 ?_; clear hK K; (try simp only [Act.put, lA, lB, lC]))
           have hB9 := hB8.ext ((Ext.refl w8).alloc (.cells #[.int .i64 (-1)] 3))
           have hbox8 : w8.heap[w.heap.size]? = some (.cells #[.int .i64 0, .slice none 0 0, .slice none 0 0, .slice none 0 0] 26) := (hGG8.block _ (by omega) (by simp; omega)).trans b0
           (refine wpAnyT_do 9 (by kernel_rfl) rfl (fun K hK => ?_))
           go_simp
           (refine hK _ _ hB9.cells.2.2.2.1 ?_; clear hK K; (try simp only [Act.put, lA, lB, lC]))
           (refine wpAnyT_do 10 (by kernel_rfl) rfl (fun K hK => ?_))
           refine step_app tyInts hB9.os (RowAt.new w8 #[.int .i64 (-1)] _) rfl (oneCell_int1 _) (by dsimp only; omega) (by first | omega | (simp; done) | (simp; omega)) rfl rfl rfl rfl ?_
           intro ov' w9 o9 g9 m9
           dsimp only at o9
           obtain ⟨va, vc, rfl, _⟩ := ownsRow_row o9
           obtain ⟨na, nc, rfl, _⟩ := ownsRow_row hB8.nx
           obtain ⟨ga, gc, rfl, _⟩ := ownsRow_row hB8.gs
           have hblk := (g9.block cb hB9.lt (fun e => hB9.o1 e.symm)).trans hB9.blk
           have hbox := (g9.block w.heap.size (by simp; omega) (fun e => by have := (hB9.os.lt _ e.symm).1; omega)).trans ((Below.heap_alloc w8 _ _ (by omega)).trans hbox8)
           have hw9 : w9.cell? ⟨cb, 3, none⟩ = some ov := cell_of_row w9 cb 3 _ _ _ hblk
           (refine hK _ _ hw9 ?_; clear hK K; (try simp only [Act.put, lA, lB, lC]))
           (refine wpAnyT_take 11 (v := ?_) rfl (by kernel_rfl) (fun _ _ _ h => h) (Or.inl ⟨by rfl, ?_⟩) (by assumption) ?_; rotate_left; (intro wS hSw; (try dsimp only at hSw); go_simp; (try with_reducible rfl)); (try simp only [Act.put, lA, lB, lC]))
           have hw9' := Lib.hid hw9
           clear hw9
           (have x0 := cell_of_row w9 cb 0 _ _ _ hblk; have x1 := cell_of_row w9 cb 1 _ _ _ hblk; have x2 := cell_of_row w9 cb 2 _ _ _ hblk; have x3 := cell_of_row w9 cb 3 _ _ _ hblk; have fz : ∀ i, w9.frozen? ⟨cb, i, none⟩ = false := (fun i => frozen_of_row _ _ _ _ _ hblk); have y0 := cell_of_row w9 w.heap.size 0 _ _ _ hbox; have y1 := cell_of_row w9 w.heap.size 1 _ _ _ hbox; have y2 := cell_of_row w9 w.heap.size 2 _ _ _ hbox; have y3 := cell_of_row w9 w.heap.size 3 _ _ _ hbox; have fy : ∀ i, w9.frozen? ⟨w.heap.size, i, none⟩ = false := (fun i => frozen_of_row _ _ _ _ _ hbox); simp at x0 x1 x2 x3 y0 y1 y2 y3; have hne : ¬ cb = w.heap.size := (by omega))
           clear hblk hbox
           (refine wpAnyT_last 12 (by kernel_rfl) rfl (by decide) (by kernel_rfl) (fun K hK => ?_))
           go_simp
           (refine hK _ _ ?_; clear hK K; (try simp only [Act.put, lA, lB, lC]))
           have hb9 : Below (w.heap.size + 1) w8 (w9.setCell ⟨cb, 3, none⟩ (.slice va (os.length + 1) vc)) := (((Below.refl _ w8).alloc (by omega) _).grown g9 (by simp; omega) (fun k hk => (hB8.os.lt k hk).1)).setCell hcb _
           clear hw2
           go_wp2
           (refine bodyPost_ret (v := .agg #[.int .i64 k1, .slice na ns.length nc, .slice ga gs.length gc, .slice va (os.length + 1) vc]) (by simp [results, Try.results58, go_sem, y0, y1, y2, y3]) rfl ?_)
           exact draw_fin (N := N) (hB8.snocOuts g9 m9 o9) (hR8.below hb9 (by omega)) (by omega) (Gr.below hGG8 hb9 (by omega)) G0 hrb ⟨(by first | omega | (simp; done) | (simp; omega)), (by first | omega | (simp; done) | (simp; omega)), (by first | omega | (simp; done) | (simp; omega)), (by first | omega | (simp; done) | (simp; omega)), (by first | omega | (simp; done) | (simp; omega)), fun h => by omega⟩
          ·(refine hK _ _ hS8 ?_; clear hK K; (try simp only [Act.put, lA, lB, lC]))
           (refine wpAnyT_take 7 (v := ?_) rfl (by kernel_rfl) (fun _ _ _ h => h) (Or.inl ⟨by rfl, ?_⟩) (by assumption) ?_; rotate_left; (intro wS hSw; (try dsimp only at hSw); go_simp; (try with_reducible rfl)); (try simp only [Act.put, lA, lB, lC]))
           (refine wpAnyT_do 8 (by kernel_rfl) rfl (fun K hK => ?_))
           go_simp
           (refine hK _ _ hS8 ?_; clear hK K; (try simp only [Act.put, lA, lB, lC]))
           have hB9 := hB8.ext ((Ext.refl w8).alloc (.cells #[.int .i64 (2 * V)] 3))
           have hbox8 : w8.heap[w.heap.size]? = some (.cells #[.int .i64 0, .slice none 0 0, .slice none 0 0, .slice none 0 0] 26) := (hGG8.block _ (by omega) (by simp; omega)).trans b0
           (refine wpAnyT_do 9 (by kernel_rfl) rfl (fun K hK => ?_))
           go_simp
           (refine hK _ _ hB9.cells.2.2.2.1 ?_; clear hK K; (try simp only [Act.put, lA, lB, lC]))
           (refine wpAnyT_do 10 (by kernel_rfl) rfl (fun K hK => ?_))
           refine step_app tyInts hB9.os (RowAt.new w8 #[.int .i64 (2 * V)] _) rfl (oneCell_int1 _) (by dsimp only; omega) (by first | omega | (simp; done) | (simp; omega)) rfl rfl rfl rfl ?_
           intro ov' w9 o9 g9 m9
           dsimp only at o9
           obtain ⟨va, vc, rfl, _⟩ := ownsRow_row o9
           obtain ⟨na, nc, rfl, _⟩ := ownsRow_row hB8.nx
           obtain ⟨ga, gc, rfl, _⟩ := ownsRow_row hB8.gs
           have hblk := (g9.block cb hB9.lt (fun e => hB9.o1 e.symm)).trans hB9.blk
           have hbox := (g9.block w.heap.size (by simp; omega) (fun e => by have := (hB9.os.lt _ e.symm).1; omega)).trans ((Below.heap_alloc w8 _ _ (by omega)).trans hbox8)
           have hw9 : w9.cell? ⟨cb, 3, none⟩ = some ov := cell_of_row w9 cb 3 _ _ _ hblk
           (refine hK _ _ hw9 ?_; clear hK K; (try simp only [Act.put, lA, lB, lC]))
           (refine wpAnyT_take 11 (v := ?_) rfl (by kernel_rfl) (fun _ _ _ h => h) (Or.inl ⟨by rfl, ?_⟩) (by assumption) ?_; rotate_left; (intro wS hSw; (try dsimp only at hSw); go_simp; (try with_reducible rfl)); (try simp only [Act.put, lA, lB, lC]))
           have hw9' := Lib.hid hw9
           clear hw9
           (have x0 := cell_of_row w9 cb 0 _ _ _ hblk; have x1 := cell_of_row w9 cb 1 _ _ _ hblk; have x2 := cell_of_row w9 cb 2 _ _ _ hblk; have x3 := cell_of_row w9 cb 3 _ _ _ hblk; have fz : ∀ i, w9.frozen? ⟨cb, i, none⟩ = false := (fun i => frozen_of_row _ _ _ _ _ hblk); have y0 := cell_of_row w9 w.heap.size 0 _ _ _ hbox; have y1 := cell_of_row w9 w.heap.size 1 _ _ _ hbox; have y2 := cell_of_row w9 w.heap.size 2 _ _ _ hbox; have y3 := cell_of_row w9 w.heap.size 3 _ _ _ hbox; have fy : ∀ i, w9.frozen? ⟨w.heap.size, i, none⟩ = false := (fun i => frozen_of_row _ _ _ _ _ hbox); simp at x0 x1 x2 x3 y0 y1 y2 y3; have hne : ¬ cb = w.heap.size := (by omega))
           clear hblk hbox
           (refine wpAnyT_last 12 (by kernel_rfl) rfl (by decide) (by kernel_rfl) (fun K hK => ?_))
           go_simp
           (refine hK _ _ ?_; clear hK K; (try simp only [Act.put, lA, lB, lC]))
           have hb9 : Below (w.heap.size + 1) w8 (w9.setCell ⟨cb, 3, none⟩ (.slice va (os.length + 1) vc)) := (((Below.refl _ w8).alloc (by omega) _).grown g9 (by simp; omega) (fun k hk => (hB8.os.lt k hk).1)).setCell hcb _
           clear hw2
           go_wp2
           (refine bodyPost_ret (v := .agg #[.int .i64 k1, .slice na ns.length nc, .slice ga gs.length gc, .slice va (os.length + 1) vc]) (by simp [results, Try.results58, go_sem, y0, y1, y2, y3]) rfl ?_)
           exact draw_fin (N := N) (hB8.snocOuts g9 m9 o9) (hR8.below hb9 (by omega)) (by omega) (Gr.below hGG8 hb9 (by omega)) G0 hrb ⟨(by first | omega | (simp; done) | (simp; omega)), (by first | omega | (simp; done) | (simp; omega)), (by first | omega | (simp; done) | (simp; omega)), (by first | omega | (simp; done) | (simp; omega)), (by first | omega | (simp; done) | (simp; omega)), fun h => by omega⟩
        ·(obtain ⟨na, nc, rfl, _⟩ := ownsRow_row hB6.nx; obtain ⟨ga, gc, rfl, _⟩ := ownsRow_row hB6.gs; obtain ⟨oa, oc, rfl, _⟩ := ownsRow_row hB6.os)
         have x1 := hB6.cells.2.1
         have hB7 := hB6.ext ((Ext.refl w6).alloc (.cells #[.int .i64 (-1)] 3))
         go_wp2_with (at_builtin; refine wpList_app tyInts hB7.nx (RowAt.new w6 #[.int .i64 (-1)] _) rfl (oneCell_int1 _) (by dsimp only; omega) (by first | omega | (simp; done) | (simp; omega)) rfl rfl rfl rfl ?_; intro v' w9 o9 g9 m9; dsimp only at o9; obtain ⟨va, vc, rfl, _⟩ := ownsRow_row o9; have hblk := (g9.block cb hB7.lt (fun e => hB7.n1 e.symm)).trans hB7.blk; have hbox := (g9.block w.heap.size (by simp; omega) (fun e => by have := (hB7.nx.lt _ e.symm).1; omega)).trans ((Below.heap_alloc w6 _ _ (by omega)).trans hbox6); (have x0 := cell_of_row w9 cb 0 _ _ _ hblk; have x1 := cell_of_row w9 cb 1 _ _ _ hblk; have x2 := cell_of_row w9 cb 2 _ _ _ hblk; have x3 := cell_of_row w9 cb 3 _ _ _ hblk; have fz : ∀ i, w9.frozen? ⟨cb, i, none⟩ = false := (fun i => frozen_of_row _ _ _ _ _ hblk); have y0 := cell_of_row w9 w.heap.size 0 _ _ _ hbox; have y1 := cell_of_row w9 w.heap.size 1 _ _ _ hbox; have y2 := cell_of_row w9 w.heap.size 2 _ _ _ hbox; have y3 := cell_of_row w9 w.heap.size 3 _ _ _ hbox; have fy : ∀ i, w9.frozen? ⟨w.heap.size, i, none⟩ = false := (fun i => frozen_of_row _ _ _ _ _ hbox); simp at x0 x1 x2 x3 y0 y1 y2 y3; have hne : ¬ cb = w.heap.size := (by omega)); clear hblk hbox)
         (refine bodyPost_ret (v := .agg #[.int .i64 k1, .slice va (ns.length + 1) vc, .slice ga gs.length gc, .slice oa os.length oc]) (by simp [results, Try.results58, go_sem, y0, y1, y2, y3]) rfl ?_)
         have hb9 : Below (w.heap.size + 1) w6 (w9.setCell ⟨cb, 1, none⟩ (.slice va (ns.length + 1) vc)) := (((Below.refl _ w6).alloc (by omega) _).grown g9 (by simp; omega) (fun k hk => (hB6.nx.lt k hk).1)).setCell hcb _
         exact draw_fin (N := N) (hB6.snocNext g9 m9 o9) (hR6.below hb9 (by omega)) (by omega) (Gr.below hGG6 hb9 (by omega)) G0 hrb ⟨(by first | omega | (simp; done) | (simp; omega)), (by first | omega | (simp; done) | (simp; omega)), (by first | omega | (simp; done) | (simp; omega)), (by first | omega | (simp; done) | (simp; omega)), (by first | omega | (simp; done) | (simp; omega)), fun h => by omega⟩
        ·(obtain ⟨na, nc, rfl, _⟩ := ownsRow_row hB6.nx; obtain ⟨ga, gc, rfl, _⟩ := ownsRow_row hB6.gs; obtain ⟨oa, oc, rfl, _⟩ := ownsRow_row hB6.os)
         have x2 := hB6.cells.2.2.1
         have hB7 := hB6.ext ((Ext.refl w6).alloc (.cells #[.int .i64 (2 * V), .int .i64 0] 100))
         go_wp2_with (at_builtin; refine wpList_app tyGates hB7.gs (rowAt_pair w6 (2 * V) 0) rfl (oneCell_flat _) (by dsimp only; omega) (by first | omega | (simp; done) | (simp; omega)) rfl rfl rfl rfl ?_; intro v' w9 o9 g9 m9; dsimp only at o9; obtain ⟨va, vc, rfl, _⟩ := ownsRow_row o9; have hblk := (g9.block cb hB7.lt (fun e => hB7.g1 e.symm)).trans hB7.blk; have hbox := (g9.block w.heap.size (by simp; omega) (fun e => by have := (hB7.gs.lt _ e.symm).1; omega)).trans ((Below.heap_alloc w6 _ _ (by omega)).trans hbox6); (have x0 := cell_of_row w9 cb 0 _ _ _ hblk; have x1 := cell_of_row w9 cb 1 _ _ _ hblk; have x2 := cell_of_row w9 cb 2 _ _ _ hblk; have x3 := cell_of_row w9 cb 3 _ _ _ hblk; have fz : ∀ i, w9.frozen? ⟨cb, i, none⟩ = false := (fun i => frozen_of_row _ _ _ _ _ hblk); have y0 := cell_of_row w9 w.heap.size 0 _ _ _ hbox; have y1 := cell_of_row w9 w.heap.size 1 _ _ _ hbox; have y2 := cell_of_row w9 w.heap.size 2 _ _ _ hbox; have y3 := cell_of_row w9 w.heap.size 3 _ _ _ hbox; have fy : ∀ i, w9.frozen? ⟨w.heap.size, i, none⟩ = false := (fun i => frozen_of_row _ _ _ _ _ hbox); simp at x0 x1 x2 x3 y0 y1 y2 y3; have hne : ¬ cb = w.heap.size := (by omega)); clear hblk hbox)
         (refine bodyPost_ret (v := .agg #[.int .i64 k1, .slice na ns.length nc, .slice va (gs.length + 1) vc, .slice oa os.length oc]) (by simp [results, Try.results58, go_sem, y0, y1, y2, y3]) rfl ?_)
         have hb9 : Below (w.heap.size + 1) w6 (w9.setCell ⟨cb, 2, none⟩ (.slice va (gs.length + 1) vc)) := (((Below.refl _ w6).alloc (by omega) _).grown g9 (by simp; omega) (fun k hk => (hB6.gs.lt k hk).1)).setCell hcb _
         exact draw_fin (N := N) (hB6.snocGate g9 m9 o9) (hR6.below hb9 (by omega)) (by omega) (Gr.below hGG6 hb9 (by omega)) G0 hrb ⟨(by first | omega | (simp; done) | (simp; omega)), (by first | omega | (simp; done) | (simp; omega)), (by first | omega | (simp; done) | (simp; omega)), (by first | omega | (simp; done) | (simp; omega)), (by first | omega | (simp; done) | (simp; omega)), fun h => by omega⟩
        ·go_wp2_with fail
         go_loopw [] (fun wr => Rel4 W0 rb bs (N + 80 + 4 * os.length + 1 + 1) (w.heap.size + 1) cb k1 ns os wr) (fun wr => mu4 cb wr)
         case atStart => exact ⟨gs, nv, gv, ov, by omega, hR6, hB6, hGG6⟩
         case round =>
          clear hR6 hB6 hGG6 hbox6 hlt6 hgl
          obtain ⟨gs, nv, gv, ov, hg15, hR6, hB6, hGG6⟩ := hrel
          have hbox6 : wr.heap[w.heap.size]? = some (.cells #[.int .i64 0, .slice none 0 0, .slice none 0 0, .slice none 0 0] 26) := (hGG6.block _ (by omega) (by simp; omega)).trans b0
          have hlt6 := hB6.lt
          have hblk6 := hB6.blk
          by_cases hg : gs.length ≤ 14
          ·(obtain ⟨na, nc, rfl, _⟩ := ownsRow_row hB6.nx; obtain ⟨ga, gc, rfl, _⟩ := ownsRow_row hB6.gs; obtain ⟨oa, oc, rfl, _⟩ := ownsRow_row hB6.os)
           have x2 := hB6.cells.2.2.1
           dsimp only at x2
           have hmu := Lib.hid (mu4_eq x2)
           have hB7 := hB6.ext ((Ext.refl wr).alloc (.cells #[.int .i64 0, .int .i64 0] 100))
           clear hblk6
           go_wp2_with (at_builtin; refine wpList_app tyGates hB7.gs (rowAt_pair wr 0 0) rfl (oneCell_flat _) (by dsimp only; omega) (by first | omega | (simp; done) | (simp; omega)) rfl rfl rfl rfl ?_; intro v' w9 o9 g9 m9; dsimp only at o9; obtain ⟨va, vc, rfl, _⟩ := ownsRow_row o9; have hblk := (g9.block cb hB7.lt (fun e => hB7.g1 e.symm)).trans hB7.blk; have hbox := (g9.block w.heap.size (by simp; omega) (fun e => by have := (hB7.gs.lt _ e.symm).1; omega)).trans ((Below.heap_alloc wr _ _ (by omega)).trans hbox6); (have x0 := cell_of_row w9 cb 0 _ _ _ hblk; have x1 := cell_of_row w9 cb 1 _ _ _ hblk; have x2 := cell_of_row w9 cb 2 _ _ _ hblk; have x3 := cell_of_row w9 cb 3 _ _ _ hblk; have fz : ∀ i, w9.frozen? ⟨cb, i, none⟩ = false := (fun i => frozen_of_row _ _ _ _ _ hblk); have y0 := cell_of_row w9 w.heap.size 0 _ _ _ hbox; have y1 := cell_of_row w9 w.heap.size 1 _ _ _ hbox; have y2 := cell_of_row w9 w.heap.size 2 _ _ _ hbox; have y3 := cell_of_row w9 w.heap.size 3 _ _ _ hbox; have fy : ∀ i, w9.frozen? ⟨w.heap.size, i, none⟩ = false := (fun i => frozen_of_row _ _ _ _ _ hbox); simp at x0 x1 x2 x3 y0 y1 y2 y3; have hne : ¬ cb = w.heap.size := (by omega)); clear hblk hbox)
           have hb9 : Below (w.heap.size + 1) wr (w9.setCell ⟨cb, 2, none⟩ (.slice va (gs.length + 1) vc)) := (((Below.refl _ wr).alloc (by omega) _).grown g9 (by simp; omega) (fun k hk => (hB6.gs.lt k hk).1)).setCell hcb _
           have hB9 := hB6.snocGate g9 m9 o9
           go_roundw
           case rel => exact ⟨gs ++ [(0, 0)], _, _, _, (by first | omega | (simp; done) | (simp; omega)), hR6.below hb9 (by omega), hB9, Gr.below hGG6 hb9 (by omega)⟩
           case measure => rw [hmu.out, mu4_eq hB9.cells.2.2.1]; omega
          ·(obtain ⟨na, nc, rfl, _⟩ := ownsRow_row hB6.nx; obtain ⟨ga, gc, rfl, _⟩ := ownsRow_row hB6.gs; obtain ⟨oa, oc, rfl, _⟩ := ownsRow_row hB6.os)
           (have x0 := cell_of_row wr cb 0 _ _ _ hblk6; have x1 := cell_of_row wr cb 1 _ _ _ hblk6; have x2 := cell_of_row wr cb 2 _ _ _ hblk6; have x3 := cell_of_row wr cb 3 _ _ _ hblk6; have fz : ∀ i, wr.frozen? ⟨cb, i, none⟩ = false := (fun i => frozen_of_row _ _ _ _ _ hblk6); have y0 := cell_of_row wr w.heap.size 0 _ _ _ hbox6; have y1 := cell_of_row wr w.heap.size 1 _ _ _ hbox6; have y2 := cell_of_row wr w.heap.size 2 _ _ _ hbox6; have y3 := cell_of_row wr w.heap.size 3 _ _ _ hbox6; have fy : ∀ i, wr.frozen? ⟨w.heap.size, i, none⟩ = false := (fun i => frozen_of_row _ _ _ _ _ hbox6); simp at x0 x1 x2 x3 y0 y1 y2 y3; have hne : ¬ cb = w.heap.size := (by omega))
           clear hblk6 hbox6
           go_wp2
           (refine bodyPost_ret (v := .agg #[.int .i64 k1, .slice na ns.length nc, .slice ga gs.length gc, .slice oa os.length oc]) (by simp [results, Try.results58, go_sem, y0, y1, y2, y3]) rfl ?_)
           exact draw_fin (N := N) hB6 hR6 (by omega) hGG6 G0 hrb ⟨(by first | omega | (simp; done) | (simp; omega)), (by first | omega | (simp; done) | (simp; omega)), (by first | omega | (simp; done) | (simp; omega)), (by first | omega | (simp; done) | (simp; omega)), (by first | omega | (simp; done) | (simp; omega)), fun h => by omega⟩
        ·(obtain ⟨na, nc, rfl, _⟩ := ownsRow_row hB6.nx; obtain ⟨ga, gc, rfl, _⟩ := ownsRow_row hB6.gs; obtain ⟨oa, oc, rfl, _⟩ := ownsRow_row hB6.os)
         have x3 := hB6.cells.2.2.2.1
         have hB7 := hB6.ext ((Ext.refl w6).alloc (.cells #[.int .i64 0, .int .i64 0, .int .i64 0, .int .i64 0] 3))
         go_wp2_with (at_builtin; refine wpList_app tyInts hB7.os (m := 4) (RowAt.new w6 #[.int .i64 0, .int .i64 0, .int .i64 0, .int .i64 0] _) rfl (oneCell_ints [0, 0, 0, 0]) (by dsimp only; omega) (by first | omega | (simp; done) | (simp; omega)) rfl rfl rfl rfl ?_; intro v' w9 o9 g9 m9; dsimp only at o9; obtain ⟨va, vc, rfl, _⟩ := ownsRow_row o9; have hblk := (g9.block cb hB7.lt (fun e => hB7.o1 e.symm)).trans hB7.blk; have hbox := (g9.block w.heap.size (by simp; omega) (fun e => by have := (hB7.os.lt _ e.symm).1; omega)).trans ((Below.heap_alloc w6 _ _ (by omega)).trans hbox6); (have x0 := cell_of_row w9 cb 0 _ _ _ hblk; have x1 := cell_of_row w9 cb 1 _ _ _ hblk; have x2 := cell_of_row w9 cb 2 _ _ _ hblk; have x3 := cell_of_row w9 cb 3 _ _ _ hblk; have fz : ∀ i, w9.frozen? ⟨cb, i, none⟩ = false := (fun i => frozen_of_row _ _ _ _ _ hblk); have y0 := cell_of_row w9 w.heap.size 0 _ _ _ hbox; have y1 := cell_of_row w9 w.heap.size 1 _ _ _ hbox; have y2 := cell_of_row w9 w.heap.size 2 _ _ _ hbox; have y3 := cell_of_row w9 w.heap.size 3 _ _ _ hbox; have fy : ∀ i, w9.frozen? ⟨w.heap.size, i, none⟩ = false := (fun i => frozen_of_row _ _ _ _ _ hbox); simp at x0 x1 x2 x3 y0 y1 y2 y3; have hne : ¬ cb = w.heap.size := (by omega)); clear hblk hbox)
         (refine bodyPost_ret (v := .agg #[.int .i64 k1, .slice na ns.length nc, .slice ga gs.length gc, .slice va (os.length + 4) vc]) (by simp [results, Try.results58, go_sem, y0, y1, y2, y3]) rfl ?_)
         have hb9 : Below (w.heap.size + 1) w6 (w9.setCell ⟨cb, 3, none⟩ (.slice va (os.length + 4) vc)) := (((Below.refl _ w6).alloc (by omega) _).grown g9 (by simp; omega) (fun k hk => (hB6.os.lt k hk).1)).setCell hcb _
         exact draw_fin (N := N) (hB7.addOuts (xs := os ++ [0, 0, 0, 0]) g9 m9 (by simpa using o9)) (hR6.below hb9 (by omega)) (by omega) (Gr.below hGG6 hb9 (by omega)) G0 hrb ⟨(by first | omega | (simp; done) | (simp; omega)), (by first | omega | (simp; done) | (simp; omega)), (by first | omega | (simp; done) | (simp; omega)), (by first | omega | (simp; done) | (simp; omega)), (by first | omega | (simp; done) | (simp; omega)), fun h => by omega⟩
end Go.Proofs.Ytgialedmbmfejaa
