/- The drawing of slices of truth values, of faults; of the arguments of EvalVars, Step, Detects, FindTest. -/
import Derived.Test.YtgialedmbmfejaaDraw3
import Derived.Test.YtgialedmbmfejaaBEv
import Derived.Test.YtgialedmbmfejaaSpec1
namespace Go.Proofs.Ytgialedmbmfejaa
open Go.RowKit
set_option maxRecDepth 100000
set_option linter.unusedVariables false
set_option linter.unusedSimpArgs false
theorem Rdr.grn {w w' : World} {rb : Nat} {bs : List Int} {N : Nat} {r : Option Nat} (h : Rdr w rb bs N) (g : w.grownBy w' r) (hr : ∀ k, r = some k → rb < k) : Rdr w' rb bs N :=
 h.below (B := rb + 1) ⟨g.os, g.tape, g.output, g.size, fun k hk => g.block k (Nat.lt_of_lt_of_le hk h.lt) (fun e => by have := hr k e.symm; omega)⟩ (Nat.lt_succ_self rb)
def DrawnB (w : World) (rb : Nat) (bs : List Int) (N : Nat) (n : Nat) (e : Ending) (w' : World) : Prop :=
 ∃ v xs, e = .returned v ∧ xs.length = n ∧ OwnB w' w.heap.size v xs ∧ Rdr w' rb bs (N + n) ∧ w.grownBy w' (some rb)
def DrawBRel (w : World) (rb : Nat) (bs : List Int) (N : Nat) (n : Nat) (u5 u6 : Value) (wr : World) : Prop :=
 ∃ (k : Nat) (xs : List Bool), k ≤ n ∧ u6 = .int .i64 k ∧ Hid (xs.length = k) ∧ xs.length ≤ k ∧ OwnB wr w.heap.size u5 xs ∧ Rdr wr rb bs (N + k) ∧ w.grownBy wr (some rb)
set_option maxHeartbeats 1000000 in
theorem l20Bools_c (rb : Nat) (bs : List Int) (N n : Nat) (w : World) (hr : Rdr w rb bs N) (hN : N ≤ 1000000) (hn : n ≤ 1000) :
  Calls Try.prog 94 #[.pointer (some ⟨rb, 0, none⟩), .int .i64 n] w (DrawnB w rb bs N n) := by
 have hrl := hr.lt
 have B0 := Blk.at w [] 4 (B := w.heap.size) rfl
 have O0 : OwnB (w.alloc (.cells #[] 4)) w.heap.size (.slice (some ⟨w.heap.size, 0, none⟩) 0 0) [] := B0.owns (n := 0) (size := 1) rfl (Nat.le_refl _) (by decide)
 go_enter Try.func94, Try.ntmps94
 go_wp2_with fail
 go_loopw [5, 6] (DrawBRel w rb bs N n) (fun _ i _ => n - (intOf i).toNat)
 case atStart => exact ⟨0, [], Nat.zero_le _, rfl, Lib.hid rfl, Nat.le_refl _, O0, hr.ext ((Ext.refl w).alloc _), Gr.alloc (Gr.refl _ _) _⟩
 case round =>
  obtain ⟨k, xs, hk, rfl, HL, hl, hO, hR, hG⟩ := hrel
  clear B0 O0
  by_cases hlt : k < n
  ·go_wp2_with fail
   refine (pick_c rb bs (N + k) 2 _ hR (by omega) (by omega)).mono ?_
   rintro e w2 ⟨kb, rfl, kb0, kb1, hR2, hG2⟩
   have hOb := fun k hk => (hO.lt' k hk)
   have hne : (u5 : Value).ownBlock = none ∨ u5.ownBlock ≠ some rb := by
    cases hb : (u5 : Value).ownBlock with
    | none => exact .inl rfl
    | some q => exact .inr (fun hh => by have := (hOb q hb).1; have : q = rb := Option.some.inj hh; omega)
   have hO2 : OwnB w2 w.heap.size u5 xs := ownsRow_gr hO hG2 hne
   have hGG := Gr.trans hG hG2
   have sz := hGG.size
   go_wp2_with (at_builtin; refine wpList_app tyBools (ownsRow_ext hO2 ((Ext.refl w2).alloc _)) (RowAt.new w2 _ _) rfl (by simp [Value.oneCell']) (by omega) (by simp; omega) rfl rfl rfl rfl ?_; intro v2 w3 o2 g2 m2)
   go_roundw
   case rel =>
    refine ⟨k + 1, xs ++ [kb == 1], by omega, by go_num, Lib.hid (by rw [List.length_append, HL.out]; rfl), by rw [List.length_append]; simp; omega, OwnB.app (ys := [_]) rfl rfl o2, ?_, ?_⟩
    ·have e : N + (k + 1) = N + k + 1 := by omega
     rw [e]
     exact (hR2.ext ((Ext.refl w2).alloc _)).grn g2 (fun k hk => by have := (hOb k hk).1; omega)
    ·exact Gr.row (Gr.alloc hGG _) g2 (fun k hk => (hOb k hk).1)
   case measure => simp [intOf]; omega
  ·have hk2 : k = n := by omega
   subst hk2
   go_wp2
   go_ret
   exact ⟨_, xs, rfl, HL.out, hO, hR, hG⟩
theorem l20Bools_i (rb : Nat) (bs : List Int) (N : Nat) (ni : Int) (n : Nat) (hni : ni = n) (w : World) (hr : Rdr w rb bs N) (hN : N ≤ 1000000) (hn : n ≤ 1000) :
  Calls Try.prog 94 #[.pointer (some ⟨rb, 0, none⟩), .int .i64 ni] w (DrawnB w rb bs N n) := by
 subst hni; exact l20Bools_c rb bs N n w hr hN hn
theorem BoolsAt.set {w : World} {a : Option Addr} {xs : List Bool} (h : BoolsAt w a xs) {b : Nat} (hb : ∀ x, a = some x → b ≠ x.block) (i : Nat) (v : Value) : BoolsAt (w.setCell ⟨b, i, none⟩ v) a xs := by
 rcases h with rfl | ⟨b', o, ha, hlt, hc⟩
 ·exact .inl rfl
 ·exact .inr ⟨b', o, ha, by simpa using hlt, fun j hj => by rw [World.cell?_setCell_far _ _ _ _ (hb _ ha)]; exact hc j hj⟩
/-- What a draw of a circuit with a state and inputs hands back. -/
def DrawnEv (w : World) (e : Ending) (w' : World) : Prop :=
 ∃ c p sa sc ia ic st ins, e = .returned (.tuple #[.agg #[.int .i64 c.inputs, .slice p.an c.next.length p.cn, .slice p.ag c.gates.length p.cg, .slice p.ao c.outs.length p.co], .slice sa (List.length st) sc, .slice ia (List.length ins) ic]) ∧ CircAt w' c p ∧ DrawnC c 12 ∧ BoolsAt w' sa st ∧ BoolsAt w' ia ins ∧ st.length ≤ 100 ∧ ins.length ≤ 100 ∧ Ext w w' ∧ FromB w.heap.size p ∧ (∀ x, sa = some x → w.heap.size ≤ x.block) ∧ (∀ x, ia = some x → w.heap.size ≤ x.block)
theorem CircAt.gr {w w' : World} {c : Circ} {p : Where3} {r : Option Nat} (h : CircAt w c p) (g : w.grownBy w' r) (h1 : ∀ x, p.an = some x → r ≠ some x.block) (h2 : ∀ x, p.ag = some x → r ≠ some x.block) (h3 : ∀ x, p.ao = some x → r ≠ some x.block) : CircAt w' c p := by
 obtain ⟨nx, gs, ou, l1, l2, l3⟩ := h
 have cell : ∀ b o, b < w.heap.size → r ≠ some b → w'.cell? ⟨b, o, none⟩ = w.cell? ⟨b, o, none⟩ := fun b o hb hne => World.cell?_of_block (a := ⟨b, o, none⟩) (g.block b hb (fun e => hne e.symm))
 refine ⟨?_, ?_, ?_, l1, l2, l3⟩
 ·rcases nx with e | ⟨b, o, ha, hb, hc⟩
  ·exact .inl e
  ·exact .inr ⟨b, o, ha, Nat.lt_of_lt_of_le hb g.size, fun j hj => (cell b _ hb (h1 _ ha)).trans (hc j hj)⟩
 ·rcases gs with e | ⟨b, o, ha, hb, hc, hd⟩
  ·exact .inl e
  ·exact .inr ⟨b, o, ha, Nat.lt_of_lt_of_le hb g.size, fun j hj => (cell b _ hb (h2 _ ha)).trans (hc j hj), fun j hj => (cell b _ hb (h2 _ ha)).trans (hd j hj)⟩
 ·rcases ou with e | ⟨b, o, ha, hb, hc⟩
  ·exact .inl e
  ·exact .inr ⟨b, o, ha, Nat.lt_of_lt_of_le hb g.size, fun j hj => (cell b _ hb (h3 _ ha)).trans (hc j hj)⟩
theorem DrawnB.i {w w' : World} {rb : Nat} {bs : List Int} {N n : Nat} {e : Ending} (h : DrawnB w rb bs N n e w') : ∃ a c xs, e = .returned (.slice a (List.length xs) c) ∧ xs.length = n ∧ OwnB w' w.heap.size (.slice a xs.length c) xs ∧ Rdr w' rb bs (N + n) ∧ w.grownBy w' (some rb) := by
 obtain ⟨v, xs, rfl, h1, h2, h3, h4⟩ := h
 obtain ⟨a, c, rfl, _⟩ := h2.opened
 exact ⟨a, c, xs, rfl, h1, h2, h3, h4⟩
theorem own_ne {v u : Value} (h : ∀ k, v.ownBlock = some k → u.ownBlock = some k → False) : v.ownBlock = none ∨ v.ownBlock ≠ u.ownBlock := by
 cases hb : v.ownBlock with
 | none => exact .inl rfl
 | some k => exact .inr (fun hh => h k hb hh.symm)
/-- A slice of the call's own outlives a draw. -/
theorem OwnB.drawn {w w' : World} {b rb : Nat} {v : Value} {xs : List Bool} (h : OwnB w b v xs) (g : w.grownBy w' (some rb)) (hrb : rb < b) : OwnB w' b v xs := by
 refine ownsRow_gr h g ?_
 cases hb : v.ownBlock with
 | none => exact .inl rfl
 | some q => exact .inr (fun hh => by have := (h.lt' q hb).1; have : q = rb := Option.some.inj hh; omega)
theorem CircAt.drawn {w w' : World} {c : Circ} {p : Where3} {b rb : Nat} (h : CircAt w c p) (f : FromB b p) (g : w.grownBy w' (some rb)) (hrb : rb < b) : CircAt w' c p :=
 h.gr g (fun x hx e => by have := f.1 x hx; have : rb = x.block := Option.some.inj e; omega) (fun x hx e => by have := f.2.1 x hx; have : rb = x.block := Option.some.inj e; omega) (fun x hx e => by have := f.2.2 x hx; have : rb = x.block := Option.some.inj e; omega)
end Go.Proofs.Ytgialedmbmfejaa
