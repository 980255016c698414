/- Bundle: rows of truth values, their drawing; the plain parts of the fabric. -/
import Derived.Test.YtgialedmbmfejaaBEv
import Derived.Test.YtgialedmbmfejaaOffB
import Derived.Test.YtgialedmbmfejaaDrawB
import Derived.Test.YtgialedmbmfejaaRegion
import Derived.Test.YtgialedmbmfejaaOwn
import Derived.Test.YtgialedmbmfejaaBKf
import Derived.Test.YtgialedmbmfejaaByt
namespace Go.Proofs.Ytgialedmbmfejaa
open Go.RowKit
set_option maxRecDepth 100000
set_option linter.unusedVariables false
set_option linter.unusedSimpArgs false
/-- How a slice of slices of truth values reads. -/
def RowsAt (w : World) (a : Option Addr) (xss : List (List Bool)) : Prop :=
 xss = [] ∨ ∃ b o, a = some ⟨b, o, none⟩ ∧ b < w.heap.size ∧ ∀ j, j < xss.length → ∃ aj cj, w.cell? ⟨b, o + j, none⟩ = some (.slice aj (xss.getD j []).length cj) ∧ BoolsAt w aj (xss.getD j [])
section
variable {w w' : World} {a : Option Addr} {xss : List (List Bool)}
theorem RowsAt.get (h : RowsAt w a xss) (hn : 0 < xss.length) : ∃ b o, a = some ⟨b, o, none⟩ ∧ b < w.heap.size ∧ ∀ j, j < xss.length → ∃ aj cj, w.cell? ⟨b, o + j, none⟩ = some (.slice aj (xss.getD j []).length cj) ∧ BoolsAt w aj (xss.getD j []) := by
 rcases h with rfl | h
 ·simp at hn
 ·exact h
theorem RowsAt.ext (h : RowsAt w a xss) (e : Ext w w') : RowsAt w' a xss := by
 rcases h with rfl | ⟨b, o, ha, hb, hc⟩
 ·exact .inl rfl
 ·refine .inr ⟨b, o, ha, Nat.lt_of_lt_of_le hb e.size, fun j hj => ?_⟩
  obtain ⟨aj, cj, h1, h2⟩ := hc j hj
  exact ⟨aj, cj, ((ecell e).1 b _ hb).trans h1, h2.ext e⟩
end
theorem tyRows : RowTy Try.prog 44 65 1 24 := RowTy.mk' (z := .slice none 0 0) Try.underlying44 (by kernel_rfl) rfl (by decide) (by decide)
/-- A slice of slices that the call owns: all rows lie apart, and apart from the slice itself. -/
structure OwnR (w : World) (base : Nat) (v : Value) (vals : List Value) (xss : List (List Bool)) : Prop where
 len : vals.length = xss.length
 row : w.ownsRow base 65 1 v xss.length vals
 el : ∀ j, j < xss.length → OwnB w base (vals.getD j (.slice none 0 0)) (xss.getD j [])
 off : ∀ j k, j < xss.length → (vals.getD j (.slice none 0 0)).ownBlock = some k → v.ownBlock ≠ some k
 dis : ∀ i j k, i < j → j < xss.length → (vals.getD i (.slice none 0 0)).ownBlock = some k → (vals.getD j (.slice none 0 0)).ownBlock ≠ some k
section
variable {w w' : World} {base : Nat} {v : Value} {vals : List Value} {xss : List (List Bool)}
theorem OwnR.nil : OwnR w base (.slice none 0 0) [] [] := ⟨rfl, ownsRow_nil, fun j hj => by simp at hj, fun j k hj => by simp at hj, fun i j k _ hj => by simp at hj⟩
theorem OwnR.ext (h : OwnR w base v vals xss) (e : Ext w w') : OwnR w' base v vals xss := { h with row := ownsRow_ext h.row e, el := fun j hj => (h.el j hj).ext e }
theorem OwnR.le {b2 : Nat} (h : OwnR w base v vals xss) (hb : b2 ≤ base) : OwnR w b2 v vals xss := { h with row := ownsRow_base h.row hb, el := fun j hj => (h.el j hj).le hb }
theorem OwnB.lt2 {xs : List Bool} (h : OwnB w base v xs) : ∀ k, v.ownBlock = some k → base ≤ k ∧ k < w.heap.size := h.lt'
theorem OwnR.at_ {a : Option Addr} {n c : Nat} (h : OwnR w base (.slice a n c) vals xss) : RowsAt w a xss := by
 by_cases h0 : xss.length = 0
 ·exact .inl (List.eq_nil_of_length_eq_zero h0)
 ·have hn : n = xss.length := by
   obtain ⟨a', c', e, _⟩ := ownsRow_row h.row
   cases e; rfl
  subst hn
  obtain ⟨g, rfl, _, hg⟩ := ownsRow_block h.row (by omega)
  refine .inr ⟨g, 0, rfl, hg, fun j hj => ?_⟩
  obtain ⟨aj, cj, hv, hA⟩ := (h.el j hj).opened
  refine ⟨aj, cj, ?_, hA⟩
  rw [Nat.zero_add, ← hv]
  exact ownsRow_cell h.row (by rw [List.getD_eq_getElem?_getD, List.getElem?_eq_getElem (by rw [h.len]; exact hj)]; rfl)
/-- 'out = append(out, row)', the row made since w0. -/
theorem OwnR.snoc {w0 : World} {u v' : Value} {x : List Bool} {n : Nat} (h : OwnR w0 base v vals xss) (e : Ext w0 w) (hu : OwnB w base u x) (hN : ∀ k, u.ownBlock = some k → w0.heap.size ≤ k) (hg : w.grownBy w' v.ownBlock) (hm : RowMoved w v v')
  (hn : n = xss.length + 1) (ho : w'.ownsRow base 65 1 v' n (vals ++ [u])) : OwnR w' base v' (vals ++ [u]) (xss ++ [x]) := by
 subst hn
 have hl := h.len
 have old : ∀ j, j < xss.length → (vals ++ [u]).getD j (.slice none 0 0) = vals.getD j (.slice none 0 0) ∧ (xss ++ [x]).getD j [] = xss.getD j [] :=
  fun j hj => ⟨getD_append_left _ _ _ _ (by omega), getD_append_left _ _ _ _ hj⟩
 have new : (vals ++ [u]).getD xss.length (.slice none 0 0) = u ∧ (xss ++ [x]).getD xss.length [] = x := by
  refine ⟨?_, by simp [List.getD_eq_getElem?_getD]⟩
  rw [← hl]; simp [List.getD_eq_getElem?_getD]
 have vlt : ∀ k, v.ownBlock = some k → k < w0.heap.size := fun k hk => (h.row.lt k hk).2
 have elt : ∀ j, j < xss.length → ∀ k, (vals.getD j (.slice none 0 0)).ownBlock = some k → k < w0.heap.size := fun j hj k hk => ((h.el j hj).lt2 k hk).2
 have ge : ∀ (z : Value), (∀ k, z.ownBlock = some k → v.ownBlock ≠ some k) → z.ownBlock = none ∨ z.ownBlock ≠ v.ownBlock := fun z hz => off_row hz
 have uv : ∀ k, u.ownBlock = some k → v.ownBlock ≠ some k := fun k hk hv => by have := hN k hk; have := vlt k hv; omega
 refine ⟨by simp [hl], by rw [List.length_append]; exact ho, fun j hj => ?_, fun j k hj hk => ?_, fun i j k hij hj hk => ?_⟩
 ·rw [List.length_append, List.length_singleton] at hj
  by_cases hlt : j < xss.length
  ·rw [(old j hlt).1, (old j hlt).2]
   exact ownsRow_gr ((h.el j hlt).ext e) hg (ge _ (fun k hk => h.off j k hlt hk))
  ·have : j = xss.length := by omega
   subst this
   rw [new.1, new.2]
   exact ownsRow_gr hu hg (ge _ uv)
 ·rw [List.length_append, List.length_singleton] at hj
  by_cases hlt : j < xss.length
  ·rw [(old j hlt).1] at hk
   rcases hm with em | ⟨q, em, hq⟩
   ·rw [em]; exact h.off j k hlt hk
   ·rw [em]; intro e2; have : q = k := Option.some.inj e2; have := elt j hlt k hk; have := e.size; omega
  ·have : j = xss.length := by omega
   subst this
   rw [new.1] at hk
   rcases hm with em | ⟨q, em, hq⟩
   ·rw [em]; exact uv k hk
   ·rw [em]; intro e2; have : q = k := Option.some.inj e2; have := (hu.lt2 k hk).2; omega
 ·rw [List.length_append, List.length_singleton] at hj
  have hi : i < xss.length := by omega
  rw [(old i hi).1] at hk
  by_cases hlt : j < xss.length
  ·rw [(old j hlt).1]; exact h.dis i j k hij hlt hk
  ·have : j = xss.length := by omega
   subst this
   rw [new.1]
   intro hu2
   have := hN k hu2
   have := elt i hi k hk
   omega
end
def GiveRows (w : World) (xss : List (List Bool)) (e : Ending) (w' : World) : Prop := ∃ v vals, e = .returned v ∧ OwnR w' w.heap.size v vals xss ∧ Ext w w'
end Go.Proofs.Ytgialedmbmfejaa

namespace Go.Proofs.Ytgialedmbmfejaa
open Go.RowKit
set_option maxRecDepth 100000
set_option linter.unusedVariables false
set_option linter.unusedSimpArgs false
section
variable {w w' w1 w2 : World} {base rb M : Nat} {bs : List Int} {v : Value} {vals : List Value} {xss : List (List Bool)}
theorem OwnR.drawn (h : OwnR w base v vals xss) (g : w.grownBy w' (some rb)) (hrb : rb < base) : OwnR w' base v vals xss := by
 refine { h with row := ownsRow_gr h.row g ?_, el := fun j hj => (h.el j hj).drawn g hrb }
 cases hb : v.ownBlock with
 | none => exact .inl rfl
 | some q => exact .inr (fun hh => by have := (h.row.lt q hb).1; have : q = rb := Option.some.inj hh; omega)
/-- 'out = append(out, row)', the old blocks below N and the row's own from N on. -/
theorem OwnR.snocN {u v' : Value} {x : List Bool} {n N : Nat} (h : OwnR w base v vals xss) (hlo : ∀ k, v.ownBlock = some k → k < N) (hel : ∀ j k, j < xss.length → (vals.getD j (.slice none 0 0)).ownBlock = some k → k < N) (hu : OwnB w base u x) (hN : ∀ k, u.ownBlock = some k → N ≤ k) (hg : w.grownBy w' v.ownBlock) (hm : RowMoved w v v')
  (hn : n = xss.length + 1) (ho : w'.ownsRow base 65 1 v' n (vals ++ [u])) : OwnR w' base v' (vals ++ [u]) (xss ++ [x]) := by
 subst hn
 have hl := h.len
 have old : ∀ j, j < xss.length → (vals ++ [u]).getD j (.slice none 0 0) = vals.getD j (.slice none 0 0) ∧ (xss ++ [x]).getD j [] = xss.getD j [] :=
  fun j hj => ⟨getD_append_left _ _ _ _ (by omega), getD_append_left _ _ _ _ hj⟩
 have new : (vals ++ [u]).getD xss.length (.slice none 0 0) = u ∧ (xss ++ [x]).getD xss.length [] = x := by
  refine ⟨?_, by simp [List.getD_eq_getElem?_getD]⟩
  rw [← hl]; simp [List.getD_eq_getElem?_getD]
 have ge : ∀ (z : Value), (∀ k, z.ownBlock = some k → v.ownBlock ≠ some k) → z.ownBlock = none ∨ z.ownBlock ≠ v.ownBlock := fun z hz => off_row hz
 have uv : ∀ k, u.ownBlock = some k → v.ownBlock ≠ some k := fun k hk hv => by have := hN k hk; have := hlo k hv; omega
 refine ⟨by simp [hl], by rw [List.length_append]; exact ho, fun j hj => ?_, fun j k hj hk => ?_, fun i j k hij hj hk => ?_⟩
 ·rw [List.length_append, List.length_singleton] at hj
  by_cases hlt : j < xss.length
  ·rw [(old j hlt).1, (old j hlt).2]
   exact ownsRow_gr (h.el j hlt) hg (ge _ (fun k hk => h.off j k hlt hk))
  ·have : j = xss.length := by omega
   subst this
   rw [new.1, new.2]
   exact ownsRow_gr hu hg (ge _ uv)
 ·rw [List.length_append, List.length_singleton] at hj
  by_cases hlt : j < xss.length
  ·rw [(old j hlt).1] at hk
   rcases hm with em | ⟨q, em, hq⟩
   ·rw [em]; exact h.off j k hlt hk
   ·rw [em]; intro e2; have : q = k := Option.some.inj e2; have := ((h.el j hlt).lt2 k hk).2; omega
  ·have : j = xss.length := by omega
   subst this
   rw [new.1] at hk
   rcases hm with em | ⟨q, em, hq⟩
   ·rw [em]; exact uv k hk
   ·rw [em]; intro e2; have : q = k := Option.some.inj e2; have := (hu.lt2 k hk).2; omega
 ·rw [List.length_append, List.length_singleton] at hj
  have hi : i < xss.length := by omega
  rw [(old i hi).1] at hk
  by_cases hlt : j < xss.length
  ·rw [(old j hlt).1]; exact h.dis i j k hij hlt hk
  ·have : j = xss.length := by omega
   subst this
   rw [new.1]
   intro hu2
   have := hN k hu2
   have := hel i k hi hk
   omega
/-- Rows while they are drawn: they lie from 'base' on, behind the reader rb. -/
structure RInv (w : World) (base rb : Nat) (bs : List Int) (M n : Nat) (v : Value) (vals : List Value) (xss : List (List Bool)) (wr : World) : Prop where
 own : OwnR wr base v vals xss
 rd : Rdr wr rb bs M
 gr : w.grownBy wr (some rb)
 sm : ∀ r ∈ xss, r.length ≤ n
 lb : base ≤ wr.heap.size
theorem RInv.start (rd : Rdr w rb bs M) (n : Nat) : RInv w w.heap.size rb bs M n (.slice (some ⟨w.heap.size, 0, none⟩) 0 0) [] [] (w.alloc (.cells #[] 65)) :=
 ⟨⟨rfl, (Blk.at w [] 65 rfl).owns (n := 0) (size := 1) rfl (Nat.le_refl _) (by decide), fun j hj => by simp at hj, fun j k hj => by simp at hj, fun i j k _ hj => by simp at hj⟩, rd.ext ((Ext.refl w).alloc _), Gr.alloc (Gr.refl _ _) _, fun r hr => (by cases hr), by simp⟩
theorem RInv.draw {n : Nat} (h : RInv w base rb bs M n v vals xss w1) (hrb : rb < base) {M2 : Nat} (rd : Rdr w2 rb bs M2) (g : w1.grownBy w2 (some rb)) : RInv w base rb bs M2 n v vals xss w2 :=
 ⟨h.own.drawn g hrb, rd, Gr.trans h.gr g, h.sm, Nat.le_trans h.lb g.size⟩
theorem RInv.up {n m : Nat} (h : RInv w base rb bs M n v vals xss w1) (hm : n ≤ m) : RInv w base rb bs M m v vals xss w1 := { h with sm := fun r hr => Nat.le_trans (h.sm r hr) hm }
theorem RInv.mono {n M2 : Nat} (h : RInv w base rb bs M n v vals xss w1) (hm : M ≤ M2) : RInv w base rb bs M2 n v vals xss w1 := { h with rd := h.rd.mono hm }
/-- One row more. -/
theorem RInv.add {n m k : Nat} {u v' : Value} {x : List Bool} (h : RInv w base rb bs M n v vals xss w1) (hrb : rb < base) (hb : w.heap.size ≤ base) (hx : x.length ≤ n) (hu : OwnB w2 w1.heap.size u x) (rd : Rdr w2 rb bs m) (g : w1.grownBy w2 (some rb)) {o : Obj}
  (hg : (w2.alloc o).grownBy w' v.ownBlock) (hm : RowMoved (w2.alloc o) v v') (hn : k = xss.length + 1) (ho : w'.ownsRow base 65 1 v' k (vals ++ [u])) : RInv w base rb bs m n v' (vals ++ [u]) (xss ++ [x]) w' := by
 have vlt : ∀ k, v.ownBlock = some k → base ≤ k ∧ k < w1.heap.size := fun k hk => h.own.row.lt k hk
 have s1 := g.size
 have eA : Ext w2 (w2.alloc o) := (Ext.refl w2).alloc o
 have hO := (h.own.drawn g hrb).ext eA
 refine ⟨OwnR.snocN (N := w1.heap.size) hO (fun k hk => (vlt k hk).2) (fun j k hj hk => ((h.own.el j hj).lt2 k hk).2) ?_ (fun k hk => (hu.lt2 k hk).1) hg hm hn ho, ?_, ?_, ?_, ?_⟩
 ·exact (OwnB.le hu h.lb).ext eA
 ·exact (rd.ext eA).grn hg (fun k hk => by have := (vlt k hk).1; omega)
 ·exact Gr.row (Gr.alloc (Gr.trans h.gr g) o) hg (fun k hk => by have := (vlt k hk).1; omega)
 ·intro r hr
  rcases List.mem_append.1 hr with hr | hr
  ·exact h.sm r hr
  ·rw [List.mem_singleton] at hr; subst hr; exact hx
 ·have := h.lb; have := eA.size; have := hg.size; omega
end
def DrawnR (w : World) (rb : Nat) (bs : List Int) (N n : Nat) (e : Ending) (w' : World) : Prop :=
 ∃ v vals xss, e = .returned v ∧ xss.length ≤ 11 ∧ (∀ r ∈ xss, r.length = n) ∧ RInv w w.heap.size rb bs (N + 1 + 11 * n) n v vals xss w'
set_option maxHeartbeats 1000000 in
theorem l20Rows_c (rb : Nat) (bs : List Int) (N n : Nat) (w : World) (hr : Rdr w rb bs N) (hN : N ≤ 100000) (hn : n ≤ 1000) :
  Calls Try.prog 76 #[.pointer (some ⟨rb, 0, none⟩), .int .i64 n] w (DrawnR w rb bs N n) := by
 have hrl := hr.lt
 have R0 := RInv.start hr n
 go_enter Try.func76, Try.ntmps76
 go_wp2_with fail
 refine (pick_c rb bs N 12 _ R0.rd (by omega) (by omega)).mono ?_
 rintro e w1 ⟨kk, rfl, k0, k1, hR1, hG1⟩
 have R1 := R0.draw hrl hR1 hG1
 go_wp2_with fail
 go_loopw [5, 6] (fun u5 u6 wr => ∃ (k : Nat) (vals : List Value) (xss : List (List Bool)), u6 = .int .i64 k ∧ xss.length + k ≤ 11 ∧ Hid (∀ r ∈ xss, r.length = n) ∧ RInv w w.heap.size rb bs (N + 1 + xss.length * n) n u5 vals xss wr) (fun _ i _ => (intOf i).toNat)
 case atStart => exact ⟨kk.toNat, [], [], by rw [Int.toNat_of_nonneg k0], by simp; omega, Lib.hid (fun r hr => by cases hr), by simpa using R1⟩
 case round =>
  obtain ⟨k, vals, xss, rfl, hl, hx, hI⟩ := hrel
  clear R0 R1 hR1 hG1
  by_cases hlt : 0 < k
  ·have hmul : xss.length * n ≤ 11 * 1000 := Nat.mul_le_mul (by omega) hn
   go_wp2_with fail
   refine (l20Bools_c rb bs (N + 1 + xss.length * n) n _ hI.rd (by omega) (by omega)).mono ?_
   rintro e w2 hD2
   obtain ⟨a2, c2, xs, rfl, hxl, hO2, hR2, hG2⟩ := hD2.i
   have hlb := hI.lb
   have s2 := hG2.size
   have HXL := Lib.hid hxl
   have hx1 : xs.length ≤ n := by omega
   clear hxl hD2
   have hoA := ((hI.own.drawn hG2 hrl).ext ((Ext.refl w2).alloc (.cells #[.slice a2 xs.length c2] 65))).row
   go_wp2_with (at_builtin; refine wpList_app tyRows hoA (RowAt.new w2 #[.slice a2 xs.length c2] _) rfl (by simp [Value.oneCell']) (by omega) (by simp; omega) rfl rfl rfl rfl ?_; intro v3 w3 o3 g3 m3)
   go_roundw
   case rel =>
    have hI3 := hI.add hrl (Nat.le_refl _) (by omega) hO2 hR2 hG2 g3 m3 rfl (by exact o3)
    refine ⟨k - 1, vals ++ [.slice a2 xs.length c2], xss ++ [xs], by go_num, by simp; omega, Lib.hid (fun r hr => ?_), ?_⟩
    ·rcases List.mem_append.1 hr with hr | hr
     ·exact hx.out r hr
     ·rw [List.mem_singleton] at hr; subst hr; exact HXL.out
    ·have e : N + 1 + (xss ++ [xs]).length * n = N + 1 + xss.length * n + n := by simp [Nat.add_mul]; omega
     rw [e]; exact hI3
   case measure => simp [intOf]; omega
  ·go_wp2
   go_ret
   have hmul : xss.length * n ≤ 11 * n := Nat.mul_le_mul_right _ (by omega)
   exact ⟨_, vals, xss, rfl, by omega, hx.out, hI.mono (by omega)⟩
theorem l20Rows_i (rb : Nat) (bs : List Int) (N : Nat) (ni : Int) (n : Nat) (hni : ni = n) (w : World) (hr : Rdr w rb bs N) (hN : N ≤ 100000) (hn : n ≤ 1000) :
  Calls Try.prog 76 #[.pointer (some ⟨rb, 0, none⟩), .int .i64 ni] w (DrawnR w rb bs N n) := by
 subst hni; exact l20Rows_c rb bs N n w hr hN hn
theorem OwnR.set {w : World} {base : Nat} {v : Value} {vals : List Value} {xss : List (List Bool)} (h : OwnR w base v vals xss) {B : Nat} (hB : B < base) (i : Nat) (u : Value) : OwnR (w.setCell ⟨B, i, none⟩ u) base v vals xss :=
 { h with row := ownsRow_set h.row (p := ⟨B, i, none⟩) (fun e => by have := (h.row.lt _ e).1; simp at this; omega) u, el := fun j hj => (h.el j hj).setOther (p := ⟨B, i, none⟩) (fun e => by have := ((h.el j hj).lt2 _ e).1; simp at this; omega) u }
end Go.Proofs.Ytgialedmbmfejaa

namespace Go.Proofs.Ytgialedmbmfejaa
open Go.RowKit
set_option maxRecDepth 100000
set_option linter.unusedVariables false
set_option linter.unusedSimpArgs false
set_option maxHeartbeats 1000000 in
theorem sameRows_c (a b : Option Addr) (c d n : Nat) (xss : List (List Bool)) (hn : xss.length = n) (w : World) (hx : RowsAt w a xss) (hy : RowsAt w b xss) (hl : n ≤ 1048576) (hrl : ∀ j, j < xss.length → (xss.getD j []).length ≤ 1048576) :
  Calls Try.prog 30 #[.slice a n c, .slice b n d] w fun e w' => e = .returned (.bool true) ∧ Ext w w' := by
 subst hn
 have HL := Lib.hid hrl
 clear hrl
 go_enter Try.func30, Try.ntmps30
 go_wp2_with fail
 go_loopw [5] (fun i wr => ∃ k : Nat, k ≤ xss.length ∧ i = .int .i64 k ∧ Ext w wr) (fun i _ => xss.length - (intOf i).toNat)
 case atStart => exact ⟨0, Nat.zero_le _, rfl, Ext.refl w⟩
 case round =>
  obtain ⟨k, hk, rfl, hE⟩ := hrel
  by_cases hlt : k < xss.length
  ·obtain ⟨b1, o1, rfl, hb1, hc1⟩ := (hx.ext hE).get (by omega)
   obtain ⟨b2, o2, rfl, hb2, hc2⟩ := (hy.ext hE).get (by omega)
   obtain ⟨a1, d1, q1, hA1⟩ := hc1 k hlt
   obtain ⟨a2, d2, q2, hA2⟩ := hc2 k hlt
   have hrl := HL.out k hlt
   obtain ⟨row, hrow⟩ : ∃ r, r = xss.getD k [] := ⟨_, rfl⟩
   rw [← hrow] at q1 q2 hA1 hA2 hrl
   obtain ⟨w1, rfl⟩ : ∃ x : World, x = wr := ⟨_, rfl⟩
   clear hc1 hc2 hrow
   go_wp2_with fail
   go_region_held3 ((fun w' => (∀ b o, b < w1.heap.size → w'.cell? ⟨b, o, none⟩ = w1.cell? ⟨b, o, none⟩) ∧ Ext w1 w')) ((first | assumption | (with_reducible exact held_mk (Ext.drew w1)) | (with_reducible exact held_mk (((Ext.refl w1).alloc _).drew')) | (with_reducible exact held_mk ((Ext.drew w1).alloc _)))) (first | (go_simp; go_at_call 48; refine (sameBools_c a1 a2 d1 d2 _ _ row row rfl rfl _ (hA1.ext (Ext.drew w1)) (hA2.ext (Ext.drew w1)) hrl hrl).mono ?_; rw [beq_self_eq_true]; rintro e w2 ⟨rfl, hE2⟩; have hK1 := held_mk ((Ext.drew w1).trans hE2)))
   have hE3 := held_ext hK1
   go_wp2
   go_roundw
   case rel => exact ⟨k + 1, by omega, by go_num, hE.trans hE3⟩
   case measure => simp [intOf]; omega
  ·go_wp2
   go_ret
   exact ⟨rfl, hE⟩
/-- Rows given back, as they read. -/
theorem GiveRows.opened {w w' : World} {xss : List (List Bool)} {e : Ending} (h : GiveRows w xss e w') : ∃ a c, e = .returned (.slice a xss.length c) ∧ RowsAt w' a xss ∧ Ext w w' := by
 obtain ⟨v, vals, h1, h2, h3⟩ := h
 obtain ⟨a, c, e, _⟩ := ownsRow_row h2.row
 subst e
 exact ⟨a, c, h1, h2.at_, h3⟩
end Go.Proofs.Ytgialedmbmfejaa

namespace Go.Proofs.Ytgialedmbmfejaa
open Go.RowKit
set_option maxRecDepth 100000
set_option linter.unusedVariables false
set_option linter.unusedSimpArgs false
end Go.Proofs.Ytgialedmbmfejaa

namespace Go.Proofs.Ytgialedmbmfejaa
open Go.RowKit
set_option maxRecDepth 100000
set_option linter.unusedVariables false
set_option linter.unusedSimpArgs false
theorem boolInfo : (Try.prog.info? 4).map (fun i => (i.zero, i.size, i.bytes)) = some (some (.bool false), 1, 1) := by kernel_rfl
def zer25 : List Value := (List.replicate 25 [Value.bool false]).flatten
theorem zer25_eq : zer25 = (List.replicate 25 false).map Value.bool := by unfold zer25; rfl
theorem make25 (w : World) : (Instr.makeSlice 65 (.int .i64 25) (.int .i64 25)).run Try.prog w = .ok (.slice (some ⟨w.heap.size, 0, none⟩) 25 25) (w.alloc (.cells zer25.toArray 4)) :=
 run_zeros (P := Try.prog) 65 4 (.bool false) [.bool false] 1 Try.underlying65 boolInfo rfl (by decide) (by decide) 25 (by decide) w
def ResetPost (w : World) (e : Ending) (w' : World) : Prop := ∃ B, e = .returned (.agg #[.slice (some ⟨B, 0, none⟩) 25 25]) ∧ w.heap.size ≤ B ∧ Blk w' B 4 ((List.replicate 25 false).map Value.bool) ∧ Ext w w'
theorem specReset_c (w : World) : Calls Try.prog 98 #[] w (ResetPost w) := by
 have hm := make25
 go_enter Try.func98, Try.ntmps98
 go_wp2
 refine bodyPost_ret (v := .agg #[.slice (some ⟨w.heap.size + 1, 0, none⟩) 25 25]) (by simp [results, Try.results98, go_sem]) rfl ?_
 refine ⟨_, rfl, by omega, ?_, by (repeat (first | with_reducible assumption | with_reducible exact Ext.refl _ | with_reducible refine Ext.drew' ?_ | with_reducible refine Ext.drewN' ?_ _ | with_reducible refine Ext.alloc ?_ _ | (with_reducible refine Ext.setNew ?_ (by first | exact Nat.le_refl _ | (simp; done) | (simp; omega) | omega) _)))⟩
 rw [← zer25_eq]
 repeat (first | with_reducible refine Blk.setOther ?_ (by simp) _ | with_reducible exact Blk.at _ _ _ (by simp))
theorem implReset_c (w : World) : Calls Try.prog 52 #[] w (ResetPost w) := by
 have hm := make25
 go_enter Try.func52, Try.ntmps52
 go_wp2
 refine bodyPost_ret (v := .agg #[.slice (some ⟨w.heap.size + 1, 0, none⟩) 25 25]) (by simp [results, Try.results52, go_sem]) rfl ?_
 refine ⟨_, rfl, by omega, ?_, by (repeat (first | with_reducible assumption | with_reducible exact Ext.refl _ | with_reducible refine Ext.drew' ?_ | with_reducible refine Ext.drewN' ?_ _ | with_reducible refine Ext.alloc ?_ _ | (with_reducible refine Ext.setNew ?_ (by first | exact Nat.le_refl _ | (simp; done) | (simp; omega) | omega) _)))⟩
 rw [← zer25_eq]
 repeat (first | with_reducible refine Blk.setOther ?_ (by simp) _ | with_reducible exact Blk.at _ _ _ (by simp))
end Go.Proofs.Ytgialedmbmfejaa

namespace Go.Proofs.Ytgialedmbmfejaa
open Go.RowKit
set_option maxRecDepth 100000
set_option linter.unusedVariables false
abbrev Marks := Nat → Int
def upd (m : Marks) (i : Nat) (v : Int) : Marks := fun j => if j = i then v else m j
theorem upd_same (m : Marks) (i : Nat) (v : Int) : upd m i v i = v := by simp [upd]
theorem upd_ne (m : Marks) {i j : Nat} (v : Int) (h : j ≠ i) : upd m i v j = m j := by simp [upd, h]
/-- How many of the first n wires have no mark. -/
def zeros0 (m : Marks) : Nat → Nat
 | 0 => 0
 | n + 1 => zeros0 m n + if m n = 0 then 1 else 0
theorem zeros0_le (m : Marks) : ∀ n, zeros0 m n ≤ n
 | 0 => Nat.le_refl _
 | n + 1 => by have := zeros0_le m n; unfold zeros0; split <;> omega
theorem zeros0_upd (m : Marks) (i : Nat) (v : Int) (hv : v ≠ 0) : ∀ n, zeros0 (upd m i v) n ≤ zeros0 m n
 | 0 => Nat.le_refl _
 | n + 1 => by
  have ih := zeros0_upd m i v hv n
  unfold zeros0
  by_cases h : n = i
  ·subst h; rw [upd_same, if_neg hv]; split <;> omega
  ·rw [upd_ne m v h]; split <;> omega
theorem zeros0_dec (m : Marks) (i : Nat) (v : Int) (hv : v ≠ 0) (h0 : m i = 0) : ∀ n, i < n → zeros0 (upd m i v) n + 1 ≤ zeros0 m n
 | 0, h => absurd h (Nat.not_lt_zero _)
 | n + 1, h => by
  unfold zeros0
  by_cases hn : n = i
  ·subst hn; rw [upd_same, if_neg hv, if_pos h0]
   have := zeros0_upd m n v hv n
   omega
  ·rw [upd_ne m v hn]
   have := zeros0_dec m i v hv h0 n (by omega)
   split <;> omega
abbrev Wire := Nat × Nat
def Wire.ix (x : Wire) : Nat := x.1 * 8 + x.2
def Wire.Ok (x : Wire) : Prop := x.1 < 25 ∧ x.2 < 8
theorem Wire.Ok.ix {x : Wire} (h : x.Ok) : Wire.ix x < 200 := by unfold Wire.ix; have := h.1; have := h.2; omega
theorem Wire.ix_inj {x y : Wire} (hx : x.Ok) (hy : y.Ok) (h : x.ix = y.ix) : x = y := by
 obtain ⟨a, b⟩ := x
 obtain ⟨c, d⟩ := y
 unfold Wire.ix at h
 obtain ⟨h1, h2⟩ := hx
 obtain ⟨h3, h4⟩ := hy
 simp only at h h1 h2 h3 h4
 have : a = c := by omega
 subst this
 have : b = d := by omega
 subst this; rfl
/-- The wires that the selectors of a tile read. -/
def selW (t : Nat) (ss : List Int) : List Wire := (ss.filter (fun s => s != 15)).map (fun s => (t, s.toNat))
theorem selW_nil (t : Nat) : selW t [] = [] := rfl
theorem selW_skip (t : Nat) (ss : List Int) : selW t (15 :: ss) = selW t ss := by simp [selW]
theorem selW_take (t : Nat) {s : Int} (ss : List Int) (h : s ≠ 15) : selW t (s :: ss) = (t, s.toNat) :: selW t ss := by simp [selW, h]
def tileAt (k : Conf) (t : Nat) : Tile := k.ts.getD t tile0
def drvAt (k : Conf) (x : Wire) : Int := (tileAt k x.1).dr.getD x.2 0
/-- The wires on which a wire rests. -/
def needW (k : Conf) (x : Wire) : List Wire :=
 if 2 ≤ drvAt k x ∧ drvAt k x ≤ 5 then [((nbV x.1 (drvAt k x)).toNat, x.2)]
 else if drvAt k x = 1 ∧ (tileAt k x.1).rg = false then selW x.1 (tileAt k x.1).sl else []
theorem nb_range {t : Nat} {d : Int} (ht : t < 25) (h : 0 ≤ nbV t d) : nbV t d < 25 := by
 unfold nbV at *
 split
 ·split <;> omega
 ·split
  ·split <;> omega
  ·split
   ·split <;> omega
   ·split
    ·split <;> omega
    ·omega
theorem Conf.Ok.drv {k : Conf} (h : k.Ok) {x : Wire} (hx : x.Ok) : drvB x.1 (drvAt k x) = true := (tileB_iff.1 (h.ts x.1 hx.1)).ds x.2 hx.2
theorem Conf.Ok.nb {k : Conf} (h : k.Ok) {x : Wire} (hx : x.Ok) (h2 : 2 ≤ drvAt k x) (h5 : drvAt k x ≤ 5) : 0 ≤ nbV x.1 (drvAt k x) ∧ nbV x.1 (drvAt k x) < 25 := by
 have := h.drv hx
 rw [drvB_near h2 h5] at this
 have h0 := of_decide_eq_true this
 exact ⟨h0, nb_range hx.1 h0⟩
theorem trackB_cases {s : Int} (h : trackB s = true) : s = 15 ∨ (0 ≤ s ∧ s < 8) := by unfold trackB at h; simp at h; omega
theorem selW_ok {t : Nat} (ht : t < 25) : ∀ (ss : List Int), (∀ s ∈ ss, trackB s = true) → ∀ y ∈ selW t ss, y.Ok := by
 intro ss h y hy
 unfold selW at hy
 obtain ⟨s, hs, rfl⟩ := List.mem_map.1 hy
 obtain ⟨h1, h2⟩ := List.mem_filter.1 hs
 have := trackB_cases (h s h1)
 simp at h2
 exact ⟨ht, by dsimp only; omega⟩
theorem Conf.Ok.sel {k : Conf} (h : k.Ok) {t : Nat} (ht : t < 25) : ∀ s ∈ (tileAt k t).sl, trackB s = true := by
 intro s hs
 have ho := tileB_iff.1 (h.ts t ht)
 obtain ⟨j, hj, rfl⟩ := List.mem_iff_getElem.1 hs
 have hl : (tileAt k t).sl.length = 3 := ho.ls
 have : trackB ((tileAt k t).sl.getD j 0) = true := ho.ss j (by omega)
 rwa [List.getD_eq_getElem?_getD, List.getElem?_eq_getElem hj] at this
theorem Conf.Ok.need {k : Conf} (h : k.Ok) {x : Wire} (hx : x.Ok) : ∀ y ∈ needW k x, y.Ok := by
 intro y hy
 unfold needW at hy
 split at hy
 ·rename_i hc
  have := h.nb hx hc.1 hc.2
  simp at hy; subst hy
  exact ⟨by dsimp only; omega, hx.2⟩
 ·split at hy
  ·exact selW_ok hx.1 _ (h.sel hx.1) y hy
  ·cases hy
theorem selW_len (t : Nat) (ss : List Int) : (selW t ss).length ≤ ss.length := by
 unfold selW; rw [List.length_map]; exact List.length_filter_le _ _
theorem Conf.Ok.needLen {k : Conf} (h : k.Ok) {x : Wire} (hx : x.Ok) : (needW k x).length ≤ 3 := by
 unfold needW
 split
 ·simp
 ·split
  ·have := selW_len x.1 (tileAt k x.1).sl
   have hl : (tileAt k x.1).sl.length = 3 := (tileB_iff.1 (h.ts x.1 hx.1)).ls
   omega
  ·simp
mutual
/-- The visit of a wire: is no cycle reached? and the marks. -/
def vis (k : Conf) : Nat → Marks → Wire → Bool × Marks
 | 0, m, _ => (false, m)
 | n + 1, m, x => if m x.ix ≠ 0 then (m x.ix == 2, m) else
  if (visL k n (needW k x) (upd m x.ix 1)).1 then (true, upd (visL k n (needW k x) (upd m x.ix 1)).2 x.ix 2) else (false, (visL k n (needW k x) (upd m x.ix 1)).2)
/-- One wire after the other, as long as no cycle is reached. -/
def visL (k : Conf) : Nat → List Wire → Marks → Bool × Marks
 | _, [], m => (true, m)
 | n, x :: xs, m => if (vis k n m x).1 then visL k n xs (vis k n m x).2 else (false, (vis k n m x).2)
end
theorem visL_nil (k : Conf) (n : Nat) (m : Marks) : visL k n [] m = (true, m) := by cases n <;> simp [visL]
theorem visL_cons (k : Conf) (n : Nat) (x : Wire) (xs : List Wire) (m : Marks) : visL k n (x :: xs) m = if (vis k n m x).1 then visL k n xs (vis k n m x).2 else (false, (vis k n m x).2) := by cases n <;> simp [visL]
theorem visL_ok {k : Conf} {n : Nat} {x : Wire} {xs : List Wire} {m : Marks} (h : (vis k n m x).1 = true) : visL k n (x :: xs) m = visL k n xs (vis k n m x).2 := by cases n <;> simp [visL, h]
theorem visL_bad {k : Conf} {n : Nat} {x : Wire} {xs : List Wire} {m : Marks} (h : (vis k n m x).1 = false) : visL k n (x :: xs) m = (false, (vis k n m x).2) := by cases n <;> simp [visL, h]
theorem vis_seen {k : Conf} {n : Nat} {m : Marks} {x : Wire} (h : m x.ix ≠ 0) : vis k (n + 1) m x = (m x.ix == 2, m) := by simp [vis, h]
theorem vis_ok {k : Conf} {n : Nat} {m : Marks} {x : Wire} {m' : Marks} (h0 : m x.ix = 0) (h : visL k n (needW k x) (upd m x.ix 1) = (true, m')) : vis k (n + 1) m x = (true, upd m' x.ix 2) := by simp [vis, h0, h]
theorem vis_bad {k : Conf} {n : Nat} {m : Marks} {x : Wire} {m' : Marks} (h0 : m x.ix = 0) (h : visL k n (needW k x) (upd m x.ix 1) = (false, m')) : vis k (n + 1) m x = (false, m') := by simp [vis, h0, h]
mutual
theorem vis_zeros (k : Conf) : ∀ (n : Nat) (m : Marks) (x : Wire), zeros0 (vis k n m x).2 200 ≤ zeros0 m 200
 | 0, m, x => by simp [vis]
 | n + 1, m, x => by
  by_cases h0 : m x.ix = 0
  ·have ih := visL_zeros k n (needW k x) (upd m x.ix 1)
   have h1 := zeros0_upd m x.ix 1 (by decide) 200
   cases hb : visL k n (needW k x) (upd m x.ix 1) with
   | mk b m' =>
    rw [hb] at ih
    cases b
    ·rw [vis_bad h0 hb]; dsimp only at *; omega
    ·rw [vis_ok h0 hb]
     have := zeros0_upd m' x.ix 2 (by decide) 200
     dsimp only at *; omega
  ·rw [vis_seen h0]; exact Nat.le_refl _
theorem visL_zeros (k : Conf) : ∀ (n : Nat) (xs : List Wire) (m : Marks), zeros0 (visL k n xs m).2 200 ≤ zeros0 m 200
 | n, [], m => by rw [visL_nil]; exact Nat.le_refl _
 | n, x :: xs, m => by
  have h1 := vis_zeros k n m x
  cases hb : (vis k n m x).1
  ·rw [visL_bad hb]; exact h1
  ·rw [visL_ok hb]
   have h2 := visL_zeros k n xs (vis k n m x).2
   omega
end
def Mk3 (m : Marks) : Prop := ∀ i, m i = 0 ∨ m i = 1 ∨ m i = 2
theorem Mk3.upd {m : Marks} (h : Mk3 m) (i : Nat) {v : Int} (hv : v = 0 ∨ v = 1 ∨ v = 2) : Mk3 (Proofs.Ytgialedmbmfejaa.upd m i v) := by
 intro j
 unfold Proofs.Ytgialedmbmfejaa.upd
 split
 ·exact hv
 ·exact h j
mutual
theorem vis_mk3 (k : Conf) : ∀ (n : Nat) (m : Marks) (x : Wire), Mk3 m → Mk3 (vis k n m x).2
 | 0, m, x, h => by simpa [vis] using h
 | n + 1, m, x, h => by
  by_cases h0 : m x.ix = 0
  ·have ih := visL_mk3 k n (needW k x) (upd m x.ix 1) (h.upd _ (.inr (.inl rfl)))
   cases hb : visL k n (needW k x) (upd m x.ix 1) with
   | mk b m' =>
    rw [hb] at ih
    cases b
    ·rw [vis_bad h0 hb]; exact ih
    ·rw [vis_ok h0 hb]; exact ih.upd _ (.inr (.inr rfl))
  ·rw [vis_seen h0]; exact h
theorem visL_mk3 (k : Conf) : ∀ (n : Nat) (xs : List Wire) (m : Marks), Mk3 m → Mk3 (visL k n xs m).2
 | n, [], m, h => by rw [visL_nil]; exact h
 | n, x :: xs, m, h => by
  have h1 := vis_mk3 k n m x h
  cases hb : (vis k n m x).1
  ·rw [visL_bad hb]; exact h1
  ·rw [visL_ok hb]; exact visL_mk3 k n xs _ h1
end
theorem mk3_0 : Mk3 (fun _ => 0) := fun _ => .inl rfl
def wireOf (i : Nat) : Wire := (i / 8, i % 8)
theorem wireOf_ix (i : Nat) : (wireOf i).ix = i := by simp only [wireOf, Wire.ix]; omega
theorem wireOf_ok {i : Nat} (h : i < 200) : (wireOf i).Ok := ⟨by simp only [wireOf]; omega, by simp only [wireOf]; omega⟩
/-- The wires from number i on. -/
def wiresFrom (i : Nat) : List Wire := ((List.range 200).drop i).map wireOf
theorem wiresFrom_cons {i : Nat} (h : i < 200) : wiresFrom i = wireOf i :: wiresFrom (i + 1) := by
 unfold wiresFrom
 rw [List.drop_eq_getElem_cons (by simpa using h)]
 simp
theorem wiresFrom_end : wiresFrom 200 = [] := by simp [wiresFrom]
def mark0 : Marks := fun _ => 0
/-- No wire rests on itself. -/
noncomputable def acyV (k : Conf) : Bool := confB k && (visL k 201 (wiresFrom 0) mark0).1
end Go.Proofs.Ytgialedmbmfejaa

namespace Go.Proofs.Ytgialedmbmfejaa
open Go.RowKit
set_option maxRecDepth 100000
set_option linter.unusedVariables false
/-- All that a wire rests on ends within n steps. -/
def FinN (k : Conf) : Nat → Wire → Prop
 | 0, _ => False
 | n + 1, x => ∀ y ∈ needW k x, FinN k n y
theorem FinN.succ {k : Conf} : ∀ {n : Nat} {x : Wire}, FinN k n x → FinN k (n + 1) x
 | 0, _, h => h.elim
 | n + 1, _, h => fun y hy => FinN.succ (h y hy)
theorem FinN.mono {k : Conf} {n m : Nat} {x : Wire} (h : FinN k n x) (hle : n ≤ m) : FinN k m x := by
  induction m with
  | zero => have : n = 0 := by omega
            subst this; exact h
  | succ m ih =>
    rcases Nat.lt_or_ge n (m + 1) with h2 | h2
    · exact (ih (by omega)).succ
    · have : n = m + 1 := by omega
      subst this; exact h
theorem finAll {k : Conf} : ∀ (xs : List Wire), (∀ y ∈ xs, ∃ n, FinN k n y) → ∃ N, ∀ y ∈ xs, FinN k N y
 | [], _ => ⟨0, fun y hy => by cases hy⟩
 | x :: xs, h => by
  obtain ⟨n, hn⟩ := h x (by simp)
  obtain ⟨N, hN⟩ := finAll xs (fun y hy => h y (by simp [hy]))
  refine ⟨max n N, fun y hy => ?_⟩
  rcases List.mem_cons.1 hy with rfl | hy
  ·exact hn.mono (Nat.le_max_left _ _)
  ·exact (hN y hy).mono (Nat.le_max_right _ _)
mutual
theorem vis_keep (k : Conf) (i : Nat) : ∀ (n : Nat) (m : Marks) (x : Wire), m i ≠ 0 → (vis k n m x).2 i = m i
 | 0, m, x, h => by simp [vis]
 | n + 1, m, x, h => by
  by_cases h0 : m x.ix = 0
  ·have hne : i ≠ x.ix := fun e => h (e ▸ h0)
   have hu : upd m x.ix 1 i = m i := upd_ne _ _ hne
   have ih := visL_keep k i n (needW k x) (upd m x.ix 1) (by rw [hu]; exact h)
   rw [hu] at ih
   cases hb : visL k n (needW k x) (upd m x.ix 1) with
   | mk b m' =>
    rw [hb] at ih
    cases b
    ·rw [vis_bad h0 hb]; exact ih
    ·rw [vis_ok h0 hb]
     show upd m' x.ix 2 i = m i
     rw [upd_ne _ _ hne]; exact ih
  ·rw [vis_seen h0]
theorem visL_keep (k : Conf) (i : Nat) : ∀ (n : Nat) (xs : List Wire) (m : Marks), m i ≠ 0 → (visL k n xs m).2 i = m i
 | n, [], m, h => by rw [visL_nil]
 | n, x :: xs, m, h => by
  have h1 := vis_keep k i n m x h
  cases hb : (vis k n m x).1
  ·rw [visL_bad hb]; exact h1
  ·rw [visL_ok hb, visL_keep k i n xs _ (by rw [h1]; exact h)]; exact h1
end
def InvF (k : Conf) (m : Marks) : Prop := ∀ x : Wire, x.Ok → m x.ix = 2 → ∃ n, FinN k n x
theorem InvF.upd {k : Conf} {m : Marks} (h : InvF k m) {x : Wire} (hx : x.Ok) {v : Int} (hv : v = 2 → ∃ n, FinN k n x) : InvF k (Proofs.Ytgialedmbmfejaa.upd m x.ix v) := by
 intro y hy h2
 by_cases e : y = x
 ·subst e; rw [upd_same] at h2; exact hv h2
 ·rw [upd_ne _ _ (fun e2 => e (Wire.ix_inj hy hx e2))] at h2
  exact h y hy h2
mutual
theorem vis_fin {k : Conf} (hok : k.Ok) : ∀ (n : Nat) (m : Marks) (x : Wire), x.Ok → InvF k m → InvF k (vis k n m x).2 ∧ ((vis k n m x).1 = true → (vis k n m x).2 x.ix = 2)
 | 0, m, x, hx, h => ⟨by simpa [vis] using h, by simp [vis]⟩
 | n + 1, m, x, hx, h => by
  by_cases h0 : m x.ix = 0
  ·have ih := visL_fin hok n (needW k x) (upd m x.ix 1) (hok.need hx) (h.upd hx (fun e => by cases e))
   cases hb : visL k n (needW k x) (upd m x.ix 1) with
   | mk b m' =>
    rw [hb] at ih
    cases b
    ·rw [vis_bad h0 hb]; exact ⟨ih.1, fun e => by cases e⟩
    ·rw [vis_ok h0 hb]
     have h2 := ih.2 rfl
     refine ⟨ih.1.upd hx (fun _ => ?_), fun _ => upd_same _ _ _⟩
     obtain ⟨N, hN⟩ := finAll (needW k x) (fun y hy => ih.1 y (hok.need hx y hy) (h2 y hy))
     exact ⟨N + 1, hN⟩
  ·rw [vis_seen h0]
   exact ⟨h, fun e => by simpa using e⟩
theorem visL_fin {k : Conf} (hok : k.Ok) : ∀ (n : Nat) (xs : List Wire) (m : Marks), (∀ y ∈ xs, y.Ok) → InvF k m → InvF k (visL k n xs m).2 ∧ ((visL k n xs m).1 = true → ∀ y ∈ xs, (visL k n xs m).2 y.ix = 2)
 | n, [], m, _, h => by rw [visL_nil]; exact ⟨h, fun _ y hy => by cases hy⟩
 | n, x :: xs, m, hxs, h => by
  have h1 := vis_fin hok n m x (hxs x (by simp)) h
  cases hb : (vis k n m x).1
  ·rw [visL_bad hb]; exact ⟨h1.1, fun e => by cases e⟩
  ·rw [visL_ok hb]
   have h2 := visL_fin hok n xs (vis k n m x).2 (fun y hy => hxs y (by simp [hy])) h1.1
   refine ⟨h2.1, fun e y hy => ?_⟩
   rcases List.mem_cons.1 hy with rfl | hy
   ·rw [visL_keep k y.ix n xs _ (by rw [h1.2 hb]; decide)]; exact h1.2 hb
   ·exact h2.2 e y hy
end
theorem wireOf_of (x : Wire) (hx : x.Ok) : wireOf x.ix = x := by
 obtain ⟨a, b⟩ := x
 have := hx.2
 simp only [wireOf, Wire.ix] at *
 congr 1 <;> omega
theorem mem_wires {x : Wire} (hx : x.Ok) : x ∈ wiresFrom 0 := by
 unfold wiresFrom
 rw [List.drop_zero, List.mem_map]
 exact ⟨x.ix, by rw [List.mem_range]; exact hx.ix, wireOf_of x hx⟩
theorem wires_ok : ∀ y ∈ wiresFrom 0, y.Ok := by
 intro y hy
 unfold wiresFrom at hy
 rw [List.drop_zero, List.mem_map] at hy
 obtain ⟨i, hi, rfl⟩ := hy
 rw [List.mem_range] at hi
 exact wireOf_ok hi
theorem acy_ok {k : Conf} (h : acyV k = true) : k.Ok := by
 unfold acyV at h
 rw [Bool.and_eq_true] at h
 exact confB_iff.1 h.1
theorem acy_fin {k : Conf} (h : acyV k = true) {x : Wire} (hx : x.Ok) : ∃ n, FinN k n x := by
 have hok := acy_ok h
 unfold acyV at h
 rw [Bool.and_eq_true] at h
 have := visL_fin hok 201 (wiresFrom 0) mark0 wires_ok (fun y hy e => by cases e)
 exact this.1 x hx (this.2 h.2 x (mem_wires hx))
theorem least_ex {P : Nat → Prop} (h : ∃ n, P n) : ∃ n, P n ∧ ∀ m, P m → n ≤ m := by
 obtain ⟨n, hn⟩ := h
 induction n using Nat.strongRecOn with
 | _ n ih =>
  by_cases hs : ∃ m, m < n ∧ P m
  ·obtain ⟨m, hm, hP⟩ := hs
   exact ih m hm hP
  ·exact ⟨n, hn, fun m hm => by
    rcases Nat.lt_or_ge m n with h | h
    ·exact absurd ⟨m, h, hm⟩ hs
    ·exact h⟩
open Classical in
/-- How many steps a wire needs. -/
noncomputable def rk (k : Conf) (x : Wire) : Nat := if h : ∃ n, FinN k n x then Classical.choose (least_ex h) else 0
theorem rk_fin {k : Conf} {x : Wire} (h : ∃ n, FinN k n x) : FinN k (rk k x) x := by
 unfold rk
 rw [dif_pos h]
 exact (Classical.choose_spec (least_ex h)).1
theorem rk_le {k : Conf} {x : Wire} {n : Nat} (h : FinN k n x) : rk k x ≤ n := by
 unfold rk
 rw [dif_pos ⟨n, h⟩]
 exact (Classical.choose_spec (least_ex ⟨n, h⟩)).2 n h
theorem rk_lt {k : Conf} {x y : Wire} (h : ∃ n, FinN k n x) (hy : y ∈ needW k x) : rk k y < rk k x := by
 have h1 := rk_fin h
 cases hr : rk k x with
 | zero => rw [hr] at h1; exact h1.elim
 | succ r =>
  rw [hr] at h1
  have := rk_le (h1 y hy)
  omega
/-- The number that the inputs of a lookup table make, up to input j. -/
def ixT (rd : Int → Bool) (sl : List Int) : Nat → Nat
 | 0 => 0
 | j + 1 => ixT rd sl j + if rd (sl.getD j 0) then 2 ^ j else 0
theorem ixT_lt (rd : Int → Bool) (sl : List Int) : ∀ j, ixT rd sl j < 2 ^ j
 | 0 => by simp [ixT]
 | j + 1 => by
  have := ixT_lt rd sl j
  unfold ixT
  rw [Nat.pow_succ]
  split <;> omega
theorem ixT_congr {rd rd' : Int → Bool} {sl : List Int} : ∀ j, j ≤ sl.length → (∀ s ∈ sl, rd s = rd' s) → ixT rd sl j = ixT rd' sl j
 | 0, _, _ => rfl
 | j + 1, hj, h => by
  unfold ixT
  rw [ixT_congr j (by omega) h, h (sl.getD j 0) (by rw [List.getD_eq_getElem?_getD, List.getElem?_eq_getElem (by omega)]; exact List.getElem_mem _)]
def rdV (g : Wire → Bool) (t : Nat) (s : Int) : Bool := s != 15 && g (t, s.toNat)
def tabV (k : Conf) (g : Wire → Bool) (t : Nat) : Bool := ((tileAt k t).tb / 2 ^ ixT (rdV g t) (tileAt k t).sl 3) % 2 == 1
def bodyW (k : Conf) (regs ins : List Bool) (g : Wire → Bool) (x : Wire) : Bool :=
 if drvAt k x = 0 then false else if drvAt k x = 6 then decide (x.1 / 5 < ins.length) && ins.getD (x.1 / 5) false
 else if drvAt k x = 1 then (if (tileAt k x.1).rg then regs.getD x.1 false else tabV k g x.1)
 else g ((nbV x.1 (drvAt k x)).toNat, x.2)
theorem mem_selW {t : Nat} {ss : List Int} {s : Int} (h : s ∈ ss) (hne : s ≠ 15) : (t, s.toNat) ∈ selW t ss := by
 unfold selW
 exact List.mem_map.2 ⟨s, List.mem_filter.2 ⟨h, by simpa using hne⟩, rfl⟩
theorem rdV_congr {g g' : Wire → Bool} {t : Nat} {ss : List Int} (h : ∀ y ∈ selW t ss, g y = g' y) : ∀ s ∈ ss, rdV g t s = rdV g' t s := by
 intro s hs
 unfold rdV
 by_cases e : s = 15
 ·simp [e]
 ·rw [h _ (mem_selW hs e)]
theorem tabV_congr {k : Conf} {t : Nat} {g g' : Wire → Bool} (hl : 3 ≤ (tileAt k t).sl.length) (h : ∀ y ∈ selW t (tileAt k t).sl, g y = g' y) : tabV k g t = tabV k g' t := by
 unfold tabV
 rw [ixT_congr 3 hl (rdV_congr h)]
theorem Conf.Ok.sl3 {k : Conf} (h : k.Ok) {t : Nat} (ht : t < 25) : (tileAt k t).sl.length = 3 := (tileB_iff.1 (h.ts t ht)).ls
theorem Conf.Ok.drvR {k : Conf} (h : k.Ok) {x : Wire} (hx : x.Ok) : 0 ≤ drvAt k x ∧ drvAt k x ≤ 6 := by
 have hd := h.drv hx
 rcases (by omega : (drvAt k x < 0 ∨ 6 < drvAt k x) ∨ (0 ≤ drvAt k x ∧ drvAt k x ≤ 6)) with h2 | h2
 ·rw [drvB_low h2] at hd; cases hd
 ·exact h2
theorem bodyW_congr {k : Conf} (hok : k.Ok) {regs ins : List Bool} {g g' : Wire → Bool} {x : Wire} (hx : x.Ok) (h : ∀ y ∈ needW k x, g y = g' y) : bodyW k regs ins g x = bodyW k regs ins g' x := by
 have hd := hok.drvR hx
 unfold needW at h
 unfold bodyW
 by_cases h0 : drvAt k x = 0
 ·rw [if_pos h0, if_pos h0]
 rw [if_neg h0, if_neg h0]
 by_cases h6 : drvAt k x = 6
 ·rw [if_pos h6, if_pos h6]
 rw [if_neg h6, if_neg h6]
 by_cases h1 : drvAt k x = 1
 ·rw [if_pos h1, if_pos h1]
  cases hr : (tileAt k x.1).rg
  ·rw [if_neg (by omega), if_pos ⟨h1, hr⟩] at h
   rw [if_neg (by decide), if_neg (by decide)]
   exact tabV_congr (by rw [hok.sl3 hx.1]; exact Nat.le_refl _) h
  ·rfl
 ·rw [if_neg h1, if_neg h1]
  rw [if_pos (by omega)] at h
  exact h _ (by simp)
/-- The value of a wire, within n steps. -/
def wv (k : Conf) (regs ins : List Bool) : Nat → Wire → Bool
 | 0 => fun _ => false
 | n + 1 => bodyW k regs ins (wv k regs ins n)
theorem wv_fin {k : Conf} (hok : k.Ok) {regs ins : List Bool} : ∀ (n : Nat) (x : Wire), x.Ok → FinN k n x → ∀ f, n ≤ f → wv k regs ins f x = wv k regs ins n x
 | 0, x, _, h, _, _ => h.elim
 | n + 1, x, hx, h, f, hf => by
  obtain ⟨f, rfl⟩ : ∃ f', f = f' + 1 := ⟨f - 1, by omega⟩
  show bodyW k regs ins (wv k regs ins f) x = bodyW k regs ins (wv k regs ins n) x
  exact bodyW_congr hok hx (fun y hy => wv_fin hok n y (hok.need hx y hy) (h y hy) f (by omega))
noncomputable def valW (k : Conf) (regs ins : List Bool) (x : Wire) : Bool := wv k regs ins (rk k x) x
theorem valW_eq {k : Conf} (hok : k.Ok) (hf : ∀ x : Wire, x.Ok → ∃ n, FinN k n x) {regs ins : List Bool} {x : Wire} (hx : x.Ok) : valW k regs ins x = bodyW k regs ins (valW k regs ins) x := by
 unfold valW
 have h1 := rk_fin (hf x hx)
 cases hr : rk k x with
 | zero => rw [hr] at h1; exact h1.elim
 | succ r =>
  show bodyW k regs ins (wv k regs ins r) x = _
  refine bodyW_congr hok hx (fun y hy => ?_)
  have hy2 := hok.need hx y hy
  have hlt := rk_lt (hf x hx) hy
  exact wv_fin hok (rk k y) y hy2 (rk_fin (hf y hy2)) r (by omega)
/-- One clock cycle: the pads' values, the next state. -/
noncomputable def outsV (k : Conf) (regs ins : List Bool) (n : Nat) : List Bool := (List.range n).map fun o => (rdV (valW k regs ins) (o * 5 + 4) (k.ps.getD o (0, false)).1) != (k.ps.getD o (0, false)).2
noncomputable def nextV (k : Conf) (regs ins : List Bool) (n : Nat) : List Bool := (List.range n).map fun t => (tileAt k t).rg && tabV k (valW k regs ins) t
end Go.Proofs.Ytgialedmbmfejaa

namespace Go.Proofs.Ytgialedmbmfejaa
open Go.RowKit
set_option maxRecDepth 100000
set_option linter.unusedVariables false
set_option linter.unusedSimpArgs false
/-- The result of a clock cycle is given back: two slices, apart. -/
def GiveF (w : World) (outs next : List Bool) (e : Ending) (w' : World) : Prop := ∃ ov rv, e = .returned (.agg #[ov, rv]) ∧ OwnB w' w.heap.size ov outs ∧ OwnB w' w.heap.size rv next ∧ (∀ q, ov.ownBlock = some q → rv.ownBlock ≠ some q) ∧ Ext w w'
theorem outsV_succ (k : Conf) (regs ins : List Bool) (n : Nat) : outsV k regs ins (n + 1) = outsV k regs ins n ++ [(rdV (valW k regs ins) (n * 5 + 4) (k.ps.getD n (0, false)).1) != (k.ps.getD n (0, false)).2] := by simp [outsV, List.range_succ]
theorem nextV_succ (k : Conf) (regs ins : List Bool) (n : Nat) : nextV k regs ins (n + 1) = nextV k regs ins n ++ [(tileAt k n).rg && tabV k (valW k regs ins) n] := by simp [nextV, List.range_succ]
theorem outsV_len (k : Conf) (regs ins : List Bool) (n : Nat) : (outsV k regs ins n).length = n := by simp [outsV]
theorem nextV_len (k : Conf) (regs ins : List Bool) (n : Nat) : (nextV k regs ins n).length = n := by simp [nextV]
structure StO (w : World) (base rb : Nat) (bx : Nat → TypeId → List Value → Prop) (ov rv : Value) (xs ys : List Bool) (wr : World) : Prop where
 own : OwnB wr base ov xs
 own2 : OwnB wr base rv ys
 q : Blk wr rb 71 [ov, rv]
 dis : ∀ q, ov.ownBlock = some q → rv.ownBlock ≠ some q
 ext : Ext w wr
 oth : ∀ B t cs, bx B t cs → Blk wr B t cs ∧ B < base ∧ B ≠ rb
 hb : rb < base
 hw : w.heap.size ≤ rb
 hs : base ≤ wr.heap.size
section
variable {w wr w1 w8 : World} {base rb : Nat} {bx : Nat → TypeId → List Value → Prop} {ov rv v' : Value} {xs ys : List Bool}
theorem StO.box (h : StO w base rb bx ov rv xs ys wr) {B : Nat} {t : TypeId} {cs : List Value} (hb : bx B t cs) : Blk wr B t cs := (h.oth B t cs hb).1
theorem StO.ext' (h : StO w base rb bx ov rv xs ys wr) (e : Ext wr w1) : StO w base rb bx ov rv xs ys w1 :=
 { h with own := h.own.ext e, own2 := h.own2.ext e, q := h.q.ext e, ext := h.ext.trans e, oth := fun B t cs hb => ⟨(h.oth B t cs hb).1.ext e, (h.oth B t cs hb).2⟩, hs := Nat.le_trans h.hs e.size }
theorem StO.app1 (h : StO w base rb bx ov rv xs ys wr) (e : Ext wr w1) {b : Bool} (o8 : w8.ownsRow base 4 1 v' (xs.length + 1) (xs.map Value.bool ++ [.bool b])) (g8 : w1.grownBy w8 ov.ownBlock) (m8 : RowMoved w1 ov v') :
  StO w base rb bx v' rv (xs ++ [b]) ys (w8.setCell ⟨rb, 0, none⟩ v') := by
 have h1 := h.ext' e
 have hvl : v'.ownBlock ≠ some rb := fun q => by have := (World.ownsRow.lt o8 _ q).1; have := h.hb; omega
 have hol : ∀ q, ov.ownBlock = some q → base ≤ q := fun q hq => (h.own.lt' q hq).1
 refine { h with own := ?_, own2 := ?_, q := ?_, dis := ?_, ext := ?_, oth := ?_, hs := ?_ }
 ·exact OwnB.setOther (OwnB.app (ys := [b]) rfl rfl o8) hvl _
 ·exact OwnB.setOther (ownsRow_gr h1.own2 g8 (by
   cases hq : rv.ownBlock with
   | none => exact .inl rfl
   | some q => exact .inr (fun e2 => h.dis q e2.symm hq))) (fun q => by have h9 : base ≤ rb := (h.own2.lt' _ q).1; have := h.hb; omega) _
 ·exact (h1.q.gr g8 (fun q => by have := hol _ q; have := h.hb; omega)).set 0 v'
 ·intro q hq hr
  rcases m8 with m | ⟨k, hk, hlt⟩
  ·rw [m] at hq; exact h.dis q hq hr
  ·rw [hk] at hq
   have e2 := Option.some.inj hq
   have := (h1.own2.lt' q hr).2
   omega
 ·exact Ext.setNew (ext_grown h1.ext g8 (fun k hk => by have := hol k hk; have := h.hb; have := h.hw; omega)) h.hw _
 ·intro B t cs hb
  obtain ⟨a1, a2, a3⟩ := h1.oth B t cs hb
  exact ⟨(a1.gr g8 (fun q => by have := hol _ q; omega)).setOther a3 _, a2, a3⟩
 ·have := g8.size; have := h1.hs; simp; omega
theorem StO.app2 (h : StO w base rb bx ov rv xs ys wr) (e : Ext wr w1) {b : Bool} (o8 : w8.ownsRow base 4 1 v' (ys.length + 1) (ys.map Value.bool ++ [.bool b])) (g8 : w1.grownBy w8 rv.ownBlock) (m8 : RowMoved w1 rv v') :
  StO w base rb bx ov v' xs (ys ++ [b]) (w8.setCell ⟨rb, 1, none⟩ v') := by
 have h1 := h.ext' e
 have hvl : v'.ownBlock ≠ some rb := fun q => by have := (World.ownsRow.lt o8 _ q).1; have := h.hb; omega
 have hol : ∀ q, rv.ownBlock = some q → base ≤ q := fun q hq => (h.own2.lt' q hq).1
 refine { h with own := ?_, own2 := ?_, q := ?_, dis := ?_, ext := ?_, oth := ?_, hs := ?_ }
 ·exact OwnB.setOther (ownsRow_gr h1.own g8 (by
   cases hq : ov.ownBlock with
   | none => exact .inl rfl
   | some q => exact .inr (fun e2 => h.dis q hq e2.symm))) (fun q => by have h9 : base ≤ rb := (h.own.lt' _ q).1; have := h.hb; omega) _
 ·exact OwnB.setOther (OwnB.app (ys := [b]) rfl rfl o8) hvl _
 ·exact (h1.q.gr g8 (fun q => by have := hol _ q; have := h.hb; omega)).set 1 v'
 ·intro q hq hr
  rcases m8 with m | ⟨k, hk, hlt⟩
  ·rw [m] at hr; exact h.dis q hq hr
  ·rw [hk] at hr
   have e2 := Option.some.inj hr
   have := (h1.own.lt' q hq).2
   omega
 ·exact Ext.setNew (ext_grown h1.ext g8 (fun k hk => by have := hol k hk; have := h.hb; have := h.hw; omega)) h.hw _
 ·intro B t cs hb
  obtain ⟨a1, a2, a3⟩ := h1.oth B t cs hb
  exact ⟨(a1.gr g8 (fun q => by have := hol _ q; omega)).setOther a3 _, a2, a3⟩
 ·have := g8.size; have := h1.hs; simp; omega
end
end Go.Proofs.Ytgialedmbmfejaa

namespace Go.Proofs.Ytgialedmbmfejaa
open Go.RowKit
set_option maxRecDepth 100000
set_option linter.unusedVariables false
set_option linter.unusedSimpArgs false
def reset25 : List Bool := List.replicate 25 false
noncomputable def stF (k : Conf) (st : List Bool) (xss : List (List Bool)) : List Bool := xss.foldl (fun st r => nextV k st r 25) st
noncomputable def runF (k : Conf) : List Bool → List (List Bool) → List (List Bool)
 | _, [] => []
 | st, r :: rs => outsV k st r 3 :: runF k (nextV k st r 25) rs
theorem runF_snoc (k : Conf) (r : List Bool) : ∀ (rs : List (List Bool)) (st : List Bool), runF k st (rs ++ [r]) = runF k st rs ++ [outsV k (stF k st rs) r 3]
 | [], st => rfl
 | x :: rs, st => by
  rw [List.cons_append, runF, runF_snoc k r rs]
  rfl
theorem stF_snoc (k : Conf) (r : List Bool) (rs : List (List Bool)) (st : List Bool) : stF k st (rs ++ [r]) = nextV k (stF k st rs) r 25 := by
 unfold stF; rw [List.foldl_append]; rfl
theorem runF_length (k : Conf) : ∀ (rs : List (List Bool)) (st : List Bool), (runF k st rs).length = rs.length
 | [], _ => rfl
 | x :: rs, st => by rw [runF, List.length_cons, List.length_cons, runF_length k rs]
theorem stF_len (k : Conf) (rs : List (List Bool)) : (stF k reset25 rs).length = 25 := by
 rcases List.eq_nil_or_concat rs with rfl | ⟨cs, b, rfl⟩
 ·simp [stF, reset25]
 ·rw [List.concat_eq_append, stF_snoc, nextV_len]
structure FitF (k : Conf) (xss : List (List Bool)) : Prop where
 a : acyV k = true
 n : xss.length ≤ 40
 r : ∀ j, j < xss.length → (xss.getD j []).length ≤ 4
open Classical in
noncomputable def runFV (k : Conf) (xss : List (List Bool)) : List (List Bool) := if FitF k xss then runF k reset25 xss else []
theorem runFV_pos {k : Conf} {xss : List (List Bool)} (h : FitF k xss) : runFV k xss = runF k reset25 xss := by unfold runFV; exact if_pos h
theorem runFV_neg {k : Conf} {xss : List (List Bool)} (h : ¬ FitF k xss) : runFV k xss = [] := by unfold runFV; exact if_neg h
theorem OwnR.setCell {w : World} {base : Nat} {v : Value} {vals : List Value} {xss : List (List Bool)} (h : OwnR w base v vals xss) {p : Addr} (hp : p.block < base) (u : Value) : OwnR (w.setCell p u) base v vals xss :=
 { h with row := ownsRow_set h.row (fun q => by have := (World.ownsRow.lt h.row _ q).1; omega) u, el := fun j hj => OwnB.setOther (h.el j hj) (fun q => by have := ((h.el j hj).lt' _ q).1; omega) u }
theorem runF_rl (k : Conf) : ∀ (rs : List (List Bool)) (st : List Bool), ∀ r ∈ runF k st rs, r.length = 3
 | [], _, r, h => by cases h
 | x :: rs, st, r, h => by
  rcases List.mem_cons.1 h with rfl | h
  ·exact outsV_len _ _ _ _
  ·exact runF_rl k rs _ r h
end Go.Proofs.Ytgialedmbmfejaa

namespace Go.Proofs.Ytgialedmbmfejaa
open Go.RowKit
set_option maxRecDepth 100000
set_option linter.unusedVariables false
set_option linter.unusedSimpArgs false
theorem runFV_sm (k : Conf) (xss : List (List Bool)) : (runFV k xss).length ≤ xss.length ∧ ∀ r ∈ runFV k xss, r.length = 3 := by
 by_cases h : FitF k xss
 ·rw [runFV_pos h]
  exact ⟨by rw [runF_length]; exact Nat.le_refl _, runF_rl k xss reset25⟩
 ·rw [runFV_neg h]
  exact ⟨Nat.zero_le _, fun r hr => by cases hr⟩
theorem mem_getD {xss : List (List Bool)} {j : Nat} (h : j < xss.length) : xss.getD j [] ∈ xss := by
 rw [List.getD_eq_getElem?_getD, List.getElem?_eq_getElem h]; exact List.getElem_mem h
theorem runF_take (k : Conf) : ∀ (rs : List (List Bool)) (st : List Bool) (n : Nat), runF k st (rs.take n) = (runF k st rs).take n
 | [], st, n => by simp [runF]
 | r :: rs, st, 0 => by simp [runF]
 | r :: rs, st, n + 1 => by simp [runF, runF_take k rs]
theorem runF_get (k : Conf) : ∀ (rs : List (List Bool)) (st : List Bool) (n : Nat), n < rs.length → (runF k st rs).getD n [] = outsV k (stF k st (rs.take n)) (rs.getD n []) 3
 | [], st, n, h => by simp at h
 | r :: rs, st, 0, h => by simp [runF, stF]
 | r :: rs, st, n + 1, h => by
  have := runF_get k rs (nextV k st r 25) n (by simpa using h)
  simpa [runF, stF] using this
theorem rows_take {w : World} {a : Option Addr} {xss : List (List Bool)} (h : RowsAt w a xss) (n : Nat) : RowsAt w a (xss.take n) := by
 rcases h with rfl | ⟨b, o, ha, hb, hc⟩
 ·exact .inl (by simp)
 ·refine .inr ⟨b, o, ha, hb, fun j hj => ?_⟩
  have hj2 : j < n ∧ j < xss.length := by simp at hj; omega
  have e : (xss.take n).getD j [] = xss.getD j [] := by rw [List.getD_eq_getElem?_getD, List.getD_eq_getElem?_getD, List.getElem?_take_of_lt hj2.1]
  rw [e]; exact hc j hj2.2
theorem FitF.take {k : Conf} {xss : List (List Bool)} (h : FitF k xss) (n : Nat) : FitF k (xss.take n) := by
 have hn := h.n
 refine ⟨h.a, by rw [List.length_take]; omega, fun j hj => ?_⟩
 have hj2 : j < n ∧ j < xss.length := by simp at hj; omega
 have e : (xss.take n).getD j [] = xss.getD j [] := by rw [List.getD_eq_getElem?_getD, List.getD_eq_getElem?_getD, List.getElem?_take_of_lt hj2.1]
 rw [e]; exact h.r j hj2.2
theorem runFV_take {k : Conf} {xss : List (List Bool)} (h : FitF k xss) (n : Nat) : runFV k (xss.take n) = (runFV k xss).take n := by
 rw [runFV_pos h, runFV_pos (h.take n), runF_take]
end Go.Proofs.Ytgialedmbmfejaa

