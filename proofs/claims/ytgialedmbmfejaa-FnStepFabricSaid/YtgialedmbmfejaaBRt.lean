/- Bundle: the reference's router. -/
import Derived.Test.YtgialedmbmfejaaBWl
import Derived.Deep.DeepCutAuto
import Derived.Test.YtgialedmbmfejaaBCel
import Derived.Test.YtgialedmbmfejaaBEv
import Derived.Test.YtgialedmbmfejaaRegion2
--@from BCut BBest BLut BCel BSnk
namespace Go.Proofs.Ytgialedmbmfejaa
set_option linter.unusedVariables false
set_option linter.unusedSimpArgs false
theorem nodup_le : ∀ (n : Nat) (xs : List Int), xs.Nodup → (∀ x ∈ xs, 0 ≤ x ∧ x < (n : Int)) → xs.length ≤ n
 | 0, [], _, _ => Nat.le_refl _
 | 0, x :: xs, _, h => by have := h x (by simp); omega
 | n + 1, xs, hn, h => by
  have h1 := nodup_le n (xs.erase (n : Int)) (hn.erase _) (fun x hx => by
   have h2 := (hn.mem_erase_iff).1 hx
   have h3 := h x h2.2
   have h4 := h2.1
   omega)
  by_cases hm : (n : Int) ∈ xs
  ·rw [List.length_erase_of_mem hm] at h1; omega
  ·rw [List.erase_of_not_mem hm] at h1; omega
theorem idx_app {q : List Int} {x t : Int} (h : t ∈ q) : (q ++ [x]).idxOf t = q.idxOf t := by rw [List.idxOf_append, if_pos h]
theorem idx_new {q : List Int} {x : Int} (h : x ∉ q) : (q ++ [x]).idxOf x = q.length := by rw [List.idxOf_append, if_neg h]; simp
theorem idx_lt {q : List Int} {t : Int} (h : t ∈ q) : q.idxOf t < q.length := List.idxOf_lt_length_iff.2 h
theorem getD_setI (xs : List Int) (i j : Nat) (x : Int) (hi : i < xs.length) : (xs.set i x).getD j 0 = if i = j then x else xs.getD j 0 := by
 rw [List.getD_eq_getElem?_getD, List.getD_eq_getElem?_getD, List.getElem?_set]
 by_cases h : i = j
 ·subst h; rw [if_pos rfl, if_pos rfl, if_pos hi]; rfl
 ·rw [if_neg h, if_neg h]
/-- What the search knows: hs the tree's tiles, fr where a tile was reached from, q the queue. -/
structure Bfs (hs fr q : List Int) : Prop where
 len : fr.length = 25
 inF : InF q
 nd : q.Nodup
 sub : ∀ t ∈ hs, t ∈ q
 mem : ∀ t : Nat, t < 25 → ((t : Int) ∈ q ↔ fr.getD t 0 ≠ -2)
 par : ∀ t : Nat, t < 25 → (t : Int) ∈ q → (fr.getD t 0 = -1 ∧ (t : Int) ∈ hs) ∨ (0 ≤ fr.getD t 0 ∧ fr.getD t 0 ∈ q ∧ q.idxOf (fr.getD t 0) < q.idxOf (t : Int) ∧ (t : Int) ∉ hs)
theorem Bfs.start : Bfs [] (List.replicate 25 (-2)) [] where
 len := rfl
 inF := fun t h => by simp at h
 nd := by simp
 sub := fun t h => by simp at h
 mem := fun t ht => by
  rw [List.getD_eq_getElem?_getD, List.getElem?_replicate, if_pos ht]; simp
 par := fun t ht h => by simp at h
theorem Bfs.qlen {hs fr q : List Int} (h : Bfs hs fr q) : q.length ≤ 25 := nodup_le 25 q h.nd h.inF
theorem Bfs.root {hs fr : List Int} (h : Bfs hs fr hs) {x : Nat} (hx : x < 25) (hn : (x : Int) ∉ hs) : Bfs (hs ++ [(x : Int)]) (fr.set x (-1)) (hs ++ [(x : Int)]) where
 len := by rw [List.length_set]; exact h.len
 inF := fun t ht => by
  rcases List.mem_append.1 ht with h2 | h2
  ·exact h.inF t h2
  ·simp at h2; omega
 nd := List.nodup_append.2 ⟨h.nd, by simp, fun a ha b hb e => by simp at hb; subst hb; subst e; exact hn ha⟩
 sub := fun t ht => ht
 mem := fun t ht => by
  rw [getD_setI _ _ _ _ (by rw [h.len]; exact hx), List.mem_append, List.mem_singleton, h.mem t ht]
  by_cases e : x = t
  ·subst e; simp
  ·rw [if_neg e]
   constructor
   ·rintro (h2 | h2)
    ·exact h2
    ·omega
   ·exact .inl
 par := fun t ht hm => by
  left
  refine ⟨?_, hm⟩
  rw [getD_setI _ _ _ _ (by rw [h.len]; exact hx)]
  by_cases e : x = t
  ·rw [if_pos e]
  ·rw [if_neg e]
   rcases List.mem_append.1 hm with h2 | h2
   ·rcases h.par t ht h2 with h3 | h3
    ·exact h3.1
    ·exact absurd h2 h3.2.2.2
   ·simp at h2; omega
theorem Bfs.grow {hs fr q : List Int} (h : Bfs hs fr q) {x : Nat} (hx : x < 25) (hf : fr.getD x 0 = -2) {y : Int} (hy : y ∈ q) : Bfs hs (fr.set x y) (q ++ [(x : Int)]) := by
 have hn : (x : Int) ∉ q := fun hm => (h.mem x hx).1 hm hf
 refine { len := by rw [List.length_set]; exact h.len, inF := fun t ht => ?_, nd := List.nodup_append.2 ⟨h.nd, by simp, fun a ha b hb e => by simp at hb; subst hb; subst e; exact hn ha⟩, sub := fun t ht => List.mem_append_left _ (h.sub t ht), mem := fun t ht => ?_, par := fun t ht hm => ?_ }
 ·rcases List.mem_append.1 ht with h2 | h2
  ·exact h.inF t h2
  ·simp at h2; omega
 ·rw [getD_setI _ _ _ _ (by rw [h.len]; exact hx), List.mem_append, List.mem_singleton, h.mem t ht]
  by_cases e : x = t
  ·subst e
   have := h.inF y hy
   rw [if_pos rfl]
   constructor
   ·intro _; omega
   ·intro _; exact .inr rfl
  ·rw [if_neg e]
   constructor
   ·rintro (h2 | h2)
    ·exact h2
    ·omega
   ·exact .inl
 ·rw [getD_setI _ _ _ _ (by rw [h.len]; exact hx)]
  by_cases e : x = t
  ·subst e
   right
   rw [if_pos rfl, idx_app hy, idx_new hn]
   exact ⟨(h.inF y hy).1, List.mem_append_left _ hy, idx_lt hy, fun hm => hn (h.sub _ hm)⟩
  ·rw [if_neg e]
   have hm2 : (t : Int) ∈ q := by
    rcases List.mem_append.1 hm with h2 | h2
    ·exact h2
    ·simp at h2; omega
   rcases h.par t ht hm2 with h3 | ⟨h3, h4, h5, h6⟩
   ·exact .inl h3
   ·right
    rw [idx_app h4, idx_app hm2]
    exact ⟨h3, List.mem_append_left _ h4, h5, h6⟩
/-- One hop: a tile and where it is driven from. -/
abbrev HopT := Int × Int
/-- A tree of hops: the source, then tiles reached from others. -/
structure Tree (hs : List HopT) (s : Int) : Prop where
 hd : ∃ r, hs = (s, -1) :: r ∧ ∀ h ∈ r, 0 ≤ h.2
 inF : InF (hs.map Prod.fst)
 nd : (hs.map Prod.fst).Nodup
theorem Tree.one {s : Int} (h : 0 ≤ s ∧ s < 25) : Tree [(s, -1)] s := ⟨⟨[], rfl, fun _ h => by simp at h⟩, fun t ht => by simp at ht; omega, by simp⟩
theorem Tree.len {hs : List HopT} {s : Int} (h : Tree hs s) : hs.length ≤ 25 := by
 have := nodup_le 25 _ h.nd h.inF
 rw [List.length_map] at this; exact this
/-- A path back to the tree, as far as tile t. -/
structure PathTo (hs q : List Int) (t : Int) (ps : List HopT) : Prop where
 mem : ∀ h ∈ ps, h.1 ∈ q ∧ h.1 ∉ hs ∧ 0 ≤ h.2 ∧ q.idxOf t < q.idxOf h.1
 nd : (ps.map Prod.fst).Nodup
theorem PathTo.nil {hs q : List Int} {t : Int} : PathTo hs q t [] := ⟨fun h hh => by simp at hh, by simp⟩
theorem PathTo.cons {hs fr q : List Int} (B : Bfs hs fr q) {t : Nat} {ps : List HopT} (h : PathTo hs q t ps) (ht : t < 25) (hm : (t : Int) ∈ q) (h0 : 0 ≤ fr.getD t 0) : PathTo hs q (fr.getD t 0) (((t : Int), fr.getD t 0) :: ps) ∧ fr.getD t 0 ∈ q ∧ q.idxOf (fr.getD t 0) < q.idxOf (t : Int) := by
 rcases B.par t ht hm with h3 | ⟨h3, h4, h5, h6⟩
 ·have := h3.1; omega
 ·refine ⟨⟨fun x hx => ?_, ?_⟩, h4, h5⟩
  ·rcases List.mem_cons.1 hx with rfl | h2
   ·exact ⟨hm, h6, h3, h5⟩
   ·obtain ⟨a1, a2, a3, a4⟩ := h.mem x h2
    exact ⟨a1, a2, a3, Nat.lt_trans h5 a4⟩
  ·rw [List.map_cons, List.nodup_cons]
   refine ⟨fun hx => ?_, h.nd⟩
   obtain ⟨x, hx1, hx2⟩ := List.mem_map.1 hx
   have := (h.mem x hx1).2.2.2
   rw [hx2] at this
   exact Nat.lt_irrefl _ this
theorem PathTo.len {hs q : List Int} (hf : InF q) {t : Int} {ps : List HopT} (h : PathTo hs q t ps) : ps.length ≤ 25 := by
 have := nodup_le 25 _ h.nd (fun x hx => by
  obtain ⟨y, hy, rfl⟩ := List.mem_map.1 hx
  exact hf _ (h.mem y hy).1)
 rw [List.length_map] at this; exact this
theorem Tree.app {hs : List HopT} {s : Int} (h : Tree hs s) {q : List Int} (hf : InF q) {t : Int} {ps : List HopT} (hp : PathTo (hs.map Prod.fst) q t ps) : Tree (hs ++ ps) s := by
 obtain ⟨r, e, hr⟩ := h.hd
 refine ⟨⟨r ++ ps, by rw [e]; rfl, fun x hx => ?_⟩, fun x hx => ?_, ?_⟩
 ·rcases List.mem_append.1 hx with h2 | h2
  ·exact hr x h2
  ·exact (hp.mem x h2).2.2.1
 ·rw [List.map_append] at hx
  rcases List.mem_append.1 hx with h2 | h2
  ·exact h.inF x h2
  ·obtain ⟨y, hy, rfl⟩ := List.mem_map.1 h2
   exact hf _ (hp.mem y hy).1
 ·rw [List.map_append, List.nodup_append]
  refine ⟨h.nd, hp.nd, fun a ha b hb e2 => ?_⟩
  obtain ⟨y, hy, rfl⟩ := List.mem_map.1 hb
  subst e2
  exact (hp.mem y hy).2.1 ha
end Go.Proofs.Ytgialedmbmfejaa

--@from BCut BBest BLut BCel BSnk
namespace Go.Proofs.Ytgialedmbmfejaa
open Go.RowKit
set_option maxRecDepth 100000
set_option linter.unusedVariables false
set_option linter.unusedSimpArgs false
theorem inF_app {xs : List Int} (h : InF xs) {x : Int} (hx : 0 ≤ x ∧ x < 25) : InF (xs ++ [x]) := fun t ht => by
 rcases List.mem_append.1 ht with h2 | h2
 ·exact h t h2
 ·simp at h2; omega
def NextPost (w : World) (e : Ending) (w' : World) : Prop := ∃ v xs, e = .returned v ∧ OwnInts w' w.heap.size 3 v xs ∧ InF xs ∧ xs.length ≤ 4 ∧ Ext w w'
set_option maxHeartbeats 8000000 in
theorem l8Next_c (t : Int) (w : World) (h0 : 0 ≤ t) (h1 : t < 25) : Calls Try.prog 164 #[.int .i64 t] w (NextPost w) := by
 obtain ⟨R, hR⟩ : ∃ R, R = t % 5 := ⟨_, rfl⟩
 have htb : t.tmod 5 = R := by rw [hR]; exact Int.tmod_eq_emod_of_nonneg h0
 have f1 : 0 < R → 0 ≤ t - 1 := by omega
 have f2 : R < 4 → t + 1 < 25 := by omega
 have F1 := Lib.hid f1
 have F2 := Lib.hid f2
 have O0 : OwnInts (w.alloc (.cells #[] 3)) w.heap.size 3 (.slice (some ⟨w.heap.size, 0, none⟩) 0 0) [] := (Blk.at w [] 3 rfl).owns (n := 0) (size := 1) rfl (Nat.le_refl _) (by decide)
 have E0 := (Ext.refl w).alloc (.cells #[] 3)
 clear hR f1 f2
 go_enter Try.func164, Try.ntmps164
 go_upto_if 6 with fail
 go_cut [3] (fun v wx => ∃ xs, OwnInts wx w.heap.size 3 v xs ∧ InF xs ∧ xs.length ≤ 1 ∧ Ext w wx)
 case first =>
  have I0 : InF [] := fun x hx => by simp at hx
  have L0 : ([] : List Int).length ≤ 0 := Nat.le_refl _
  obtain ⟨w0, hw0⟩ : ∃ z : World, z = w.alloc (.cells #[] 3) := ⟨_, rfl⟩
  rw [← hw0] at O0 E0 ⊢
  clear hw0
  obtain ⟨xs0, hxs⟩ : ∃ x : List Int, x = [] := ⟨_, rfl⟩
  rw [← hxs] at O0 I0 L0
  have hxl : xs0.length = 0 := by rw [hxs]; rfl
  have OO : OwnInts w0 w.heap.size 3 (.slice (some ⟨w.heap.size, 0, none⟩) 0 0) xs0 := O0
  obtain ⟨sv, hsv⟩ : ∃ v, v = Value.slice (some ⟨w.heap.size, 0, none⟩) 0 0 := ⟨_, rfl⟩
  rw [← hsv] at OO ⊢
  clear O0 hxs hsv hxl
  by_cases hc : 5 ≤ t
  ·have hsz := E0.size
   have hX : 0 ≤ t - 5 ∧ t - 5 < 25 := by exact ⟨by omega, by omega⟩
   go_wp2_with (at_builtin; refine wpList_app tyInts (ownsRow_ext OO (by (repeat (first | with_reducible assumption | with_reducible exact Ext.refl _ | with_reducible refine Ext.drew' ?_ | with_reducible refine Ext.drewN' ?_ _ | with_reducible refine Ext.alloc ?_ _ | (with_reducible refine Ext.setNew ?_ (by first | exact Nat.le_refl _ | (simp; done) | (simp; omega) | omega) _))))) (rowNew _ _ _ (by simp)) rfl (by simp [Value.oneCell']) (by first | omega | (simp; done) | (simp; omega)) (by first | omega | (simp; done) | (simp; omega)) rfl rfl rfl rfl ?_; intro v9 w9 o9 g9 m9)
   have E9 : Ext w w9 := ext_grown (w1 := _) (Ext.trans E0 (by (repeat (first | with_reducible assumption | with_reducible exact Ext.refl _ | with_reducible refine Ext.drew' ?_ | with_reducible refine Ext.drewN' ?_ _ | with_reducible refine Ext.alloc ?_ _ | (with_reducible refine Ext.setNew ?_ (by first | exact Nat.le_refl _ | (simp; done) | (simp; omega) | omega) _))))) g9 (fun q hq => (own_lo OO q hq).1)
   go_meet
   exact ⟨_, own_app (xs := xs0) (ys := [t - 5]) rfl rfl o9, inF_app I0 hX, by rw [List.length_append, List.length_singleton]; omega, E9⟩
  ·go_wp2_with fail
   go_meet
   exact ⟨_, OO, I0, by omega, E0⟩
 clear O0 E0
 obtain ⟨xs1, O1, I1, L1, E1⟩ := hcut
 obtain ⟨w1, rfl⟩ : ∃ z : World, z = wc := ⟨_, rfl⟩
 go_upto_if 14 with fail
 go_cut [3] (fun v wx => ∃ xs, OwnInts wx w.heap.size 3 v xs ∧ InF xs ∧ xs.length ≤ 2 ∧ Ext w wx)
 case first =>
  by_cases hc : 0 < R
  ·have hsz := E1.size
   have hX : 0 ≤ t - 1 ∧ t - 1 < 25 := by exact ⟨F1.out hc, by omega⟩
   go_wp2_with (at_builtin; refine wpList_app tyInts (ownsRow_ext O1 (by (repeat (first | with_reducible assumption | with_reducible exact Ext.refl _ | with_reducible refine Ext.drew' ?_ | with_reducible refine Ext.drewN' ?_ _ | with_reducible refine Ext.alloc ?_ _ | (with_reducible refine Ext.setNew ?_ (by first | exact Nat.le_refl _ | (simp; done) | (simp; omega) | omega) _))))) (rowNew _ _ _ (by simp)) rfl (by simp [Value.oneCell']) (by first | omega | (simp; done) | (simp; omega)) (by first | omega | (simp; done) | (simp; omega)) rfl rfl rfl rfl ?_; intro v9 w9 o9 g9 m9)
   have E9 : Ext w w9 := ext_grown (w1 := _) (Ext.trans E1 (by (repeat (first | with_reducible assumption | with_reducible exact Ext.refl _ | with_reducible refine Ext.drew' ?_ | with_reducible refine Ext.drewN' ?_ _ | with_reducible refine Ext.alloc ?_ _ | (with_reducible refine Ext.setNew ?_ (by first | exact Nat.le_refl _ | (simp; done) | (simp; omega) | omega) _))))) g9 (fun q hq => (own_lo O1 q hq).1)
   go_meet
   exact ⟨_, own_app (xs := xs1) (ys := [t - 1]) rfl rfl o9, inF_app I1 hX, by rw [List.length_append, List.length_singleton]; omega, E9⟩
  ·go_wp2_with fail
   go_meet
   exact ⟨_, O1, I1, by omega, E1⟩
 clear O1 E1 I1 L1
 obtain ⟨xs2, O2, I2, L2, E2⟩ := hcut
 obtain ⟨w2, rfl⟩ : ∃ z : World, z = wc := ⟨_, rfl⟩
 go_upto_if 22 with fail
 go_cut [3] (fun v wx => ∃ xs, OwnInts wx w.heap.size 3 v xs ∧ InF xs ∧ xs.length ≤ 3 ∧ Ext w wx)
 case first =>
  by_cases hc : R < 4
  ·have hsz := E2.size
   have hX : 0 ≤ t + 1 ∧ t + 1 < 25 := by exact ⟨by omega, F2.out hc⟩
   go_wp2_with (at_builtin; refine wpList_app tyInts (ownsRow_ext O2 (by (repeat (first | with_reducible assumption | with_reducible exact Ext.refl _ | with_reducible refine Ext.drew' ?_ | with_reducible refine Ext.drewN' ?_ _ | with_reducible refine Ext.alloc ?_ _ | (with_reducible refine Ext.setNew ?_ (by first | exact Nat.le_refl _ | (simp; done) | (simp; omega) | omega) _))))) (rowNew _ _ _ (by simp)) rfl (by simp [Value.oneCell']) (by first | omega | (simp; done) | (simp; omega)) (by first | omega | (simp; done) | (simp; omega)) rfl rfl rfl rfl ?_; intro v9 w9 o9 g9 m9)
   have E9 : Ext w w9 := ext_grown (w1 := _) (Ext.trans E2 (by (repeat (first | with_reducible assumption | with_reducible exact Ext.refl _ | with_reducible refine Ext.drew' ?_ | with_reducible refine Ext.drewN' ?_ _ | with_reducible refine Ext.alloc ?_ _ | (with_reducible refine Ext.setNew ?_ (by first | exact Nat.le_refl _ | (simp; done) | (simp; omega) | omega) _))))) g9 (fun q hq => (own_lo O2 q hq).1)
   go_meet
   exact ⟨_, own_app (xs := xs2) (ys := [t + 1]) rfl rfl o9, inF_app I2 hX, by rw [List.length_append, List.length_singleton]; omega, E9⟩
  ·go_wp2_with fail
   go_meet
   exact ⟨_, O2, I2, by omega, E2⟩
 clear O2 E2 I2 L2
 obtain ⟨xs3, O3, I3, L3, E3⟩ := hcut
 obtain ⟨w3, rfl⟩ : ∃ z : World, z = wc := ⟨_, rfl⟩
 go_upto_if 29 with fail
 go_cut [3] (fun v wx => ∃ xs, OwnInts wx w.heap.size 3 v xs ∧ InF xs ∧ xs.length ≤ 4 ∧ Ext w wx)
 case first =>
  by_cases hc : t < 20
  ·have hsz := E3.size
   have hX : 0 ≤ t + 5 ∧ t + 5 < 25 := by exact ⟨by omega, by omega⟩
   go_wp2_with (at_builtin; refine wpList_app tyInts (ownsRow_ext O3 (by (repeat (first | with_reducible assumption | with_reducible exact Ext.refl _ | with_reducible refine Ext.drew' ?_ | with_reducible refine Ext.drewN' ?_ _ | with_reducible refine Ext.alloc ?_ _ | (with_reducible refine Ext.setNew ?_ (by first | exact Nat.le_refl _ | (simp; done) | (simp; omega) | omega) _))))) (rowNew _ _ _ (by simp)) rfl (by simp [Value.oneCell']) (by first | omega | (simp; done) | (simp; omega)) (by first | omega | (simp; done) | (simp; omega)) rfl rfl rfl rfl ?_; intro v9 w9 o9 g9 m9)
   have E9 : Ext w w9 := ext_grown (w1 := _) (Ext.trans E3 (by (repeat (first | with_reducible assumption | with_reducible exact Ext.refl _ | with_reducible refine Ext.drew' ?_ | with_reducible refine Ext.drewN' ?_ _ | with_reducible refine Ext.alloc ?_ _ | (with_reducible refine Ext.setNew ?_ (by first | exact Nat.le_refl _ | (simp; done) | (simp; omega) | omega) _))))) g9 (fun q hq => (own_lo O3 q hq).1)
   go_meet
   exact ⟨_, own_app (xs := xs3) (ys := [t + 5]) rfl rfl o9, inF_app I3 hX, by rw [List.length_append, List.length_singleton]; omega, E9⟩
  ·go_wp2_with fail
   go_meet
   exact ⟨_, O3, I3, by omega, E3⟩
 clear O3 E3 I3 L3
 obtain ⟨xs4, O4, I4, L4, E4⟩ := hcut
 obtain ⟨w4, rfl⟩ : ∃ z : World, z = wc := ⟨_, rfl⟩
 go_wp2_with fail
 go_ret
 exact ⟨_, xs4, rfl, O4, I4, L4, E4⟩
set_option maxHeartbeats 4000000 in
theorem l8On_c (a : Option Addr) (cap : Nat) (hs : List HopT) (v : Int) (w : World) (hS : PairsAt w a hs) (hl : hs.length ≤ 1000) :
  Calls Try.prog 163 #[.slice a hs.length cap, .int .i64 v] w fun e w' => e = .returned (.bool ((hs.map Prod.fst).contains v)) ∧ Ext w w' := by
 have HM : Hid (∀ j, j < hs.length → (hs.getD j (0, 0)).1 = v → (hs.map Prod.fst).contains v = true) := Lib.hid (fun j hj e => by
  have h2 : (hs.getD j (0, 0)).1 ∈ hs.map Prod.fst := List.mem_map.2 ⟨_, getN_mem hj, rfl⟩
  rw [e] at h2
  simpa using h2)
 obtain ⟨D, hD⟩ : ∃ D, D = (hs.map Prod.fst).contains v := ⟨_, rfl⟩
 rw [← hD] at HM ⊢
 have HD := Lib.hid hD
 clear hD
 go_enter Try.func163, Try.ntmps163
 go_wp2_with fail
 go_loopw [5] (fun u8 wr => ∃ j : Nat, j ≤ hs.length ∧ u8 = .int .i64 j ∧ Hid (∀ i, i < j → (hs.getD i (0, 0)).1 ≠ v) ∧ Ext w wr) (fun u _ => hs.length - (intOf u).toNat)
 case atStart => exact ⟨0, Nat.zero_le _, rfl, Lib.hid (fun i hi => absurd hi (Nat.not_lt_zero i)), Ext.refl _⟩
 case round =>
  obtain ⟨j, hj, rfl, HN, hE⟩ := hrel
  by_cases hlt : j < hs.length
  ·obtain ⟨b, o, rfl, hb, hc, _⟩ := (hS.ext hE).get (by omega)
   have q1 := hc j hlt
   have hm : (hs.getD j (0, 0)).1 = v → D = true := HM.out j hlt
   obtain ⟨z, hz⟩ : ∃ z, z = (hs.getD j (0, 0)).1 := ⟨_, rfl⟩
   rw [← hz] at q1 hm
   have HZ := Lib.hid hz
   have HMM := Lib.hid hm
   clear hc hz hm
   by_cases he : z = v
   ·have hd := HMM.out he
    subst hd he
    clear HMM
    go_wp2_with fail
    go_ret
    exact ⟨rfl, hE⟩
   ·have he2 : (z == v) = false := by simp [he]
    go_wp2_with fail
    go_roundw
    case rel => exact ⟨j + 1, by omega, by go_num, Lib.hid (fun i hi => by
     rcases Nat.lt_or_ge i j with h | h
     ·exact HN.out i h
     ·have : i = j := by omega
      subst this
      rw [← HZ.out]; exact he), hE⟩
    case measure => simp [intOf]; omega
  ·have hd : D = false := by
    rw [HD.out, Bool.eq_false_iff]
    intro h
    have hm : v ∈ hs.map Prod.fst := by simpa using h
    obtain ⟨y, hy, e⟩ := List.mem_map.1 hm
    obtain ⟨i, hi, e2⟩ := mem_getN (d := ((0 : Int), (0 : Int))) hy
    refine HN.out i (by omega) ?_
    rw [e2]; exact e
   subst hd
   go_wp2_with fail
   go_ret
   exact ⟨rfl, hE⟩
end Go.Proofs.Ytgialedmbmfejaa

--@from BCut BBest BLut BCel BSnk
namespace Go.Proofs.Ytgialedmbmfejaa
open Go.RowKit
set_option maxRecDepth 100000
set_option linter.unusedVariables false
set_option linter.unusedSimpArgs false
theorem tyHops : RowTy Try.prog 183 189 2 16 := RowTy.mk' (z := .agg #[.int .i64 0, .int .i64 0]) Try.underlying183 (by kernel_rfl) rfl (by decide) (by decide)
/-- A slice of hops that a call owns. -/
def OwnH (w : World) (base : Nat) (v : Value) (hs : List HopT) : Prop := w.ownsRow base 189 2 v hs.length (flat hs)
theorem OwnH.ext {w w' : World} {b : Nat} {v : Value} {hs : List HopT} (h : OwnH w b v hs) (e : Ext w w') : OwnH w' b v hs := ownsRow_ext h e
theorem OwnH.le {w : World} {b b2 : Nat} {v : Value} {hs : List HopT} (h : OwnH w b v hs) (hb : b2 ≤ b) : OwnH w b2 v hs := ownsRow_base h hb
theorem OwnH.sl {w : World} {b : Nat} {v : Value} {hs : List HopT} (h : OwnH w b v hs) : ∃ a c, v = .slice a hs.length c ∧ PairsAt w a hs ∧ hs.length ≤ c ∧ c ≤ maxLen := by
 obtain ⟨a, c, hv, hr, h5, h6, _⟩ := ownsRow_row h
 exact ⟨a, c, hv, pairsAt_of_row hr, h5, h6⟩
theorem OwnH.lo {w : World} {b : Nat} {v : Value} {hs : List HopT} (h : OwnH w b v hs) : ∀ k, v.ownBlock = some k → b ≤ k ∧ k < w.heap.size := fun k hk => World.ownsRow.lt h k hk
theorem ownH_app {w' : World} {base : Nat} {v' : Value} {xs ys : List HopT} {n m : Nat} (hn : n = xs.length) (hm : m = ys.length) (h : w'.ownsRow base 189 2 v' (n + m) (flat xs ++ flat ys)) : OwnH w' base v' (xs ++ ys) := by
 subst hn hm
 unfold OwnH
 rw [List.length_append, flat_append]; exact h
def PathPost (w : World) (a : Option Addr) (cap : Nat) (hs : List HopT) (s : Int) (e : Ending) (w' : World) : Prop :=
 ∃ v ok hs2, e = .returned (.tuple #[v, .bool ok]) ∧ ((v = .slice a hs.length cap ∧ hs2 = hs) ∨ OwnH w' w.heap.size v hs2) ∧ (ok = true → Tree hs2 s) ∧ Ext w w'
theorem make25I (w : World) : (Instr.makeSlice 23 (.int .i64 25) (.int .i64 25)).run Try.prog w = .ok (.slice (some ⟨w.heap.size, 0, none⟩) 25 25) (w.alloc (.cells ((List.replicate 25 (0 : Int)).map (Value.int .i64)).toArray 3)) :=
 run_zeros (P := Try.prog) 23 3 (.int .i64 0) [.int .i64 0] 8 Try.underlying23 (by kernel_rfl) rfl (by decide) (by decide) 25 (by decide) w
theorem own_set {w : World} {b g n c : Nat} {xs : List Int} (h : OwnInts w b 3 (.slice (some ⟨g, 0, none⟩) n c) xs) {i : Nat} (hi : i < xs.length) (x : Int) : OwnInts (w.setCell ⟨g, i, none⟩ (.int .i64 x)) b 3 (.slice (some ⟨g, 0, none⟩) n c) (xs.set i x) := by
 have hl : n = xs.length := by
  obtain ⟨a, c2, e, _⟩ := own_sl h
  cases e; rfl
 subst hl
 have h2 := ownsRow_setAt h i (by rw [List.length_map]; exact hi) (.int .i64 x)
 unfold OwnInts
 rw [List.length_set, List.map_set]; exact h2
theorem own_cellI {w : World} {b g n c : Nat} {xs : List Int} (h : OwnInts w b 3 (.slice (some ⟨g, 0, none⟩) n c) xs) {i : Nat} (hi : i < xs.length) : w.cell? ⟨g, i, none⟩ = some (.int .i64 (xs.getD i 0)) := by
 have hl : n = xs.length := by
  obtain ⟨a, c2, e, _⟩ := own_sl h
  cases e; rfl
 subst hl
 exact ownsRow_cell h (j := i) (by rw [List.getElem?_map, List.getD_eq_getElem?_getD, List.getElem?_eq_getElem hi]; rfl)
theorem own_frI {w : World} {b g n c : Nat} {xs : List Int} (h : OwnInts w b 3 (.slice (some ⟨g, 0, none⟩) n c) xs) (i : Nat) : w.frozen? ⟨g, i, none⟩ = false := by
 have hl : n = xs.length := by
  obtain ⟨a, c2, e, _⟩ := own_sl h
  cases e; rfl
 subst hl
 exact ownsRow_frozen h i
theorem getD_all {xs : List Int} {n : Nat} {x : Int} (hl : xs.length = n) (h : ∀ j, j < n → xs.getD j 0 = x) : xs = List.replicate n x := by
 refine List.ext_getElem (by rw [List.length_replicate]; exact hl) (fun i h1 h2 => ?_)
 have := h i (by omega)
 rw [List.getD_eq_getElem?_getD, List.getElem?_eq_getElem h1] at this
 rw [List.getElem_replicate]; exact this
set_option maxHeartbeats 16000000 in
theorem l8Path_c (a : Option Addr) (cap : Nat) (hs : List HopT) (s : Int) (sink : Nat) (ba : Option Addr) (bc : Nat) (busy : List Bool) (w : World) (hh : PairsAt w a hs) (hT : Tree hs s) (hsk : sink < 25) (hb : BoolsAt w ba busy) (hbl : busy.length = 25) :
  Calls Try.prog 158 #[.slice a hs.length cap, .int .i64 sink, .slice ba 25 bc] w (PathPost w a cap hs s) := by
 have hl25 := hT.len
 have htl : (hs.map Prod.fst).length = hs.length := List.length_map ..
 have htg : ∀ j, j < hs.length → (hs.map Prod.fst).getD j 0 = (hs.getD j (0, 0)).1 := fun j hj => by
  rw [List.getD_eq_getElem?_getD, List.getD_eq_getElem?_getD, List.getElem?_map, List.getElem?_eq_getElem hj]; rfl
 have HTL := Lib.hid htl
 have HTG := Lib.hid htg
 have HT := Lib.hid hT
 have HBL := Lib.hid hbl
 have hm := make25I
 have hon := l8On_c a cap hs sink w hh (by omega)
 obtain ⟨ts, hts⟩ : ∃ ts, ts = hs.map Prod.fst := ⟨_, rfl⟩
 rw [← hts] at hon HTL HTG
 have HTS := Lib.hid hts
 have hnd : ts.Nodup := by rw [hts]; exact hT.nd
 have hin : InF ts := by rw [hts]; exact hT.inF
 have HND := Lib.hid hnd
 have HIN := Lib.hid hin
 clear htl htg hT hts hnd hin hbl
 go_enter Try.func158, Try.ntmps158
 go_wp2_with fail
 refine hon.mono ?_
 obtain ⟨B, hB⟩ : ∃ B, B = ts.contains (sink : Int) := ⟨_, rfl⟩
 rw [← hB]
 rintro e w1 ⟨rfl, hE1⟩
 clear hon hB
 have HH1 := Lib.hid (hh.ext hE1)
 have HB1 := Lib.hid (hb.ext hE1)
 clear hh hb
 cases B
 ·obtain ⟨L25, hL25⟩ : ∃ L : List Int, L = List.replicate 25 0 := ⟨_, rfl⟩
  have hLl : L25.length = 25 := by rw [hL25]; rfl
  rw [← hL25] at hm
  have OF0 : OwnInts (w1.alloc (.cells (L25.map (Value.int .i64)).toArray 3)) w1.heap.size 3 (.slice (some ⟨w1.heap.size, 0, none⟩) 25 25) L25 := by
   unfold OwnInts
   rw [hLl]
   exact (Blk.at w1 (L25.map (Value.int .i64)) 3 rfl).owns (n := 25) (size := 1) (by simp [hLl]) (Nat.le_refl _) (by decide)
  have EF0 := (Ext.refl w1).alloc (.cells (L25.map (Value.int .i64)).toArray 3)
  have HLl := Lib.hid hLl
  clear hL25 hLl
  go_wp2_with fail
  clear hm
  go_loopw [9] (fun u9 wr => ∃ (k : Nat) (xs : List Int), k ≤ 25 ∧ u9 = .int .i64 k ∧ OwnInts wr w1.heap.size 3 (.slice (some ⟨w1.heap.size, 0, none⟩) 25 25) xs ∧ Hid (xs.length = 25 ∧ ∀ j, j < k → xs.getD j 0 = -2) ∧ Ext w1 wr) (fun v _ => 25 - (intOf v).toNat)
  case atStart => exact ⟨0, L25, Nat.zero_le _, rfl, OF0, Lib.hid ⟨HLl.out, fun j hj => absurd hj (Nat.not_lt_zero j)⟩, EF0⟩
  case round =>
   clear OF0 EF0 HLl
   obtain ⟨k, xs, hk, rfl, hO, HX, hE⟩ := hrel
   obtain ⟨w2, rfl⟩ : ∃ z : World, z = wr := ⟨_, rfl⟩
   by_cases hlt : k < 25
   ·have q1 := own_cellI hO (i := k) (by rw [HX.out.1]; exact hlt)
    have hf := own_frI hO
    have HO2 := Lib.hid (own_set hO (i := k) (by rw [HX.out.1]; exact hlt) (-2))
    have hki : (k : Int) < 25 := by omega
    clear hO
    go_wp2_with fail
    go_roundw
    case rel =>
     refine ⟨k + 1, _, by omega, by go_num, HO2.out, Lib.hid ⟨by rw [List.length_set]; exact HX.out.1, fun j hj => ?_⟩, Ext.setNew hE (Nat.le_refl _) _⟩
     rw [getD_setI _ _ _ _ (by rw [HX.out.1]; exact hlt)]
     by_cases e : k = j
     ·rw [if_pos e]
     ·rw [if_neg e]; exact HX.out.2 j (by omega)
    case measure => simp [intOf]; omega
   ·have hk2 : k = 25 := by omega
    have hki : ¬ ((k : Int) < 25) := by omega
    have hxr : xs = List.replicate 25 (-2) := getD_all HX.out.1 (fun j hj => HX.out.2 j (by omega))
    have HBF : Hid (Bfs (ts.take 0) xs (ts.take 0)) := Lib.hid (by rw [hxr]; exact Bfs.start)
    have OQ0 : OwnInts (w2.alloc (.cells #[] 3)) (w1.heap.size + 1) 3 (.slice (some ⟨w2.heap.size, 0, none⟩) 0 0) (ts.take 0) := (Blk.at w2 [] 3 rfl).owns (n := 0) (size := 1) rfl (by
     have h1 := (own_lo hO w1.heap.size rfl).2
     omega) (by decide)
    have EQ0 := (Ext.refl w2).alloc (.cells #[] 3)
    have OF2 := ownsRow_ext hO EQ0
    have EE := hE.trans EQ0
    clear HX hxr hk2 hO
    go_wp2_with fail
    go_loopw [10, 11] (fun u10 u11 wr => ∃ (i : Nat) (fr : List Int), i ≤ hs.length ∧ u11 = .int .i64 i ∧ OwnInts wr w1.heap.size 3 (.slice (some ⟨w1.heap.size, 0, none⟩) 25 25) fr ∧ OwnInts wr (w1.heap.size + 1) 3 u10 (ts.take i) ∧ Hid (Bfs (ts.take i) fr (ts.take i)) ∧ Ext w1 wr) (fun _ v _ => hs.length - (intOf v).toNat)
    case atStart => exact ⟨0, xs, Nat.zero_le _, rfl, OF2, OQ0, HBF, EE⟩
    case round =>
     clear OF2 OQ0 HBF EE EQ0 hE
     obtain ⟨i, fr, hi, rfl, hO, hQ, HBF, hE⟩ := hrel
     obtain ⟨w3, rfl⟩ : ∃ z : World, z = wr := ⟨_, rfl⟩
     by_cases hlt2 : i < hs.length
     ·obtain ⟨b5, o5, rfl, hb5, hc5, _⟩ := (HH1.out.ext hE).get (by omega)
      have q5 := hc5 i hlt2
      rw [← HTG.out i hlt2] at q5
      have hx := HIN.out _ (getN_mem (d := (0 : Int)) (show i < ts.length by rw [HTL.out]; exact hlt2))
      have hsn := take_snocD ts i 0 (by rw [HTL.out]; exact hlt2)
      have hnm : ts.getD i 0 ∉ ts.take i := by
       intro hm2
       obtain ⟨j, hj, e⟩ := mem_getN (d := (0 : Int)) hm2
       have hji : j < i := by rw [List.length_take] at hj; omega
       have hjt : j < ts.length := by rw [HTL.out]; omega
       have hit : i < ts.length := by rw [HTL.out]; omega
       have e2 : ts[j] = ts[i] := by
        rw [List.getD_eq_getElem?_getD, List.getElem?_take_of_lt hji, List.getElem?_eq_getElem hjt, List.getD_eq_getElem?_getD, List.getElem?_eq_getElem hit] at e
        exact e
       exact (List.pairwise_iff_getElem.1 HND.out j i hjt hit hji) e2
      obtain ⟨x, hxx⟩ : ∃ x, x = ts.getD i 0 := ⟨_, rfl⟩
      rw [← hxx] at q5 hx hsn hnm
      obtain ⟨m, rfl⟩ : ∃ m : Nat, x = (m : Int) := ⟨x.toNat, by omega⟩
      have hm25 : m < 25 := by omega
      have hmi : (m : Int) < 25 := by omega
      have hfl := HBF.out.len
      have HB2 : Hid (Bfs (ts.take (i + 1)) (fr.set m (-1)) (ts.take (i + 1))) := Lib.hid (by rw [hsn]; exact HBF.out.root hm25 hnm)
      have HSN := Lib.hid hsn
      have q1 := own_cellI hO (i := m) (by omega)
      have hf := own_frI hO
      have HO2 := Lib.hid (own_set hO (i := m) (by omega) (-1))
      have hlq := own_lo hQ
      have hQ2 : OwnInts (w3.setCell ⟨w1.heap.size, m, none⟩ (.int .i64 (-1))) (w1.heap.size + 1) 3 u10 (ts.take i) := ownsRow_set hQ (fun e => by have h9 : w1.heap.size + 1 ≤ w1.heap.size := (hlq _ e).1; omega) _
      have E2 : Ext w1 (w3.setCell ⟨w1.heap.size, m, none⟩ (.int .i64 (-1))) := Ext.setNew hE (Nat.le_refl _) _
      have hoq : u10.ownBlock ≠ some w1.heap.size := fun e => by have h9 : w1.heap.size + 1 ≤ w1.heap.size := (hlq _ e).1; omega
      have htk : (ts.take i).length = i := by rw [List.length_take, HTL.out]; omega
      have hszl := (own_lo hO w1.heap.size rfl).2
      obtain ⟨T, hT2⟩ : ∃ T, T = ts.take i := ⟨_, rfl⟩
      rw [← hT2] at hQ2 HSN htk
      have hTl : T.length ≤ 25 := by omega

      clear hc5 hxx hnm hx hsn hfl hO hQ HBF hT2 htk
      go_upto_region 13 with fail
      obtain ⟨w4, hw4⟩ : ∃ z, z = w3.setCell ⟨w1.heap.size, m, none⟩ (.int .i64 (-1)) := ⟨_, rfl⟩
      rw [← hw4] at HO2 hQ2 E2
      rw [← hw4]
      have s4 : w4.heap.size = w3.heap.size := by rw [hw4]; simp
      have S4 := Lib.hid s4
      have hszl4 : w1.heap.size < w4.heap.size := by omega
      clear q1 hf q5 hb5 hw4 s4 hszl
      obtain ⟨b6, o6, e6, hb6, hc6, _⟩ := (HH1.out.ext E2).get (by omega)
      cases e6
      have q6 := hc6 i hlt2
      rw [← HTG.out i hlt2] at q6
      have q7 : w4.cell? ⟨b5, o5 + i * 2, none⟩ = some (.int .i64 (m : Int)) := by
       rw [q6]
       have h8 := HSN.out
       rw [take_snocD ts i 0 (by rw [HTL.out]; exact hlt2)] at h8
       have h9 := (List.append_inj' h8 rfl).2
       have h10 : ts.getD i 0 = (m : Int) := (List.cons.inj h9).1
       rw [h10]
      clear hc6 q6
      go_wp2_with (at_builtin; refine wpList_app tyInts (ownsRow_ext hQ2 (by (repeat (first | with_reducible assumption | with_reducible exact Ext.refl _ | with_reducible refine Ext.drew' ?_ | with_reducible refine Ext.drewN' ?_ _ | with_reducible refine Ext.alloc ?_ _ | (with_reducible refine Ext.setNew ?_ (by first | exact Nat.le_refl _ | (simp; done) | (simp; omega) | omega) _))))) (rowNew _ _ _ (by simp)) rfl (by simp [Value.oneCell']) (by omega) (by first | omega | (simp; done) | (simp; omega)) rfl rfl rfl rfl ?_; intro v9 w9 o9 g9 m9)
      have hQ9 : OwnInts w9 (w1.heap.size + 1) 3 v9 (T ++ [(m : Int)]) := own_app (xs := T) (ys := [(m : Int)]) rfl rfl o9
      have E9 : Ext w1 w9 := ext_grown (w1 := _) (Ext.trans E2 (by (repeat (first | with_reducible assumption | with_reducible exact Ext.refl _ | with_reducible refine Ext.drew' ?_ | with_reducible refine Ext.drewN' ?_ _ | with_reducible refine Ext.alloc ?_ _ | (with_reducible refine Ext.setNew ?_ (by first | exact Nat.le_refl _ | (simp; done) | (simp; omega) | omega) _))))) g9 (fun q hq => by have := (hlq q hq).1; omega)
      have hO9 : OwnInts w9 w1.heap.size 3 (.slice (some ⟨w1.heap.size, 0, none⟩) 25 25) (fr.set m (-1)) := ownsRow_gr (ownsRow_ext HO2.out (by (repeat (first | with_reducible assumption | with_reducible exact Ext.refl _ | with_reducible refine Ext.drew' ?_ | with_reducible refine Ext.drewN' ?_ _ | with_reducible refine Ext.alloc ?_ _ | (with_reducible refine Ext.setNew ?_ (by first | exact Nat.le_refl _ | (simp; done) | (simp; omega) | omega) _))))) g9 (.inr (fun e => hoq e.symm))
      go_roundw
      case rel => exact ⟨i + 1, _, by omega, by go_num, hO9, by rw [HSN.out]; exact hQ9, HB2, E9⟩
      case measure => simp [intOf]; omega
     ·have hi2 : i = hs.length := by omega
      have hnn : ¬ ((i : Int) < (hs.length : Int)) := by omega
      have htt : ts.take i = ts := List.take_of_length_le (by rw [HTL.out]; omega)
      rw [htt] at hQ
      have HB3 : Hid (Bfs ts fr ts) := Lib.hid (by have := HBF.out; rw [htt] at this; exact this)
      clear HBF htt hi2 HTL HTG HND HIN
      go_wp2_with fail
      go_loopw [10, 12] (fun u10 u12 wr => ∃ (k : Nat) (fr q : List Int), k ≤ q.length ∧ u12 = .int .i64 k ∧ OwnInts wr w1.heap.size 3 (.slice (some ⟨w1.heap.size, 0, none⟩) 25 25) fr ∧ OwnInts wr (w1.heap.size + 1) 3 u10 q ∧ Hid (Bfs ts fr q) ∧ Ext w1 wr) (fun _ v _ => 25 - (intOf v).toNat)
      case atStart => exact ⟨0, fr, ts, Nat.zero_le _, rfl, hO, hQ, HB3, hE⟩
      case round =>
       clear hO hQ HB3 hE hlt2 hnn hlt hki
       obtain ⟨k2, fr2, q, hkq, rfl, hO, hQ, HBF, hE⟩ := hrel
       obtain ⟨w4, rfl⟩ : ∃ z : World, z = wr := ⟨_, rfl⟩
       have hfl := HBF.out.len
       have hql := HBF.out.qlen
       have hs14 := (own_lo hO w1.heap.size rfl).2
       obtain ⟨qa, qc, rfl, hQA, _⟩ := hQ.opened
       have qs := own_cellI hO (i := sink) (by omega)
       have hski : (sink : Int) < 25 := by omega
       obtain ⟨fz, hfz⟩ : ∃ z, z = fr2.getD sink 0 := ⟨_, rfl⟩
       rw [← hfz] at qs
       have HFZ := Lib.hid hfz
       have hmemS := HBF.out.mem sink hsk
       rw [← hfz] at hmemS
       have HMS := Lib.hid hmemS
       clear hfz hmemS
       by_cases hgo : k2 < q.length ∧ fz = -2
       ·obtain ⟨hlt3, rfl⟩ := hgo
        have hlt3i : (k2 : Int) < (q.length : Int) := by omega
        obtain ⟨b5, o5, rfl, hb5, hc5⟩ := hQA.get (by omega)
        have q5 := hc5 k2 hlt3
        have hy := HBF.out.inF _ (getN_mem (d := (0 : Int)) hlt3)
        have hym : q.getD k2 0 ∈ q := getN_mem hlt3
        obtain ⟨yy, hyy⟩ : ∃ y, y = q.getD k2 0 := ⟨_, rfl⟩
        rw [← hyy] at q5 hy hym
        obtain ⟨y0, y1⟩ := hy
        have HYM := Lib.hid hym
        have HYY := Lib.hid hyy
        clear hc5 hyy hym
        go_wp2_with fail
        refine (l8Next_c yy w4 y0 y1).mono ?_
        rintro e w5 ⟨v5, xs, rfl, oX, hXF, hXl, hE5⟩
        obtain ⟨xa, xc, rfl, hXA, _⟩ := oX.opened
        have hxlo := own_lo oX
        have oX2 : OwnInts w5 w4.heap.size 3 (.slice xa xs.length xc) xs := oX
        have hO5 := ownsRow_ext hO hE5
        have hQ5 := ownsRow_ext hQ hE5
        have E5 := hE.trans hE5
        have s45 := hE5.size
        have hqlo := own_lo hQ
        have HXF := Lib.hid hXF
        clear hO hQ hE hE5 oX q5 qs hXA hXF
        go_wp2_with fail
        go_loopw [10, 14] (fun u10 u14 wr => ∃ (j : Nat) (fr q : List Int), j ≤ xs.length ∧ u14 = .int .i64 j ∧ OwnInts wr w1.heap.size 3 (.slice (some ⟨w1.heap.size, 0, none⟩) 25 25) fr ∧ OwnInts wr (w1.heap.size + 1) 3 u10 q ∧ OwnInts wr w4.heap.size 3 (.slice xa xs.length xc) xs ∧ (∀ g, u10.ownBlock = some g → g < w4.heap.size ∨ w5.heap.size ≤ g) ∧ Hid (Bfs ts fr q) ∧ Hid (∃ z, q = z) ∧ k2 < q.length ∧ Hid (q.getD k2 0 = yy) ∧ w5.heap.size ≤ wr.heap.size ∧ Ext w1 wr) (fun _ v _ => xs.length - (intOf v).toNat)
        case atStart => exact ⟨0, fr2, q, Nat.zero_le _, rfl, hO5, hQ5, oX2, fun g hg => .inl (hqlo g hg).2, HBF, Lib.hid ⟨_, rfl⟩, hlt3, Lib.hid HYY.out.symm, Nat.le_refl _, E5⟩
        case round =>
         clear hO5 hQ5 oX2 hqlo hfl hql hQA HBF HMS HFZ HYM HYY hlt3 hlt3i E5 hkq hb5
         obtain ⟨j, fr, q, hj, rfl, hO, hQ, oX, hown, HBF, _, hlt3, HY, h56, hE⟩ := hrel
         obtain ⟨w6, rfl⟩ : ∃ z : World, z = wr := ⟨_, rfl⟩
         have hfl := HBF.out.len
         have hql := HBF.out.qlen
         have hszl := (own_lo hO w1.heap.size rfl).2
         by_cases hlt4 : j < xs.length
         ·have hx := HXF.out _ (getN_mem (d := (0 : Int)) hlt4)
          obtain ⟨gx, rfl, hgx0, hgx1⟩ := ownsRow_block oX (by omega)
          have qx := own_cellI oX hlt4
          obtain ⟨x, hxx⟩ : ∃ x, x = xs.getD j 0 := ⟨_, rfl⟩
          rw [← hxx] at qx hx
          obtain ⟨m, rfl⟩ : ∃ m : Nat, x = (m : Int) := ⟨x.toNat, by omega⟩
          have hm25 : m < 25 := by omega
          have hmi : (m : Int) < 25 := by omega
          have q1 := own_cellI hO (i := m) (by omega)
          have hf := own_frI hO
          have hlt4i : (j : Int) < (xs.length : Int) := by omega
          obtain ⟨z, hz⟩ : ∃ z, z = fr.getD m 0 := ⟨_, rfl⟩
          rw [← hz] at q1
          have HZ := Lib.hid hz
          obtain ⟨b7, o7, rfl, hb7, hc7⟩ := (HB1.out.ext hE).get (by rw [HBL.out]; omega)
          have q7 := hc7 m (by rw [HBL.out]; exact hm25)
          obtain ⟨bz, hbz⟩ : ∃ b, b = busy.getD m false := ⟨_, rfl⟩
          rw [← hbz] at q7
          have HXX := Lib.hid hxx
          clear hxx hz hc7 hbz hx
          by_cases hg : z = -2 ∧ bz = false
          ·obtain ⟨rfl, rfl⟩ := hg
           have hym : yy ∈ q := by rw [← HY.out]; exact getN_mem hlt3
           have HB2 : Hid (Bfs ts (fr.set m yy) (q ++ [(m : Int)])) := Lib.hid (HBF.out.grow hm25 HZ.out.symm hym)
           have hB2l := HB2.out.qlen
           have HO2 := Lib.hid (own_set hO (i := m) (by omega) yy)
           have hlq := own_lo hQ
           have hQ2 : OwnInts (w6.setCell ⟨w1.heap.size, m, none⟩ (.int .i64 yy)) (w1.heap.size + 1) 3 u10 q := ownsRow_set hQ (fun e => by have h9 : w1.heap.size + 1 ≤ w1.heap.size := (hlq _ e).1; omega) _
           have oX2 : OwnInts (w6.setCell ⟨w1.heap.size, m, none⟩ (.int .i64 yy)) w4.heap.size 3 (.slice (some ⟨gx, 0, none⟩) xs.length xc) xs := ownsRow_set oX (fun e => by have h9 : gx = w1.heap.size := Option.some.inj e; omega) _
           have E2 : Ext w1 (w6.setCell ⟨w1.heap.size, m, none⟩ (.int .i64 yy)) := Ext.setNew hE (Nat.le_refl _) _
           have hoq : u10.ownBlock ≠ some w1.heap.size := fun e => by have h9 : w1.heap.size + 1 ≤ w1.heap.size := (hlq _ e).1; omega
           have HQY : Hid (k2 < (q ++ [(m : Int)]).length ∧ (q ++ [(m : Int)]).getD k2 0 = yy) := Lib.hid ⟨by rw [List.length_append]; omega, by
            rw [← HY.out, List.getD_eq_getElem?_getD, List.getElem?_append_left hlt3, List.getD_eq_getElem?_getD]⟩
           obtain ⟨qa2, qc2, rfl, hQA2, _⟩ := hQ.opened
           obtain ⟨b8, o8, rfl, hb8, hc8⟩ := hQA2.get (by omega)
           have q8 := hc8 k2 hlt3
           rw [HY.out] at q8
           clear hc8 hym hO hQ
           go_upto_region 22 with fail
           (refine wp_regionT ((fun w' => (∀ b o, b < w6.heap.size → w'.cell? ⟨b, o, none⟩ = w6.cell? ⟨b, o, none⟩) ∧ Ext w6 w')) 10 (by kernel_rfl) ?_; have hS0 := held_mk (Ext.drew w6))
           ((refine tkT 0 (v := ?_) rfl (by kernel_rfl) (by kernel_rfl) ?_ (by assumption) ?_; rotate_left; (intro wS hSw; (try dsimp only at hSw); go_simp; (try with_reducible rfl)); (try simp only [Act.put, lA, lB, lC])); (refine tkT 1 (v := ?_) rfl (by kernel_rfl) (by kernel_rfl) ?_ (by assumption) ?_; rotate_left; (intro wS hSw; (try dsimp only at hSw); go_simp; (try with_reducible rfl)); (try simp only [Act.put, lA, lB, lC])); (refine tkT 2 (v := ?_) rfl (by kernel_rfl) (by kernel_rfl) ?_ (by assumption) ?_; rotate_left; (intro wS hSw; (try dsimp only at hSw); go_simp; (try with_reducible rfl)); (try simp only [Act.put, lA, lB, lC])); (refine tkT 3 (v := ?_) rfl (by kernel_rfl) (by kernel_rfl) ?_ (by assumption) ?_; rotate_left; (intro wS hSw; (try dsimp only at hSw); go_simp; (try with_reducible rfl)); (try simp only [Act.put, lA, lB, lC])); (refine tkT 4 (v := ?_) rfl (by kernel_rfl) (by kernel_rfl) ?_ (by assumption) ?_; rotate_left; (intro wS hSw; (try dsimp only at hSw); go_simp; (try with_reducible rfl)); (try simp only [Act.put, lA, lB, lC])); (refine tkT 5 (v := ?_) rfl (by kernel_rfl) (by kernel_rfl) ?_ (by assumption) ?_; rotate_left; (intro wS hSw; (try dsimp only at hSw); go_simp; (try with_reducible rfl)); (try simp only [Act.put, lA, lB, lC])); (refine tkT 6 (v := ?_) rfl (by kernel_rfl) (by kernel_rfl) ?_ (by assumption) ?_; rotate_left; (intro wS hSw; (try dsimp only at hSw); go_simp; (try with_reducible rfl)); (try simp only [Act.put, lA, lB, lC])); (refine tkT 7 (v := ?_) rfl (by kernel_rfl) (by kernel_rfl) ?_ (by assumption) ?_; rotate_left; (intro wS hSw; (try dsimp only at hSw); go_simp; (try with_reducible rfl)); (try simp only [Act.put, lA, lB, lC])); (refine tkT 8 (v := ?_) rfl (by kernel_rfl) (by kernel_rfl) ?_ (by assumption) ?_; rotate_left; (intro wS hSw; (try dsimp only at hSw); go_simp; (try with_reducible rfl)); (try simp only [Act.put, lA, lB, lC])); (refine tkT 9 (v := ?_) rfl (by kernel_rfl) (by kernel_rfl) ?_ (by assumption) ?_; rotate_left; (intro wS hSw; (try dsimp only at hSw); go_simp; (try with_reducible rfl)); (try simp only [Act.put, lA, lB, lC])))
           (refine wpAnyT_last 10 (by kernel_rfl) rfl (by decide) (by kernel_rfl) (fun K hK => ?_))
           go_simp
           (refine hK _ _ ?_; clear hK K; (try simp only [Act.put, lA, lB, lC]))
           obtain ⟨w7, hw7⟩ : ∃ z, z = (w6.setCell ⟨w1.heap.size, m, none⟩ (.int .i64 yy)).drew := ⟨_, rfl⟩
           have ED := Ext.drew (w6.setCell ⟨w1.heap.size, m, none⟩ (.int .i64 yy))
           have HO3 := Lib.hid (ownsRow_ext HO2.out ED)
           have hQ3 := ownsRow_ext hQ2 ED
           have oX3 := ownsRow_ext oX2 ED
           have E3 := E2.trans ED
           have s7 : w7.heap.size = w6.heap.size := by rw [hw7]; simp
           rw [← hw7] at HO3 hQ3 oX3 E3
           rw [← hw7]
           have qx7 := own_cellI oX3 hlt4
           rw [← HXX.out] at qx7
           have hx7 := (own_lo oX3 gx rfl).2
           have hz7 : w5.heap.size ≤ w7.heap.size ∧ w1.heap.size + 1 ≤ w7.heap.size := by omega
           obtain ⟨hz5, hz1⟩ := hz7
           clear hw7 ED HO2 hQ2 oX2 E2 hS0 q8 hb8 qx q1 hf q7 hb7 hgx1 hszl s7 hQA2
           go_wp2_with (at_builtin; refine wpList_app tyInts (ownsRow_ext hQ3 (by (repeat (first | with_reducible assumption | with_reducible exact Ext.refl _ | with_reducible refine Ext.drew' ?_ | with_reducible refine Ext.drewN' ?_ _ | with_reducible refine Ext.alloc ?_ _ | (with_reducible refine Ext.setNew ?_ (by first | exact Nat.le_refl _ | (simp; done) | (simp; omega) | omega) _))))) (rowNew _ _ _ (by simp)) rfl (by simp [Value.oneCell']) (by omega) (by first | omega | (simp; done) | (simp; omega)) rfl rfl rfl rfl ?_; intro v9 w9 o9 g9 m9)
           have hQ9 : OwnInts w9 (w1.heap.size + 1) 3 v9 (q ++ [(m : Int)]) := own_app (xs := q) (ys := [(m : Int)]) rfl rfl o9
           have E9 : Ext w1 w9 := ext_grown (w1 := _) (Ext.trans E3 (by (repeat (first | with_reducible assumption | with_reducible exact Ext.refl _ | with_reducible refine Ext.drew' ?_ | with_reducible refine Ext.drewN' ?_ _ | with_reducible refine Ext.alloc ?_ _ | (with_reducible refine Ext.setNew ?_ (by first | exact Nat.le_refl _ | (simp; done) | (simp; omega) | omega) _))))) g9 (fun q hq => by have := (hlq q hq).1; omega)
           have hO9 : OwnInts w9 w1.heap.size 3 (.slice (some ⟨w1.heap.size, 0, none⟩) 25 25) (fr.set m yy) := ownsRow_gr (ownsRow_ext HO3.out (by (repeat (first | with_reducible assumption | with_reducible exact Ext.refl _ | with_reducible refine Ext.drew' ?_ | with_reducible refine Ext.drewN' ?_ _ | with_reducible refine Ext.alloc ?_ _ | (with_reducible refine Ext.setNew ?_ (by first | exact Nat.le_refl _ | (simp; done) | (simp; omega) | omega) _))))) g9 (.inr (fun e => hoq e.symm))
           have oX9 : OwnInts w9 w4.heap.size 3 (.slice (some ⟨gx, 0, none⟩) xs.length xc) xs := ownsRow_gr (ownsRow_ext oX3 (by (repeat (first | with_reducible assumption | with_reducible exact Ext.refl _ | with_reducible refine Ext.drew' ?_ | with_reducible refine Ext.drewN' ?_ _ | with_reducible refine Ext.alloc ?_ _ | (with_reducible refine Ext.setNew ?_ (by first | exact Nat.le_refl _ | (simp; done) | (simp; omega) | omega) _))))) g9 (.inr (fun e => by
            have h9 := (hxlo gx rfl).2
            rcases hown gx e.symm with h | h
            ·omega
            ·omega))
           have hown9 : ∀ g, v9.ownBlock = some g → g < w4.heap.size ∨ w5.heap.size ≤ g := fun g hg => by
            rcases m9 with e | ⟨r, e, hr⟩
            ·exact hown g (e.symm.trans hg)
            ·rw [e] at hg
             cases hg
             simp at hr
             omega
           go_roundw
           case rel => exact ⟨j + 1, _, _, by omega, by go_num, hO9, hQ9, oX9, hown9, HB2, Lib.hid ⟨_, rfl⟩, HQY.out.1, Lib.hid HQY.out.2, by have h79 := g9.size; simp at h79; omega, E9⟩
           case measure => simp [intOf]; omega
          ·have hres : (z == -2) = false ∨ (z = -2 ∧ bz = true) := by
            by_cases h1 : z = -2
            ·right
             refine ⟨h1, ?_⟩
             cases bz
             ·exact absurd ⟨h1, rfl⟩ hg
             ·rfl
            ·left; simp [h1]
           clear hg
           rcases hres with hz2 | ⟨rfl, rfl⟩
           all_goals
            go_wp2_with fail
            go_roundw
            case rel => exact ⟨j + 1, fr, q, by omega, by go_num, hO, hQ, oX, hown, HBF, Lib.hid ⟨_, rfl⟩, hlt3, HY, h56, hE⟩
            case measure => simp [intOf]; omega
         ·have hj2 : ¬ ((j : Int) < (xs.length : Int)) := by omega
          go_wp2_with fail
          go_roundw
          case rel => exact ⟨k2 + 1, fr, q, by omega, by go_num, hO, hQ, HBF, hE⟩
          case measure => simp [intOf]; omega
       ·have hcase : (fz = -2 ∧ ¬ k2 < q.length) ∨ (fz ≠ -2 ∧ k2 < q.length) ∨ (fz ≠ -2 ∧ ¬ k2 < q.length) := by
         by_cases h1 : fz = -2
         ·exact .inl ⟨h1, fun h2 => hgo ⟨h2, h1⟩⟩
         ·by_cases h2 : k2 < q.length
          ·exact .inr (.inl ⟨h1, h2⟩)
          ·exact .inr (.inr ⟨h1, h2⟩)
        clear hgo
        rcases hcase with ⟨rfl, hlt3⟩ | hcase
        ·have hlt3i : ¬ ((k2 : Int) < (q.length : Int)) := by omega
         go_wp2_with fail
         refine bodyPost_ret (v := .tuple #[_, _]) (by simp [results, Try.results158, go_sem]; exact ⟨rfl, rfl⟩) rfl ?_
         exact ⟨_, false, hs, rfl, .inl ⟨rfl, rfl⟩, fun h => (by cases h), hE1.trans hE⟩
        ·have hfz : fz ≠ -2 := by rcases hcase with ⟨h, _⟩ | ⟨h, _⟩ <;> exact h
         have hsq := HMS.out.2 hfz
         have hfz2 : (fz == -2) = false := by simp [hfz]
         have HSQ := Lib.hid hsq
         have OP0 : OwnH (w4.alloc (.cells #[] 189)) w4.heap.size (.slice (some ⟨w4.heap.size, 0, none⟩) 0 0) [] := (Blk.at w4 [] 189 rfl).owns (n := 0) (size := 2) rfl (Nat.le_refl _) (by decide)
         have EP0 := (Ext.refl w4).alloc (.cells #[] 189)
         clear hsq hfz HMS
         rcases hcase with ⟨_, hlt3⟩ | ⟨_, hlt3⟩
         all_goals
          have hlt3i := Int.ofNat_lt (n := k2) (m := q.length)
          have hd3 : decide ((k2 : Int) < (q.length : Int)) = decide (k2 < q.length) := by simp
          clear hlt3i hd3
          go_wp2_with fail
          go_loopw [15, 16] (fun u15 u16 wr => ∃ (t : Nat) (ps : List HopT), t < 25 ∧ u16 = .int .i64 t ∧ OwnH wr w4.heap.size u15 ps ∧ Hid ((t : Int) ∈ q ∧ PathTo ts q t ps) ∧ Ext w4 wr) (fun _ v _ => q.idxOf (intOf v))
          case atStart => exact ⟨sink, [], hsk, rfl, OP0, Lib.hid ⟨HSQ.out, PathTo.nil⟩, EP0⟩
          case round =>
           clear OP0 EP0 qs hlt3
           obtain ⟨t, ps, ht25, rfl, hP, HPT, hEp⟩ := hrel
           obtain ⟨w5, rfl⟩ : ∃ z : World, z = wr := ⟨_, rfl⟩
           have hO5 := ownsRow_ext hO hEp
           have q1 := own_cellI hO5 (i := t) (by omega)
           have hti : (t : Int) < 25 := by omega
           obtain ⟨f, hf⟩ : ∃ f, f = fr2.getD t 0 := ⟨_, rfl⟩
           rw [← hf] at q1
           have HF := Lib.hid hf
           have hpl := HPT.out.2.len HBF.out.inF
           obtain ⟨pa, pc, rfl, hPA, hp5, hp6⟩ := hP.sl
           clear hf
           by_cases h0 : 0 ≤ f
           ·obtain ⟨n1, n2, n3⟩ := PathTo.cons HBF.out HPT.out.2 ht25 HPT.out.1 (by rw [← HF.out]; exact h0)
            rw [← HF.out] at n1 n2 n3
            have hfin := HBF.out.inF f n2
            obtain ⟨m, rfl⟩ : ∃ m : Nat, f = (m : Int) := ⟨f.toNat, by omega⟩
            have HN := Lib.hid (And.intro n2 n1)
            have HN3 := Lib.hid n3
            have OB := (Blk.at w5 [.int .i64 (t : Int), .int .i64 (m : Int)] 189 rfl).owns (base := w5.heap.size) (size := 2) (n := 1) rfl (Nat.le_refl _) (by decide)
            have hrow := hPA.row.ext ((Ext.refl w5).alloc (.cells #[.int .i64 (t : Int), .int .i64 (m : Int)] 189))
            clear n1 n2 n3 hPA
            go_wp2_with (at_builtin; refine wpList_app tyHops OB hrow (flat_length ps) (oneCell_flat ps) (by omega) (by first | omega | (simp; done) | (simp; omega)) rfl rfl rfl rfl ?_; intro v9 w9 o9 g9 m9; have E59 : Ext w5 w9 := ext_grown ((Ext.refl w5).alloc _) g9 (fun q hq => by cases hq; exact Nat.le_refl _); have q9 := own_cellI (ownsRow_ext hO5 E59) (i := t) (by omega); rw [← HF.out] at q9)
            have O9 : OwnH w9 w4.heap.size v9 (((t : Int), (m : Int)) :: ps) := (ownH_app (xs := [((t : Int), (m : Int))]) (ys := ps) rfl rfl o9).le hEp.size
            go_roundw
            case rel => exact ⟨m, _, by omega, rfl, O9, HN, hEp.trans E59⟩
            case measure => first | exact HN3.out | (simpa [intOf] using HN3.out)
           ·have OD := (Blk.at w5 [] 189 rfl).owns (base := w5.heap.size) (size := 2) (n := 0) rfl (Nat.le_refl _) (by decide)
            have hh5 := ((HH1.out.ext (hE.trans hEp)).row).ext ((Ext.refl w5).alloc (.cells #[] 189))
            have hTR : Tree (hs ++ ps) s := HT.out.app HBF.out.inF (t := (t : Int)) (by rw [← HTS.out]; exact HPT.out.2)
            have HTR := Lib.hid hTR
            clear hTR
            go_wp2_with (first
             | (at_builtin; refine wpList_app tyHops OD hh5 (flat_length hs) (oneCell_flat hs) (by omega) (by first | omega | (simp; done) | (simp; omega)) rfl rfl rfl rfl ?_; intro v9 w9 o9 g9 m9; have E59 : Ext w5 w9 := ext_grown ((Ext.refl w5).alloc _) g9 (fun q hq => by cases hq; exact Nat.le_refl _); have hs59 := E59.size)
             | (at_builtin; refine wpList_app tyHops o9 (hPA.ext E59).row (flat_length ps) (oneCell_flat ps) (by omega) (by first | omega | (simp; done) | (simp; omega)) rfl rfl rfl rfl ?_; intro v10 w10 o10 g10 m10))
            have O9 : OwnH w9 w5.heap.size v9 hs := ownH_app (xs := []) (ys := hs) rfl rfl o9
            have E10 : Ext w5 w10 := ext_grown E59 g10 (fun q hq => (O9.lo q hq).1)
            have O10 : OwnH w10 w.heap.size v10 (hs ++ ps) := (ownH_app (xs := hs) (ys := ps) (Nat.zero_add _) rfl (by simpa using o10)).le (((hE1.trans hE).trans hEp).size)
            refine bodyPost_ret (v := .tuple #[_, _]) (by simp [results, Try.results158, go_sem]; exact ⟨rfl, rfl⟩) rfl ?_
            exact ⟨_, true, _, rfl, .inr O10, fun _ => HTR.out, ((hE1.trans hE).trans hEp).trans E10⟩
 ·go_wp2_with fail
  refine bodyPost_ret (v := .tuple #[_, _]) (by simp [results, Try.results158, go_sem]; exact ⟨rfl, rfl⟩) rfl ?_
  exact ⟨_, true, hs, rfl, .inl ⟨rfl, rfl⟩, fun _ => HT.out, hE1⟩
end Go.Proofs.Ytgialedmbmfejaa

--@from BCut BBest BLut BCel BSnk
namespace Go.Proofs.Ytgialedmbmfejaa
open Go.RowKit
set_option maxRecDepth 100000
set_option linter.unusedVariables false
set_option linter.unusedSimpArgs false
def TreePost (w : World) (s : Int) (e : Ending) (w' : World) : Prop :=
 ∃ v ok hs, e = .returned (.tuple #[v, .bool ok]) ∧ OwnH w' w.heap.size v hs ∧ (ok = true → Tree hs s) ∧ Ext w w'
set_option maxHeartbeats 8000000 in
theorem l8Tree_c (pa : Option Addr) (pc : Nat) (ps : List Int) (ba : Option Addr) (bc : Nat) (busy : List Bool) (w : World) (hp : IntsAt w pa ps) (h0 : 0 < ps.length) (hF : InF ps) (hl : ps.length ≤ 1000) (hb : BoolsAt w ba busy) (hbl : busy.length = 25) :
  Calls Try.prog 151 #[.slice pa ps.length pc, .slice ba 25 bc] w (TreePost w (ps.getD 0 0)) := by
 have HF := Lib.hid hF
 have HBL := Lib.hid hbl
 have HP := Lib.hid hp
 have HB := Lib.hid hb
 obtain ⟨b5, o5, rfl, hb5, hc5⟩ := hp.get h0
 have q5 := hc5 0 h0
 rw [Nat.add_zero] at q5
 have hs := hF _ (getN_mem (d := (0 : Int)) h0)
 obtain ⟨s, hss⟩ : ∃ s, s = ps.getD 0 0 := ⟨_, rfl⟩
 rw [← hss] at q5 hs ⊢
 obtain ⟨m, rfl⟩ : ∃ m : Nat, s = (m : Int) := ⟨s.toNat, by omega⟩
 have hm25 : m < 25 := by omega
 have hmi : (m : Int) < 25 := by omega
 have h0i : (0 : Int) < (ps.length : Int) := by omega
 obtain ⟨b6, o6, rfl, hb6, hc6⟩ := hb.get (by omega)
 have q6 := hc6 m (by omega)
 obtain ⟨bz, hbz⟩ : ∃ b, b = busy.getD m false := ⟨_, rfl⟩
 rw [← hbz] at q6
 have HT1 : Hid (Tree [((m : Int), -1)] (m : Int)) := Lib.hid (Tree.one (by omega))
 clear hc5 hc6 hbz hp hb hF hss hbl hs
 go_enter Try.func151, Try.ntmps151
 cases bz
 ·have OH0 : OwnH (w.alloc (.cells #[.int .i64 (m : Int), .int .i64 (-1)] 189)) w.heap.size (.slice (some ⟨w.heap.size, 0, none⟩) 1 1) [((m : Int), -1)] := (Blk.at w [.int .i64 (m : Int), .int .i64 (-1)] 189 rfl).owns (n := 1) (size := 2) rfl (Nat.le_refl _) (by decide)
  have E0 := (Ext.refl w).alloc (.cells #[.int .i64 (m : Int), .int .i64 (-1)] 189)
  go_wp2_with fail
  go_loopw [6, 7] (fun u6 u7 wr => ∃ (i : Nat) (hs : List HopT), 1 ≤ i ∧ i ≤ ps.length ∧ u7 = .int .i64 i ∧ OwnH wr w.heap.size u6 hs ∧ Hid (Tree hs (m : Int)) ∧ Ext w wr) (fun _ v _ => ps.length - (intOf v).toNat)
  case atStart => exact ⟨1, _, Nat.le_refl _, h0, rfl, OH0, HT1, E0⟩
  case round =>
   clear OH0 HT1 E0 q5 q6
   obtain ⟨i, hs, hi1, hi, rfl, hO, HT, hE⟩ := hrel
   obtain ⟨w2, rfl⟩ : ∃ z : World, z = wr := ⟨_, rfl⟩
   by_cases hlt : i < ps.length
   ·obtain ⟨b7, o7, e7, hb7, hc7⟩ := (HP.out.ext hE).get h0
    cases e7
    have q7 := hc7 i hlt
    have hx := HF.out _ (getN_mem (d := (0 : Int)) hlt)
    obtain ⟨x, hxx⟩ : ∃ x, x = ps.getD i 0 := ⟨_, rfl⟩
    rw [← hxx] at q7 hx
    obtain ⟨t, rfl⟩ : ∃ t : Nat, x = (t : Int) := ⟨x.toNat, by omega⟩
    obtain ⟨ha, hcp, rfl, hPA, _, _⟩ := hO.sl
    have hcall := l8Path_c ha hcp hs (m : Int) t (some ⟨b6, o6, none⟩) bc busy w2 hPA HT.out (by omega) (HB.out.ext hE) HBL.out
    have hlti : (i : Int) < (ps.length : Int) := by omega
    clear hc7 hxx hPA hx
    go_wp2_with fail
    refine hcall.mono ?_
    rintro e w3 ⟨v, ok, hs2, rfl, hcs, hok, hE3⟩
    have HOK := Lib.hid hok
    have E3 := hE.trans hE3
    have hO3 : OwnH w3 w.heap.size v hs2 := by
     rcases hcs with ⟨rfl, rfl⟩ | h
     ·exact hO.ext hE3
     ·exact h.le hE.size
    clear hcall hok hcs q7
    cases ok
    ·have O5 : OwnH (w3.alloc (.cells #[] 189)) w3.heap.size (.slice (some ⟨w3.heap.size, 0, none⟩) 0 0) [] := (Blk.at w3 [] 189 rfl).owns (n := 0) (size := 2) rfl (Nat.le_refl _) (by decide)
     have E5 := E3.alloc (.cells #[] 189)
     go_wp2_with fail
     refine bodyPost_ret (v := .tuple #[_, _]) (by simp [results, Try.results151, go_sem]; exact ⟨rfl, rfl⟩) rfl ?_
     exact ⟨_, false, [], rfl, O5.le E3.size, fun h => (by cases h), E5⟩
    ·go_wp2_with fail
     go_roundw
     case rel => exact ⟨i + 1, hs2, by omega, by omega, by go_num, hO3, Lib.hid (HOK.out (by first | rfl | trivial)), E3⟩
     case measure => simp [intOf]; omega
   ·have hlti : ¬ ((i : Int) < (ps.length : Int)) := by omega
    go_wp2_with fail
    refine bodyPost_ret (v := .tuple #[_, _]) (by simp [results, Try.results151, go_sem]; exact ⟨rfl, rfl⟩) rfl ?_
    exact ⟨_, true, hs, rfl, hO, fun _ => HT.out, hE⟩
 ·have O5 : OwnH (w.alloc (.cells #[] 189)) w.heap.size (.slice (some ⟨w.heap.size, 0, none⟩) 0 0) [] := (Blk.at w [] 189 rfl).owns (n := 0) (size := 2) rfl (Nat.le_refl _) (by decide)
  have E5 := (Ext.refl w).alloc (.cells #[] 189)
  go_wp2_with fail
  refine bodyPost_ret (v := .tuple #[_, _]) (by simp [results, Try.results151, go_sem]; exact ⟨rfl, rfl⟩) rfl ?_
  exact ⟨_, false, [], rfl, O5, fun h => (by cases h), E5⟩
/-! ### Rows of truth values that a call owns -/
def PBl : OwnP (List Bool) := fun w cs xs F => ∃ v, cs = [v] ∧ OwnB w 0 v xs ∧ F = fp v
theorem goodBl : GoodP PBl 1 where
 len := by rintro w cs x F ⟨v, rfl, _⟩; rfl
 lt := by rintro w cs x F ⟨v, rfl, h, rfl⟩ g hg; exact (fp_lt h g hg).2
 keep := by rintro w w' cs x F ⟨v, rfl, h, rfl⟩ hk; exact ⟨v, rfl, ownsRow_keep h (fun g hg => hk g (mem_fp.2 hg)), rfl⟩
 one := by
  rintro w cs x F ⟨v, rfl, h, rfl⟩ u hu
  obtain ⟨a, c, rfl, _⟩ := h.len
  simp at hu; subst hu; rfl
abbrev NstB (w : World) (v : Value) (xs : List (List Bool)) (F : List Nat) : Prop := Nst PBl 65 1 w v xs F
structure RouteT where
 net : Int
 track : Int
 hops : List HopT
def route0 : RouteT := ⟨0, 0, []⟩
def PRoute : OwnP RouteT := fun w cs r F => ∃ v, cs = [.int .i64 r.net, .int .i64 r.track, v] ∧ OwnH w 0 v r.hops ∧ F = fp v
theorem goodRoute : GoodP PRoute 3 where
 len := by rintro w cs x F ⟨v, rfl, _⟩; rfl
 lt := by rintro w cs x F ⟨v, rfl, h, rfl⟩ g hg; exact (fp_lt h g hg).2
 keep := by rintro w w' cs x F ⟨v, rfl, h, rfl⟩ hk; exact ⟨v, rfl, ownsRow_keep h (fun g hg => hk g (mem_fp.2 hg)), rfl⟩
 one := by
  rintro w cs x F ⟨v, rfl, h, rfl⟩ u hu
  obtain ⟨a, c, rfl, _⟩ := h.sl
  simp at hu
  rcases hu with rfl | rfl | rfl <;> rfl
abbrev NstR (w : World) (v : Value) (xs : List RouteT) (F : List Nat) : Prop := Nst PRoute 185 3 w v xs F
theorem tyRoutes : RowTy Try.prog 172 185 3 40 := RowTy.mk' (z := .agg #[.int .i64 0, .int .i64 0, .slice none 0 0]) Try.underlying172 (by kernel_rfl) rfl (by decide) (by decide)
def NetPost (w : World) (net s : Int) (e : Ending) (w' : World) : Prop :=
 ∃ (n t : Int) (v : Value) (ok : Bool) (hs : List HopT), e = .returned (.tuple #[.agg #[.int .i64 n, .int .i64 t, v], .bool ok]) ∧ OwnH w' w.heap.size v hs ∧ (ok = true → n = net ∧ (0 ≤ t ∧ t < 8) ∧ Tree hs s) ∧ Ext w w'
set_option maxHeartbeats 8000000 in
theorem l8Net_c (net : Int) (pa : Option Addr) (pc : Nat) (ps : List Int) (ba : Option Addr) (bc : Nat) (busy : List (List Bool)) (F : List Nat) (w : World) (hp : IntsAt w pa ps) (h0 : 0 < ps.length) (hF : InF ps) (hl : ps.length ≤ 1000) (hb : NstB w (.slice ba 8 bc) busy F) (hbl : busy.length = 8) (hbr : ∀ x ∈ busy, x.length = 25) :
  Calls Try.prog 147 #[.int .i64 net, .slice pa ps.length pc, .slice ba 8 bc] w (NetPost w net (ps.getD 0 0)) := by
 have HF := Lib.hid hF
 have HBL := Lib.hid hbl
 have HBR := Lib.hid hbr
 have HP := Lib.hid hp
 have HB := Lib.hid hb
 obtain ⟨s, hss⟩ : ∃ s, s = ps.getD 0 0 := ⟨_, rfl⟩
 rw [← hss]
 have HS := Lib.hid hss
 have R0 := Blk.at w [.int .i64 0, .int .i64 0, .slice none 0 0] 185 rfl
 have E0 := (Ext.refl w).alloc (.cells #[.int .i64 0, .int .i64 0, .slice none 0 0] 185)
 clear hp hb hF hss hbl hbr
 go_enter Try.func147, Try.ntmps147
 go_wp2_with fail
 go_loopw [8] (fun u8 wr => ∃ t : Nat, t ≤ 8 ∧ u8 = .int .i64 t ∧ Blk wr w.heap.size 185 [.int .i64 0, .int .i64 0, .slice none 0 0] ∧ Ext w wr) (fun v _ => 8 - (intOf v).toNat)
 case atStart => exact ⟨0, Nat.zero_le _, rfl, R0, E0⟩
 case round =>
  clear R0 E0
  obtain ⟨t, ht, rfl, hR, hE⟩ := hrel
  obtain ⟨w2, rfl⟩ : ∃ z : World, z = wr := ⟨_, rfl⟩
  by_cases hlt : t < 8
  ·have hti : (t : Int) < 8 := by omega
   obtain ⟨g, rfl, hg, _, hcells⟩ := Nst.getN goodBl (HB.out.ext goodBl hE) (by rw [HBL.out]; omega)
   obtain ⟨ds, F1, ⟨v, rfl, o1, rfl⟩, q, _⟩ := hcells t [] (by rw [HBL.out]; exact hlt)
   have r0 := q 0 _ (by omega) rfl
   rw [Nat.mul_one, Nat.add_zero] at r0
   have hrl := HBR.out _ (getN_mem (d := ([] : List Bool)) (show t < busy.length by rw [HBL.out]; exact hlt))
   obtain ⟨row, hrow⟩ : ∃ r, r = busy.getD t [] := ⟨_, rfl⟩
   rw [← hrow] at o1 hrl
   obtain ⟨ra, rc, rfl, hRA⟩ := o1.opened
   rw [hrl] at r0
   have hcall := l8Tree_c pa pc ps ra rc row w2 (HP.out.ext hE) h0 HF.out hl hRA hrl
   rw [← HS.out] at hcall
   clear hrow hrl q hcells o1 hRA
   go_wp2_with fail
   refine hcall.mono ?_
   rintro e w3 ⟨v3, ok, hs, rfl, hO3, hok, hE3⟩
   have hR3 := hR.ext hE3
   have E3 := hE.trans hE3
   have HOK := Lib.hid hok
   have hlo := hO3.lo
   obtain ⟨va, vc, hv3, _, _, _⟩ := hO3.sl
   subst hv3
   have hs2 := hE.size
   have hbl := hR.lt
   clear hcall hok hR r0
   cases ok
   ·go_wp2_with fail
    go_roundw
    case rel => exact ⟨t + 1, by omega, by go_num, hR3, E3⟩
    case measure => simp [intOf]; omega
   ·have x0 := hR3.cell (i := 0) rfl
    have x1 := hR3.cell (i := 1) rfl
    have x2 := hR3.cell (i := 2) rfl
    have xf := fun i => hR3.frozen i
    have xl := hR3.lt
    have hR4 := ((hR3.set 0 (.int .i64 net)).set 1 (.int .i64 (t : Int))).set 2 (.slice va hs.length vc)
    have y0 := hR4.cell (i := 0) rfl
    have y1 := hR4.cell (i := 1) rfl
    have y2 := hR4.cell (i := 2) rfl
    have hne : (Value.slice va hs.length vc).ownBlock ≠ some w.heap.size := fun e => by have := (hlo _ e).1; omega
    have HO4 := Lib.hid (ownsRow_set (ownsRow_set (ownsRow_set hO3 (p := ⟨w.heap.size, 0, none⟩) hne (.int .i64 net)) (p := ⟨w.heap.size, 1, none⟩) hne (.int .i64 (t : Int))) (p := ⟨w.heap.size, 2, none⟩) hne (.slice va hs.length vc))
    clear hR3 hR4 hO3 hlo
    go_wp2_with fail
    refine bodyPost_ret (v := .tuple #[.agg #[.int .i64 net, .int .i64 (t : Int), .slice va hs.length vc], .bool true]) (by simp [results, Try.results147, go_sem, y0, y1, y2]) rfl ?_
    exact ⟨net, t, .slice va hs.length vc, true, hs, rfl, OwnH.le HO4.out hs2, fun _ => ⟨rfl, by omega, HOK.out (by first | rfl | trivial)⟩, Ext.setNew (Ext.setNew (Ext.setNew E3 (Nat.le_refl _) _) (Nat.le_refl _) _) (Nat.le_refl _) _⟩
  ·have hti : ¬ ((t : Int) < 8) := by omega
   have x0 := hR.cell (i := 0) rfl
   have x1 := hR.cell (i := 1) rfl
   have x2 := hR.cell (i := 2) rfl
   have xf := fun i => hR.frozen i
   have xl := hR.lt
   have hR4 := ((hR.set 0 (.int .i64 0)).set 1 (.int .i64 0)).set 2 (.slice none 0 0)
   have y0 := hR4.cell (i := 0) rfl
   have y1 := hR4.cell (i := 1) rfl
   have y2 := hR4.cell (i := 2) rfl
   clear hR hR4
   go_wp2_with fail
   refine bodyPost_ret (v := .tuple #[.agg #[.int .i64 0, .int .i64 0, .slice none 0 0], .bool false]) (by simp [results, Try.results147, go_sem, y0, y1, y2]) rfl ?_
   exact ⟨0, 0, _, false, [], rfl, ownsRow_nil, fun h => (by cases h), Ext.setNew (Ext.setNew (Ext.setNew hE (Nat.le_refl _) _) (Nat.le_refl _) _) (Nat.le_refl _) _⟩
end Go.Proofs.Ytgialedmbmfejaa

--@from BCut BBest BLut BCel BSnk
namespace Go.Proofs.Ytgialedmbmfejaa
open Go.RowKit
set_option maxRecDepth 100000
set_option linter.unusedVariables false
set_option linter.unusedSimpArgs false
theorem tyBl : RowTy Try.prog 44 65 1 24 := RowTy.mk' (z := .slice none 0 0) Try.underlying44 (by kernel_rfl) rfl (by decide) (by decide)
theorem make25B (w : World) : (Instr.makeSlice 65 (.int .i64 25) (.int .i64 25)).run Try.prog w = .ok (.slice (some ⟨w.heap.size, 0, none⟩) 25 25) (w.alloc (.cells ((List.replicate 25 false).map Value.bool).toArray 4)) :=
 run_zeros (P := Try.prog) 65 4 (.bool false) [.bool false] 1 Try.underlying65 (by kernel_rfl) rfl (by decide) (by decide) 25 (by decide) w
theorem ChgN.ext' {F : List Nat} {a w w' : World} (h : ChgN F w w') (e : Ext a w) (hf : ∀ g ∈ F, a.heap.size ≤ g) : Ext a w' :=
 ⟨h.os.trans (Below.os e), h.tape.trans (Below.tape e), h.output.trans (Below.output e), Nat.le_trans e.size h.size, fun k hk => (h.block k (Nat.lt_of_lt_of_le hk e.size) (fun hm => by have := hf k hm; omega)).trans (Below.block e k hk)⟩
structure RouteOk (c : Circ) (r : RouteT) : Prop where
 n0 : 1 ≤ r.net
 n1 : r.net < c.vars
 t0 : 0 ≤ r.track
 t1 : r.track < 8
 tree : ∃ s, Tree r.hops s ∧ (r.net ≤ c.inputs → s = (r.net - 1) * 5)
theorem onto_head (xs : List Int) : ∀ (x : Int) (out : List Int), ∃ r, onto (x :: out) xs = x :: r := by
 induction xs with
 | nil => intro x out; exact ⟨out, rfl⟩
 | cons y ys ih =>
  intro x out
  have e : onto (x :: out) (y :: ys) = onto (if (x :: out).contains y then x :: out else (x :: out) ++ [y]) ys := rfl
  rw [e]
  split
  ·exact ih x out
  ·exact ih x (out ++ [y])
theorem pins_head {c : Circ} {cs : List CellT} {place : List Int} {net : Int} (h : 0 < (pinsV c cs place net).length) (h1 : 1 ≤ net) (h2 : net ≤ c.inputs) : (pinsV c cs place net).getD 0 0 = (net - 1) * 5 := by
 unfold pinsV at h ⊢
 split
 ·rename_i e; rw [if_pos e] at h; simp at h
 ·unfold srcV
  rw [if_pos ⟨h1, h2⟩, List.singleton_append]
  obtain ⟨r, e⟩ := onto_head (useV c cs place net) ((net - 1) * 5) (cellT cs place net cs.length)
  rw [e]; rfl
def RoutePost (w : World) (c : Circ) (e : Ending) (w' : World) : Prop :=
 ∃ v ok rs F, e = .returned (.tuple #[v, .bool ok]) ∧ NstR w' v rs F ∧ (∀ g ∈ F, w.heap.size ≤ g) ∧ (∀ r ∈ rs, RouteOk c r) ∧ rs.length ≤ 30 ∧ Ext w w'
def Rows8 (xss : List (List Bool)) : Prop := xss.length = 8 ∧ ∀ x ∈ xss, x.length = 25
theorem rows8_set {xss : List (List Bool)} (h : Rows8 xss) (t m : Nat) : Rows8 (xss.set t ((xss.getD t []).set m true)) := by
 refine ⟨by rw [List.length_set]; exact h.1, fun x hx => ?_⟩
 rcases List.mem_or_eq_of_mem_set hx with h2 | h2
 ·exact h.2 x h2
 ·rw [h2, List.length_set]
  by_cases ht : t < xss.length
  ·exact h.2 _ (getN_mem ht)
  ·exfalso
   have e : xss.set t ((xss.getD t []).set m true) = xss := List.set_eq_of_length_le (by omega)
   rw [e] at hx
   have h3 := h.2 x hx
   rw [h2, List.length_set, List.getD_eq_getElem?_getD, List.getElem?_eq_none (by omega)] at h3
   simp at h3
set_option maxHeartbeats 16000000 in
theorem l8Route_c (c : Circ) (p : Where3) (ca : Option Addr) (cc : Nat) (cs : List CellT) (Fc : List Nat) (pa : Option Addr) (pc : Nat) (place : List Int) (w : World) (hc : CircAt w c p) (V : c.Valid) (hN : NstC w (.slice ca cs.length cc) cs Fc) (hp : IntsAt w pa place) (hpl : place.length = cs.length) (hF : InF place) (hl : cs.length ≤ 17) (hs : ∀ x ∈ cs, Asc x.ins ∧ x.ins.length ≤ 3) :
  Calls Try.prog 137 #[.agg #[.int .i64 c.inputs, .slice p.an c.next.length p.cn, .slice p.ag c.gates.length p.cg, .slice p.ao c.outs.length p.co], .slice ca cs.length cc, .slice pa cs.length pc] w (RoutePost w c) := by
 have E0 : Ext w (w.alloc (.cells #[.int .i64 c.inputs, .slice p.an c.next.length p.cn, .slice p.ag c.gates.length p.cg, .slice p.ao c.outs.length p.co] 26)) := (Ext.refl w).alloc _
 have y := CircBox.made w c p 26
 have HC := Lib.hid (hc.ext E0)
 have HN := Lib.hid (hN.ext goodCell E0)
 have HP := Lib.hid (hp.ext E0)
 have HV := Lib.hid V
 have HS := Lib.hid hs
 have HPL := Lib.hid hpl
 have HF := Lib.hid hF
 have i0 := V.i0
 have i4 := V.i4
 have ln := V.ln
 have lg := V.lg
 have lo := V.lo
 have hv1 : c.vars = c.first + c.gates.length := rfl
 have hf1 : c.first = 1 + c.inputs + c.next.length := rfl
 obtain ⟨n, hn⟩ : ∃ n : Nat, n = (c.vars - 1).toNat := ⟨_, rfl⟩
 have hvn : c.first + c.gates.length = (n : Int) + 1 := by omega
 have hn30 : n ≤ 30 := by omega
 have HVN : Hid (c.vars = (n : Int) + 1) := Lib.hid (by omega)
 have hf30 : c.first ≤ 30 := by omega
 have hf0 : 0 ≤ c.first := by omega
 have hwr : IntKind.i64.wrap (c.first + c.gates.length) = (n : Int) + 1 := by rw [hvn]; exact IntWalk.i64_in _ (by omega)
 have hm := make25B
 clear V hc hN hp hs hpl hF hn hv1 hf1 hvn
 go_enter Try.func137, Try.ntmps137
 go_upto_region 1 with fail
 obtain ⟨w1, hw1⟩ : ∃ x : World, x = w.alloc (.cells #[.int .i64 c.inputs, .slice p.an c.next.length p.cn, .slice p.ag c.gates.length p.cg, .slice p.ao c.outs.length p.co] 26) := ⟨_, rfl⟩
 rw [← hw1] at E0 y HC HN HP
 rw [← hw1]
 clear hw1
 obtain ⟨R25, hR25⟩ : ∃ R : List Bool, R = List.replicate 25 false := ⟨_, rfl⟩
 have HR25 : Hid (R25.length = 25) := Lib.hid (by rw [hR25]; rfl)
 rw [← hR25] at hm
 clear hR25
 have O0 : (w1.alloc (.cells #[] 65)).ownsRow 0 65 1 (.slice (some ⟨w1.heap.size, 0, none⟩) 0 0) 0 [] := (Blk.at w1 [] 65 rfl).owns (n := 0) rfl (Nat.zero_le _) (by decide)
 have N0 : NstB (w1.alloc (.cells #[] 65)) (.slice (some ⟨w1.heap.size, 0, none⟩) 0 0) (List.replicate 0 R25) [w1.heap.size] := ⟨[], [], O0, .nil, rfl, fun g _ h => by simp at h⟩
 have E10 := (Ext.refl w1).alloc (.cells #[] 65)
 clear O0
 go_wp2_with fail
 go_loopw [8, 9] (fun u8 u9 wr => ∃ (k : Nat) (F : List Nat), k ≤ 8 ∧ u9 = .int .i64 k ∧ NstB wr u8 (List.replicate k R25) F ∧ Hid (∀ g ∈ F, w1.heap.size ≤ g) ∧ Ext w1 wr) (fun _ v _ => 8 - (intOf v).toNat)
 case atStart => exact ⟨0, [w1.heap.size], Nat.zero_le _, rfl, N0, Lib.hid (fun g hg => by simp at hg; omega), E10⟩
 case round =>
  clear N0 E10
  obtain ⟨k, F, hk, rfl, hB, HFB, hE⟩ := hrel
  obtain ⟨w2, rfl⟩ : ∃ z : World, z = wr := ⟨_, rfl⟩
  by_cases hlt : k < 8
  ·have hki : (k : Int) < 8 := by omega
   obtain ⟨cells, G, o8, els8, rfl, off8⟩ := hB
   rw [List.length_replicate] at o8
   go_wp2_with (at_builtin; refine wpList_app tyBl (ownsRow_ext o8 (by (repeat (first | with_reducible assumption | with_reducible exact Ext.refl _ | with_reducible refine Ext.drew' ?_ | with_reducible refine Ext.drewN' ?_ _ | with_reducible refine Ext.alloc ?_ _ | (with_reducible refine Ext.setNew ?_ (by first | exact Nat.le_refl _ | (simp; done) | (simp; omega) | omega) _))))) (rowNew _ [.slice (some ⟨w2.heap.size, 0, none⟩) 25 25] _ (B := w2.heap.size + 1) (by simp)) rfl (by simp [Value.oneCell']) (by omega) (Nat.zero_le _) rfl rfl rfl rfl ?_; intro v9 w9 o9 g9 m9)
   obtain ⟨W, EW, hBW, hg, hm9⟩ : ∃ W, Ext w2 W ∧ Blk W w2.heap.size 4 (R25.map Value.bool) ∧ W.grownBy w9 u8.ownBlock ∧ RowMoved W u8 v9 := ⟨_, by (repeat (first | with_reducible assumption | with_reducible exact Ext.refl _ | with_reducible refine Ext.drew' ?_ | with_reducible refine Ext.drewN' ?_ _ | with_reducible refine Ext.alloc ?_ _ | (with_reducible refine Ext.setNew ?_ (by first | exact Nat.le_refl _ | (simp; done) | (simp; omega) | omega) _))), (Blk.at w2 (R25.map Value.bool) 4 rfl).alloc _, g9, m9⟩
   have hPB : PBl W [.slice (some ⟨w2.heap.size, 0, none⟩) 25 25] R25 [w2.heap.size] := ⟨_, rfl, by
    unfold OwnB
    rw [HR25.out]
    exact hBW.owns (n := 25) (size := 1) (by rw [List.length_map, HR25.out]) (Nat.zero_le _) (by decide), rfl⟩
   obtain ⟨N9, F9⟩ := nst_snoc goodBl o8 els8 off8 EW hPB (fun g hg => by simp at hg; omega) hg hm9 (by rw [List.length_replicate]) o9
   rw [← List.replicate_succ'] at N9
   have E9 := ext_grown (hE.trans EW) hg (fun q hq => HFB.out q (List.mem_append_left _ (mem_fp.2 hq)))
   have hsE := hE.size
   go_roundw
   case rel => exact ⟨k + 1, _, by omega, by go_num, N9, Lib.hid (F9 w1.heap.size HFB.out hsE), E9⟩
   case measure => simp [intOf]; omega
  ·have hki : ¬ ((k : Int) < 8) := by omega
   have hk2 : k = 8 := by omega
   have HR8 : Hid (Rows8 (List.replicate k R25)) := Lib.hid ⟨by rw [List.length_replicate]; exact hk2, fun x hx => by rw [(List.mem_replicate.1 hx).2]; exact HR25.out⟩
   obtain ⟨xss0, hx0⟩ : ∃ x, x = List.replicate k R25 := ⟨_, rfl⟩
   rw [← hx0] at hB HR8
   obtain ⟨ba, bc, hbv, _⟩ := hB.sl
   rw [HR8.out.1] at hbv
   subst hbv
   have O0 : (w2.alloc (.cells #[] 185)).ownsRow 0 185 3 (.slice (some ⟨w2.heap.size, 0, none⟩) 0 0) 0 [] := (Blk.at w2 [] 185 rfl).owns (n := 0) rfl (Nat.zero_le _) (by decide)
   have N0 : NstR (w2.alloc (.cells #[] 185)) (.slice (some ⟨w2.heap.size, 0, none⟩) 0 0) [] [w2.heap.size] := ⟨[], [], O0, .nil, rfl, fun g _ h => by simp at h⟩
   have E20 := (Ext.refl w2).alloc (.cells #[] 185)
   have hBlt := hB.lt goodBl
   have HD0 : Hid ((∀ g ∈ F, w1.heap.size ≤ g) ∧ (∀ g ∈ [w2.heap.size], w1.heap.size ≤ g) ∧ ∀ g ∈ F, g ∉ [w2.heap.size]) := Lib.hid ⟨HFB.out, fun g hg => by have := hE.size; simp at hg; omega, fun g hg h2 => by have := hBlt g hg; simp at h2; omega⟩
   have hB2 := hB.ext goodBl E20
   have E12 := hE.trans E20
   clear hm HR25 hk2 hx0 hB O0 hBlt HFB hE E20
   go_wp2_with fail
   go_loopw [10, 11] (fun u10 u11 wr => ∃ (k : Nat) (xss : List (List Bool)) (rs : List RouteT) (F G : List Nat), k ≤ n ∧ u11 = .int .i64 ((k : Int) + 1) ∧ NstB wr (.slice ba 8 bc) xss F ∧ Hid (Rows8 xss) ∧ NstR wr u10 rs G ∧ Hid ((∀ g ∈ F, w1.heap.size ≤ g) ∧ (∀ g ∈ G, w1.heap.size ≤ g) ∧ ∀ g ∈ F, g ∉ G) ∧ Hid (∀ r ∈ rs, RouteOk c r) ∧ rs.length ≤ k ∧ Ext w1 wr) (fun _ v _ => n + 1 - (intOf v).toNat)
   case atStart => exact ⟨0, xss0, [], F, _, Nat.zero_le _, rfl, hB2, HR8, N0, HD0, Lib.hid (fun r hr => by simp at hr), Nat.le_refl _, E12⟩
   case round =>
    clear hB2 HR8 N0 HD0 E12 hki hlt
    obtain ⟨k, xss, rs, F, G, hk, rfl, hB, HR8, hR, HD, HRO, hrl, hE⟩ := hrel
    obtain ⟨w3, rfl⟩ : ∃ z : World, z = wr := ⟨_, rfl⟩
    have y3 := y.ext hE
    obtain ⟨q, hq⟩ : ∃ q : Int, q = (k : Int) + 1 := ⟨_, rfl⟩
    rw [← hq]
    have q0 : 1 ≤ q := by omega
    have q31 : q ≤ 31 := by omega
    have HQ := Lib.hid hq
    (obtain ⟨la, a0, a1, a2, a3⟩ := (id y3))
    by_cases hlt : k < n
    ·have hqn : q < (n : Int) + 1 := by omega
     clear hq
     go_wp2_with fail
     go_region_held3 ((fun w' => (∀ b o, b < w3.heap.size → w'.cell? ⟨b, o, none⟩ = w3.cell? ⟨b, o, none⟩) ∧ Ext w3 w')) ((first | assumption | (with_reducible exact held_mk (Ext.drew w3)) | (with_reducible exact held_mk (((Ext.refl w3).alloc _).drew')) | (with_reducible exact held_mk ((Ext.drew w3).alloc _)))) (first | (go_simp; go_at_call 69; refine (l1First_c c p _ (by omega) (by omega) (by omega)).mono ?_; rintro e w4 ⟨rfl, hE4⟩; have hK4 := held_mk ((Ext.drew w3).trans hE4)))
     have F4 := held_ext hK4
     have E4 := hE.trans F4
     have y4 := y.ext E4
     have hB4 := hB.ext goodBl F4
     have hR4 := hR.ext goodRoute F4
     clear hK4 a0 a1 a2 a3 la y3 hB hR
     have hpin : InF (pinsV c cs place q) := pins_inF HV.out cs HF.out
     have hple : (pinsV c cs place q).length ≤ 100 := by have := pinsV_le c cs place q; omega
     have hcall := l7Pins_c c p ca cc cs Fc pa pc place q w4 (HC.out.ext E4) HV.out (HN.out.ext goodCell E4) (HP.out.ext E4) HPL.out hl HS.out (by omega) (by omega)
     have hhd := fun h => pins_head (c := c) (cs := cs) (place := place) (net := q) h q0
     obtain ⟨P, hP⟩ : ∃ P, P = pinsV c cs place q := ⟨_, rfl⟩
     rw [← hP] at hpin hple hcall hhd
     have HPI := Lib.hid hpin
     have HHD := Lib.hid hhd
     clear hP hpin hhd
     (obtain ⟨la, a0, a1, a2, a3⟩ := (id y4))
     go_wp2_with fail
     refine hcall.mono ?_
     rintro e w5 ⟨v, rfl, oP, hE5⟩
     obtain ⟨va, vc, rfl, hPA, _⟩ := oP.opened
     have hB5 := hB4.ext goodBl hE5
     have hR5 := hR4.ext goodRoute hE5
     have E5 := E4.trans hE5
     clear hcall oP hB4 hR4 hE5 a0 a1 a2 a3 la y4 E4 F4 hE
     by_cases hz : P.length = 0
     ·have hz2 : ((P.length : Int) == 0) = true := by rw [hz]; rfl
      clear hz
      go_wp2_with fail
      go_roundw
      case rel => exact ⟨k + 1, xss, rs, F, G, by omega, by have := HQ.out; congr 1; omega, hB5, HR8, hR5, HD, HRO, by omega, E5⟩
      case measure => have := HQ.out; simp [intOf]; omega
     ·have hz2 : ((P.length : Int) == 0) = false := by rw [beq_eq_false_iff_ne]; omega
      have h0 : 0 < P.length := by omega
      have hcall := l8Net_c q va vc P ba bc xss F w5 hPA h0 HPI.out (by omega) hB5 HR8.out.1 HR8.out.2
      obtain ⟨s, hs⟩ : ∃ s, s = P.getD 0 0 := ⟨_, rfl⟩
      rw [← hs] at hcall
      have HSD : Hid (q ≤ c.inputs → s = (q - 1) * 5) := Lib.hid (fun h => by rw [hs]; exact HHD.out h0 h)
      clear hs hz hPA
      go_wp2_with fail
      refine hcall.mono ?_
      rintro e w6 ⟨n2, t2, v2, ok, hs2, rfl, hO6, hok, hE6⟩
      have HOK := Lib.hid hok
      have hlo6 := hO6.lo
      obtain ⟨ha, hcp, rfl, hHA, _, _⟩ := hO6.sl
      have hBlt := hB5.lt goodBl
      have hRlt := hR5.lt goodRoute
      have hB6 := hB5.ext goodBl hE6
      have hR6 := hR5.ext goodRoute hE6
      have E6 := E5.trans hE6
      have s56 := hE6.size
      clear hok hcall hB5 hR5 hE6
      cases ok
      ·have O0 : ((w6.alloc (.cells #[.int .i64 n2, .int .i64 t2, .slice ha hs2.length hcp] 185)).alloc (.cells #[] 185)).ownsRow 0 185 3 (.slice (some ⟨w6.heap.size + 1, 0, none⟩) 0 0) 0 [] := (Blk.at (w6.alloc (.cells #[.int .i64 n2, .int .i64 t2, .slice ha hs2.length hcp] 185)) [] 185 (by simp)).owns (n := 0) rfl (Nat.zero_le _) (by decide)
       have N0 : NstR ((w6.alloc (.cells #[.int .i64 n2, .int .i64 t2, .slice ha hs2.length hcp] 185)).alloc (.cells #[] 185)) (.slice (some ⟨w6.heap.size + 1, 0, none⟩) 0 0) [] [w6.heap.size + 1] := ⟨[], [], O0, .nil, rfl, fun g _ h => by simp at h⟩
       have EA := (E6.alloc (.cells #[.int .i64 n2, .int .i64 t2, .slice ha hs2.length hcp] 185)).alloc (.cells #[] 185)
       go_wp2_with fail
       refine bodyPost_ret (v := .tuple #[_, _]) (by simp [results, Try.results137, go_sem]; exact ⟨rfl, rfl⟩) rfl ?_
       exact ⟨_, false, [], _, rfl, N0, fun g hg => by have := E0.size; have := E6.size; simp at hg; omega, fun r hr => by simp at hr, by simp, E0.trans EA⟩
      ·obtain ⟨hn2, ⟨ht0, ht8⟩, hTr⟩ := HOK.out (by first | rfl | trivial)
       subst hn2
       obtain ⟨tr, rfl⟩ : ∃ tr : Nat, t2 = (tr : Int) := ⟨t2.toNat, by omega⟩
       have htr : tr < 8 := by omega
       have htri : (tr : Int) < 8 := by omega
       have hTl := hTr.len
       have HTr := Lib.hid hTr
       have B13 := Blk.at w6 [.int .i64 n2, .int .i64 (tr : Int), .slice ha hs2.length hcp] 185 rfl
       have EA := (Ext.refl w6).alloc (.cells #[.int .i64 n2, .int .i64 (tr : Int), .slice ha hs2.length hcp] 185)
       have hB7 := hB6.ext goodBl EA
       clear hTr HOK hB6
       go_wp2_with fail
       obtain ⟨w7, hw7⟩ : ∃ x : World, x = w6.alloc (.cells #[.int .i64 n2, .int .i64 (tr : Int), .slice ha hs2.length hcp] 185) := ⟨_, rfl⟩
       rw [← hw7] at B13 EA hB7
       rw [← hw7]
       clear hw7
       have hR7 := hR6.ext goodRoute EA
       have hO7 := hO6.ext EA
       have s67 := EA.size
       clear hR6 hO6
       go_loopw [15] (fun u15 wr => ∃ (i : Nat) (xss : List (List Bool)), i ≤ hs2.length ∧ u15 = .int .i64 i ∧ NstB wr (.slice ba 8 bc) xss F ∧ Hid (Rows8 xss) ∧ ChgN F w7 wr) (fun v _ => hs2.length - (intOf v).toNat)
       case atStart => exact ⟨0, xss, Nat.zero_le _, rfl, hB7, HR8, ChgN.refl _⟩
       case round =>
        clear hB7 HR8
        obtain ⟨i, xss, hi, rfl, hB, HR8, hCh⟩ := hrel
        obtain ⟨w8, rfl⟩ : ∃ z : World, z = wr := ⟨_, rfl⟩
        have hz8 := hCh.size
        have B8 : Blk w8 w6.heap.size 185 [.int .i64 n2, .int .i64 (tr : Int), .slice ha hs2.length hcp] := (hCh.block _ B13.lt (fun h => by have := hBlt _ h; omega)).trans B13
        have hO8 : OwnH w8 w5.heap.size (.slice ha hs2.length hcp) hs2 := ownsRow_keep hO7 (fun g hg => hCh.block g (hO7.lo g hg).2 (fun h => by have := hBlt _ h; have := (hlo6 g hg).1; omega))
        have z0 := B8.cell (i := 0) rfl
        have z1 := B8.cell (i := 1) rfl
        have z2 := B8.cell (i := 2) rfl
        have zl := B8.lt
        by_cases hlt3 : i < hs2.length
        ·have hlt3i : (i : Int) < (hs2.length : Int) := by omega
         obtain ⟨a9, c9, e9, hA9, _⟩ := hO8.sl
         obtain ⟨ea, en9, ec⟩ := Value.slice.inj e9
         clear en9
         subst ea ec
         obtain ⟨b5, o5, rfl, hb5, hc5, _⟩ := hA9.get (by omega)
         have q5 := hc5 i hlt3
         have hx := HTr.out.inF (hs2.getD i (0, 0)).1 (List.mem_map.2 ⟨_, getN_mem hlt3, rfl⟩)
         obtain ⟨x, hxx⟩ : ∃ x, x = (hs2.getD i (0, 0)).1 := ⟨_, rfl⟩
         rw [← hxx] at q5 hx
         obtain ⟨m, rfl⟩ : ∃ m : Nat, x = (m : Int) := ⟨x.toNat, by omega⟩
         have hm25 : m < 25 := by omega
         have hmi : (m : Int) < 25 := by omega
         obtain ⟨g, c1, ds, Fj, A, Bc, ev, hAl, ⟨vj, rfl, oj, rfl⟩, hsub, hgF, hgn, hole, hclose⟩ := Nst.open goodBl hB tr [] (by rw [HR8.out.1]; exact htr)
         obtain ⟨eb, en8, ebc⟩ := Value.slice.inj ev
         clear en8
         subst eb ebc
         have hrl25 := HR8.out.2 _ (getN_mem (d := ([] : List Bool)) (show tr < xss.length by rw [HR8.out.1]; exact htr))
         have HR9 := Lib.hid (rows8_set HR8.out tr m)
         obtain ⟨row, hrow⟩ : ∃ r, r = xss.getD tr [] := ⟨_, rfl⟩
         rw [← hrow] at oj hrl25 HR9
         obtain ⟨ra, rc, rfl, _, _⟩ := oj.len
         obtain ⟨gj, rfl, _, hgj⟩ := ownsRow_block oj (by omega)
         have hgl := hole.lt
         have r0 := hole.cell (i := 0) rfl
         rw [hAl, Nat.mul_one, Nat.add_zero, hrl25] at r0
         have cj : w8.cell? ⟨gj, m, none⟩ = some (.bool (row.getD m false)) := ownsRow_cell oj (j := m) (by rw [List.getElem?_map, List.getD_eq_getElem?_getD, List.getElem?_eq_getElem (by omega)]; rfl)
         have fj := fun i => ownsRow_frozen oj i
         obtain ⟨bv, hbv⟩ : ∃ b, b = row.getD m false := ⟨_, rfl⟩
         rw [← hbv] at cj
         have hset := ownsRow_setAt oj m (by rw [List.length_map]; omega) (.bool true)
         rw [← List.map_set] at hset
         have hne : g ≠ gj := fun e => hgn (by rw [e]; exact mem_fp.2 rfl)
         have hjF : gj ∈ F := hsub gj (mem_fp.2 rfl)
         have HB9 : Hid (NstB (w8.setCell ⟨gj, m, none⟩ (.bool true)) (.slice (some ⟨g, 0, none⟩) 8 bc) (xss.set tr (row.set m true)) F) := Lib.hid (by
          refine hclose _ [.slice (some ⟨gj, 0, none⟩) row.length rc] (row.set m true) (hole.keep (heap_setCell_other w8 ⟨gj, m, none⟩ g (.bool true) hne)) ⟨_, rfl, ?_, rfl⟩ (fun q hq h1 h2 => heap_setCell_other w8 ⟨gj, m, none⟩ q (.bool true) (fun e => h1 (by rw [e]; exact mem_fp.2 rfl)))
          unfold OwnB
          rw [List.length_set]; exact hset)
         have HC9 := Lib.hid (hCh.setCell (p := ⟨gj, m, none⟩) hjF (.bool true))
         clear hc5 hxx hx hA9 e9 hclose hole hset oj hbv hrow hsub hgn hCh hB hO8 B8 hgF ev
         go_wp2_with fail
         (refine wp_regionT ((fun w' => (∀ b o, b < w8.heap.size → w'.cell? ⟨b, o, none⟩ = w8.cell? ⟨b, o, none⟩) ∧ Ext w8 w')) 12 (by kernel_rfl) ?_; have hS0 := held_mk (Ext.drew w8))
         ((refine tkT 0 (v := ?_) rfl (by kernel_rfl) (by kernel_rfl) ?_ (by assumption) ?_; rotate_left; (intro wS hSw; (try dsimp only at hSw); go_simp; (try with_reducible rfl)); (try simp only [Act.put, lA, lB, lC])); (refine tkT 1 (v := ?_) rfl (by kernel_rfl) (by kernel_rfl) ?_ (by assumption) ?_; rotate_left; (intro wS hSw; (try dsimp only at hSw); go_simp; (try with_reducible rfl)); (try simp only [Act.put, lA, lB, lC])); (refine tkT 2 (v := ?_) rfl (by kernel_rfl) (by kernel_rfl) ?_ (by assumption) ?_; rotate_left; (intro wS hSw; (try dsimp only at hSw); go_simp; (try with_reducible rfl)); (try simp only [Act.put, lA, lB, lC])); (refine tkT 3 (v := ?_) rfl (by kernel_rfl) (by kernel_rfl) ?_ (by assumption) ?_; rotate_left; (intro wS hSw; (try dsimp only at hSw); go_simp; (try with_reducible rfl)); (try simp only [Act.put, lA, lB, lC])); (refine tkT 4 (v := ?_) rfl (by kernel_rfl) (by kernel_rfl) ?_ (by assumption) ?_; rotate_left; (intro wS hSw; (try dsimp only at hSw); go_simp; (try with_reducible rfl)); (try simp only [Act.put, lA, lB, lC])); (refine tkT 5 (v := ?_) rfl (by kernel_rfl) (by kernel_rfl) ?_ (by assumption) ?_; rotate_left; (intro wS hSw; (try dsimp only at hSw); go_simp; (try with_reducible rfl)); (try simp only [Act.put, lA, lB, lC])); (refine tkT 6 (v := ?_) rfl (by kernel_rfl) (by kernel_rfl) ?_ (by assumption) ?_; rotate_left; (intro wS hSw; (try dsimp only at hSw); go_simp; (try with_reducible rfl)); (try simp only [Act.put, lA, lB, lC])); (refine tkT 7 (v := ?_) rfl (by kernel_rfl) (by kernel_rfl) ?_ (by assumption) ?_; rotate_left; (intro wS hSw; (try dsimp only at hSw); go_simp; (try with_reducible rfl)); (try simp only [Act.put, lA, lB, lC])); (refine tkT 8 (v := ?_) rfl (by kernel_rfl) (by kernel_rfl) ?_ (by assumption) ?_; rotate_left; (intro wS hSw; (try dsimp only at hSw); go_simp; (try with_reducible rfl)); (try simp only [Act.put, lA, lB, lC])); (refine tkT 9 (v := ?_) rfl (by kernel_rfl) (by kernel_rfl) ?_ (by assumption) ?_; rotate_left; (intro wS hSw; (try dsimp only at hSw); go_simp; (try with_reducible rfl)); (try simp only [Act.put, lA, lB, lC])); (refine tkT 10 (v := ?_) rfl (by kernel_rfl) (by kernel_rfl) ?_ (by assumption) ?_; rotate_left; (intro wS hSw; (try dsimp only at hSw); go_simp; (try with_reducible rfl)); (try simp only [Act.put, lA, lB, lC])); (refine tkT 11 (v := ?_) rfl (by kernel_rfl) (by kernel_rfl) ?_ (by assumption) ?_; rotate_left; (intro wS hSw; (try dsimp only at hSw); go_simp; (try with_reducible rfl)); (try simp only [Act.put, lA, lB, lC])))
         (refine wpAnyT_last 12 (by kernel_rfl) rfl (by decide) (by kernel_rfl) (fun K hK => ?_))
         go_simp
         (refine hK _ _ ?_; clear hK K; (try simp only [Act.put, lA, lB, lC]))
         go_wp2_with fail
         go_roundw
         case rel => exact ⟨i + 1, _, by omega, by go_num, HB9.out.ext goodBl (Ext.drew _), HR9, HC9.out.trans (ChgN.ofExt (Ext.drew _))⟩
         case measure => simp [intOf]; omega
        ·have hlt3i : ¬ ((i : Int) < (hs2.length : Int)) := by omega
         have hR8 := hR7.keep goodRoute (w' := w8) (fun g hg => hCh.block g (by have := hRlt g hg; omega) (fun h => HD.out.2.2 g h hg))
         have E8 : Ext w1 w8 := hCh.ext' (E6.trans EA) HD.out.1
         obtain ⟨cells, G0, o8, els8, rfl, off8⟩ := hR8
         have hRk : RouteOk c ⟨n2, tr, hs2⟩ := ⟨q0, by rw [HVN.out]; exact hqn, by show (0 : Int) ≤ tr; omega, htri, s, HTr.out, HSD.out⟩
         have HRO9 : Hid (∀ r ∈ rs ++ [⟨n2, tr, hs2⟩], RouteOk c r) := Lib.hid (fun r hr => by
          rcases List.mem_append.1 hr with h | h
          ·exact HRO.out r h
          ·rw [List.mem_singleton.1 h]; exact hRk)
         clear hRk HRO
         go_wp2_with (at_builtin; refine wpList_app tyRoutes (ownsRow_ext o8 (by (repeat (first | with_reducible assumption | with_reducible exact Ext.refl _ | with_reducible refine Ext.drew' ?_ | with_reducible refine Ext.drewN' ?_ _ | with_reducible refine Ext.alloc ?_ _ | (with_reducible refine Ext.setNew ?_ (by first | exact Nat.le_refl _ | (simp; done) | (simp; omega) | omega) _))))) (rowNew _ _ _ (by simp)) rfl (by simp [Value.oneCell']) (by omega) (Nat.zero_le _) rfl rfl rfl rfl ?_; intro v9 w9 o9 g9 m9)
         obtain ⟨W, EW, hg, hm⟩ : ∃ W, Ext w8 W ∧ W.grownBy w9 u10.ownBlock ∧ RowMoved W u10 v9 := ⟨_, by (repeat (first | with_reducible assumption | with_reducible exact Ext.refl _ | with_reducible refine Ext.drew' ?_ | with_reducible refine Ext.drewN' ?_ _ | with_reducible refine Ext.alloc ?_ _ | (with_reducible refine Ext.setNew ?_ (by first | exact Nat.le_refl _ | (simp; done) | (simp; omega) | omega) _))), g9, m9⟩
         have hPR : PRoute W [.int .i64 n2, .int .i64 (tr : Int), .slice ha hs2.length hcp] ⟨n2, tr, hs2⟩ (fp (.slice ha hs2.length hcp)) := ⟨_, rfl, ownsRow_zero (ownsRow_ext hO8 EW), rfl⟩
         obtain ⟨N9, F9⟩ := nst_snocD goodRoute o8 els8 off8 EW hPR (fun g hg h2 => by
          have h3 := hRlt g (List.mem_append_left _ h2); have := (hlo6 g (mem_fp.1 hg)).1; omega) (fun g hg h2 => by
          have h3 := hRlt g (List.mem_append_right _ hg); have := (hlo6 g (mem_fp.1 h2)).1; omega) hg hm rfl o9
         have E9 := ext_grown (E8.trans EW) hg (fun q hq => HD.out.2.1 q (List.mem_append_left _ (mem_fp.2 hq)))
         have hB9 : NstB w9 (.slice ba 8 bc) xss F := (hB.ext goodBl EW).keep goodBl (fun g hg2 => hg.block g ((hB.ext goodBl EW).lt goodBl g hg2) (fun e => HD.out.2.2 g hg2 (List.mem_append_left _ (mem_fp.2 e.symm))))
         have zW := EW.size
         have s15 := E5.size
         have HD9 : Hid ((∀ g ∈ F, w1.heap.size ≤ g) ∧ (∀ g ∈ fp v9 ++ (G0 ++ fp (.slice ha hs2.length hcp)), w1.heap.size ≤ g) ∧ ∀ g ∈ F, g ∉ fp v9 ++ (G0 ++ fp (.slice ha hs2.length hcp))) := Lib.hid ⟨HD.out.1, fun g hg => by
          rcases F9 g hg with h | h | h
          ·exact HD.out.2.1 g h
          ·have := (hlo6 g (mem_fp.1 h)).1; omega
          ·have := (E6.trans EA).size; omega, fun g hg hg2 => by
          have h4 := hBlt g hg
          rcases F9 g hg2 with h | h | h
          ·exact HD.out.2.2 g hg h
          ·have := (hlo6 g (mem_fp.1 h)).1; omega
          ·omega⟩
         go_roundw
         case rel => exact ⟨k + 1, xss, _, F, _, by omega, by have := HQ.out; congr 1; omega, hB9, HR8, N9, HD9, HRO9, by rw [List.length_append, List.length_singleton]; omega, E9⟩
         case measure => have := HQ.out; simp [intOf]; omega
    ·have hk2 : k = n := by omega
     have hqn : ¬ q < (n : Int) + 1 := by omega
     clear hq hk2
     go_wp2_with fail
     go_region_held3 ((fun w' => (∀ b o, b < w3.heap.size → w'.cell? ⟨b, o, none⟩ = w3.cell? ⟨b, o, none⟩) ∧ Ext w3 w')) ((first | assumption | (with_reducible exact held_mk (Ext.drew w3)) | (with_reducible exact held_mk (((Ext.refl w3).alloc _).drew')) | (with_reducible exact held_mk ((Ext.drew w3).alloc _)))) (first | (go_simp; go_at_call 69; refine (l1First_c c p _ (by omega) (by omega) (by omega)).mono ?_; rintro e w4 ⟨rfl, hE4⟩; have hK4 := held_mk ((Ext.drew w3).trans hE4)))
     have F4 := held_ext hK4
     go_wp2_with fail
     refine bodyPost_ret (v := .tuple #[_, _]) (by simp [results, Try.results137, go_sem]; exact ⟨rfl, rfl⟩) rfl ?_
     exact ⟨_, true, rs, G, rfl, hR.ext goodRoute F4, fun g hg => by have := HD.out.2.1 g hg; have := E0.size; omega, HRO.out, by omega, (E0.trans hE).trans F4⟩
end Go.Proofs.Ytgialedmbmfejaa

