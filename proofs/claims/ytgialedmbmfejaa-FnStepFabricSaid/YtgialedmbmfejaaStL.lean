/- Plain: what rests on the tiles alone; a pad inverted; the empty configuration's clock cycle. -/
import Derived.Test.YtgialedmbmfejaaStpF
import Derived.Test.YtgialedmbmfejaaBCf
namespace Go.Proofs.Ytgialedmbmfejaa
open Go.RowKit
set_option maxRecDepth 100000
set_option linter.unusedVariables false
set_option linter.unusedSimpArgs false
theorem stepV_yes {k : Conf} {regs ins : List Bool} (h1 : acyV k = true) (h2 : regs.length = 25) (h3 : ins.length ≤ 4) : stepV k regs ins = (outsV k regs ins 3, nextV k regs ins 25) := by unfold stepV; rw [if_pos ⟨h1, h2, h3⟩]
theorem stepV_no {k : Conf} {regs ins : List Bool} (h : ¬ (acyV k = true ∧ regs.length = 25 ∧ ins.length ≤ 4)) : stepV k regs ins = ([], []) := by unfold stepV; rw [if_neg h]
theorem acyV_ok {k : Conf} (h : acyV k = true) : k.Ok := by
 unfold acyV at h
 rw [Bool.and_eq_true] at h
 exact confB_iff.1 h.1
/-! ### pads do not matter to wires -/
theorem vis_ps (k : Conf) (ps : List (Int × Bool)) : ∀ n, (∀ m x, vis { k with ps := ps } n m x = vis k n m x) ∧ ∀ xs m, visL { k with ps := ps } n xs m = visL k n xs m := by
 have lst : ∀ n, (∀ m x, vis { k with ps := ps } n m x = vis k n m x) → ∀ xs m, visL { k with ps := ps } n xs m = visL k n xs m := fun n h xs => by
  induction xs with
  | nil => intro m; rw [visL_nil, visL_nil]
  | cons x xs ih => intro m; rw [visL_cons, visL_cons, h, ih]
 have nd : ∀ x, needW { k with ps := ps } x = needW k x := fun x => rfl
 intro n
 induction n with
 | zero => exact ⟨fun m x => by simp [vis], lst 0 (fun m x => by simp [vis])⟩
 | succ n ih =>
  have h : ∀ m x, vis { k with ps := ps } (n + 1) m x = vis k (n + 1) m x := fun m x => by
   simp only [vis, nd, ih.2]
  exact ⟨h, lst _ h⟩
theorem finN_ps (k : Conf) (ps : List (Int × Bool)) : ∀ n x, FinN { k with ps := ps } n x ↔ FinN k n x
 | 0, x => Iff.rfl
 | n + 1, x => ⟨fun h y hy => (finN_ps k ps n y).1 (h y hy), fun h y hy => (finN_ps k ps n y).2 (h y hy)⟩
open Classical in
theorem leastE {p q : Nat → Prop} (e : p = q) : (if h : ∃ n, p n then Classical.choose (least_ex h) else 0) = if h : ∃ n, q n then Classical.choose (least_ex h) else 0 := by subst e; rfl
theorem rk_ps (k : Conf) (ps : List (Int × Bool)) (x : Wire) : rk { k with ps := ps } x = rk k x := by
 have e : (fun n => FinN { k with ps := ps } n x) = fun n => FinN k n x := funext (fun n => propext (finN_ps k ps n x))
 unfold rk
 exact leastE e
theorem wv_ps (k : Conf) (ps : List (Int × Bool)) (regs ins : List Bool) : ∀ n, wv { k with ps := ps } regs ins n = wv k regs ins n
 | 0 => rfl
 | n + 1 => by
  show bodyW { k with ps := ps } regs ins (wv { k with ps := ps } regs ins n) = bodyW k regs ins (wv k regs ins n)
  rw [wv_ps k ps regs ins n]
  rfl
theorem valW_ps (k : Conf) (ps : List (Int × Bool)) (regs ins : List Bool) : valW { k with ps := ps } regs ins = valW k regs ins := by
 funext x
 unfold valW
 rw [rk_ps, wv_ps]
theorem nextV_ps (k : Conf) (ps : List (Int × Bool)) (regs ins : List Bool) (n : Nat) : nextV { k with ps := ps } regs ins n = nextV k regs ins n := by
 unfold nextV
 rw [valW_ps]
 rfl
/-! ### the first pad inverted -/
def flipK (k : Conf) : Conf := { k with ps := k.ps.set 0 ((k.ps.getD 0 (0, false)).1, !(k.ps.getD 0 (0, false)).2) }
def flipO : List Bool → List Bool
 | [] => []
 | x :: xs => (!x) :: xs
theorem flip_ok {k : Conf} (h : k.Ok) : (flipK k).Ok := h.pad (by omega) (h.ps 0 (by omega)) _
theorem flip_acy {k : Conf} (h : acyV k = true) : acyV (flipK k) = true := by
 have hok := acyV_ok h
 have hf := confB_true (flip_ok hok)
 unfold acyV at h ⊢
 rw [hf, Bool.true_and]
 rw [Bool.and_eq_true] at h
 have e : visL (flipK k) 201 (wiresFrom 0) mark0 = visL k 201 (wiresFrom 0) mark0 := (vis_ps k _ 201).2 _ _
 rw [e]; exact h.2
theorem xor_not (a b : Bool) : (a != !b) = !(a != b) := by cases a <;> cases b <;> rfl
theorem flip_outs {k : Conf} (h : k.Ok) (regs ins : List Bool) : outsV (flipK k) regs ins 3 = flipO (outsV k regs ins 3) := by
 have r3 : List.range 3 = [0, 1, 2] := rfl
 have lp := h.lp
 have e : valW (flipK k) regs ins = valW k regs ins := valW_ps k _ regs ins
 obtain ⟨ts, ps⟩ := k
 match ps, lp with
 | [p0, p1, p2], _ =>
  unfold outsV
  rw [e, r3]
  simp only [List.map_cons, List.map_nil, flipO, flipK, List.set_cons_zero, List.getD_cons_zero, List.getD_cons_succ, xor_not]
theorem flip_step {k : Conf} {regs ins : List Bool} (h1 : acyV k = true) (h2 : regs.length = 25) (h3 : ins.length ≤ 4) : stepV (flipK k) regs ins = (flipO (outsV k regs ins 3), nextV k regs ins 25) := by
 rw [stepV_yes (flip_acy h1) h2 h3, flip_outs (acyV_ok h1)]
 have e : nextV (flipK k) regs ins 25 = nextV k regs ins 25 := nextV_ps k _ regs ins 25
 rw [e]
/-! ### the empty configuration -/
theorem tileAt_econf (t : Nat) : (tileAt econf t).rg = false ∧ ∀ j, (tileAt econf t).dr.getD j 0 = 0 := by
 by_cases h : t < 25
 ·have e : tileAt econf t = etile := by
   unfold tileAt econf
   dsimp only
   rw [List.getD_eq_getElem?_getD, List.getElem?_replicate, if_pos h]; rfl
  rw [e]
  refine ⟨rfl, fun j => ?_⟩
  show (List.replicate 8 (0 : Int)).getD j 0 = 0
  rw [List.getD_eq_getElem?_getD, List.getElem?_replicate]
  split <;> rfl
 ·have e : tileAt econf t = tile0 := by
   unfold tileAt econf
   dsimp only
   rw [List.getD_eq_getElem?_getD, List.getElem?_replicate, if_neg h]; rfl
  rw [e]
  exact ⟨rfl, fun j => by simp [tile0]⟩
theorem needW_econf (x : Wire) : needW econf x = [] := by
 have e : drvAt econf x = 0 := (tileAt_econf x.1).2 x.2
 unfold needW
 rw [e]
 simp
theorem visE (n : Nat) : ∀ (xs : List Wire) (m : Marks), (∀ i, m i = 0 ∨ m i = 2) → (visL econf (n + 1) xs m).1 = true
  | [], m, _ => by rw [visL_nil]
  | x :: xs, m, h => by
    rw [visL_cons]
    by_cases h0 : m x.ix = 0
    · have e : vis econf (n + 1) m x = (true, upd (upd m x.ix 1) x.ix 2) := by
        simp only [vis, needW_econf, visL_nil, h0]
        simp
      rw [e, if_pos rfl]
      refine visE n xs _ (fun i => ?_)
      unfold upd
      dsimp only
      split
      · exact .inr rfl
      · rename_i hne
        first
          | exact h i
          | (split
             · rename_i h3; exact absurd h3 hne
             · exact h i)
    · have h2 : m x.ix = 2 := (h x.ix).resolve_left h0
      have e : vis econf (n + 1) m x = (true, m) := by
        simp only [vis, h2]
        simp
      rw [e, if_pos rfl]
      exact visE n xs m h
theorem econf_acy : acyV econf = true := by
 unfold acyV
 rw [confB_true econf_ok, Bool.true_and]
 exact visE 200 _ _ (fun i => .inl rfl)
theorem econf_step {regs ins : List Bool} (h2 : regs.length = 25) (h3 : ins.length ≤ 4) : stepV econf regs ins = (List.replicate 3 false, List.replicate 25 false) := by
 rw [stepV_yes econf_acy h2 h3]
 have e1 : outsV econf regs ins 3 = List.replicate 3 false := by
  have r3 : List.range 3 = [0, 1, 2] := rfl
  unfold outsV
  rw [r3]
  simp [econf, rdV]
 have e2 : nextV econf regs ins 25 = List.replicate 25 false := by
  unfold nextV
  have : (List.range 25).map (fun t => (tileAt econf t).rg && tabV econf (valW econf regs ins) t) = (List.range 25).map (fun _ => false) := List.map_congr_left (fun t _ => by rw [(tileAt_econf t).1]; rfl)
  rw [this]; rfl
 rw [e1, e2]
theorem nextV_get (k : Conf) (regs ins : List Bool) {n j : Nat} (h : j < n) (hr : (k.ts.getD j tile0).rg = false) : (nextV k regs ins n).getD j false = false := by
 unfold nextV
 rw [List.getD_eq_getElem?_getD, List.getElem?_map, List.getElem?_range h]
 show ((tileAt k j).rg && _) = false
 have : (tileAt k j).rg = false := hr
 rw [this]; rfl
end Go.Proofs.Ytgialedmbmfejaa
