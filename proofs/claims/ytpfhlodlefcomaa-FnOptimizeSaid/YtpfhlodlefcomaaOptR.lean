/- Contract: which variables the program finds reached. -/
import Derived.Test.YtpfhlodlefcomaaOptU
import Derived.Test.YtpfhlodlefcomaaOptN
namespace Go.Proofs.Ytpfhlodlefcomaa
open Go.RowKit
set_option maxRecDepth 100000
set_option linter.unusedVariables false
set_option linter.unusedSimpArgs false
def reachU (N : Nat) (rs : List Int) : List Bool := rootU 0 N rs
theorem markG0 (us : List Bool) {l : Int} (h : 0 ≤ l) : markG 0 us l = us.set (l / 2).toNat true := by rw [markG_at _ _ _ (by omega)]; simp
theorem markG0_drop (F : Nat) (us : List Bool) {l : Int} (h : 0 ≤ l) : (markG 0 us l).drop F = markG F (us.drop F) l := by
  rw [markG0 us h, List.drop_set]
  by_cases hf : (F : Int) ≤ l / 2
  · rw [markG_at _ _ _ hf, if_neg (by omega)]
    congr 1; omega
  · rw [markG_no _ _ _ (by omega), if_pos (by omega)]
theorem foldl_mark0_drop (F : Nat) (rs : List Int) : ∀ us : List Bool, (∀ l ∈ rs, 0 ≤ l) → (rs.foldl (markG 0) us).drop F = rs.foldl (markG F) (us.drop F) := by
  induction rs with
  | nil => intro us _; rfl
  | cons r rs ih =>
    intro us h
    rw [List.foldl_cons, List.foldl_cons, ih _ (fun l hl => h l (List.mem_cons_of_mem _ hl)), markG0_drop F us (h r (List.mem_cons_self ..))]
theorem ext_getD {α : Type} {xs ys : List α} (d : α) (hl : xs.length = ys.length) (h : ∀ i, i < xs.length → xs.getD i d = ys.getD i d) : xs = ys := by
  apply List.ext_getElem hl
  intro i h1 h2
  have := h i h1
  simpa [List.getD_eq_getElem?_getD, List.getElem?_eq_getElem, h1, h2] using this
theorem rootU_swap (f : Int) (n : Nat) (a b : List Int) : rootU f n (a ++ b) = rootU f n (b ++ a) := by
  refine ext_getD false (by rw [rootU_length, rootU_length]) (fun i hi => ?_)
  rw [rootU_length] at hi
  rw [rootU_get _ _ _ _ hi, rootU_get _ _ _ _ hi, List.any_append, List.any_append, Bool.or_comm]
theorem reachU_drop (F n : Nat) (rs : List Int) (h : ∀ l ∈ rs, 0 ≤ l) : (reachU (F + n) rs).drop F = rootU F n rs := by
  unfold reachU rootU
  rw [foldl_mark0_drop F rs _ h]
  simp
/-- One gate's two operands are marked, if it is. -/
def reachStep (F : Nat) (gs : List (Int × Int)) (us : List Bool) (k : Nat) : List Bool :=
  if us.getD (F + k) false = true then markG 0 (markG 0 us (gs.getD k (0, 0)).1) (gs.getD k (0, 0)).2 else us
theorem reachStep_length (F : Nat) (gs : List (Int × Int)) (us : List Bool) (k : Nat) : (reachStep F gs us k).length = us.length := by unfold reachStep; split <;> simp [markG_length]
theorem drop_getD2 (us : List Bool) (F k : Nat) : (us.drop F).getD k false = us.getD (F + k) false := by simp [List.getD_eq_getElem?_getD]
theorem reachStep_drop {F : Nat} {gs : List (Int × Int)} (us : List Bool) (k : Nat) (h1 : 0 ≤ (gs.getD k (0, 0)).1) (h2 : 0 ≤ (gs.getD k (0, 0)).2) : (reachStep F gs us k).drop F = useStep F gs (us.drop F) k := by
  unfold reachStep useStep
  rw [drop_getD2]
  split
  · rw [markG0_drop _ _ h2, markG0_drop _ _ h1]
  · rfl
def ReachPost (w : World) (c : Circ) (F N : Nat) (e : Ending) (w' : World) : Prop := ∃ (B : Nat) (us : List Bool), e = .returned (.slice (some ⟨B, 0, none⟩) N N) ∧ w.heap.size ≤ B ∧ us.length = N ∧ us.drop F = usedV c ∧ Blk w' B 4 (us.map Value.bool) ∧ Ext w w'
theorem useDown_step (f : Int) (gs : List (Int × Int)) (k : Nat) (us : List Bool) : useDown f gs (k + 1) us = useDown f gs k (useStep f gs us k) := rfl
set_option maxHeartbeats 4000000 in
theorem reached_c (b : Nat) (c : Circ) (p : Where3) (w : World) (hb : CircBox w b c p) (hc : CircAt w c p) (V : c.Valid) (F N : Nat) (hF : c.first = F) (hN : N = F + c.gates.length) :
    Calls Try.prog 70 #[.pointer (some ⟨b, 0, none⟩)] w (ReachPost w c F N) := by
  have hi0 := V.i0
  have hi4 := V.i4
  have ln := V.ln
  have lg := V.lg
  have lo := V.lo
  have hF1 : 1 ≤ F ∧ F ≤ 8 := by unfold Circ.first at hF; omega
  obtain ⟨hF1, hF2⟩ := hF1
  have VG := Lib.hid V.gs
  have VR : Hid (∀ i, i < (c.next ++ c.outs).length → litB ((c.next ++ c.outs).getD i 0) (F + c.gates.length) = true) := Lib.hid (by
    have hr := V.rs
    unfold Circ.vars at hr
    rw [hF] at hr
    exact hr)
  have VM : Hid (∀ l ∈ c.next ++ c.outs, 0 ≤ l) := Lib.hid (fun l hl => by
    have := LitsOk.mem.1 V.rs l hl
    rw [litB_iff'] at this
    exact this.1)
  have HU : Hid (usedV c = useDown F c.gates c.gates.length (rootU F c.gates.length (c.next ++ c.outs))) := Lib.hid (by unfold usedV; rw [hF, rootU_swap])
  have hvv : c.vars = (N : Int) := by unfold Circ.vars; omega
  have hN1 : F + c.gates.length ≤ N := by omega
  have hN2 : N ≤ F + c.gates.length := by omega
  have HN := Lib.hid hN
  have HF := Lib.hid hF
  clear hN hF V
  have hbx := hb
  obtain ⟨lb, b0, b1, b2, b3⟩ := hbx
  go_enter Try.func70, Try.ntmps70
  go_wp2_with fail
  refine (vars_c b c p _ hb hi0 (by omega) (by omega) (by omega)).mono ?_
  rintro e w1 ⟨rfl, nd, rfl⟩
  rw [hvv]
  clear hvv
  have hm := run_zeros' (P := Try.prog) 38 4 (.bool false) [.bool false] 1 Try.underlying38 boolInfo' rfl (by decide) (by decide) N (by omega) (w.drewN nd)
  have L0 := Blk.at (w.drewN nd) (zeros [Value.bool false] N) 4 (B := w.heap.size) (by simp)
  have E1 : Ext w ((w.drewN nd).alloc (.cells (zeros [Value.bool false] N).toArray 4)) := (Ext.drewN w nd).alloc _
  go_wp2_with fail
  refine (roots_c b c p _ (hb.ext E1) (hc.ext E1)).mono ?_
  rintro e w4 ⟨v, xs, rfl, HX, hO, hE4⟩
  have L4 := L0.ext hE4
  have E4 := E1.trans hE4
  have hxi : ∀ i, i < xs.length → 0 ≤ xs.getD i 0 ∧ xs.getD i 0 < 2 * (N : Int) := by
    intro i hi
    rw [HX.out] at hi ⊢
    have := litB_iff'.1 (VR.out i hi)
    omega
  have hxl : xs.length ≤ 6 := by rw [HX.out]; simp; omega
  have hXI := Lib.hid hxi
  clear hxi L0 E1 hm hE4
  obtain ⟨a4, c4, rfl, hX, _⟩ := hO.opened
  have hI0 : w4.ownsRow (w.heap.size + 1) 3 1 (.slice a4 xs.length c4) xs.length (xs.map (Value.int .i64)) := ownsRow_base hO (by simp)
  clear hO hX
  go_wp2_with fail
  go_loopw [13] (fun i wr => ∃ k : Nat, k ≤ xs.length ∧ i = .int .i64 k ∧ Blk wr w.heap.size 4 ((reachU N (xs.take k)).map Value.bool) ∧ wr.ownsRow (w.heap.size + 1) 3 1 (.slice a4 xs.length c4) xs.length (xs.map (Value.int .i64)) ∧ Ext w wr) (fun i _ => xs.length - (intOf i).toNat)
  case atStart =>
    refine ⟨0, Nat.zero_le _, rfl, ?_, hI0, E4⟩
    have e : (reachU N (xs.take 0)).map Value.bool = zeros [Value.bool false] N := by rw [zeros_one]; simp [reachU, rootU]
    rw [e]; exact L4
  case round =>
    clear hI0 E4 L4
    obtain ⟨k, hk, rfl, hB, hI, hE⟩ := hrel
    by_cases hlt : k < xs.length
    · obtain ⟨b9, o9, rfl, hb9, hg⟩ := (intsAt_of_row (ownsRow_at hI)).get (by omega)
      have q := hg k hlt
      obtain ⟨hx1, hx2⟩ := hXI.out k hlt
      have hsn := foldl_take_snoc 0 N xs k hlt
      have hul := rootU_length 0 N (xs.take k)
      obtain ⟨us, hus⟩ : ∃ us, us = rootU 0 N (xs.take k) := ⟨_, rfl⟩
      have hB : Blk wr w.heap.size 4 (us.map Value.bool) := by rw [hus]; exact hB
      rw [← hus] at hsn hul
      obtain ⟨x, hxx⟩ : ∃ x, x = xs.getD k 0 := ⟨_, rfl⟩
      rw [← hxx] at q hx1 hx2 hsn
      have HUL := Lib.hid hul
      rw [markG0 _ hx1] at hsn
      have HSN := Lib.hid hsn
      have hBlt := hB.lt
      obtain ⟨uu, zz⟩ : ∃ u, wr.cell? ⟨w.heap.size, (x / 2).toNat, none⟩ = some u := ⟨_, hB.cell (List.getElem?_eq_getElem (by rw [List.length_map, HUL.out]; omega))⟩
      have fz := hB.frozen (x / 2).toNat
      clear hg hxx hus hul hsn
      go_wp2
      go_roundw
      case rel =>
        refine ⟨k + 1, by omega, by go_num, ?_, ?_, ?_⟩
        · show Blk _ _ _ ((rootU 0 N (xs.take (k + 1))).map Value.bool)
          rw [HSN.out, map_set]; exact hB.set _ _
        · exact ownsRow_set hI (p := ⟨w.heap.size, (x / 2).toNat, none⟩) (by intro hh; have := (hI.lt _ hh).1; simp at this; omega) _
        · (repeat (first | with_reducible assumption | with_reducible exact Ext.refl _ | with_reducible refine Ext.drew' ?_ | with_reducible refine Ext.drewN' ?_ _ | with_reducible refine Ext.alloc ?_ _ | (with_reducible refine Ext.setNew ?_ (by first | exact Nat.le_refl _ | (simp; done) | (simp; omega) | omega) _)))
      case measure => simp [intOf]; omega
    · have hk2 : k = xs.length := by omega
      subst hk2
      rw [List.take_length] at hB
      have hbE := hb.ext hE
      obtain ⟨lz, z0, z1, z2, z3⟩ := hbE
      have hxs0 : Hid (∀ l ∈ xs, 0 ≤ l) := Lib.hid (by rw [HX.out]; exact VM.out)
      clear hI
      go_wp2_with fail
      clear lz z0 z1 z2 z3
      go_loopw [6] (fun i wr => ∃ (k : Nat) (us : List Bool), k ≤ c.gates.length ∧ i = .int .i64 ((k : Int) - 1) ∧ us.length = N ∧ Hid (useDown F c.gates k (us.drop F) = usedV c) ∧ Blk wr w.heap.size 4 (us.map Value.bool) ∧ Ext w wr) (fun i _ => (intOf i + 1).toNat)
      case atStart =>
        refine ⟨c.gates.length, reachU N xs, Nat.le_refl _, by first | rfl | (congr 1; omega), rootU_length _ _ _, ?_, hB, hE⟩
        exact Lib.hid (by rw [HU.out, HN.out, reachU_drop _ _ _ hxs0.out, HX.out])
      case round =>
        clear hB hE
        obtain ⟨k, us, hk, rfl, hul, hu, hB, hE⟩ := hrel
        cases k with
        | zero =>
          go_wp2
          go_ret
          exact ⟨w.heap.size, us, rfl, Nat.le_refl _, hul, by have := hu.out; simpa [useDown] using this, hB, hE⟩
        | succ k =>
          have hkl : k < c.gates.length := by omega
          have hbE := hb.ext hE
          obtain ⟨b9, o9, hag, hb9, hg1, hg2⟩ := hc.gs.get (by omega)
          have q1 := ((ecell hE).1 b9 _ hb9).trans (hg1 k (by omega))
          have q2 := ((ecell hE).1 b9 _ hb9).trans (hg2 k (by omega))
          have hne9 : ¬ b9 = w.heap.size := by omega
          have hneb : ¬ b = w.heap.size := by omega
          have hv := VG.out k (by omega)
          rw [HF.out] at hv
          obtain ⟨va, vb⟩ := hv
          rw [litB_iff'] at va vb
          obtain ⟨va1, va2⟩ := va
          obtain ⟨vb1, vb2⟩ := vb
          have hst := reachStep_drop (F := F) (gs := c.gates) us k va1 vb1
          have hsl := reachStep_length F c.gates us k
          obtain ⟨ga, hga⟩ : ∃ x, x = (c.gates.getD k (0, 0)).1 := ⟨_, rfl⟩
          obtain ⟨gb, hgb⟩ : ∃ x, x = (c.gates.getD k (0, 0)).2 := ⟨_, rfl⟩
          rw [← hga] at q1 va1 va2
          rw [← hgb] at q2 vb1 vb2
          have HA := Lib.hid hga
          have HB := Lib.hid hgb
          have e1 : ((k + 1 : Nat) : Int) - 1 = (k : Int) := by omega
          rw [e1]
          rw [hul] at hsl
          have HUL := Lib.hid hul
          have HST := Lib.hid hst
          have HSL := Lib.hid hsl
          have hkl2 : F + k < us.length := by rw [HUL.out]; omega
          have hcell := hB.cell (i := F + k) (u := .bool (us.getD (F + k) false)) (by rw [List.getElem?_map, List.getElem?_eq_getElem hkl2]; simp [List.getD_eq_getElem?_getD, List.getElem?_eq_getElem hkl2])
          obtain ⟨lb, b0, b1, b2, b3⟩ := (id hbE)
          rw [hag] at b2
          have HAG := Lib.hid hag
          have hBl := hB.lt
          have HFF := HF.out
          clear hga hgb hg1 hg2 hag hul e1 hst hsl hkl2
          go_wp2_with fail
          refine (firstGate_c b c p _ hbE hi0 (by omega) (by omega)).mono ?_
          rw [HFF]
          rintro e w5 ⟨rfl, nn, rfl⟩
          clear HFF
          have ic : ((F : Int) + (k : Int)).toNat = F + k := by omega
          cases hu0 : us.getD (F + k) false
          · rw [hu0] at hcell
            have HR : Hid (reachStep F c.gates us k = us) := Lib.hid (by unfold reachStep; rw [hu0]; rfl)
            clear hu0
            go_wp2
            go_roundw
            case rel =>
              refine ⟨k, us, by omega, by first | rfl | go_num, HUL.out, Lib.hid ?_, hB.ext (Ext.drewN _ _), by (repeat (first | with_reducible assumption | with_reducible exact Ext.refl _ | with_reducible refine Ext.drew' ?_ | with_reducible refine Ext.drewN' ?_ _ | with_reducible refine Ext.alloc ?_ _ | (with_reducible refine Ext.setNew ?_ (by first | exact Nat.le_refl _ | (simp; done) | (simp; omega) | omega) _)))⟩
              rw [← hu.out, useDown_step, ← HST.out, HR.out]
            case measure => simp only [intOf]; omega
          · rw [hu0] at hcell
            have hB5 := hB.ext (Ext.drewN wr nn)
            have HR : Hid (reachStep F c.gates us k = (us.set (ga / 2).toNat true).set (gb / 2).toNat true) := Lib.hid (by unfold reachStep; rw [hu0, if_pos rfl, ← HA.out, ← HB.out, markG0 _ va1, markG0 _ vb1])
            obtain ⟨u1, z1⟩ : ∃ u, wr.cell? ⟨w.heap.size, (ga / 2).toNat, none⟩ = some u := ⟨_, hB.cell (List.getElem?_eq_getElem (by rw [List.length_map, HUL.out]; omega))⟩
            have f1 := hB.frozen (ga / 2).toNat
            have hB6 := hB5.set (ga / 2).toNat (.bool true)
            obtain ⟨u2, z2⟩ : ∃ u, ((wr.drewN nn).setCell ⟨w.heap.size, (ga / 2).toNat, none⟩ (.bool true)).cell? ⟨w.heap.size, (gb / 2).toNat, none⟩ = some u := ⟨_, hB6.cell (List.getElem?_eq_getElem (by rw [List.length_set, List.length_map, HUL.out]; omega))⟩
            have f2 := hB6.frozen (gb / 2).toNat
            clear hu0
            go_wp2
            go_roundw
            case rel =>
              refine ⟨k, reachStep F c.gates us k, by omega, by first | rfl | go_num, HSL.out, Lib.hid ?_, ?_, by (repeat (first | with_reducible assumption | with_reducible exact Ext.refl _ | with_reducible refine Ext.drew' ?_ | with_reducible refine Ext.drewN' ?_ _ | with_reducible refine Ext.alloc ?_ _ | (with_reducible refine Ext.setNew ?_ (by first | exact Nat.le_refl _ | (simp; done) | (simp; omega) | omega) _)))⟩
              · rw [← hu.out, useDown_step, ← HST.out]
              · rw [HR.out, map_set, map_set]; exact hB6.set _ _
            case measure => simp only [intOf]; omega
end Go.Proofs.Ytpfhlodlefcomaa
