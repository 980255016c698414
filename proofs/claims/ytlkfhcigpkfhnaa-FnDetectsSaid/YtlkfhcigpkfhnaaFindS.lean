/- Contracts of FindTest and Detects: the reference's. -/
import Derived.Test.YtlkfhcigpkfhnaaDetS2
import Derived.Test.YtlkfhcigpkfhnaaFind
namespace Go.Proofs.Ytlkfhcigpkfhnaa
open Go.RowKit
set_option maxRecDepth 100000
set_option linter.unusedVariables false
set_option linter.unusedSimpArgs false
theorem l12FaultBad (c : Circ) (p : Where3) (s : Int) (v : Bool) (w : World) (hc : CircAt w c p) (hv : validB c = false) :
    Calls Try.prog 88 #[.agg #[.int .i64 c.inputs, .slice p.an c.next.length p.cn, .slice p.ag c.gates.length p.cg, .slice p.ao c.outs.length p.co], .agg #[.int .i64 s, .bool v]] w fun e w' => e = .returned (.bool (false)) ∧ Ext w w' := by
  have y := (CircBox.made w c p 26).ext ((Ext.refl _).alloc (.cells #[.int .i64 s, .bool v] 59))
  have f0 := Blk.at (w.alloc (.cells #[.int .i64 c.inputs, .slice p.an c.next.length p.cn, .slice p.ag c.gates.length p.cg, .slice p.ao c.outs.length p.co] 26)) [.int .i64 s, .bool v] 59 (B := w.heap.size + 1) (by simp)
  obtain ⟨w0, hw0⟩ : ∃ w0, w0 = (w.alloc (.cells #[.int .i64 c.inputs, .slice p.an c.next.length p.cn, .slice p.ag c.gates.length p.cg, .slice p.ao c.outs.length p.co] 26)).alloc (.cells #[.int .i64 s, .bool v] 59) := ⟨_, rfl⟩
  have E0 : Ext w w0 := by rw [hw0]; exact ((Ext.refl w).alloc _).alloc _
  rw [← hw0] at y f0
  have HW := Lib.hid hw0
  clear hw0
  obtain ⟨D, hD⟩ : ∃ D : Bool, D = (false) := ⟨_, rfl⟩
  have HD := Lib.hid hD
  rw [← hD]
  clear hD
  go_enter Try.func88, Try.ntmps88
  go_wp2_with fail
  rw [← HW.out]
  (obtain ⟨la, a0, a1, a2, a3⟩ := (id y))
  have f00 := f0.cell (i := 0) rfl
  have f01 := f0.cell (i := 1) rfl
  have fl := f0.lt
  (refine wp_regionT ((fun w' => (∀ b o, b < w0.heap.size → w'.cell? ⟨b, o, none⟩ = w0.cell? ⟨b, o, none⟩) ∧ Ext w0 w')) 14 (by kernel_rfl) ?_; have hS0 := held_mk (Ext.drew w0))
  ((refine wpAnyT_take 0 (v := ?_) rfl (by kernel_rfl) (fun _ _ _ h => h) (Or.inl ⟨by kernel_rfl, ?_⟩) (by assumption) ?_; rotate_left; (intro wS hSw; (try dsimp only at hSw); go_simp; (try with_reducible rfl)); (try simp only [Act.put, List.setIfInBounds_toArray, List.set_cons_zero, List.set_cons_succ])))
  (refine wpAnyT_do 1 (by kernel_rfl) rfl (fun K hK => ?_))
  go_simp
  refine (specCircuitValid_c c p _ (hc.ext (E0.trans (Ext.drew _)))).mono ?_
  first | rw [hv] | rw [validB_true hv]
  rintro e w1 ⟨rfl, hE1⟩
  have hK1 := held_mk ((Ext.drew w0).trans hE1)
  (refine hK _ _ hK1 ?_; clear hK K; (try simp only [Act.put, List.setIfInBounds_toArray, List.set_cons_zero, List.set_cons_succ]))
  ((refine wpAnyT_take 2 (v := ?_) rfl (by kernel_rfl) (fun _ _ _ h => h) (Or.inl ⟨by kernel_rfl, ?_⟩) (by assumption) ?_; rotate_left; (intro wS hSw; (try dsimp only at hSw); go_simp; (try with_reducible rfl)); (try simp only [Act.put, List.setIfInBounds_toArray, List.set_cons_zero, List.set_cons_succ])))
  ((refine wpAnyT_take 3 (v := undef) rfl (by kernel_rfl) (fun _ _ _ h => h) (Or.inr ⟨by kernel_rfl, rfl⟩) (by assumption) ?_; (try simp only [Act.put, List.setIfInBounds_toArray, List.set_cons_zero, List.set_cons_succ])); (refine wpAnyT_take 4 (v := undef) rfl (by kernel_rfl) (fun _ _ _ h => h) (Or.inr ⟨by kernel_rfl, rfl⟩) (by assumption) ?_; (try simp only [Act.put, List.setIfInBounds_toArray, List.set_cons_zero, List.set_cons_succ])); (refine wpAnyT_take 5 (v := undef) rfl (by kernel_rfl) (fun _ _ _ h => h) (Or.inr ⟨by kernel_rfl, rfl⟩) (by assumption) ?_; (try simp only [Act.put, List.setIfInBounds_toArray, List.set_cons_zero, List.set_cons_succ])); (refine wpAnyT_take 6 (v := undef) rfl (by kernel_rfl) (fun _ _ _ h => h) (Or.inr ⟨by kernel_rfl, rfl⟩) (by assumption) ?_; (try simp only [Act.put, List.setIfInBounds_toArray, List.set_cons_zero, List.set_cons_succ])); (refine wpAnyT_take 7 (v := undef) rfl (by kernel_rfl) (fun _ _ _ h => h) (Or.inr ⟨by kernel_rfl, rfl⟩) (by assumption) ?_; (try simp only [Act.put, List.setIfInBounds_toArray, List.set_cons_zero, List.set_cons_succ])); (refine wpAnyT_take 8 (v := undef) rfl (by kernel_rfl) (fun _ _ _ h => h) (Or.inr ⟨by kernel_rfl, rfl⟩) (by assumption) ?_; (try simp only [Act.put, List.setIfInBounds_toArray, List.set_cons_zero, List.set_cons_succ])); (refine wpAnyT_take 9 (v := undef) rfl (by kernel_rfl) (fun _ _ _ h => h) (Or.inr ⟨by kernel_rfl, rfl⟩) (by assumption) ?_; (try simp only [Act.put, List.setIfInBounds_toArray, List.set_cons_zero, List.set_cons_succ])); (refine wpAnyT_take 10 (v := undef) rfl (by kernel_rfl) (fun _ _ _ h => h) (Or.inr ⟨by kernel_rfl, rfl⟩) (by assumption) ?_; (try simp only [Act.put, List.setIfInBounds_toArray, List.set_cons_zero, List.set_cons_succ])); (refine wpAnyT_take 11 (v := undef) rfl (by kernel_rfl) (fun _ _ _ h => h) (Or.inr ⟨by kernel_rfl, rfl⟩) (by assumption) ?_; (try simp only [Act.put, List.setIfInBounds_toArray, List.set_cons_zero, List.set_cons_succ])); (refine wpAnyT_take 12 (v := undef) rfl (by kernel_rfl) (fun _ _ _ h => h) (Or.inr ⟨by kernel_rfl, rfl⟩) (by assumption) ?_; (try simp only [Act.put, List.setIfInBounds_toArray, List.set_cons_zero, List.set_cons_succ])))
  ((refine wpAnyT_take 13 (v := ?_) rfl (by kernel_rfl) (fun _ _ _ h => h) (Or.inl ⟨by kernel_rfl, ?_⟩) (by assumption) ?_; rotate_left; (intro wS hSw; (try dsimp only at hSw); go_simp; (try with_reducible rfl)); (try simp only [Act.put, List.setIfInBounds_toArray, List.set_cons_zero, List.set_cons_succ])))
  have hK2 := hK1
  (refine wpAnyT_last 14 (by kernel_rfl) rfl (by decide) (by kernel_rfl) (fun K hK => ?_))
  go_simp
  (refine hK _ _ ?_; clear hK K; (try simp only [Act.put, List.setIfInBounds_toArray, List.set_cons_zero, List.set_cons_succ]))
  go_wp2
  go_ret
  exact ⟨by rw [HD.out]; rfl, E0.trans (held_ext hK2)⟩
theorem l12FaultOk (c : Circ) (p : Where3) (s : Int) (v : Bool) (w : World) (hc : CircAt w c p) (hv : c.Valid) :
    Calls Try.prog 88 #[.agg #[.int .i64 c.inputs, .slice p.an c.next.length p.cn, .slice p.ag c.gates.length p.cg, .slice p.ao c.outs.length p.co], .agg #[.int .i64 s, .bool v]] w fun e w' => e = .returned (.bool (decide (1 ≤ s) && decide (s ≤ c.first + c.gates.length - 1))) ∧ Ext w w' := by
  have y := (CircBox.made w c p 26).ext ((Ext.refl _).alloc (.cells #[.int .i64 s, .bool v] 59))
  have f0 := Blk.at (w.alloc (.cells #[.int .i64 c.inputs, .slice p.an c.next.length p.cn, .slice p.ag c.gates.length p.cg, .slice p.ao c.outs.length p.co] 26)) [.int .i64 s, .bool v] 59 (B := w.heap.size + 1) (by simp)
  obtain ⟨w0, hw0⟩ : ∃ w0, w0 = (w.alloc (.cells #[.int .i64 c.inputs, .slice p.an c.next.length p.cn, .slice p.ag c.gates.length p.cg, .slice p.ao c.outs.length p.co] 26)).alloc (.cells #[.int .i64 s, .bool v] 59) := ⟨_, rfl⟩
  have E0 : Ext w w0 := by rw [hw0]; exact ((Ext.refl w).alloc _).alloc _
  rw [← hw0] at y f0
  have HW := Lib.hid hw0
  clear hw0
  obtain ⟨D, hD⟩ : ∃ D : Bool, D = (decide (1 ≤ s) && decide (s ≤ c.first + c.gates.length - 1)) := ⟨_, rfl⟩
  have HD := Lib.hid hD
  rw [← hD]
  clear hD
  have V : c.Valid := hv
  have i0 := V.i0
  have i4 := V.i4
  have ln := V.ln
  have lg := V.lg
  have HF : Hid (c.first = 1 + c.inputs + c.next.length) := Lib.hid rfl
  have hf : 1 ≤ c.first ∧ c.first ≤ 8 := by rw [HF.out]; omega
  have hw1 : IntKind.i64.wrap (c.first + c.gates.length) = c.first + c.gates.length := IntWalk.i64_in _ (by omega)
  have hw2 : IntKind.i64.wrap (c.first + c.gates.length - 1) = c.first + c.gates.length - 1 := IntWalk.i64_in _ (by omega)
  go_enter Try.func88, Try.ntmps88
  go_wp2_with fail
  rw [← HW.out]
  (obtain ⟨la, a0, a1, a2, a3⟩ := (id y))
  have f00 := f0.cell (i := 0) rfl
  have f01 := f0.cell (i := 1) rfl
  have fl := f0.lt
  (refine wp_regionT ((fun w' => (∀ b o, b < w0.heap.size → w'.cell? ⟨b, o, none⟩ = w0.cell? ⟨b, o, none⟩) ∧ Ext w0 w')) 14 (by kernel_rfl) ?_; have hS0 := held_mk (Ext.drew w0))
  ((refine wpAnyT_take 0 (v := ?_) rfl (by kernel_rfl) (fun _ _ _ h => h) (Or.inl ⟨by kernel_rfl, ?_⟩) (by assumption) ?_; rotate_left; (intro wS hSw; (try dsimp only at hSw); go_simp; (try with_reducible rfl)); (try simp only [Act.put, List.setIfInBounds_toArray, List.set_cons_zero, List.set_cons_succ])))
  (refine wpAnyT_do 1 (by kernel_rfl) rfl (fun K hK => ?_))
  go_simp
  refine (specCircuitValid_c c p _ (hc.ext (E0.trans (Ext.drew _)))).mono ?_
  first | rw [hv] | rw [validB_true hv]
  rintro e w1 ⟨rfl, hE1⟩
  have hK1 := held_mk ((Ext.drew w0).trans hE1)
  (refine hK _ _ hK1 ?_; clear hK K; (try simp only [Act.put, List.setIfInBounds_toArray, List.set_cons_zero, List.set_cons_succ]))
  ((refine wpAnyT_take 2 (v := ?_) rfl (by kernel_rfl) (fun _ _ _ h => h) (Or.inl ⟨by kernel_rfl, ?_⟩) (by assumption) ?_; rotate_left; (intro wS hSw; (try dsimp only at hSw); go_simp; (try with_reducible rfl)); (try simp only [Act.put, List.setIfInBounds_toArray, List.set_cons_zero, List.set_cons_succ])))
  ((refine wpAnyT_take 3 (v := ?_) rfl (by kernel_rfl) (fun _ _ _ h => h) (Or.inl ⟨by kernel_rfl, ?_⟩) (by assumption) ?_; rotate_left; (intro wS hSw; (try dsimp only at hSw); go_simp; (try with_reducible rfl)); (try simp only [Act.put, List.setIfInBounds_toArray, List.set_cons_zero, List.set_cons_succ])); (refine wpAnyT_take 4 (v := ?_) rfl (by kernel_rfl) (fun _ _ _ h => h) (Or.inl ⟨by kernel_rfl, ?_⟩) (by assumption) ?_; rotate_left; (intro wS hSw; (try dsimp only at hSw); go_simp; (try with_reducible rfl)); (try simp only [Act.put, List.setIfInBounds_toArray, List.set_cons_zero, List.set_cons_succ])); (refine wpAnyT_take 5 (v := ?_) rfl (by kernel_rfl) (fun _ _ _ h => h) (Or.inl ⟨by kernel_rfl, ?_⟩) (by assumption) ?_; rotate_left; (intro wS hSw; (try dsimp only at hSw); go_simp; (try with_reducible rfl)); (try simp only [Act.put, List.setIfInBounds_toArray, List.set_cons_zero, List.set_cons_succ])); (refine wpAnyT_take 7 (v := ?_) rfl (by kernel_rfl) (fun _ _ _ h => h) (Or.inl ⟨by kernel_rfl, ?_⟩) (by assumption) ?_; rotate_left; (intro wS hSw; (try dsimp only at hSw); go_simp; (try with_reducible rfl)); (try simp only [Act.put, List.setIfInBounds_toArray, List.set_cons_zero, List.set_cons_succ])); (refine wpAnyT_take 8 (v := ?_) rfl (by kernel_rfl) (fun _ _ _ h => h) (Or.inl ⟨by kernel_rfl, ?_⟩) (by assumption) ?_; rotate_left; (intro wS hSw; (try dsimp only at hSw); go_simp; (try with_reducible rfl)); (try simp only [Act.put, List.setIfInBounds_toArray, List.set_cons_zero, List.set_cons_succ])); (refine wpAnyT_take 9 (v := ?_) rfl (by kernel_rfl) (fun _ _ _ h => h) (Or.inl ⟨by kernel_rfl, ?_⟩) (by assumption) ?_; rotate_left; (intro wS hSw; (try dsimp only at hSw); go_simp; (try with_reducible rfl)); (try simp only [Act.put, List.setIfInBounds_toArray, List.set_cons_zero, List.set_cons_succ])))
  (refine wpAnyT_do 6 (by kernel_rfl) rfl (fun K hK => ?_))
  go_simp
  refine (l1First_c c p _ (by omega) (by omega) (by omega)).mono ?_
  rintro e w2 ⟨rfl, hE2⟩
  have hK2 := held_mk ((held_ext hK1).trans hE2)
  (refine hK _ _ hK2 ?_; clear hK K; (try simp only [Act.put, List.setIfInBounds_toArray, List.set_cons_zero, List.set_cons_succ]))
  ((refine wpAnyT_take 10 (v := ?_) rfl (by kernel_rfl) (fun _ _ _ h => h) (Or.inl ⟨by kernel_rfl, ?_⟩) (by assumption) ?_; rotate_left; (intro wS hSw; (try dsimp only at hSw); go_simp; (try with_reducible rfl)); (try simp only [Act.put, List.setIfInBounds_toArray, List.set_cons_zero, List.set_cons_succ])); (refine wpAnyT_take 11 (v := ?_) rfl (by kernel_rfl) (fun _ _ _ h => h) (Or.inl ⟨by kernel_rfl, ?_⟩) (by assumption) ?_; rotate_left; (intro wS hSw; (try dsimp only at hSw); go_simp; (try with_reducible rfl)); (try simp only [Act.put, List.setIfInBounds_toArray, List.set_cons_zero, List.set_cons_succ])))
  (refine wpAnyT_do 12 (by kernel_rfl) rfl (fun K hK => ?_))
  go_simp
  refine (l1In_c _ _ _ _).mono ?_
  rw [← HD.out]
  rintro e w3 ⟨rfl, rfl⟩
  (refine hK _ _ hK2 ?_; clear hK K; (try simp only [Act.put, List.setIfInBounds_toArray, List.set_cons_zero, List.set_cons_succ]))
  ((refine wpAnyT_take 13 (v := ?_) rfl (by kernel_rfl) (fun _ _ _ h => h) (Or.inl ⟨by kernel_rfl, ?_⟩) (by assumption) ?_; rotate_left; (intro wS hSw; (try dsimp only at hSw); go_simp; (try with_reducible rfl)); (try simp only [Act.put, List.setIfInBounds_toArray, List.set_cons_zero, List.set_cons_succ])))
  (refine wpAnyT_last 14 (by kernel_rfl) rfl (by decide) (by kernel_rfl) (fun K hK => ?_))
  go_simp
  (refine hK _ _ ?_; clear hK K; (try simp only [Act.put, List.setIfInBounds_toArray, List.set_cons_zero, List.set_cons_succ]))
  go_wp2
  go_ret
  exact ⟨rfl, E0.trans (held_ext hK2)⟩
theorem l12Fault_c (c : Circ) (p : Where3) (s : Int) (v : Bool) (w : World) (hc : CircAt w c p) :
    Calls Try.prog 88 #[.agg #[.int .i64 c.inputs, .slice p.an c.next.length p.cn, .slice p.ag c.gates.length p.cg, .slice p.ao c.outs.length p.co], .agg #[.int .i64 s, .bool v]] w fun e w' => e = .returned (.bool (faultB c s)) ∧ Ext w w' := by
  cases hv : validB c
  · rw [faultB_no (by rintro ⟨h, _⟩; rw [validB_true h] at hv; cases hv)]
    exact l12FaultBad c p s v w hc hv
  · have e : faultB c s = (decide (1 ≤ s) && decide (s ≤ c.first + c.gates.length - 1)) := by
      unfold faultB
      rw [hv, Bool.true_and]
      congr 1
      rw [decide_eq_decide]; unfold Circ.vars; omega
    rw [e]
    exact l12FaultOk c p s v w hc (validB_iff.1 hv)
def FindSRel (w : World) (c : Circ) (p : Where3) (s : Int) (v : Bool) (u : Value) (wr : World) : Prop :=
  ∃ k : Nat, k ≤ assigns c ∧ u = .int .i64 k ∧ Hid (∀ y, y < k → detV c s v y = false) ∧ CircBox wr w.heap.size c p ∧ Blk wr (w.heap.size + 1) 59 [.int .i64 s, .bool v] ∧ Ext w wr
theorem l12Find_c (c : Circ) (p : Where3) (s : Int) (v : Bool) (w : World) (hc : CircAt w c p) (V : c.Valid) (h1s : 1 ≤ s) (hs : s < c.vars) :
    Calls Try.prog 94 #[.agg #[.int .i64 c.inputs, .slice p.an c.next.length p.cn, .slice p.ag c.gates.length p.cg, .slice p.ao c.outs.length p.co], .agg #[.int .i64 s, .bool v]] w fun e w' => e = .returned (.int .i64 (firstD (detV c s v) (assigns c))) ∧ Ext w w' := by
  have al := assigns_le V
  have hw := shl_wrap V
  have i0 := V.i0
  have i4 := V.i4
  have ln := V.ln
  have y := (CircBox.made w c p 26).ext ((Ext.refl _).alloc (.cells #[.int .i64 s, .bool v] 59))
  have f0 := Blk.at (w.alloc (.cells #[.int .i64 c.inputs, .slice p.an c.next.length p.cn, .slice p.ag c.gates.length p.cg, .slice p.ao c.outs.length p.co] 26)) [.int .i64 s, .bool v] 59 (B := w.heap.size + 1) (by simp)
  obtain ⟨D, hD⟩ : ∃ D, D = firstD (detV c s v) (assigns c) := ⟨_, rfl⟩
  have HD := Lib.hid hD
  rw [← hD]
  clear hD
  go_enter Try.func94, Try.ntmps94
  go_wp2_with fail
  go_loopw [5] (FindSRel w c p s v) (fun i _ => assigns c - (intOf i).toNat)
  case atStart => exact ⟨0, Nat.zero_le _, rfl, Lib.hid (fun y hy => by omega), y, f0, by (repeat (first | with_reducible assumption | with_reducible exact Ext.refl _ | with_reducible refine Ext.drew' ?_ | with_reducible refine Ext.drewN' ?_ _ | with_reducible refine Ext.alloc ?_ _ | (with_reducible refine Ext.setNew ?_ (by first | exact Nat.le_refl _ | (simp; done) | (simp; omega) | omega) _)))⟩
  case round =>
    obtain ⟨k, hk, rfl, hpre, hb, hf, hE⟩ := hrel
    clear f0 y
    (obtain ⟨lb, b0, b1, b2, b3⟩ := (id hb))
    by_cases hlt : k < assigns c
    · have f00 := hf.cell (i := 0) rfl
      have f01 := hf.cell (i := 1) rfl
      cases hd : detV c s v k
      all_goals
        have HDD := Lib.hid hd
        clear hd
        go_wp2_with fail
        refine (l12Detects_c c p s v k (by omega) _ (hc.ext hE) V h1s hs).mono ?_
        rw [HDD.out]
        rintro e w2 ⟨rfl, hE2⟩
        go_wp2
      · go_roundw
        case rel =>
          refine ⟨k + 1, by omega, by go_num, Lib.hid (fun y hy => ?_), hb.ext hE2, hf.ext hE2, hE.trans hE2⟩
          rcases Nat.lt_or_ge y k with h | h
          · exact hpre.out y h
          · have : y = k := by omega
            subst this; exact HDD.out
        case measure => simp [intOf]; omega
      · go_ret
        refine ⟨?_, hE.trans hE2⟩
        rw [HD.out, firstD_hit _ _ k hlt hpre.out HDD.out]; rfl
    · go_wp2
      go_ret
      refine ⟨?_, hE⟩
      rw [HD.out, firstD_none _ _ (fun y hy => hpre.out y (by omega))]; rfl
theorem specFindTest_c (c : Circ) (p : Where3) (s : Int) (v : Bool) (w : World) (hc : CircAt w c p) :
    Calls Try.prog 52 #[.agg #[.int .i64 c.inputs, .slice p.an c.next.length p.cn, .slice p.ag c.gates.length p.cg, .slice p.ao c.outs.length p.co], .agg #[.int .i64 s, .bool v]] w fun e w' => e = .returned (.int .i64 (findV c s v)) ∧ Ext w w' := by
  have y := (CircBox.made w c p 26).ext ((Ext.refl _).alloc (.cells #[.int .i64 s, .bool v] 59))
  have f0 := Blk.at (w.alloc (.cells #[.int .i64 c.inputs, .slice p.an c.next.length p.cn, .slice p.ag c.gates.length p.cg, .slice p.ao c.outs.length p.co] 26)) [.int .i64 s, .bool v] 59 (B := w.heap.size + 1) (by simp)
  have EF : Hid (findV c s v = if faultB c s then firstD (detV c s v) (assigns c) else -1) := Lib.hid rfl
  obtain ⟨D, hD⟩ : ∃ D, D = findV c s v := ⟨_, rfl⟩
  rw [← hD] at EF ⊢
  clear hD
  cases hf : faultB c s
  · have HF := Lib.hid hf
    clear hf
    go_enter Try.func52, Try.ntmps52
    go_wp2_with fail
    refine (l12Fault_c c p s v _ (hc.ext (by (repeat (first | with_reducible assumption | with_reducible exact Ext.refl _ | with_reducible refine Ext.drew' ?_ | with_reducible refine Ext.drewN' ?_ _ | with_reducible refine Ext.alloc ?_ _ | (with_reducible refine Ext.setNew ?_ (by first | exact Nat.le_refl _ | (simp; done) | (simp; omega) | omega) _)))))).mono ?_
    rw [HF.out]
    rintro e w1 ⟨rfl, hE1⟩
    have E1 := Ext.trans (a := w) (by (repeat (first | with_reducible assumption | with_reducible exact Ext.refl _ | with_reducible refine Ext.drew' ?_ | with_reducible refine Ext.drewN' ?_ _ | with_reducible refine Ext.alloc ?_ _ | (with_reducible refine Ext.setNew ?_ (by first | exact Nat.le_refl _ | (simp; done) | (simp; omega) | omega) _)))) hE1
    go_wp2
    go_ret
    exact ⟨by rw [EF.out, HF.out]; rfl, E1⟩
  · obtain ⟨V, h1, h2⟩ := faultB_iff.1 hf
    have HF := Lib.hid hf
    clear hf
    go_enter Try.func52, Try.ntmps52
    go_wp2_with fail
    refine (l12Fault_c c p s v _ (hc.ext (by (repeat (first | with_reducible assumption | with_reducible exact Ext.refl _ | with_reducible refine Ext.drew' ?_ | with_reducible refine Ext.drewN' ?_ _ | with_reducible refine Ext.alloc ?_ _ | (with_reducible refine Ext.setNew ?_ (by first | exact Nat.le_refl _ | (simp; done) | (simp; omega) | omega) _)))))).mono ?_
    rw [HF.out]
    rintro e w1 ⟨rfl, hE1⟩
    have E1 := Ext.trans (a := w) (by (repeat (first | with_reducible assumption | with_reducible exact Ext.refl _ | with_reducible refine Ext.drew' ?_ | with_reducible refine Ext.drewN' ?_ _ | with_reducible refine Ext.alloc ?_ _ | (with_reducible refine Ext.setNew ?_ (by first | exact Nat.le_refl _ | (simp; done) | (simp; omega) | omega) _)))) hE1
    have y1 := y.ext hE1
    have f1 := f0.ext hE1
    (obtain ⟨la, a0, a1, a2, a3⟩ := (id y1))
    have f10 := f1.cell (i := 0) rfl
    have f11 := f1.cell (i := 1) rfl
    go_wp2_with fail
    refine (l12Find_c c p s v _ (hc.ext E1) V h1 h2).mono ?_
    rintro e w2 ⟨rfl, hE2⟩
    go_wp2
    go_ret
    exact ⟨by rw [EF.out, HF.out]; rfl, E1.trans hE2⟩
theorem specDetects_c (c : Circ) (p : Where3) (s : Int) (v : Bool) (x : Int) (w : World) (hc : CircAt w c p) :
    Calls Try.prog 44 #[.agg #[.int .i64 c.inputs, .slice p.an c.next.length p.cn, .slice p.ag c.gates.length p.cg, .slice p.ao c.outs.length p.co], .agg #[.int .i64 s, .bool v], .int .i64 x] w fun e w' => e = .returned (.bool (detectsV c s v x)) ∧ Ext w w' := by
  have y := (CircBox.made w c p 26).ext ((Ext.refl _).alloc (.cells #[.int .i64 s, .bool v] 59))
  have f0 := Blk.at (w.alloc (.cells #[.int .i64 c.inputs, .slice p.an c.next.length p.cn, .slice p.ag c.gates.length p.cg, .slice p.ao c.outs.length p.co] 26)) [.int .i64 s, .bool v] 59 (B := w.heap.size + 1) (by simp)
  have EF : Hid (detectsV c s v x = (faultB c s && decide (0 ≤ x) && decide (x < assigns c) && detV c s v x.toNat)) := Lib.hid rfl
  obtain ⟨D, hD⟩ : ∃ D, D = detectsV c s v x := ⟨_, rfl⟩
  rw [← hD] at EF ⊢
  clear hD
  cases hf : faultB c s
  · have HF := Lib.hid hf
    clear hf
    go_enter Try.func44, Try.ntmps44
    go_wp2_with fail
    refine (l12Fault_c c p s v _ (hc.ext (by (repeat (first | with_reducible assumption | with_reducible exact Ext.refl _ | with_reducible refine Ext.drew' ?_ | with_reducible refine Ext.drewN' ?_ _ | with_reducible refine Ext.alloc ?_ _ | (with_reducible refine Ext.setNew ?_ (by first | exact Nat.le_refl _ | (simp; done) | (simp; omega) | omega) _)))))).mono ?_
    rw [HF.out]
    rintro e w1 ⟨rfl, hE1⟩
    have E1 := Ext.trans (a := w) (by (repeat (first | with_reducible assumption | with_reducible exact Ext.refl _ | with_reducible refine Ext.drew' ?_ | with_reducible refine Ext.drewN' ?_ _ | with_reducible refine Ext.alloc ?_ _ | (with_reducible refine Ext.setNew ?_ (by first | exact Nat.le_refl _ | (simp; done) | (simp; omega) | omega) _)))) hE1
    go_wp2
    go_ret
    exact ⟨by rw [EF.out, HF.out]; rfl, E1⟩
  · obtain ⟨V, h1, h2⟩ := faultB_iff.1 hf
    have HF := Lib.hid hf
    have al := assigns_le V
    have a1 : 1 ≤ assigns c := Nat.one_le_two_pow
    have hw := shl_wrap V
    have i0 := V.i0
    have i4 := V.i4
    have ln := V.ln
    clear hf
    have hw2 : IntKind.i64.wrap ((assigns c : Int) - 1) = (assigns c : Int) - 1 := IntWalk.i64_in _ (by omega)
    by_cases hx : 0 ≤ x ∧ x ≤ (assigns c : Int) - 1
    · obtain ⟨xn, rfl⟩ := Int.eq_ofNat_of_zero_le hx.1
      have hin : (decide ((0 : Int) ≤ (xn : Int)) && decide ((xn : Int) ≤ (assigns c : Int) - 1)) = true := by simp; omega
      have HIN := Lib.hid hin
      obtain ⟨hx0, hx1⟩ := hx
      have e2 : decide ((0 : Int) ≤ (xn : Int)) = true := by simp
      have e3 : decide ((xn : Int) < (assigns c : Int)) = true := by simp; omega
      have E2' := Lib.hid e2
      have E3' := Lib.hid e3
      clear hin e2 e3
      go_enter Try.func44, Try.ntmps44
      go_wp2_with fail
      refine (l12Fault_c c p s v _ (hc.ext (by (repeat (first | with_reducible assumption | with_reducible exact Ext.refl _ | with_reducible refine Ext.drew' ?_ | with_reducible refine Ext.drewN' ?_ _ | with_reducible refine Ext.alloc ?_ _ | (with_reducible refine Ext.setNew ?_ (by first | exact Nat.le_refl _ | (simp; done) | (simp; omega) | omega) _)))))).mono ?_
      rw [HF.out]
      rintro e w1 ⟨rfl, hE1⟩
      have E1 := Ext.trans (a := w) (by (repeat (first | with_reducible assumption | with_reducible exact Ext.refl _ | with_reducible refine Ext.drew' ?_ | with_reducible refine Ext.drewN' ?_ _ | with_reducible refine Ext.alloc ?_ _ | (with_reducible refine Ext.setNew ?_ (by first | exact Nat.le_refl _ | (simp; done) | (simp; omega) | omega) _)))) hE1
      have y1 := y.ext hE1
      have f1 := f0.ext hE1
      (obtain ⟨la, a0, a1, a2, a3⟩ := (id y1))
      have f10 := f1.cell (i := 0) rfl
      have f11 := f1.cell (i := 1) rfl
      go_wp2_with fail
      refine (l1In_c _ _ _ _).mono ?_
      rw [HIN.out]
      rintro e w2 ⟨rfl, rfl⟩
      go_wp2_with fail
      refine (l12Detects_c c p s v xn (by omega) _ (hc.ext E1) V h1 h2).mono ?_
      rintro e w3 ⟨rfl, hE3⟩
      go_wp2
      go_ret
      refine ⟨?_, E1.trans hE3⟩
      rw [EF.out, HF.out, E2'.out, E3'.out]; rfl
    · have hin : (decide ((0 : Int) ≤ x) && decide (x ≤ (assigns c : Int) - 1)) = false := by
        rw [Bool.and_eq_false_iff, decide_eq_false_iff_not, decide_eq_false_iff_not]; omega
      have HIN := Lib.hid hin
      have hno : (decide (0 ≤ x) && decide (x < assigns c)) = false := by
        rw [Bool.and_eq_false_iff, decide_eq_false_iff_not, decide_eq_false_iff_not]; omega
      have HNO := Lib.hid hno
      clear hin hx hno
      go_enter Try.func44, Try.ntmps44
      go_wp2_with fail
      refine (l12Fault_c c p s v _ (hc.ext (by (repeat (first | with_reducible assumption | with_reducible exact Ext.refl _ | with_reducible refine Ext.drew' ?_ | with_reducible refine Ext.drewN' ?_ _ | with_reducible refine Ext.alloc ?_ _ | (with_reducible refine Ext.setNew ?_ (by first | exact Nat.le_refl _ | (simp; done) | (simp; omega) | omega) _)))))).mono ?_
      rw [HF.out]
      rintro e w1 ⟨rfl, hE1⟩
      have E1 := Ext.trans (a := w) (by (repeat (first | with_reducible assumption | with_reducible exact Ext.refl _ | with_reducible refine Ext.drew' ?_ | with_reducible refine Ext.drewN' ?_ _ | with_reducible refine Ext.alloc ?_ _ | (with_reducible refine Ext.setNew ?_ (by first | exact Nat.le_refl _ | (simp; done) | (simp; omega) | omega) _)))) hE1
      have y1 := y.ext hE1
      (obtain ⟨la, a0, a1, a2, a3⟩ := (id y1))
      go_wp2_with fail
      refine (l1In_c _ _ _ _).mono ?_
      rw [HIN.out]
      rintro e w2 ⟨rfl, rfl⟩
      go_wp2
      go_ret
      refine ⟨?_, E1⟩
      rw [EF.out, HF.out, Bool.true_and, HNO.out]; rfl
theorem toFault_c (x : Int) (b : Bool) (w : World) :
    Calls Try.prog 53 #[.agg #[.int .i64 x, .bool b]] w fun e w' => e = .returned (.agg #[.int .i64 x, .bool b]) ∧ Ext w w' := by
  go_enter Try.func53, Try.ntmps53
  go_wp2
  refine bodyPost_ret (v := .agg #[.int .i64 x, .bool b]) (by simp [results, Try.results53, go_sem]) rfl ?_
  refine ⟨rfl, ?_⟩
  repeat (first | exact Ext.refl _ | refine Ext.alloc ?_ _ | (refine Ext.setNew ?_ (by simp) _))
end Go.Proofs.Ytlkfhcigpkfhnaa
