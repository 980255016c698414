/- The drawing of faults; of the arguments of FindTest and Detects. -/
import Derived.Test.YtlkfhcigpkfhnaaDrawB
import Derived.Test.YtlkfhcigpkfhnaaRegion
namespace Go.Proofs.Ytlkfhcigpkfhnaa
open Go.RowKit
set_option maxRecDepth 100000
set_option linter.unusedVariables false
set_option linter.unusedSimpArgs false
def DrawnF (w : World) (rb : Nat) (bs : List Int) (N : Nat) (e : Ending) (w' : World) : Prop :=
  ∃ x b, e = .returned (.agg #[.int .i64 x, .bool b]) ∧ -1 ≤ x ∧ x ≤ 100 ∧ Rdr w' rb bs (N + 2) ∧ w.grownBy w' (some rb)
theorem box_ext {w w' : World} {B : Nat} (h : w.grownBy w' none) (hB : B < w.heap.size) : ∀ o, w'.cell? ⟨B, o, none⟩ = w.cell? ⟨B, o, none⟩ := fun o => World.cell?_of_block (a := ⟨B, o, none⟩) (h.block B hB (by simp))
theorem box_gr {w w' : World} {B rb : Nat} (h : w.grownBy w' (some rb)) (hB : B < w.heap.size) (hne : B ≠ rb) : ∀ o, w'.cell? ⟨B, o, none⟩ = w.cell? ⟨B, o, none⟩ := fun o => World.cell?_of_block (a := ⟨B, o, none⟩) (h.block B hB (by intro e; exact hne (Option.some.inj e)))
set_option maxHeartbeats 2000000 in
theorem l20Fault_c (rb : Nat) (bs : List Int) (N : Nat) (c : Circ) (p : Where3) (w : World) (hr : Rdr w rb bs N) (hN : N ≤ 1000000) (hd : DrawnC c 16) :
    Calls Try.prog 84 #[.pointer (some ⟨rb, 0, none⟩), .agg #[.int .i64 c.inputs, .slice p.an c.next.length p.cn, .slice p.ag c.gates.length p.cg, .slice p.ao c.outs.length p.co]] w (DrawnF w rb bs N) := by
  have d1 := hd.ln
  have d2 := hd.lg
  have d3 := hd.lo
  have d4 := hd.i0
  have d5 := hd.i1
  have HF : Hid (c.first = 1 + c.inputs + c.next.length) := Lib.hid rfl
  have hf : 0 ≤ c.first ∧ c.first ≤ 20 := by rw [HF.out]; omega
  have hrl := hr.lt
  have hw1 : IntKind.i64.wrap (c.first + c.gates.length) = c.first + c.gates.length := IntWalk.i64_in _ (by omega)
  have hw2 : IntKind.i64.wrap (c.first + c.gates.length + 2) = c.first + c.gates.length + 2 := IntWalk.i64_in _ (by omega)
  have y := (CircBox.made w c p 26).ext ((Ext.refl _).alloc (.cells #[.int .i64 0, .bool false] 59))
  have f0 := Blk.at (w.alloc (.cells #[.int .i64 c.inputs, .slice p.an c.next.length p.cn, .slice p.ag c.gates.length p.cg, .slice p.ao c.outs.length p.co] 26)) [.int .i64 0, .bool false] 59 (B := w.heap.size + 1) (by simp)
  obtain ⟨w0, hw0⟩ : ∃ w0, w0 = (w.alloc (.cells #[.int .i64 c.inputs, .slice p.an c.next.length p.cn, .slice p.ag c.gates.length p.cg, .slice p.ao c.outs.length p.co] 26)).alloc (.cells #[.int .i64 0, .bool false] 59) := ⟨_, rfl⟩
  have E0 : Ext w w0 := by rw [hw0]; exact ((Ext.refl w).alloc _).alloc _
  rw [← hw0] at y f0
  have HW := Lib.hid hw0
  clear hw0
  have s0 := E0.size
  have hr0 := hr.ext E0
  go_enter Try.func84, Try.ntmps84
  go_wp2_with fail
  rw [← HW.out]
  (obtain ⟨la, a0, a1, a2, a3⟩ := (id y))
  have fl := f0.lt
  refine wp_regionT (fun w' => ∀ o, w'.cell? ⟨w.heap.size, o, none⟩ = w0.cell? ⟨w.heap.size, o, none⟩) 14 (by kernel_rfl) ?_
  have hS0 : ∀ o, w0.drew.cell? ⟨w.heap.size, o, none⟩ = w0.cell? ⟨w.heap.size, o, none⟩ := fun o => (ecell (Ext.drew w0)).1 _ o la
  ((refine wpAnyT_take 0 (v := ?_) rfl (by kernel_rfl) (fun _ _ _ h => h) (Or.inl ⟨by kernel_rfl, ?_⟩) (by assumption) ?_; rotate_left; (intro wS hSw; (try dsimp only at hSw); go_simp; (try with_reducible rfl)); (try simp only [Act.put, List.setIfInBounds_toArray, List.set_cons_zero, List.set_cons_succ])); (refine wpAnyT_take 1 (v := ?_) rfl (by kernel_rfl) (fun _ _ _ h => h) (Or.inl ⟨by kernel_rfl, ?_⟩) (by assumption) ?_; rotate_left; (intro wS hSw; (try dsimp only at hSw); go_simp; (try with_reducible rfl)); (try simp only [Act.put, List.setIfInBounds_toArray, List.set_cons_zero, List.set_cons_succ])); (refine wpAnyT_take 3 (v := ?_) rfl (by kernel_rfl) (fun _ _ _ h => h) (Or.inl ⟨by kernel_rfl, ?_⟩) (by assumption) ?_; rotate_left; (intro wS hSw; (try dsimp only at hSw); go_simp; (try with_reducible rfl)); (try simp only [Act.put, List.setIfInBounds_toArray, List.set_cons_zero, List.set_cons_succ])); (refine wpAnyT_take 4 (v := ?_) rfl (by kernel_rfl) (fun _ _ _ h => h) (Or.inl ⟨by kernel_rfl, ?_⟩) (by assumption) ?_; rotate_left; (intro wS hSw; (try dsimp only at hSw); go_simp; (try with_reducible rfl)); (try simp only [Act.put, List.setIfInBounds_toArray, List.set_cons_zero, List.set_cons_succ])); (refine wpAnyT_take 5 (v := ?_) rfl (by kernel_rfl) (fun _ _ _ h => h) (Or.inl ⟨by kernel_rfl, ?_⟩) (by assumption) ?_; rotate_left; (intro wS hSw; (try dsimp only at hSw); go_simp; (try with_reducible rfl)); (try simp only [Act.put, List.setIfInBounds_toArray, List.set_cons_zero, List.set_cons_succ])); (refine wpAnyT_take 10 (v := ?_) rfl (by kernel_rfl) (fun _ _ _ h => h) (Or.inl ⟨by kernel_rfl, ?_⟩) (by assumption) ?_; rotate_left; (intro wS hSw; (try dsimp only at hSw); go_simp; (try with_reducible rfl)); (try simp only [Act.put, List.setIfInBounds_toArray, List.set_cons_zero, List.set_cons_succ])))
  (refine wpAnyT_do 2 (by kernel_rfl) rfl (fun K hK => ?_))
  go_simp
  refine (l1First_c c p _ (by omega) (by omega) (by omega)).mono ?_
  rintro e w1 ⟨rfl, hE1⟩
  have E1 := (Ext.drew w0).trans hE1
  have hS1 : ∀ o, w1.cell? ⟨w.heap.size, o, none⟩ = w0.cell? ⟨w.heap.size, o, none⟩ := fun o => (ecell E1).1 _ o la
  (refine hK _ _ hS1 ?_; clear hK K; (try simp only [Act.put, List.setIfInBounds_toArray, List.set_cons_zero, List.set_cons_succ]))
  ((refine wpAnyT_take 6 (v := ?_) rfl (by kernel_rfl) (fun _ _ _ h => h) (Or.inl ⟨by kernel_rfl, ?_⟩) (by assumption) ?_; rotate_left; (intro wS hSw; (try dsimp only at hSw); go_simp; (try with_reducible rfl)); (try simp only [Act.put, List.setIfInBounds_toArray, List.set_cons_zero, List.set_cons_succ])); (refine wpAnyT_take 7 (v := ?_) rfl (by kernel_rfl) (fun _ _ _ h => h) (Or.inl ⟨by kernel_rfl, ?_⟩) (by assumption) ?_; rotate_left; (intro wS hSw; (try dsimp only at hSw); go_simp; (try with_reducible rfl)); (try simp only [Act.put, List.setIfInBounds_toArray, List.set_cons_zero, List.set_cons_succ])))
  (refine wpAnyT_do 8 (by kernel_rfl) rfl (fun K hK => ?_))
  go_simp
  refine (pick_c rb bs N _ _ (hr0.ext E1) (by omega) (by omega)).mono ?_
  rintro e w2 ⟨ka, rfl, ka0, ka1, hR2, hG2⟩
  have G2 : w0.grownBy w2 (some rb) := Gr.trans (Gr.ext E1 _) hG2
  have hS2 : ∀ o, w2.cell? ⟨w.heap.size, o, none⟩ = w0.cell? ⟨w.heap.size, o, none⟩ := box_gr G2 la (by omega)
  have ka2 : ka ≤ 100 := by rcases ka1 with h | h <;> omega
  have hw3 : IntKind.i64.wrap (ka - 1) = ka - 1 := IntWalk.i64_in _ (by omega)
  clear ka1
  (refine hK _ _ hS2 ?_; clear hK K; (try simp only [Act.put, List.setIfInBounds_toArray, List.set_cons_zero, List.set_cons_succ]))
  ((refine wpAnyT_take 9 (v := ?_) rfl (by kernel_rfl) (fun _ _ _ h => h) (Or.inl ⟨by kernel_rfl, ?_⟩) (by assumption) ?_; rotate_left; (intro wS hSw; (try dsimp only at hSw); go_simp; (try with_reducible rfl)); (try simp only [Act.put, List.setIfInBounds_toArray, List.set_cons_zero, List.set_cons_succ])))
  (refine wpAnyT_do 11 (by kernel_rfl) rfl (fun K hK => ?_))
  go_simp
  refine (pick_c rb bs (N + 1) 2 _ hR2 (by omega) (by omega)).mono ?_
  rintro e w3 ⟨kb, rfl, kb0, kb1, hR3, hG3⟩
  have G3 : w0.grownBy w3 (some rb) := Gr.trans G2 hG3
  have hS3 : ∀ o, w3.cell? ⟨w.heap.size, o, none⟩ = w0.cell? ⟨w.heap.size, o, none⟩ := box_gr G3 la (by omega)
  have f3 : Blk w3 _ _ _ := f0.gr G3 (by simp; omega)
  have f30 := f3.cell (i := 0) rfl
  have f31 := f3.cell (i := 1) rfl
  have f3f := fun i => f3.frozen i
  have f3l := f3.lt
  clear kb1
  (refine hK _ _ hS3 ?_; clear hK K; (try simp only [Act.put, List.setIfInBounds_toArray, List.set_cons_zero, List.set_cons_succ]))
  ((refine wpAnyT_take 12 (v := ?_) rfl (by kernel_rfl) (fun _ _ _ h => h) (Or.inl ⟨by kernel_rfl, ?_⟩) (by assumption) ?_; rotate_left; (intro wS hSw; (try dsimp only at hSw); go_simp; (try with_reducible rfl)); (try simp only [Act.put, List.setIfInBounds_toArray, List.set_cons_zero, List.set_cons_succ])); (refine wpAnyT_take 13 (v := ?_) rfl (by kernel_rfl) (fun _ _ _ h => h) (Or.inl ⟨by kernel_rfl, ?_⟩) (by assumption) ?_; rotate_left; (intro wS hSw; (try dsimp only at hSw); go_simp; (try with_reducible rfl)); (try simp only [Act.put, List.setIfInBounds_toArray, List.set_cons_zero, List.set_cons_succ])))
  (refine wpAnyT_last 14 (by kernel_rfl) rfl (by decide) (by kernel_rfl) (fun K hK => ?_))
  go_simp
  (refine hK _ _ ?_; clear hK K; (try simp only [Act.put, List.setIfInBounds_toArray, List.set_cons_zero, List.set_cons_succ]))
  have rF := (f3.set 0 (.int .i64 (ka - 1))).set 1 (.bool (kb == 1))
  have rf0 := rF.cell (i := 0) rfl
  have rf1 := rF.cell (i := 1) rfl
  go_wp2
  refine bodyPost_ret (v := .agg #[.int .i64 (ka - 1), .bool (kb == 1)]) (by simp [results, Try.results84, go_sem, rf0, rf1]) rfl ?_
  have GW : w.grownBy w3 (some rb) := Gr.trans (Gr.ext E0 _) G3
  refine ⟨_, _, rfl, by omega, by omega, ?_, Gr.setNew (Gr.setNew GW (by simp) _) (by simp) _⟩
  exact (hR3.grn (r := some (w.heap.size + 1)) (gr_setOwn (gr_setOwn (Gr.refl _ _) _ _) _ _) (fun k hk => by have : w.heap.size + 1 = k := Option.some.inj hk; omega))
end Go.Proofs.Ytlkfhcigpkfhnaa
