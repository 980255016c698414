/- Contract: the circuit that the builder has built. -/
import Derived.Test.YtpfhlodlefcomaaOptKMap
import Derived.Test.YtpfhlodlefcomaaOptJ
import Derived.Deep.DeepCutAuto
namespace Go.Proofs.Ytpfhlodlefcomaa
open Go.RowKit
set_option maxRecDepth 100000
set_option linter.unusedVariables false
set_option linter.unusedSimpArgs false
theorem cbuild_put {W : World} {base base' D : Nat} {c : Circ} {nv gv ov z0 z1 z2 z3 : Value} (hb : Blk W D 26 [z0, z1, z2, z3]) (ho : OwnC W base c nv gv ov) (hD : base' ≤ D) (hbb : base' ≤ base) (hn : nv.ownBlock ≠ some D) (hg : gv.ownBlock ≠ some D) (hv : ov.ownBlock ≠ some D) :
    CBuild ((((W.setCell ⟨D, 0, none⟩ (.int .i64 c.inputs)).setCell ⟨D, 1, none⟩ nv).setCell ⟨D, 2, none⟩ gv).setCell ⟨D, 3, none⟩ ov) base' D c nv gv ov := by
  have st : ∀ {u : Value} {t : TypeId} {size n : Nat} {xs : List Value}, W.ownsRow base t size u n xs → u.ownBlock ≠ some D → ((((W.setCell ⟨D, 0, none⟩ (.int .i64 c.inputs)).setCell ⟨D, 1, none⟩ nv).setCell ⟨D, 2, none⟩ gv).setCell ⟨D, 3, none⟩ ov).ownsRow base' t size u n xs :=
    fun hu hne => ownsRow_base (ownsRow_set (ownsRow_set (ownsRow_set (ownsRow_set hu hne _) hne _) hne _) hne _) hbb
  exact ⟨(((hb.set 0 (.int .i64 c.inputs)).set 1 nv).set 2 gv).set 3 ov, hD, st ho.nx hn, st ho.gs hg, st ho.os hv, hn, hg, hv, ho.ng, ho.no, ho.go⟩
theorem cbuild_new {W : World} {base base' : Nat} {c : Circ} {nv gv ov : Value} (ho : OwnC W base c nv gv ov) (hD : base' ≤ W.heap.size) (hbb : base' ≤ base) :
    CBuild (W.alloc (.cells #[.int .i64 c.inputs, nv, gv, ov] 26)) base' W.heap.size c nv gv ov := by
  have st : ∀ {u : Value} {t : TypeId} {size n : Nat} {xs : List Value}, W.ownsRow base t size u n xs → (W.alloc (.cells #[.int .i64 c.inputs, nv, gv, ov] 26)).ownsRow base' t size u n xs :=
    fun hu => ownsRow_base (ownsRow_ext hu ((Ext.refl W).alloc _)) hbb
  exact ⟨heap_alloc_new W _, hD, st ho.nx, st ho.gs, st ho.os, fun e => by have := (ho.nx.lt _ e).2; omega, fun e => by have := (ho.gs.lt _ e).2; omega, fun e => by have := (ho.os.lt _ e).2; omega, ho.ng, ho.no, ho.go⟩
theorem ext_set4 {w W : World} {D : Nat} {a0 a1 a2 a3 : Value} (h : Ext w W) (hD : w.heap.size ≤ D) : Ext w ((((W.setCell ⟨D, 0, none⟩ a0).setCell ⟨D, 1, none⟩ a1).setCell ⟨D, 2, none⟩ a2).setCell ⟨D, 3, none⟩ a3) :=
  Ext.setNew (p := ⟨D, 3, none⟩) (Ext.setNew (p := ⟨D, 2, none⟩) (Ext.setNew (p := ⟨D, 1, none⟩) (Ext.setNew (p := ⟨D, 0, none⟩) h hD _) hD _) hD _) hD _
def BuCirc (w : World) (c : Circ) (ms : List Int) (gv : Value) (e : Ending) (w' : World) : Prop := ∃ nv ov, e = .returned (.agg #[.int .i64 c.inputs, nv, gv, ov]) ∧ w'.ownsRow w.heap.size 3 1 nv c.next.length ((c.next.map (mapL ms)).map (Value.int .i64)) ∧
  w'.ownsRow w.heap.size 3 1 ov c.outs.length ((c.outs.map (mapL ms)).map (Value.int .i64)) ∧ (∀ k, nv.ownBlock = some k → ov.ownBlock ≠ some k) ∧ Ext w w'
def GiveL (w : World) (c : Circ) (ms : List Int) (e : Ending) (w' : World) : Prop := ∃ na nc ga gc oa oc, e = .returned (.agg #[.int .i64 c.inputs, .slice na c.next.length nc, .slice ga 0 gc, .slice oa c.outs.length oc]) ∧
  OwnC w' w.heap.size ⟨c.inputs, c.next.map (mapL ms), [], c.outs.map (mapL ms)⟩ (.slice na c.next.length nc) (.slice ga 0 gc) (.slice oa c.outs.length oc) ∧ Ext w w'
def CutL (w : World) (c : Circ) (ms : List Int) (v : Value) (wx : World) : Prop := ∃ D na nc ga gc oa oc, v = .pointer (some ⟨D, 0, none⟩) ∧ CBuild wx w.heap.size D ⟨c.inputs, c.next.map (mapL ms), [], c.outs.map (mapL ms)⟩ (.slice na c.next.length nc) (.slice ga 0 gc) (.slice oa c.outs.length oc) ∧ Ext w wx
set_option maxHeartbeats 4000000 in
theorem buCircuit_c (b : Nat) (c : Circ) (p : Where3) (w : World) (hb : CircBox w b c p) (hc : CircAt w c p) (V : c.Valid) (base bb mb : Nat) (f : Int) (ks gs : List (Int × Int)) (gv lv : Value) (ls : List Int) (hu : Bu w base bb mb f ks gs gv lv ls)
    (a : Option Addr) (cap n : Nat) (ms : List Int) (hn : ms.length = n) (hm : IntsAt w a ms) (hl : n ≤ 1000) (hx : ∀ x ∈ ms, 0 ≤ x ∧ x ≤ 1000000) (hv : c.vars ≤ n) :
    Calls Try.prog 74 #[.pointer (some ⟨bb, 0, none⟩), .pointer (some ⟨b, 0, none⟩), .slice a n cap] w (BuCirc w c ms gv) := by
  have ln := V.ln
  have lo := V.lo
  have hi0 := V.i0
  have hcall : ∀ (W : World) (D : Nat), Ext (w.alloc (.cells #[.slice a n cap] 23)) W → CircBox W D ⟨c.inputs, c.next, [], c.outs⟩ ⟨p.an, p.cn, none, 0, p.ao, p.co⟩ →
      Calls Try.prog 81 #[.pointer (some ⟨D, 0, none⟩), .func (.func 82) #[] #[.pointer (some ⟨w.heap.size, 0, none⟩)]] W (GiveC W (renMap ms ⟨c.inputs, c.next, [], c.outs⟩)) := by
    intro W D hE hD
    have hE0 : Ext w W := Ext.trans ((Ext.refl w).alloc _) hE
    have hcW := hc.ext hE0
    have hr := V.rs
    rw [litsOk_append] at hr
    refine replacedMap_c D ⟨c.inputs, c.next, [], c.outs⟩ ⟨p.an, p.cn, none, 0, p.ao, p.co⟩ W hD ⟨hcW.nx, .inl rfl, hcW.ou, hcW.ln, by simp, hcW.lo⟩ hi0 (by dsimp only; omega) (by simp) (by dsimp only; omega)
      w.heap.size 23 a cap n ms hn ((Blk.at w [.slice a n cap] 23 rfl).ext hE) (hm.ext hE0) hl hx ?_ ?_ ?_
    · intro i hi
      have := litB_iff'.1 (hr.1 i hi)
      dsimp only at hi ⊢
      omega
    · intro i hi
      simp at hi
    · intro i hi
      have := litB_iff'.1 (hr.2 i hi)
      dsimp only at hi ⊢
      omega
  have hcall2 : ∀ (W : World) (D : Nat), Ext (w.alloc (.cells #[.slice a n cap] 23)) W → CircBox W D ⟨c.inputs, c.next, [], c.outs⟩ ⟨p.an, p.cn, none, 0, p.ao, p.co⟩ →
      Calls Try.prog 81 #[.pointer (some ⟨D, 0, none⟩), .func (.func 82) #[] #[.pointer (some ⟨w.heap.size, 0, none⟩)]] W (GiveL W c ms) := by
    intro W D hE hD
    refine (hcall W D hE hD).mono ?_
    rintro e w3 ⟨nv, gv2, ov, rfl, o3, hE3⟩
    obtain ⟨p3, rfl, rfl, rfl, _⟩ := o3.opened (by simp [renMap]; omega) (by simp [renMap]) (by simp [renMap]; omega)
    have hln : (renMap ms ⟨c.inputs, c.next, [], c.outs⟩).next.length = c.next.length := List.length_map _
    have hlo : (renMap ms ⟨c.inputs, c.next, [], c.outs⟩).outs.length = c.outs.length := List.length_map _
    rw [hln, hlo] at o3 ⊢
    exact ⟨_, _, _, _, _, _, rfl, o3, hE3⟩
  have HC := Lib.hid hcall2
  have HU := Lib.hid hu
  have hul := hu.blk.lt
  clear hcall hcall2 hx hn hv V hm hc
  have E0 : Ext (w.alloc (.cells #[.slice a n cap] 23)) ((w.alloc (.cells #[.slice a n cap] 23)).alloc (.cells #[.int .i64 0, .slice none 0 0, .slice none 0 0, .slice none 0 0] 26)) := (Ext.refl _).alloc _
  have E1 : Ext w ((w.alloc (.cells #[.slice a n cap] 23)).alloc (.cells #[.int .i64 0, .slice none 0 0, .slice none 0 0, .slice none 0 0] 26)) := ((Ext.refl w).alloc _).alloc _
  have R0 := Blk.at (w.alloc (.cells #[.slice a n cap] 23)) [.int .i64 0, .slice none 0 0, .slice none 0 0, .slice none 0 0] 26 (B := w.heap.size + 1) (by simp)
  have s0 : w.heap.size + 2 ≤ ((w.alloc (.cells #[.slice a n cap] 23)).alloc (.cells #[.int .i64 0, .slice none 0 0, .slice none 0 0, .slice none 0 0] 26)).heap.size := by simp
  go_enter Try.func74, Try.ntmps74
  go_wp2_with fail
  generalize w.alloc (.cells #[.slice a n cap] 23) = WA at *
  generalize WA.alloc (.cells #[.int .i64 0, .slice none 0 0, .slice none 0 0, .slice none 0 0] 26) = W1 at *
  obtain ⟨lb, b0, b1, b2, b3⟩ := hb.ext E1
  go_cut [7] (CutL W1 c ms)
  case first =>
    (refine wp_regionT ((fun w' => (∀ b o, b < W1.heap.size → w'.cell? ⟨b, o, none⟩ = W1.cell? ⟨b, o, none⟩) ∧ Ext W1 w')) 17 (by kernel_rfl) ?_; have hS0 := held_mk (Ext.drew W1))
    ((refine wpAnyT_take 0 (v := ?_) rfl (by kernel_rfl) (fun _ _ _ h => h) (Or.inl ⟨by kernel_rfl, ?_⟩) (by assumption) ?_; rotate_left; (intro wS hSw; (try dsimp only at hSw); go_simp; (try with_reducible rfl)); (try simp only [Act.put, List.setIfInBounds_toArray, List.set_cons_zero, List.set_cons_succ])); (refine wpAnyT_take 1 (v := ?_) rfl (by kernel_rfl) (fun _ _ _ h => h) (Or.inl ⟨by kernel_rfl, ?_⟩) (by assumption) ?_; rotate_left; (intro wS hSw; (try dsimp only at hSw); go_simp; (try with_reducible rfl)); (try simp only [Act.put, List.setIfInBounds_toArray, List.set_cons_zero, List.set_cons_succ])); (refine wpAnyT_take 2 (v := ?_) rfl (by kernel_rfl) (fun _ _ _ h => h) (Or.inl ⟨by kernel_rfl, ?_⟩) (by assumption) ?_; rotate_left; (intro wS hSw; (try dsimp only at hSw); go_simp; (try with_reducible rfl)); (try simp only [Act.put, List.setIfInBounds_toArray, List.set_cons_zero, List.set_cons_succ])); (refine wpAnyT_take 3 (v := ?_) rfl (by kernel_rfl) (fun _ _ _ h => h) (Or.inl ⟨by kernel_rfl, ?_⟩) (by assumption) ?_; rotate_left; (intro wS hSw; (try dsimp only at hSw); go_simp; (try with_reducible rfl)); (try simp only [Act.put, List.setIfInBounds_toArray, List.set_cons_zero, List.set_cons_succ])); (refine wpAnyT_take 4 (v := ?_) rfl (by kernel_rfl) (fun _ _ _ h => h) (Or.inl ⟨by kernel_rfl, ?_⟩) (by assumption) ?_; rotate_left; (intro wS hSw; (try dsimp only at hSw); go_simp; (try with_reducible rfl)); (try simp only [Act.put, List.setIfInBounds_toArray, List.set_cons_zero, List.set_cons_succ])); (refine wpAnyT_take 5 (v := ?_) rfl (by kernel_rfl) (fun _ _ _ h => h) (Or.inl ⟨by kernel_rfl, ?_⟩) (by assumption) ?_; rotate_left; (intro wS hSw; (try dsimp only at hSw); go_simp; (try with_reducible rfl)); (try simp only [Act.put, List.setIfInBounds_toArray, List.set_cons_zero, List.set_cons_succ])); (refine wpAnyT_take 6 (v := ?_) rfl (by kernel_rfl) (fun _ _ _ h => h) (Or.inl ⟨by kernel_rfl, ?_⟩) (by assumption) ?_; rotate_left; (intro wS hSw; (try dsimp only at hSw); go_simp; (try with_reducible rfl)); (try simp only [Act.put, List.setIfInBounds_toArray, List.set_cons_zero, List.set_cons_succ])); (refine wpAnyT_take 7 (v := ?_) rfl (by kernel_rfl) (fun _ _ _ h => h) (Or.inl ⟨by kernel_rfl, ?_⟩) (by assumption) ?_; rotate_left; (intro wS hSw; (try dsimp only at hSw); go_simp; (try with_reducible rfl)); (try simp only [Act.put, List.setIfInBounds_toArray, List.set_cons_zero, List.set_cons_succ])); (refine wpAnyT_take 8 (v := ?_) rfl (by kernel_rfl) (fun _ _ _ h => h) (Or.inl ⟨by kernel_rfl, ?_⟩) (by assumption) ?_; rotate_left; (intro wS hSw; (try dsimp only at hSw); go_simp; (try with_reducible rfl)); (try simp only [Act.put, List.setIfInBounds_toArray, List.set_cons_zero, List.set_cons_succ])); (refine wpAnyT_take 9 (v := ?_) rfl (by kernel_rfl) (fun _ _ _ h => h) (Or.inl ⟨by kernel_rfl, ?_⟩) (by assumption) ?_; rotate_left; (intro wS hSw; (try dsimp only at hSw); go_simp; (try with_reducible rfl)); (try simp only [Act.put, List.setIfInBounds_toArray, List.set_cons_zero, List.set_cons_succ])); (refine wpAnyT_take 10 (v := ?_) rfl (by kernel_rfl) (fun _ _ _ h => h) (Or.inl ⟨by kernel_rfl, ?_⟩) (by assumption) ?_; rotate_left; (intro wS hSw; (try dsimp only at hSw); go_simp; (try with_reducible rfl)); (try simp only [Act.put, List.setIfInBounds_toArray, List.set_cons_zero, List.set_cons_succ])); (refine wpAnyT_take 11 (v := ?_) rfl (by kernel_rfl) (fun _ _ _ h => h) (Or.inl ⟨by kernel_rfl, ?_⟩) (by assumption) ?_; rotate_left; (intro wS hSw; (try dsimp only at hSw); go_simp; (try with_reducible rfl)); (try simp only [Act.put, List.setIfInBounds_toArray, List.set_cons_zero, List.set_cons_succ])); (refine wpAnyT_take 12 (v := ?_) rfl (by kernel_rfl) (fun _ _ _ h => h) (Or.inl ⟨by kernel_rfl, ?_⟩) (by assumption) ?_; rotate_left; (intro wS hSw; (try dsimp only at hSw); go_simp; (try with_reducible rfl)); (try simp only [Act.put, List.setIfInBounds_toArray, List.set_cons_zero, List.set_cons_succ])); (refine wpAnyT_take 14 (v := ?_) rfl (by kernel_rfl) (fun _ _ _ h => h) (Or.inl ⟨by kernel_rfl, ?_⟩) (by assumption) ?_; rotate_left; (intro wS hSw; (try dsimp only at hSw); go_simp; (try with_reducible rfl)); (try simp only [Act.put, List.setIfInBounds_toArray, List.set_cons_zero, List.set_cons_succ])))
    (refine wpAnyT_do2 13 16 (by kernel_rfl) rfl rfl (fun K hK => ?_) (fun K hK => ?_))
    · go_simp
      have eX : Ext W1 (W1.alloc (.cells #[.int .i64 c.inputs, .slice p.an c.next.length p.cn, .slice none 0 0, .slice p.ao c.outs.length p.co] 26)).drew := ((Ext.refl W1).alloc _).drew'
      have hbox := (CircBox.at W1 ⟨c.inputs, c.next, [], c.outs⟩ ⟨p.an, p.cn, none, 0, p.ao, p.co⟩ 26 rfl).ext (Ext.drew _)
      have hS1 := held_mk eX
      (refine hK _ _ hS1 ?_; clear hK K; (try simp only [Act.put, List.setIfInBounds_toArray, List.set_cons_zero, List.set_cons_succ]))
      (refine wpAnyT_do2 15 16 (by kernel_rfl) rfl rfl (fun K hK => ?_) (fun K hK => ?_))
      · go_simp
        refine (HC.out _ _ (E0.trans (eX)) hbox).mono ?_
        rintro e w3 ⟨na, nc, ga, gc, oa, oc, rfl, o3, hE3⟩
        have hE4 := Ext.trans (eX) hE3
        have hs3 := hE3.size
        have hS2 := held_mk hE4
        (refine hK _ _ hS2 ?_; clear hK K; (try simp only [Act.put, List.setIfInBounds_toArray, List.set_cons_zero, List.set_cons_succ]))
        (refine wpAnyT_doB 16 (by kernel_rfl) rfl (fun K hK => ?_))
        refine Bx.mk ?_
        go_simp
        have hS3 := held_mk (hE4.alloc (.cells #[.int .i64 0, .slice none 0 0, .slice none 0 0, .slice none 0 0] 26))
        have bk := Blk.at w3 [.int .i64 0, .slice none 0 0, .slice none 0 0, .slice none 0 0] 26 rfl
        (have z0 := bk.cell (i := 0) rfl; have z1 := bk.cell (i := 1) rfl; have z2 := bk.cell (i := 2) rfl; have z3 := bk.cell (i := 3) rfl; have zf := (fun i => bk.frozen i))
        (refine hK _ _ hS3 ?_; clear hK K; (try simp only [Act.put, List.setIfInBounds_toArray, List.set_cons_zero, List.set_cons_succ]))
        (refine wpAnyT_lastB 17 (by kernel_rfl) rfl (by decide) (by kernel_rfl) (fun K hK => ?_))
        refine Bx.mk ?_
        go_simp
        (refine hK _ _ ?_; clear hK K; (try simp only [Act.put, List.setIfInBounds_toArray, List.set_cons_zero, List.set_cons_succ]))
        go_wp2_with fail
        go_meet
        exact ⟨w3.heap.size, _, _, _, _, _, _, rfl, cbuild_new o3 hE4.size (by simp), hE4.alloc _⟩
      · go_simp
        have eY : Ext W1 ((W1.alloc (.cells #[.int .i64 c.inputs, .slice p.an c.next.length p.cn, .slice none 0 0, .slice p.ao c.outs.length p.co] 26)).alloc (.cells #[.int .i64 0, .slice none 0 0, .slice none 0 0, .slice none 0 0] 26)).drew := (((Ext.refl W1).alloc _).alloc _).drew'
        have bk0 := (Blk.at (W1.alloc (.cells #[.int .i64 c.inputs, .slice p.an c.next.length p.cn, .slice none 0 0, .slice p.ao c.outs.length p.co] 26)) [.int .i64 0, .slice none 0 0, .slice none 0 0, .slice none 0 0] 26 (B := W1.heap.size + 1) (by simp)).ext (Ext.drew _)
        have hboxY := (CircBox.at W1 ⟨c.inputs, c.next, [], c.outs⟩ ⟨p.an, p.cn, none, 0, p.ao, p.co⟩ 26 rfl).ext (((Ext.refl _).alloc (.cells #[.int .i64 0, .slice none 0 0, .slice none 0 0, .slice none 0 0] 26)).drew')
        have hS2 := held_mk eY
        (refine hK _ _ hS2 ?_; clear hK K; (try simp only [Act.put, List.setIfInBounds_toArray, List.set_cons_zero, List.set_cons_succ]))
        (refine wpAnyT_doB 15 (by kernel_rfl) rfl (fun K hK => ?_))
        refine Bx.mk ?_
        go_simp
        refine (HC.out _ _ (E0.trans (eY)) hboxY).mono ?_
        rintro e w3 ⟨na, nc, ga, gc, oa, oc, rfl, o3, hE3⟩
        have hE4 := Ext.trans (eY) hE3
        have hs3 := hE3.size
        have bk := bk0.ext hE3
        (have z0 := bk.cell (i := 0) rfl; have z1 := bk.cell (i := 1) rfl; have z2 := bk.cell (i := 2) rfl; have z3 := bk.cell (i := 3) rfl; have zf := (fun i => bk.frozen i))
        have hS3 := held_mk hE4
        (refine hK _ _ hS3 ?_; clear hK K; (try simp only [Act.put, List.setIfInBounds_toArray, List.set_cons_zero, List.set_cons_succ]))
        (refine wpAnyT_lastB 17 (by kernel_rfl) rfl (by decide) (by kernel_rfl) (fun K hK => ?_))
        refine Bx.mk ?_
        go_simp
        (refine hK _ _ ?_; clear hK K; (try simp only [Act.put, List.setIfInBounds_toArray, List.set_cons_zero, List.set_cons_succ]))
        go_wp2_with fail
        go_meet
        exact ⟨W1.heap.size + 1, _, _, _, _, _, _, rfl, cbuild_put bk o3 (by omega) (by simp; omega) (fun e => by have := (o3.nx.lt _ e).1; simp at this; omega) (fun e => by have := (o3.gs.lt _ e).1; simp at this; omega) (fun e => by have := (o3.os.lt _ e).1; simp at this; omega), ext_set4 hE4 (by omega)⟩
    · go_simp
      have eZ : Ext W1 (W1.alloc (.cells #[.int .i64 0, .slice none 0 0, .slice none 0 0, .slice none 0 0] 26)).drew := ((Ext.refl W1).alloc _).drew'
      have hS1 := held_mk eZ
      (refine hK _ _ hS1 ?_; clear hK K; (try simp only [Act.put, List.setIfInBounds_toArray, List.set_cons_zero, List.set_cons_succ]))
      (refine wpAnyT_doB 13 (by kernel_rfl) rfl (fun K hK => ?_))
      refine Bx.mk ?_
      go_simp
      · have eY : Ext W1 ((W1.alloc (.cells #[.int .i64 0, .slice none 0 0, .slice none 0 0, .slice none 0 0] 26)).alloc (.cells #[.int .i64 c.inputs, .slice p.an c.next.length p.cn, .slice none 0 0, .slice p.ao c.outs.length p.co] 26)).drew := (((Ext.refl W1).alloc _).alloc _).drew'
        have bk0 := (Blk.at W1 [.int .i64 0, .slice none 0 0, .slice none 0 0, .slice none 0 0] 26 rfl).ext (((Ext.refl _).alloc (.cells #[.int .i64 c.inputs, .slice p.an c.next.length p.cn, .slice none 0 0, .slice p.ao c.outs.length p.co] 26)).drew')
        have hboxY := (CircBox.at (W1.alloc (.cells #[.int .i64 0, .slice none 0 0, .slice none 0 0, .slice none 0 0] 26)) ⟨c.inputs, c.next, [], c.outs⟩ ⟨p.an, p.cn, none, 0, p.ao, p.co⟩ 26 (B := W1.heap.size + 1) (by simp)).ext (Ext.drew _)
        have hS2 := held_mk eY
        (refine hK _ _ hS2 ?_; clear hK K; (try simp only [Act.put, List.setIfInBounds_toArray, List.set_cons_zero, List.set_cons_succ]))
        (refine wpAnyT_doB 15 (by kernel_rfl) rfl (fun K hK => ?_))
        refine Bx.mk ?_
        go_simp
        refine (HC.out _ _ (E0.trans (eY)) hboxY).mono ?_
        rintro e w3 ⟨na, nc, ga, gc, oa, oc, rfl, o3, hE3⟩
        have hE4 := Ext.trans (eY) hE3
        have hs3 := hE3.size
        have bk := bk0.ext hE3
        (have z0 := bk.cell (i := 0) rfl; have z1 := bk.cell (i := 1) rfl; have z2 := bk.cell (i := 2) rfl; have z3 := bk.cell (i := 3) rfl; have zf := (fun i => bk.frozen i))
        have hS3 := held_mk hE4
        (refine hK _ _ hS3 ?_; clear hK K; (try simp only [Act.put, List.setIfInBounds_toArray, List.set_cons_zero, List.set_cons_succ]))
        (refine wpAnyT_lastB 17 (by kernel_rfl) rfl (by decide) (by kernel_rfl) (fun K hK => ?_))
        refine Bx.mk ?_
        go_simp
        (refine hK _ _ ?_; clear hK K; (try simp only [Act.put, List.setIfInBounds_toArray, List.set_cons_zero, List.set_cons_succ]))
        go_wp2_with fail
        go_meet
        exact ⟨W1.heap.size, _, _, _, _, _, _, rfl, cbuild_put bk o3 (Nat.le_refl _) (by simp; omega) (fun e => by have := (o3.nx.lt _ e).1; simp at this; omega) (fun e => by have := (o3.gs.lt _ e).1; simp at this; omega) (fun e => by have := (o3.os.lt _ e).1; simp at this; omega), ext_set4 hE4 (Nat.le_refl _)⟩
  obtain ⟨D, na, nc, ga, gc, oa, oc, rfl, hB, hE⟩ := hcut
  have hE1 := E1.trans hE
  have R1 := R0.ext hE
  have hu1 := HU.out.ext hE1
  obtain ⟨ga2, gc2, rfl, _⟩ := ownsRow_row HU.out.gs
  have u1 := hu1.blk.cell (i := 1) rfl
  have hDl := hB.lt
  have hDb := hB.hb
  have B0 : Blk wc D 26 [.int .i64 c.inputs, .slice na c.next.length nc, .slice ga 0 gc, .slice oa c.outs.length oc] := hB.blk
  have x2 := B0.cell (i := 2) rfl
  have xf := B0.frozen 2
  have B3 := B0.set 2 (.slice ga2 gs.length gc2)
  have R3 := R1.setOther (p := ⟨D, 2, none⟩) (by show _ ≠ D; omega) (.slice ga2 gs.length gc2)
  (have y0 := B3.cell (i := 0) rfl; have y1 := B3.cell (i := 1) rfl; have y2 := B3.cell (i := 2) rfl; have y3 := B3.cell (i := 3) rfl; have yf := (fun i => B3.frozen i))
  (have r0 := R3.cell (i := 0) rfl; have r1 := R3.cell (i := 1) rfl; have r2 := R3.cell (i := 2) rfl; have r3 := R3.cell (i := 3) rfl; have rf := (fun i => R3.frozen i))
  clear B3 R3 B0 R1 R0 hu1 b0 b1 b2 b3
  go_wp2
  refine bodyPost_ret (v := .agg #[.int .i64 c.inputs, .slice na c.next.length nc, .slice ga2 gs.length gc2, .slice oa c.outs.length oc]) (by simp [results, Try.results74, go_sem, y0, y1, y2, y3, r0, r1, r2, r3]) rfl ?_
  have nx := hB.nx
  have os := hB.os
  simp only [List.length_map] at nx os
  have st : ∀ {u : Value} {t : TypeId} {size n : Nat} {xs : List Value}, wc.ownsRow W1.heap.size t size u n xs → u.ownBlock ≠ some D → (((((wc.setCell ⟨D, 2, none⟩ (.slice ga2 gs.length gc2)).setCell ⟨w.heap.size + 1, 0, none⟩ (.int .i64 c.inputs)).setCell ⟨w.heap.size + 1, 1, none⟩ (.slice na c.next.length nc)).setCell ⟨w.heap.size + 1, 2, none⟩ (.slice ga2 gs.length gc2)).setCell ⟨w.heap.size + 1, 3, none⟩ (.slice oa c.outs.length oc)).ownsRow w.heap.size t size u n xs :=
    fun hu hne => ownsRow_base (ownsRow_set (ownsRow_set (ownsRow_set (ownsRow_set (ownsRow_set hu hne _) (fun e => by have := (hu.lt _ e).1; dsimp only at this; omega) _) (fun e => by have := (hu.lt _ e).1; dsimp only at this; omega) _) (fun e => by have := (hu.lt _ e).1; dsimp only at this; omega) _) (fun e => by have := (hu.lt _ e).1; dsimp only at this; omega) _) (by omega)
  exact ⟨_, _, rfl, st nx hB.n1, st os hB.o1, hB.no, ext_set4 (Ext.setNew (p := ⟨D, 2, none⟩) hE1 (by dsimp only; omega) _) (Nat.le_succ _)⟩
end Go.Proofs.Ytpfhlodlefcomaa
