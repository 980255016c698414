/- Contracts: whether an assignment detects a fault, the reference's way. -/
import Derived.Test.YtkdiniaddnhkdaaDetS
import Derived.Test.YtkdiniaddnhkdaaRegion
namespace Go.Proofs.Ytkdiniaddnhkdaa
open Go.RowKit
set_option maxRecDepth 100000
set_option linter.unusedVariables false
set_option linter.unusedSimpArgs false
theorem l4Bits_i (xi ni : Int) (x n : Nat) (h1 : xi = x) (h2 : ni = n) (hx : x ≤ 100000000) (hn : n ≤ 30) (w : World) :
    Calls Try.prog 123 #[.int .i64 xi, .int .i64 ni] w (GiveB w (bitsN x n)) := by
  subst h1 h2; exact l4Bits_c x n hx hn w
theorem detV_split (c : Circ) (s : Int) (v : Bool) (x : Nat) (G B : List Bool) (hG : G = valsOf (inB c x) (stB c x) c.gates) (hB : B = sVals s v (inB c x) (stB c x) c.gates) :
    detV c s v x = (!(litsV G c.outs == litsV B c.outs) || !(litsV G c.next == litsV B c.next)) := by
  have hl : (litsV G c.next).length = (litsV B c.next).length := by rw [litsV_length, litsV_length]
  have e1 : resV c (-1) false x = litsV G c.next ++ litsV G c.outs := by unfold resV; rw [hG, litsV_append]; rfl
  have e2 : resV c s v x = litsV B c.next ++ litsV B c.outs := by unfold resV; rw [hB, litsV_append]
  unfold detV
  rw [e1, e2]
  cases h1 : litsV G c.outs == litsV B c.outs <;> cases h2 : litsV G c.next == litsV B c.next
  · simp only [Bool.not_false, Bool.or_self, bne_iff_ne, ne_eq]
    rw [beq_eq_false_iff_ne] at h1 h2
    intro h
    exact h2 (List.append_inj_left h hl)
  · simp only [Bool.not_false, Bool.not_true, Bool.or_false, bne_iff_ne, ne_eq]
    rw [beq_eq_false_iff_ne] at h1
    intro h
    exact h1 (List.append_inj_right h hl)
  · simp only [Bool.not_false, Bool.not_true, Bool.or_true, bne_iff_ne, ne_eq]
    rw [beq_eq_false_iff_ne] at h2
    intro h
    exact h2 (List.append_inj_left h hl)
  · rw [beq_iff_eq] at h1 h2
    rw [h1, h2]; simp
set_option maxHeartbeats 4000000 in
theorem l12DetectsSame (c : Circ) (p : Where3) (s : Int) (v : Bool) (x : Nat) (hx : x ≤ 100000) (w : World) (hc : CircAt w c p) (V : c.Valid) (h1s : 1 ≤ s) (hsv : s < c.vars)
    (G B : List Bool) (hG : G = valsOf (inB c x) (stB c x) c.gates) (hB : B = sVals s v (inB c x) (stB c x) c.gates) (hO : (litsV G c.outs == litsV B c.outs) = true) :
    Calls Try.prog 83 #[.agg #[.int .i64 c.inputs, .slice p.an c.next.length p.cn, .slice p.ag c.gates.length p.cg, .slice p.ao c.outs.length p.co], .agg #[.int .i64 s, .bool v], .int .i64 x] w fun e w' => e = .returned (.bool (detV c s v x)) ∧ Ext w w' := by
  have i0 := V.i0
  have i4 := V.i4
  have ln := V.ln
  have lo := V.lo
  have hvl := (vars_le V).1
  have li1 : ((inB c x).length : Int) = c.inputs := by unfold inB; rw [bitsN_length]; omega
  have ls1 : (stB c x).length = c.next.length := by unfold stB; rw [bitsN_length]
  have gl : (G.length : Int) = c.vars := by rw [hG]; exact sv_len V _ _ _ _ li1 ls1
  have bl : (B.length : Int) = c.vars := by rw [hB]; exact sv_len V _ _ _ _ li1 ls1
  have LO := (litsOk_append.1 V.rs).2
  have LN := (litsOk_append.1 V.rs).1
  have DS := detV_split c s v x G B hG hB
  rw [hO] at DS
  have EI : Hid (inB c x = bitsN x c.inputs.toNat) := Lib.hid rfl
  have ET : Hid (stB c x = bitsN (x / 2 ^ c.inputs.toNat) c.next.length) := Lib.hid rfl
  have LI := Lib.hid li1
  have LS := Lib.hid ls1
  obtain ⟨I, hI⟩ : ∃ I, I = inB c x := ⟨_, rfl⟩
  obtain ⟨T, hT⟩ : ∃ T, T = stB c x := ⟨_, rfl⟩
  rw [← hI] at LI EI hG hB
  rw [← hT] at LS ET hG hB
  have lI : I.length ≤ 4 := by rw [hI]; omega
  have lT : T.length ≤ 3 := by rw [hT]; omega
  have GL := Lib.hid gl
  have BL := Lib.hid bl
  have LOG : LitsOk c.outs G.length := by rw [gl]; exact LO
  have LOB : LitsOk c.outs B.length := by rw [bl]; exact LO
  have LNG : LitsOk c.next G.length := by rw [gl]; exact LN
  have LNB : LitsOk c.next B.length := by rw [bl]; exact LN
  have LOG := Lib.hid LOG
  have LOB := Lib.hid LOB
  have LNG := Lib.hid LNG
  have LNB := Lib.hid LNB
  have g22 : G.length ≤ 22 := by omega
  have b22 : B.length ≤ 22 := by omega
  have HG := Lib.hid hG
  have HB := Lib.hid hB
  obtain ⟨D, hD⟩ : ∃ D, D = detV c s v x := ⟨_, rfl⟩
  rw [← hD] at DS ⊢
  have DS := Lib.hid DS
  have HO := Lib.hid hO
  have hd := bits_div x c.inputs.toNat
  have HD := Lib.hid hd
  have hle : x / 2 ^ c.inputs.toNat ≤ 100000000 := Nat.le_trans (Nat.div_le_self _ _) (by omega)
  clear li1 ls1 gl bl LO LN hI hT hG hB hD hO hd
  have y := (CircBox.made w c p 42).ext ((Ext.refl _).alloc (.cells #[.int .i64 s, .bool v] 50))
  have f := Blk.at (w.alloc (.cells #[.int .i64 c.inputs, .slice p.an c.next.length p.cn, .slice p.ag c.gates.length p.cg, .slice p.ao c.outs.length p.co] 42)) [.int .i64 s, .bool v] 50 (B := w.heap.size + 1) (by simp)
  go_enter Try.func83, Try.ntmps83
  go_wp2_with fail
  refine (l4Bits_i _ _ x c.inputs.toNat rfl (by omega) (by omega) (by omega) _).mono ?_
  rw [← EI.out]
  rintro e w1 ⟨v1, rfl, hO1, hE1⟩
  have E1 := Ext.trans (a := w) (by (repeat (first | with_reducible assumption | with_reducible exact Ext.refl _ | with_reducible refine Ext.drew' ?_ | with_reducible refine Ext.drewN' ?_ _ | with_reducible refine Ext.alloc ?_ _ | (with_reducible refine Ext.setNew ?_ (by first | exact Nat.le_refl _ | (simp; done) | (simp; omega) | omega) _)))) hE1
  have y1 := y.ext hE1
  have f1 := f.ext hE1
  (obtain ⟨la, a0, a1, a2, a3⟩ := (id y1))
  go_wp2_with fail
  go_region_held3 ((fun w' => (∀ b o, b < w1.heap.size → w'.cell? ⟨b, o, none⟩ = w1.cell? ⟨b, o, none⟩) ∧ Ext w1 w')) ((first | assumption | (with_reducible exact held_mk (Ext.drew w1)) | (with_reducible exact held_mk (((Ext.refl w1).alloc _).drew')) | (with_reducible exact held_mk ((Ext.drew w1).alloc _)))) (first | (go_simp; go_at_call 123; refine (l4Bits_i _ _ (x / 2 ^ c.inputs.toNat) c.next.length HD.out rfl hle (by omega) _).mono ?_; rw [← ET.out]; rintro e w2 ⟨v2, rfl, hO2, hE2⟩; have hK2 := held_mk ((Ext.drew w1).trans hE2)))
  have F2 := held_ext hK2
  have E2 := E1.trans F2
  have y2 := y1.ext F2
  have f2 := f1.ext F2
  obtain ⟨ra1, c1, rfl, hB1⟩ := hO1.opened
  obtain ⟨ra2, c2, rfl, hB2⟩ := hO2.opened
  have hB1 := hB1.ext F2
  clear a0 a1 a2 a3 la
  (obtain ⟨la, a0, a1, a2, a3⟩ := (id y2))
  go_wp2_with fail
  refine (l2Values_c c p _ _ _ _ T I _ (hc.ext E2) V hB2 hB1 LS.out LI.out).mono ?_
  rw [← HG.out]
  rintro e w3 ⟨v3, rfl, hO3, hE3⟩
  have E3 := E2.trans hE3
  have y3 := y2.ext hE3
  have f3 := f2.ext hE3
  clear a0 a1 a2 a3 la
  (obtain ⟨la, a0, a1, a2, a3⟩ := (id y3))
  have f30 := f3.cell (i := 0) rfl
  have f31 := f3.cell (i := 1) rfl
  go_wp2_with fail
  refine (l12Values_c c p s v _ _ _ _ T I _ (hc.ext E3) V (hB2.ext hE3) (hB1.ext hE3) LS.out LI.out h1s hsv).mono ?_
  rw [← HB.out]
  rintro e w4 ⟨v4, rfl, hO4, hE4⟩
  have E4 := E3.trans hE4
  have y4 := y3.ext hE4
  obtain ⟨a3', c3, rfl, hB3⟩ := hO3.opened
  obtain ⟨a4, c4, rfl, hB4⟩ := hO4.opened
  have hB3 := hB3.ext hE4
  clear a0 a1 a2 a3 la f30 f31
  (obtain ⟨la, a0, a1, a2, a3⟩ := (id y4))
  have o6 : c.outs.length ≤ 1048576 := by omega
  have n6 : c.next.length ≤ 1048576 := by omega
  have g6 : G.length ≤ 1048576 := by omega
  have b6 : B.length ≤ 1048576 := by omega
  have m1 : (litsV G c.outs).length ≤ 1048576 := by rw [litsV_length]; omega
  have m2 : (litsV B c.outs).length ≤ 1048576 := by rw [litsV_length]; omega
  have m3 : (litsV G c.next).length ≤ 1048576 := by rw [litsV_length]; omega
  have m4 : (litsV B c.next).length ≤ 1048576 := by rw [litsV_length]; omega
  go_wp2_with fail
  (refine wp_regionT ((fun w' => (∀ b o, b < w4.heap.size → w'.cell? ⟨b, o, none⟩ = w4.cell? ⟨b, o, none⟩) ∧ Ext w4 w')) 22 (by kernel_rfl) ?_; have hS0 := held_mk (Ext.drew w4))
  ((refine wpAnyT_take 0 (v := ?_) rfl (by kernel_rfl) (fun _ _ _ h => h) (Or.inl ⟨by kernel_rfl, ?_⟩) (by assumption) ?_; rotate_left; (intro wS hSw; (try dsimp only at hSw); go_simp; (try with_reducible rfl)); (try simp only [Act.put, List.setIfInBounds_toArray, List.set_cons_zero, List.set_cons_succ])); (refine wpAnyT_take 1 (v := ?_) rfl (by kernel_rfl) (fun _ _ _ h => h) (Or.inl ⟨by kernel_rfl, ?_⟩) (by assumption) ?_; rotate_left; (intro wS hSw; (try dsimp only at hSw); go_simp; (try with_reducible rfl)); (try simp only [Act.put, List.setIfInBounds_toArray, List.set_cons_zero, List.set_cons_succ])); (refine wpAnyT_take 2 (v := ?_) rfl (by kernel_rfl) (fun _ _ _ h => h) (Or.inl ⟨by kernel_rfl, ?_⟩) (by assumption) ?_; rotate_left; (intro wS hSw; (try dsimp only at hSw); go_simp; (try with_reducible rfl)); (try simp only [Act.put, List.setIfInBounds_toArray, List.set_cons_zero, List.set_cons_succ])); (refine wpAnyT_take 4 (v := ?_) rfl (by kernel_rfl) (fun _ _ _ h => h) (Or.inl ⟨by kernel_rfl, ?_⟩) (by assumption) ?_; rotate_left; (intro wS hSw; (try dsimp only at hSw); go_simp; (try with_reducible rfl)); (try simp only [Act.put, List.setIfInBounds_toArray, List.set_cons_zero, List.set_cons_succ])); (refine wpAnyT_take 5 (v := ?_) rfl (by kernel_rfl) (fun _ _ _ h => h) (Or.inl ⟨by kernel_rfl, ?_⟩) (by assumption) ?_; rotate_left; (intro wS hSw; (try dsimp only at hSw); go_simp; (try with_reducible rfl)); (try simp only [Act.put, List.setIfInBounds_toArray, List.set_cons_zero, List.set_cons_succ])); (refine wpAnyT_take 6 (v := ?_) rfl (by kernel_rfl) (fun _ _ _ h => h) (Or.inl ⟨by kernel_rfl, ?_⟩) (by assumption) ?_; rotate_left; (intro wS hSw; (try dsimp only at hSw); go_simp; (try with_reducible rfl)); (try simp only [Act.put, List.setIfInBounds_toArray, List.set_cons_zero, List.set_cons_succ])))
  (refine wpAnyT_do 3 (by kernel_rfl) rfl (fun K hK => ?_))
  go_simp
  refine (l2Lits_c _ _ _ _ _ _ G rfl c.outs rfl _ (hB3.ext (Ext.drew _)) ((hc.ou.ext E4).ext (Ext.drew _)) LOG.out g6 o6).mono ?_
  rintro e w5 ⟨v5, rfl, hO5, hE5⟩
  have F5 := (Ext.drew w4).trans hE5
  have hK5 := held_mk F5
  (refine hK _ _ hK5 ?_; clear hK K; (try simp only [Act.put, List.setIfInBounds_toArray, List.set_cons_zero, List.set_cons_succ]))
  (refine wpAnyT_do 7 (by kernel_rfl) rfl (fun K hK => ?_))
  go_simp
  refine (l2Lits_c _ _ _ _ _ _ B rfl c.outs rfl _ (hB4.ext F5) ((hc.ou.ext E4).ext F5) LOB.out b6 o6).mono ?_
  rintro e w6 ⟨v6, rfl, hO6, hE6⟩
  have F6 := F5.trans hE6
  have hK6 := held_mk F6
  obtain ⟨a5, c5, rfl, hB5⟩ := hO5.opened
  obtain ⟨a6, c6, rfl, hB6⟩ := hO6.opened
  (refine hK _ _ hK6 ?_; clear hK K; (try simp only [Act.put, List.setIfInBounds_toArray, List.set_cons_zero, List.set_cons_succ]))
  (refine wpAnyT_do 8 (by kernel_rfl) rfl (fun K hK => ?_))
  go_simp
  refine (l4Same_c _ _ _ _ _ _ (litsV G c.outs) (litsV B c.outs) rfl rfl _ (hB5.ext hE6) hB6 m1 m2).mono ?_
  rw [HO.out]
  rintro e w7 ⟨rfl, hE7⟩
  have F7 := F6.trans hE7
  have hK7 := held_mk F7
  (refine hK _ _ hK7 ?_; clear hK K; (try simp only [Act.put, List.setIfInBounds_toArray, List.set_cons_zero, List.set_cons_succ]))
  ((refine wpAnyT_take 9 (v := ?_) rfl (by kernel_rfl) (fun _ _ _ h => h) (Or.inl ⟨by kernel_rfl, ?_⟩) (by assumption) ?_; rotate_left; (intro wS hSw; (try dsimp only at hSw); go_simp; (try with_reducible rfl)); (try simp only [Act.put, List.setIfInBounds_toArray, List.set_cons_zero, List.set_cons_succ])); (refine wpAnyT_take 10 (v := ?_) rfl (by kernel_rfl) (fun _ _ _ h => h) (Or.inl ⟨by kernel_rfl, ?_⟩) (by assumption) ?_; rotate_left; (intro wS hSw; (try dsimp only at hSw); go_simp; (try with_reducible rfl)); (try simp only [Act.put, List.setIfInBounds_toArray, List.set_cons_zero, List.set_cons_succ])))
  ((refine wpAnyT_take 11 (v := ?_) rfl (by kernel_rfl) (fun _ _ _ h => h) (Or.inl ⟨by kernel_rfl, ?_⟩) (by assumption) ?_; rotate_left; (intro wS hSw; (try dsimp only at hSw); go_simp; (try with_reducible rfl)); (try simp only [Act.put, List.setIfInBounds_toArray, List.set_cons_zero, List.set_cons_succ])); (refine wpAnyT_take 12 (v := ?_) rfl (by kernel_rfl) (fun _ _ _ h => h) (Or.inl ⟨by kernel_rfl, ?_⟩) (by assumption) ?_; rotate_left; (intro wS hSw; (try dsimp only at hSw); go_simp; (try with_reducible rfl)); (try simp only [Act.put, List.setIfInBounds_toArray, List.set_cons_zero, List.set_cons_succ])); (refine wpAnyT_take 13 (v := ?_) rfl (by kernel_rfl) (fun _ _ _ h => h) (Or.inl ⟨by kernel_rfl, ?_⟩) (by assumption) ?_; rotate_left; (intro wS hSw; (try dsimp only at hSw); go_simp; (try with_reducible rfl)); (try simp only [Act.put, List.setIfInBounds_toArray, List.set_cons_zero, List.set_cons_succ])); (refine wpAnyT_take 15 (v := ?_) rfl (by kernel_rfl) (fun _ _ _ h => h) (Or.inl ⟨by kernel_rfl, ?_⟩) (by assumption) ?_; rotate_left; (intro wS hSw; (try dsimp only at hSw); go_simp; (try with_reducible rfl)); (try simp only [Act.put, List.setIfInBounds_toArray, List.set_cons_zero, List.set_cons_succ])); (refine wpAnyT_take 16 (v := ?_) rfl (by kernel_rfl) (fun _ _ _ h => h) (Or.inl ⟨by kernel_rfl, ?_⟩) (by assumption) ?_; rotate_left; (intro wS hSw; (try dsimp only at hSw); go_simp; (try with_reducible rfl)); (try simp only [Act.put, List.setIfInBounds_toArray, List.set_cons_zero, List.set_cons_succ])); (refine wpAnyT_take 17 (v := ?_) rfl (by kernel_rfl) (fun _ _ _ h => h) (Or.inl ⟨by kernel_rfl, ?_⟩) (by assumption) ?_; rotate_left; (intro wS hSw; (try dsimp only at hSw); go_simp; (try with_reducible rfl)); (try simp only [Act.put, List.setIfInBounds_toArray, List.set_cons_zero, List.set_cons_succ])))
  (refine wpAnyT_do 14 (by kernel_rfl) rfl (fun K hK => ?_))
  go_simp
  refine (l2Lits_c _ _ _ _ _ _ G rfl c.next rfl _ (hB3.ext F7) ((hc.nx.ext E4).ext F7) LNG.out g6 n6).mono ?_
  rintro e w8 ⟨v8, rfl, hO8, hE8⟩
  have F8 := F7.trans hE8
  have hK8 := held_mk F8
  (refine hK _ _ hK8 ?_; clear hK K; (try simp only [Act.put, List.setIfInBounds_toArray, List.set_cons_zero, List.set_cons_succ]))
  (refine wpAnyT_do 18 (by kernel_rfl) rfl (fun K hK => ?_))
  go_simp
  refine (l2Lits_c _ _ _ _ _ _ B rfl c.next rfl _ (hB4.ext F8) ((hc.nx.ext E4).ext F8) LNB.out b6 n6).mono ?_
  rintro e w9 ⟨v9, rfl, hO9, hE9⟩
  have F9 := F8.trans hE9
  have hK9 := held_mk F9
  obtain ⟨a8, c8, rfl, hB8⟩ := hO8.opened
  obtain ⟨a9, c9, rfl, hB9⟩ := hO9.opened
  (refine hK _ _ hK9 ?_; clear hK K; (try simp only [Act.put, List.setIfInBounds_toArray, List.set_cons_zero, List.set_cons_succ]))
  (refine wpAnyT_do 19 (by kernel_rfl) rfl (fun K hK => ?_))
  go_simp
  refine (l4Same_c _ _ _ _ _ _ (litsV G c.next) (litsV B c.next) rfl rfl _ (hB8.ext hE9) hB9 m3 m4).mono ?_
  rintro e w10 ⟨rfl, hE10⟩
  have F10 := F9.trans hE10
  have hK10 := held_mk F10
  (refine hK _ _ hK10 ?_; clear hK K; (try simp only [Act.put, List.setIfInBounds_toArray, List.set_cons_zero, List.set_cons_succ]))
  ((refine wpAnyT_take 20 (v := ?_) rfl (by kernel_rfl) (fun _ _ _ h => h) (Or.inl ⟨by kernel_rfl, ?_⟩) (by assumption) ?_; rotate_left; (intro wS hSw; (try dsimp only at hSw); go_simp; (try with_reducible rfl)); (try simp only [Act.put, List.setIfInBounds_toArray, List.set_cons_zero, List.set_cons_succ])); (refine wpAnyT_take 21 (v := ?_) rfl (by kernel_rfl) (fun _ _ _ h => h) (Or.inl ⟨by kernel_rfl, ?_⟩) (by assumption) ?_; rotate_left; (intro wS hSw; (try dsimp only at hSw); go_simp; (try with_reducible rfl)); (try simp only [Act.put, List.setIfInBounds_toArray, List.set_cons_zero, List.set_cons_succ])))
  (refine wpAnyT_last 22 (by kernel_rfl) rfl (by decide) (by kernel_rfl) (fun K hK => ?_))
  go_simp
  (refine hK _ _ ?_; clear hK K; (try simp only [Act.put, List.setIfInBounds_toArray, List.set_cons_zero, List.set_cons_succ]))
  go_wp2
  go_ret
  exact ⟨by rw [DS.out]; simp, E4.trans F10⟩
set_option maxHeartbeats 4000000 in
theorem l12DetectsDiff (c : Circ) (p : Where3) (s : Int) (v : Bool) (x : Nat) (hx : x ≤ 100000) (w : World) (hc : CircAt w c p) (V : c.Valid) (h1s : 1 ≤ s) (hsv : s < c.vars)
    (G B : List Bool) (hG : G = valsOf (inB c x) (stB c x) c.gates) (hB : B = sVals s v (inB c x) (stB c x) c.gates) (hO : (litsV G c.outs == litsV B c.outs) = false) :
    Calls Try.prog 83 #[.agg #[.int .i64 c.inputs, .slice p.an c.next.length p.cn, .slice p.ag c.gates.length p.cg, .slice p.ao c.outs.length p.co], .agg #[.int .i64 s, .bool v], .int .i64 x] w fun e w' => e = .returned (.bool (detV c s v x)) ∧ Ext w w' := by
  have i0 := V.i0
  have i4 := V.i4
  have ln := V.ln
  have lo := V.lo
  have hvl := (vars_le V).1
  have li1 : ((inB c x).length : Int) = c.inputs := by unfold inB; rw [bitsN_length]; omega
  have ls1 : (stB c x).length = c.next.length := by unfold stB; rw [bitsN_length]
  have gl : (G.length : Int) = c.vars := by rw [hG]; exact sv_len V _ _ _ _ li1 ls1
  have bl : (B.length : Int) = c.vars := by rw [hB]; exact sv_len V _ _ _ _ li1 ls1
  have LO := (litsOk_append.1 V.rs).2
  have LN := (litsOk_append.1 V.rs).1
  have DS := detV_split c s v x G B hG hB
  rw [hO] at DS
  have EI : Hid (inB c x = bitsN x c.inputs.toNat) := Lib.hid rfl
  have ET : Hid (stB c x = bitsN (x / 2 ^ c.inputs.toNat) c.next.length) := Lib.hid rfl
  have LI := Lib.hid li1
  have LS := Lib.hid ls1
  obtain ⟨I, hI⟩ : ∃ I, I = inB c x := ⟨_, rfl⟩
  obtain ⟨T, hT⟩ : ∃ T, T = stB c x := ⟨_, rfl⟩
  rw [← hI] at LI EI hG hB
  rw [← hT] at LS ET hG hB
  have lI : I.length ≤ 4 := by rw [hI]; omega
  have lT : T.length ≤ 3 := by rw [hT]; omega
  have GL := Lib.hid gl
  have BL := Lib.hid bl
  have LOG : LitsOk c.outs G.length := by rw [gl]; exact LO
  have LOB : LitsOk c.outs B.length := by rw [bl]; exact LO
  have LNG : LitsOk c.next G.length := by rw [gl]; exact LN
  have LNB : LitsOk c.next B.length := by rw [bl]; exact LN
  have LOG := Lib.hid LOG
  have LOB := Lib.hid LOB
  have LNG := Lib.hid LNG
  have LNB := Lib.hid LNB
  have g22 : G.length ≤ 22 := by omega
  have b22 : B.length ≤ 22 := by omega
  have HG := Lib.hid hG
  have HB := Lib.hid hB
  obtain ⟨D, hD⟩ : ∃ D, D = detV c s v x := ⟨_, rfl⟩
  rw [← hD] at DS ⊢
  have DS := Lib.hid DS
  have HO := Lib.hid hO
  have hd := bits_div x c.inputs.toNat
  have HD := Lib.hid hd
  have hle : x / 2 ^ c.inputs.toNat ≤ 100000000 := Nat.le_trans (Nat.div_le_self _ _) (by omega)
  clear li1 ls1 gl bl LO LN hI hT hG hB hD hO hd
  have y := (CircBox.made w c p 42).ext ((Ext.refl _).alloc (.cells #[.int .i64 s, .bool v] 50))
  have f := Blk.at (w.alloc (.cells #[.int .i64 c.inputs, .slice p.an c.next.length p.cn, .slice p.ag c.gates.length p.cg, .slice p.ao c.outs.length p.co] 42)) [.int .i64 s, .bool v] 50 (B := w.heap.size + 1) (by simp)
  go_enter Try.func83, Try.ntmps83
  go_wp2_with fail
  refine (l4Bits_i _ _ x c.inputs.toNat rfl (by omega) (by omega) (by omega) _).mono ?_
  rw [← EI.out]
  rintro e w1 ⟨v1, rfl, hO1, hE1⟩
  have E1 := Ext.trans (a := w) (by (repeat (first | with_reducible assumption | with_reducible exact Ext.refl _ | with_reducible refine Ext.drew' ?_ | with_reducible refine Ext.drewN' ?_ _ | with_reducible refine Ext.alloc ?_ _ | (with_reducible refine Ext.setNew ?_ (by first | exact Nat.le_refl _ | (simp; done) | (simp; omega) | omega) _)))) hE1
  have y1 := y.ext hE1
  have f1 := f.ext hE1
  (obtain ⟨la, a0, a1, a2, a3⟩ := (id y1))
  go_wp2_with fail
  go_region_held3 ((fun w' => (∀ b o, b < w1.heap.size → w'.cell? ⟨b, o, none⟩ = w1.cell? ⟨b, o, none⟩) ∧ Ext w1 w')) ((first | assumption | (with_reducible exact held_mk (Ext.drew w1)) | (with_reducible exact held_mk (((Ext.refl w1).alloc _).drew')) | (with_reducible exact held_mk ((Ext.drew w1).alloc _)))) (first | (go_simp; go_at_call 123; refine (l4Bits_i _ _ (x / 2 ^ c.inputs.toNat) c.next.length HD.out rfl hle (by omega) _).mono ?_; rw [← ET.out]; rintro e w2 ⟨v2, rfl, hO2, hE2⟩; have hK2 := held_mk ((Ext.drew w1).trans hE2)))
  have F2 := held_ext hK2
  have E2 := E1.trans F2
  have y2 := y1.ext F2
  have f2 := f1.ext F2
  obtain ⟨ra1, c1, rfl, hB1⟩ := hO1.opened
  obtain ⟨ra2, c2, rfl, hB2⟩ := hO2.opened
  have hB1 := hB1.ext F2
  clear a0 a1 a2 a3 la
  (obtain ⟨la, a0, a1, a2, a3⟩ := (id y2))
  go_wp2_with fail
  refine (l2Values_c c p _ _ _ _ T I _ (hc.ext E2) V hB2 hB1 LS.out LI.out).mono ?_
  rw [← HG.out]
  rintro e w3 ⟨v3, rfl, hO3, hE3⟩
  have E3 := E2.trans hE3
  have y3 := y2.ext hE3
  have f3 := f2.ext hE3
  clear a0 a1 a2 a3 la
  (obtain ⟨la, a0, a1, a2, a3⟩ := (id y3))
  have f30 := f3.cell (i := 0) rfl
  have f31 := f3.cell (i := 1) rfl
  go_wp2_with fail
  refine (l12Values_c c p s v _ _ _ _ T I _ (hc.ext E3) V (hB2.ext hE3) (hB1.ext hE3) LS.out LI.out h1s hsv).mono ?_
  rw [← HB.out]
  rintro e w4 ⟨v4, rfl, hO4, hE4⟩
  have E4 := E3.trans hE4
  have y4 := y3.ext hE4
  obtain ⟨a3', c3, rfl, hB3⟩ := hO3.opened
  obtain ⟨a4, c4, rfl, hB4⟩ := hO4.opened
  have hB3 := hB3.ext hE4
  clear a0 a1 a2 a3 la f30 f31
  (obtain ⟨la, a0, a1, a2, a3⟩ := (id y4))
  have o6 : c.outs.length ≤ 1048576 := by omega
  have n6 : c.next.length ≤ 1048576 := by omega
  have g6 : G.length ≤ 1048576 := by omega
  have b6 : B.length ≤ 1048576 := by omega
  have m1 : (litsV G c.outs).length ≤ 1048576 := by rw [litsV_length]; omega
  have m2 : (litsV B c.outs).length ≤ 1048576 := by rw [litsV_length]; omega
  have m3 : (litsV G c.next).length ≤ 1048576 := by rw [litsV_length]; omega
  have m4 : (litsV B c.next).length ≤ 1048576 := by rw [litsV_length]; omega
  go_wp2_with fail
  (refine wp_regionT ((fun w' => (∀ b o, b < w4.heap.size → w'.cell? ⟨b, o, none⟩ = w4.cell? ⟨b, o, none⟩) ∧ Ext w4 w')) 22 (by kernel_rfl) ?_; have hS0 := held_mk (Ext.drew w4))
  ((refine wpAnyT_take 0 (v := ?_) rfl (by kernel_rfl) (fun _ _ _ h => h) (Or.inl ⟨by kernel_rfl, ?_⟩) (by assumption) ?_; rotate_left; (intro wS hSw; (try dsimp only at hSw); go_simp; (try with_reducible rfl)); (try simp only [Act.put, List.setIfInBounds_toArray, List.set_cons_zero, List.set_cons_succ])); (refine wpAnyT_take 1 (v := ?_) rfl (by kernel_rfl) (fun _ _ _ h => h) (Or.inl ⟨by kernel_rfl, ?_⟩) (by assumption) ?_; rotate_left; (intro wS hSw; (try dsimp only at hSw); go_simp; (try with_reducible rfl)); (try simp only [Act.put, List.setIfInBounds_toArray, List.set_cons_zero, List.set_cons_succ])); (refine wpAnyT_take 2 (v := ?_) rfl (by kernel_rfl) (fun _ _ _ h => h) (Or.inl ⟨by kernel_rfl, ?_⟩) (by assumption) ?_; rotate_left; (intro wS hSw; (try dsimp only at hSw); go_simp; (try with_reducible rfl)); (try simp only [Act.put, List.setIfInBounds_toArray, List.set_cons_zero, List.set_cons_succ])); (refine wpAnyT_take 4 (v := ?_) rfl (by kernel_rfl) (fun _ _ _ h => h) (Or.inl ⟨by kernel_rfl, ?_⟩) (by assumption) ?_; rotate_left; (intro wS hSw; (try dsimp only at hSw); go_simp; (try with_reducible rfl)); (try simp only [Act.put, List.setIfInBounds_toArray, List.set_cons_zero, List.set_cons_succ])); (refine wpAnyT_take 5 (v := ?_) rfl (by kernel_rfl) (fun _ _ _ h => h) (Or.inl ⟨by kernel_rfl, ?_⟩) (by assumption) ?_; rotate_left; (intro wS hSw; (try dsimp only at hSw); go_simp; (try with_reducible rfl)); (try simp only [Act.put, List.setIfInBounds_toArray, List.set_cons_zero, List.set_cons_succ])); (refine wpAnyT_take 6 (v := ?_) rfl (by kernel_rfl) (fun _ _ _ h => h) (Or.inl ⟨by kernel_rfl, ?_⟩) (by assumption) ?_; rotate_left; (intro wS hSw; (try dsimp only at hSw); go_simp; (try with_reducible rfl)); (try simp only [Act.put, List.setIfInBounds_toArray, List.set_cons_zero, List.set_cons_succ])))
  (refine wpAnyT_do 3 (by kernel_rfl) rfl (fun K hK => ?_))
  go_simp
  refine (l2Lits_c _ _ _ _ _ _ G rfl c.outs rfl _ (hB3.ext (Ext.drew _)) ((hc.ou.ext E4).ext (Ext.drew _)) LOG.out g6 o6).mono ?_
  rintro e w5 ⟨v5, rfl, hO5, hE5⟩
  have F5 := (Ext.drew w4).trans hE5
  have hK5 := held_mk F5
  (refine hK _ _ hK5 ?_; clear hK K; (try simp only [Act.put, List.setIfInBounds_toArray, List.set_cons_zero, List.set_cons_succ]))
  (refine wpAnyT_do 7 (by kernel_rfl) rfl (fun K hK => ?_))
  go_simp
  refine (l2Lits_c _ _ _ _ _ _ B rfl c.outs rfl _ (hB4.ext F5) ((hc.ou.ext E4).ext F5) LOB.out b6 o6).mono ?_
  rintro e w6 ⟨v6, rfl, hO6, hE6⟩
  have F6 := F5.trans hE6
  have hK6 := held_mk F6
  obtain ⟨a5, c5, rfl, hB5⟩ := hO5.opened
  obtain ⟨a6, c6, rfl, hB6⟩ := hO6.opened
  (refine hK _ _ hK6 ?_; clear hK K; (try simp only [Act.put, List.setIfInBounds_toArray, List.set_cons_zero, List.set_cons_succ]))
  (refine wpAnyT_do 8 (by kernel_rfl) rfl (fun K hK => ?_))
  go_simp
  refine (l4Same_c _ _ _ _ _ _ (litsV G c.outs) (litsV B c.outs) rfl rfl _ (hB5.ext hE6) hB6 m1 m2).mono ?_
  rw [HO.out]
  rintro e w7 ⟨rfl, hE7⟩
  have F7 := F6.trans hE7
  have hK7 := held_mk F7
  (refine hK _ _ hK7 ?_; clear hK K; (try simp only [Act.put, List.setIfInBounds_toArray, List.set_cons_zero, List.set_cons_succ]))
  ((refine wpAnyT_take 9 (v := ?_) rfl (by kernel_rfl) (fun _ _ _ h => h) (Or.inl ⟨by kernel_rfl, ?_⟩) (by assumption) ?_; rotate_left; (intro wS hSw; (try dsimp only at hSw); go_simp; (try with_reducible rfl)); (try simp only [Act.put, List.setIfInBounds_toArray, List.set_cons_zero, List.set_cons_succ])); (refine wpAnyT_take 10 (v := ?_) rfl (by kernel_rfl) (fun _ _ _ h => h) (Or.inl ⟨by kernel_rfl, ?_⟩) (by assumption) ?_; rotate_left; (intro wS hSw; (try dsimp only at hSw); go_simp; (try with_reducible rfl)); (try simp only [Act.put, List.setIfInBounds_toArray, List.set_cons_zero, List.set_cons_succ])))
  ((refine wpAnyT_take 11 (v := undef) rfl (by kernel_rfl) (fun _ _ _ h => h) (Or.inr ⟨by kernel_rfl, rfl⟩) (by assumption) ?_; (try simp only [Act.put, List.setIfInBounds_toArray, List.set_cons_zero, List.set_cons_succ])); (refine wpAnyT_take 12 (v := undef) rfl (by kernel_rfl) (fun _ _ _ h => h) (Or.inr ⟨by kernel_rfl, rfl⟩) (by assumption) ?_; (try simp only [Act.put, List.setIfInBounds_toArray, List.set_cons_zero, List.set_cons_succ])); (refine wpAnyT_take 13 (v := undef) rfl (by kernel_rfl) (fun _ _ _ h => h) (Or.inr ⟨by kernel_rfl, rfl⟩) (by assumption) ?_; (try simp only [Act.put, List.setIfInBounds_toArray, List.set_cons_zero, List.set_cons_succ])); (refine wpAnyT_take 14 (v := undef) rfl (by kernel_rfl) (fun _ _ _ h => h) (Or.inr ⟨by kernel_rfl, rfl⟩) (by assumption) ?_; (try simp only [Act.put, List.setIfInBounds_toArray, List.set_cons_zero, List.set_cons_succ])); (refine wpAnyT_take 15 (v := undef) rfl (by kernel_rfl) (fun _ _ _ h => h) (Or.inr ⟨by kernel_rfl, rfl⟩) (by assumption) ?_; (try simp only [Act.put, List.setIfInBounds_toArray, List.set_cons_zero, List.set_cons_succ])); (refine wpAnyT_take 16 (v := undef) rfl (by kernel_rfl) (fun _ _ _ h => h) (Or.inr ⟨by kernel_rfl, rfl⟩) (by assumption) ?_; (try simp only [Act.put, List.setIfInBounds_toArray, List.set_cons_zero, List.set_cons_succ])); (refine wpAnyT_take 17 (v := undef) rfl (by kernel_rfl) (fun _ _ _ h => h) (Or.inr ⟨by kernel_rfl, rfl⟩) (by assumption) ?_; (try simp only [Act.put, List.setIfInBounds_toArray, List.set_cons_zero, List.set_cons_succ])); (refine wpAnyT_take 18 (v := undef) rfl (by kernel_rfl) (fun _ _ _ h => h) (Or.inr ⟨by kernel_rfl, rfl⟩) (by assumption) ?_; (try simp only [Act.put, List.setIfInBounds_toArray, List.set_cons_zero, List.set_cons_succ])); (refine wpAnyT_take 19 (v := undef) rfl (by kernel_rfl) (fun _ _ _ h => h) (Or.inr ⟨by kernel_rfl, rfl⟩) (by assumption) ?_; (try simp only [Act.put, List.setIfInBounds_toArray, List.set_cons_zero, List.set_cons_succ])); (refine wpAnyT_take 20 (v := undef) rfl (by kernel_rfl) (fun _ _ _ h => h) (Or.inr ⟨by kernel_rfl, rfl⟩) (by assumption) ?_; (try simp only [Act.put, List.setIfInBounds_toArray, List.set_cons_zero, List.set_cons_succ])))
  ((refine wpAnyT_take 21 (v := ?_) rfl (by kernel_rfl) (fun _ _ _ h => h) (Or.inl ⟨by kernel_rfl, ?_⟩) (by assumption) ?_; rotate_left; (intro wS hSw; (try dsimp only at hSw); go_simp; (try with_reducible rfl)); (try simp only [Act.put, List.setIfInBounds_toArray, List.set_cons_zero, List.set_cons_succ])))
  (refine wpAnyT_last 22 (by kernel_rfl) rfl (by decide) (by kernel_rfl) (fun K hK => ?_))
  go_simp
  (refine hK _ _ ?_; clear hK K; (try simp only [Act.put, List.setIfInBounds_toArray, List.set_cons_zero, List.set_cons_succ]))
  go_wp2
  go_ret
  exact ⟨by rw [DS.out]; rfl, E4.trans F7⟩
theorem l12Detects_c (c : Circ) (p : Where3) (s : Int) (v : Bool) (x : Nat) (hx : x ≤ 100000) (w : World) (hc : CircAt w c p) (V : c.Valid) (h1s : 1 ≤ s) (hsv : s < c.vars) :
    Calls Try.prog 83 #[.agg #[.int .i64 c.inputs, .slice p.an c.next.length p.cn, .slice p.ag c.gates.length p.cg, .slice p.ao c.outs.length p.co], .agg #[.int .i64 s, .bool v], .int .i64 x] w fun e w' => e = .returned (.bool (detV c s v x)) ∧ Ext w w' := by
  cases hO : (litsV (valsOf (inB c x) (stB c x) c.gates) c.outs == litsV (sVals s v (inB c x) (stB c x) c.gates) c.outs)
  · exact l12DetectsDiff c p s v x hx w hc V h1s hsv _ _ rfl rfl hO
  · exact l12DetectsSame c p s v x hx w hc V h1s hsv _ _ rfl rfl hO
end Go.Proofs.Ytkdiniaddnhkdaa
