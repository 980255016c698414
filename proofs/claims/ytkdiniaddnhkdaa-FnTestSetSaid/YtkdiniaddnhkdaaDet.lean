/- Contracts: what a circuit answers to an assignment, and whether an assignment detects a fault: the program's way. -/
import Derived.Test.YtkdiniaddnhkdaaEvalS
namespace Go.Proofs.Ytkdiniaddnhkdaa
open Go.RowKit
set_option maxRecDepth 100000
set_option linter.unusedVariables false
set_option linter.unusedSimpArgs false
theorem bits_div (x i : Nat) : (x : Int) / 2 ^ i = ((x / 2 ^ i : Nat) : Int) := by simp
theorem assigns_le {c : Circ} (V : c.Valid) : assigns c ≤ 128 := by
  have := V.i4; have := V.ln; have := V.i0
  unfold assigns
  have : c.inputs.toNat + c.next.length ≤ 7 := by omega
  exact Nat.le_trans (Nat.pow_le_pow_right (by omega) this) (by decide)
theorem shl_wrap {c : Circ} (V : c.Valid) : IntKind.i64.wrap (2 ^ (c.inputs + (c.next.length : Int)).toNat) = (assigns c : Int) := by
  have := V.i0
  have h := assigns_le V
  have e : (c.inputs + (c.next.length : Int)).toNat = c.inputs.toNat + c.next.length := by omega
  have e2 : (2 : Int) ^ (c.inputs.toNat + c.next.length) = (assigns c : Int) := by unfold assigns; simp
  rw [e, e2]
  exact IntWalk.i64_in _ (by omega)
theorem resV_length (c : Circ) (s : Int) (v : Bool) (x : Nat) : (resV c s v x).length = c.next.length + c.outs.length := by simp [resV, litsV]
theorem sv_len {c : Circ} (V : c.Valid) (s : Int) (v : Bool) (ins st : List Bool) (hi : (ins.length : Int) = c.inputs) (hs : st.length = c.next.length) : ((sVals s v ins st c.gates).length : Int) = c.vars := by
  rw [sVals_length]; unfold Circ.vars Circ.first; omega
theorem vars_le {c : Circ} (V : c.Valid) : c.vars ≤ 22 ∧ 1 ≤ c.vars := by
  have := V.i0; have := V.i4; have := V.ln; have := V.lg
  unfold Circ.vars Circ.first; omega
theorem bitsOf_i (xi ni : Int) (x n : Nat) (h1 : xi = x) (h2 : ni = n) (hx : x ≤ 100000000) (hn : n ≤ 30) (w : World) :
    Calls Try.prog 148 #[.int .i64 xi, .int .i64 ni] w (GiveB w (bitsN x n)) := by
  subst h1 h2; exact bitsOf_c x n hx hn w
theorem assignments_c (b : Nat) (c : Circ) (p : Where3) (w : World) (hb : CircBox w b c p) (V : c.Valid) :
    Calls Try.prog 87 #[.pointer (some ⟨b, 0, none⟩)] w fun e w' => e = .returned (.int .i64 (assigns c)) ∧ Ext w w' := by
  have i0 := V.i0
  have i4 := V.i4
  have ln := V.ln
  have hw := shl_wrap V
  have al := assigns_le V
  (obtain ⟨la, a0, a1, a2, a3⟩ := (id hb))
  go_enter Try.func87, Try.ntmps87
  go_wp2
  go_quiet (fail)
  go_wp2
  go_ret
  exact ⟨rfl, by (repeat (first | with_reducible assumption | with_reducible exact Ext.refl _ | with_reducible refine Ext.drew' ?_ | with_reducible refine Ext.drewN' ?_ _ | with_reducible refine Ext.alloc ?_ _ | (with_reducible refine Ext.setNew ?_ (by first | exact Nat.le_refl _ | (simp; done) | (simp; omega) | omega) _)))⟩
theorem inputBits_c (b : Nat) (c : Circ) (p : Where3) (x : Nat) (hx : x ≤ 100000) (w : World) (hb : CircBox w b c p) (V : c.Valid) :
    Calls Try.prog 143 #[.pointer (some ⟨b, 0, none⟩), .int .i64 x] w (GiveB w (inB c x)) := by
  have i0 := V.i0
  have i4 := V.i4
  have E : Hid (inB c x = bitsN x c.inputs.toNat) := Lib.hid rfl
  rw [E.out]
  (obtain ⟨la, a0, a1, a2, a3⟩ := (id hb))
  go_enter Try.func143, Try.ntmps143
  go_wp2_with fail
  first
  | (refine (bitsOf_i _ _ x c.inputs.toNat rfl (by omega) (by omega) (by omega) _).mono ?_
     rintro e w1 ⟨v, rfl, hO, hE⟩
     go_wp2
     go_ret
     exact ⟨v, rfl, hO, hE⟩)
  | (go_region_held3 ((fun w' => (∀ b o, b < w.heap.size → w'.cell? ⟨b, o, none⟩ = w.cell? ⟨b, o, none⟩) ∧ Ext w w')) ((first | assumption | (with_reducible exact held_mk (Ext.drew w)) | (with_reducible exact held_mk (((Ext.refl w).alloc _).drew')) | (with_reducible exact held_mk ((Ext.drew w).alloc _)))) (first | (go_simp; go_at_call 148; refine (bitsOf_i _ _ x c.inputs.toNat rfl (by omega) (by omega) (by omega) _).mono ?_; rintro e w1 ⟨v, rfl, hO, hE⟩; have hK1 := held_mk ((Ext.drew w).trans hE)))
     go_wp2
     go_ret
     exact ⟨v, rfl, hO.le (by simp), held_ext hK1⟩)
theorem latchBits_c (b : Nat) (c : Circ) (p : Where3) (x : Nat) (hx : x ≤ 100000) (w : World) (hb : CircBox w b c p) (V : c.Valid) :
    Calls Try.prog 142 #[.pointer (some ⟨b, 0, none⟩), .int .i64 x] w (GiveB w (stB c x)) := by
  have i0 := V.i0
  have i4 := V.i4
  have ln := V.ln
  have E : Hid (stB c x = bitsN (x / 2 ^ c.inputs.toNat) c.next.length) := Lib.hid rfl
  have hd := bits_div x c.inputs.toNat
  have HD := Lib.hid hd
  have hle : x / 2 ^ c.inputs.toNat ≤ 100000000 := Nat.le_trans (Nat.div_le_self _ _) (by omega)
  clear hd
  rw [E.out]
  (obtain ⟨la, a0, a1, a2, a3⟩ := (id hb))
  go_enter Try.func142, Try.ntmps142
  go_wp2_with fail
  go_region_held3 ((fun w' => (∀ b o, b < w.heap.size → w'.cell? ⟨b, o, none⟩ = w.cell? ⟨b, o, none⟩) ∧ Ext w w')) ((first | assumption | (with_reducible exact held_mk (Ext.drew w)) | (with_reducible exact held_mk (((Ext.refl w).alloc _).drew')) | (with_reducible exact held_mk ((Ext.drew w).alloc _)))) (first | (go_simp; go_at_call 148; refine (bitsOf_i _ _ (x / 2 ^ c.inputs.toNat) c.next.length HD.out rfl hle (by omega) _).mono ?_; rintro e w1 ⟨v, rfl, hO, hE⟩; have hK1 := held_mk ((Ext.drew w).trans hE)))
  go_wp2
  go_ret
  exact ⟨v, rfl, hO.le (by simp), held_ext hK1⟩
set_option maxHeartbeats 1000000 in
theorem results_c (b : Nat) (c : Circ) (p : Where3) (x : Nat) (s : Int) (v : Bool) (hx : x ≤ 100000) (w : World) (hb : CircBox w b c p) (hc : CircAt w c p) (V : c.Valid) (hs : s < c.vars) :
    Calls Try.prog 120 #[.pointer (some ⟨b, 0, none⟩), .int .i64 x, .int .i64 s, .bool v] w (GiveB w (resV c s v x)) := by
  have i0 := V.i0
  have i4 := V.i4
  have ln := V.ln
  have lo := V.lo
  have hvl := (vars_le V).1
  have ER : Hid (resV c s v x = litsV (sVals s v (inB c x) (stB c x) c.gates) (c.next ++ c.outs)) := Lib.hid rfl
  have li1 : ((inB c x).length : Int) = c.inputs := by unfold inB; rw [bitsN_length]; omega
  have ls1 : (stB c x).length = c.next.length := by unfold stB; rw [bitsN_length]
  have LI := Lib.hid li1
  have LS := Lib.hid ls1
  have hsl := sv_len V s v (inB c x) (stB c x) li1 ls1
  rw [ER.out]
  obtain ⟨I, hI⟩ : ∃ I, I = inB c x := ⟨_, rfl⟩
  obtain ⟨T, hT⟩ : ∃ T, T = stB c x := ⟨_, rfl⟩
  rw [← hI] at LI hsl ⊢
  rw [← hT] at LS hsl ⊢
  have HI := Lib.hid hI
  have HT := Lib.hid hT
  have lI : I.length ≤ 4 := by rw [hI]; omega
  have lT : T.length ≤ 3 := by rw [hT]; omega
  obtain ⟨SV, hSV⟩ : ∃ SV, SV = sVals s v I T c.gates := ⟨_, rfl⟩
  rw [← hSV] at hsl ⊢
  have HSV := Lib.hid hSV
  have hok : LitsOk (c.next ++ c.outs) SV.length := by rw [hsl]; exact V.rs
  have HOK := Lib.hid hok
  have hlen : SV.length ≤ 22 := by omega
  obtain ⟨R, hR⟩ : ∃ R, R = litsV SV (c.next ++ c.outs) := ⟨_, rfl⟩
  rw [← hR]
  have HR := Lib.hid hR
  clear li1 ls1 hI hT ER hSV hsl hok hR
  go_enter Try.func120, Try.ntmps120
  go_wp2_with fail
  refine (latchBits_c b c p x hx _ hb V).mono ?_
  rw [← HT.out]
  rintro e w1 ⟨v1, rfl, hO1, hE1⟩
  go_wp2_with fail
  refine (inputBits_c b c p x hx _ (hb.ext hE1) V).mono ?_
  rw [← HI.out]
  rintro e w2 ⟨v2, rfl, hO2, hE2⟩
  have E2 := hE1.trans hE2
  obtain ⟨a1, c1, rfl, hB1⟩ := hO1.opened
  obtain ⟨a2, c2, rfl, hB2⟩ := hO2.opened
  go_wp2_with fail
  refine (evaluate_c b c p _ _ _ _ T I s v _ (hb.ext E2) (hc.ext E2) V (hB1.ext hE2) hB2 LS.out LI.out hs).mono ?_
  rw [← HSV.out]
  rintro e w3 ⟨B, rfl, hBB, hB3, hE3⟩
  have E3 := E2.trans hE3
  go_wp2_with fail
  refine (roots_c b c p _ (hb.ext E3) (hc.ext E3)).mono ?_
  rintro e w4 ⟨v4, xs, rfl, HX, hO4, hE4⟩
  have E4 := E3.trans hE4
  obtain ⟨a4, c4, rfl, hX4, _⟩ := hO4.opened
  have lx : xs.length ≤ 6 := by rw [HX.out]; simp; omega
  have hok : LitsOk xs SV.length := by rw [HX.out]; exact HOK.out
  have HB := hB3.bools.ext hE4
  go_wp2_with fail
  refine (litValues_c _ _ _ _ _ _ SV rfl xs rfl _ HB hX4 hok (by omega) (by omega)).mono ?_
  rintro e w5 ⟨v5, rfl, hO5, hE5⟩
  go_wp2
  go_ret
  refine ⟨v5, rfl, ?_, E4.trans hE5⟩
  rw [HR.out, ← HX.out]
  exact hO5.le E4.size
set_option maxHeartbeats 1000000 in
theorem detects_c (b : Nat) (c : Circ) (p : Where3) (x : Nat) (s : Int) (v : Bool) (hx : x ≤ 100000) (w : World) (hb : CircBox w b c p) (hc : CircAt w c p) (V : c.Valid) (hs : s < c.vars) :
    Calls Try.prog 79 #[.pointer (some ⟨b, 0, none⟩), .agg #[.int .i64 s, .bool v], .int .i64 x] w fun e w' => e = .returned (.bool (detV c s v x)) ∧ Ext w w' := by
  have hv1 := (vars_le V).2
  have ln := V.ln
  have lo := V.lo
  have HD : Hid (detV c s v x = (resV c (-1) false x != resV c s v x)) := Lib.hid rfl
  have l1 := resV_length c (-1) false x
  have l2 := resV_length c s v x
  obtain ⟨R1, hR1⟩ : ∃ R, R = resV c (-1) false x := ⟨_, rfl⟩
  obtain ⟨R2, hR2⟩ : ∃ R, R = resV c s v x := ⟨_, rfl⟩
  rw [← hR1] at HD l1
  rw [← hR2] at HD l2
  have H1 := Lib.hid hR1
  have H2 := Lib.hid hR2
  have n1 : R1.length ≤ 6 := by omega
  have n2 : R2.length ≤ 6 := by omega
  clear hR1 hR2 l1 l2
  go_enter Try.func79, Try.ntmps79
  go_wp2_with fail
  obtain ⟨w0, hw0⟩ : ∃ w0, w0 = w.alloc (.cells #[.int .i64 s, .bool v] 50) := ⟨_, rfl⟩
  have E0 : Ext w w0 := by rw [hw0]; exact (Ext.refl w).alloc _
  have f0 : Blk w0 w.heap.size 50 [.int .i64 s, .bool v] := by rw [hw0]; exact Blk.at _ _ _ rfl
  have f00 := f0.cell (i := 0) rfl
  have f01 := f0.cell (i := 1) rfl
  have fl := f0.lt
  rw [← hw0]
  clear hw0
  go_region_held3 ((fun w' => (∀ b o, b < w0.heap.size → w'.cell? ⟨b, o, none⟩ = w0.cell? ⟨b, o, none⟩) ∧ Ext w0 w')) ((first | assumption | (with_reducible exact held_mk (Ext.drew w0)) | (with_reducible exact held_mk (((Ext.refl w0).alloc _).drew')) | (with_reducible exact held_mk ((Ext.drew w0).alloc _)))) (first
    | (go_simp; go_at_call 119; refine (equalB_c _ _ _ _ _ _ R1 R2 rfl rfl _ (hB1.ext hE2) hB2 (by omega) (by omega)).mono ?_; rintro e w3 ⟨rfl, hE3⟩; have hK3 := held_mk ((held_ext hK2).trans hE3))
    | (go_simp; go_at_call 120; refine (results_c b c p x s v hx _ (hb.ext (E0.trans (held_ext hK1))) (hc.ext (E0.trans (held_ext hK1))) V hs).mono ?_; rw [← H2.out]; rintro e w2 ⟨v2, rfl, hO2, hE2⟩; have hK2 := held_mk ((held_ext hK1).trans hE2); obtain ⟨a2, c2, rfl, hB2⟩ := hO2.opened)
    | (go_simp; go_at_call 120; refine (results_c b c p x (-1) false hx _ (hb.ext (E0.trans (Ext.drew _))) (hc.ext (E0.trans (Ext.drew _))) V (by omega)).mono ?_; rw [← H1.out]; rintro e w1 ⟨v1, rfl, hO1, hE1⟩; have hK1 := held_mk ((Ext.drew w0).trans hE1); obtain ⟨a1, c1, rfl, hB1⟩ := hO1.opened))
  go_wp2
  go_ret
  refine ⟨?_, E0.trans (held_ext hK3)⟩
  rw [HD.out]; rfl
end Go.Proofs.Ytkdiniaddnhkdaa
