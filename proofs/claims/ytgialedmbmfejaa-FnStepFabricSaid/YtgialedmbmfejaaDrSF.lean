/- The drawing of the arguments of StepFabric. -/
import Derived.Test.YtgialedmbmfejaaDrRF
import Derived.Test.YtgialedmbmfejaaKRow
namespace Go.Proofs.Ytgialedmbmfejaa
open Go.RowKit
set_option maxRecDepth 100000
set_option linter.unusedVariables false
set_option linter.unusedSimpArgs false
def DrawnKS (w : World) (e : Ending) (w' : World) : Prop := ∃ ta tc pa pc K sa sc regs ia ic ins, e = .returned (.tuple #[.agg #[.slice ta (Conf.ts K).length tc, .slice pa K.ps.length pc], .agg #[.slice sa (List.length regs) sc], .slice ia (List.length ins) ic]) ∧ ConfAt w' K ta pa ∧ (K.ts.length ≤ tc ∧ tc ≤ maxLen ∧ K.ps.length ≤ pc ∧ pc ≤ maxLen) ∧ BoolsAt w' sa regs ∧ BoolsAt w' ia ins ∧ regs.length ≤ 25 ∧ ins.length ≤ 5 ∧ Ext w w'
theorem KeptK.on3 {b rb B1 B2 : Nat} {w2 w3 w9 : World} {K : Conf} {ta pa : Option Addr} (h : KeptK b w2 K ta pa) (e : Ext w2 w3) (g : w3.grownBy w9 (some rb)) (hr : rb < b) (h1 : B1 < b) (h2 : B2 < b) (v0 v1 v2 : Value) : ConfAt (((w9.setCell ⟨B1, 0, none⟩ v0).setCell ⟨B1, 1, none⟩ v1).setCell ⟨B2, 0, none⟩ v2) K ta pa :=
 (h _ (fun k h3 h4 => by
  rw [heap_setCell_other _ _ k _ (fun e => by have : k = B2 := e; omega), heap_setCell_other _ _ k _ (fun e => by have : k = B1 := e; omega), heap_setCell_other _ _ k _ (fun e => by have : k = B1 := e; omega)]
  rw [g.block k (Nat.lt_of_lt_of_le h4 e.size) (fun e => by have := Option.some.inj e; omega)]
  exact e.block k h4)).1
theorem boolSize : (Try.prog.info? 4).map (·.size) = some 1 := by kernel_rfl
theorem cell_far {w : World} {b b2 i o : Nat} (h : b ≠ b2) (v : Value) : (w.setCell ⟨b, i, none⟩ v).cell? ⟨b2, o, none⟩ = w.cell? ⟨b2, o, none⟩ := World.cell?_setCell_far _ _ _ _ h
theorem bools_gr {w w' : World} {a : Option Addr} {xs : List Bool} {rb : Nat} (h : BoolsAt w a xs) (g : w.grownBy w' (some rb)) (hn : ∀ x, a = some x → x.block ≠ rb) : BoolsAt w' a xs := by
 rcases h with rfl | ⟨b, o, ha, hlt, hc⟩
 ·exact .inl rfl
 ·exact .inr ⟨b, o, ha, Nat.lt_of_lt_of_le hlt g.size, fun j hj => (gcell g b _ hlt (hn _ ha)).trans (hc j hj)⟩
/-- The state while it is drawn: its box holds a slice of truth values. -/
structure StB (w3 w : World) (D rb : Nat) (bs : List Int) (fa : Option Addr) (fn fc : Nat) (fl : List Bool) : Prop where
 b : Blk w D 67 [.slice fa fn fc]
 r : Rdr w rb bs 600
 g : w3.grownBy w (some rb)
 le : fl.length ≤ 25
 n : fn = fl.length
 at_ : BoolsAt w fa fl
 lo : ∀ x, fa = some x → w3.heap.size ≤ x.block ∧ x.block < w.heap.size
 lt : D < w.heap.size
theorem bools_drop {w : World} {g o1 : Nat} {xs : List Bool} (h : BoolsAt w (some ⟨g, 0, none⟩) xs) (hl : 1 < xs.length) (ho : o1 = 1) : BoolsAt w (some ⟨g, o1, none⟩) (xs.drop 1) := by
 subst ho
 rcases h with rfl | ⟨b, o, ha, hb, hc⟩
 ·simp at hl
 ·cases ha
  refine .inr ⟨g, 1, rfl, hb, fun j hj => ?_⟩
  rw [List.length_drop] at hj
  have := hc (1 + j) (by omega)
  rw [Nat.zero_add] at this
  rw [this, List.getD_eq_getElem?_getD, List.getD_eq_getElem?_getD, List.getElem?_drop]
set_option maxHeartbeats 4000000 in
theorem DrawStepFabric_c (a : Option Addr) (c : Nat) (bs : List Int) (w : World) (hB : BytesAt w a bs) (hl : bs.length ≤ 1048576) (hc : bs.length ≤ c) (hcm : c ≤ maxLen) :
  Calls Try.prog 45 #[.slice a bs.length c] w (DrawnKS w) := by
 have R0 := (Blk.at w [.slice none 0 0, .slice none 0 0] 52 rfl).alloc (.cells #[.slice none 0 0] 67)
 have Q0 := Blk.at (w.alloc (.cells #[.slice none 0 0, .slice none 0 0] 52)) [.slice none 0 0] 67 (B := w.heap.size + 1) (by simp)
 have E0 : Ext w ((w.alloc (.cells #[.slice none 0 0, .slice none 0 0] 52)).alloc (.cells #[.slice none 0 0] 67)) := ((Ext.refl w).alloc _).alloc _
 have s0 : w.heap.size + 2 = ((w.alloc (.cells #[.slice none 0 0, .slice none 0 0] 52)).alloc (.cells #[.slice none 0 0] 67)).heap.size := by simp
 go_enter Try.func45, Try.ntmps45
 go_upto_region 1 with fail
 obtain ⟨W0, hW0⟩ : ∃ x : World, x = (w.alloc (.cells #[.slice none 0 0, .slice none 0 0] 52)).alloc (.cells #[.slice none 0 0] 67) := ⟨_, rfl⟩
 rw [← hW0] at R0 Q0 E0 s0
 rw [← hW0]
 have S0 := Lib.hid s0
 have s01 : w.heap.size + 2 ≤ W0.heap.size := by omega
 clear hW0 s0
 go_wp2_with fail
 refine (open_c a c bs _ (hB.ext E0) hl hc hcm).mono ?_
 rintro e w1 ⟨rb, bs', rfl, hR1, hrb, hE1⟩
 have rl1 := hR1.lt
 go_wp2_with fail
 refine (l20Config_c rb bs' 0 12 _ hR1 (by omega) (by omega) (by omega)).mono ?_
 rintro e w2 ⟨ta, tc, pa, pc, K, rfl, hK, hcaps, _, hR2, hG2⟩
 have s1 := hE1.size
 have s2 := hG2.size
 have R2 := (R0.ext hE1).gr hG2 (fun e => by have := Option.some.inj e; omega)
 have Q2 := (Q0.ext hE1).gr hG2 (fun e => by have := Option.some.inj e; omega)
 have E2 := E0.trans (ext_of_gr hE1 hG2 hrb)
 have bk := Blk.at w2 [.slice ta K.ts.length tc, .slice pa K.ps.length pc] 52 rfl
 have E23 := (Ext.refl w2).alloc (.cells #[.slice ta K.ts.length tc, .slice pa K.ps.length pc] 52)
 have s3 : (w2.alloc (.cells #[.slice ta K.ts.length tc, .slice pa K.ps.length pc] 52)).heap.size = w2.heap.size + 1 := by simp
 go_upto_region 3 with fail
 obtain ⟨w3, hw3⟩ : ∃ x : World, x = w2.alloc (.cells #[.slice ta K.ts.length tc, .slice pa K.ps.length pc] 52) := ⟨_, rfl⟩
 rw [← hw3] at bk E23 s3
 rw [← hw3]
 have S3 := Lib.hid s3
 have hrl : rb < w3.heap.size := by omega
 have hb3 : w.heap.size + 1 < w3.heap.size := by omega
 have hbk : w2.heap.size < w3.heap.size := by omega
 clear hw3 s3
 have hR3 := hR2.ext E23
 have R3 := R2.ext E23
 have Q3 := Q2.ext E23
 clear R0 R2 hR1 hR2 hE1 Q0 Q2
 go_wp2_with fail
 refine (l20Bools_i rb bs' (0 + 500) 25 25 rfl _ hR3 (by omega) (by omega)).mono ?_
 rintro e w4 hD4
 obtain ⟨a4, c4, xs, rfl, hx4, hO4, hR4, hG4⟩ := hD4.i
 obtain ⟨g4, rfl, hg40, hg41⟩ := ownsRow_block hO4 (by omega)
 obtain ⟨_, _, e4, _, hc41, hc42, _⟩ := ownsRow_row hO4
 cases e4
 have HX4 := Lib.hid hx4
 have hx25 : xs.length ≤ 25 := by omega
 have hx1 : 1 ≤ xs.length := by omega
 have s4 := hG4.size
 have hO4' : OwnB w4 w3.heap.size (.slice (some ⟨g4, 0, none⟩) xs.length c4) xs := hO4
 clear hx4 hD4 hO4 hR3
 have b7 := Blk.at w4 [.slice (some ⟨g4, 0, none⟩) xs.length c4] 67 rfl
 have E45 := (Ext.refl w4).alloc (.cells #[.slice (some ⟨g4, 0, none⟩) xs.length c4] 67)
 have s5 : (w4.alloc (.cells #[.slice (some ⟨g4, 0, none⟩) xs.length c4] 67)).heap.size = w4.heap.size + 1 := by simp
 go_upto_region 4 with fail
 obtain ⟨w5, hw5⟩ : ∃ x : World, x = w4.alloc (.cells #[.slice (some ⟨g4, 0, none⟩) xs.length c4] 67) := ⟨_, rfl⟩
 rw [← hw5] at b7 E45 s5
 rw [← hw5]
 have S5 := Lib.hid s5
 have h45 : w4.heap.size < w5.heap.size := by omega
 clear hw5 s5
 have G5 := Gr.trans hG4 (Gr.ext E45 (some rb))
 have hO5 := hO4'.ext E45
 have hR5 := hR4.ext E45
 clear hR4 hO4' hG4
 go_wp2_with fail
 refine (odd_c rb bs' _ 9 _ hR5 (by omega) (by omega) (by omega)).mono ?_
 rintro e w6 ⟨k6, rfl, _, hR6, hG6⟩
 have hO6 := hO5.drawn hG6 hrl
 have b76 := b7.gr hG6 (fun e => by have := Option.some.inj e; omega)
 have G6 := Gr.trans G5 hG6
 have hs6 := hG6.size
 have hlt7 : w4.heap.size < w6.heap.size := by omega
 have hng : g4 ≠ w4.heap.size := by omega
 clear hR5 hG6 G5 hO5 b7
 obtain ⟨o1, ho1, hsl⟩ := run_fromO (P := Try.prog) (t := 65) (e := 4) (sz := 1) Try.underlying65 boolSize g4 0 xs.length c4 1 (by omega) (by omega)
 have HO1 := Lib.hid ho1
 clear ho1
 cases k6
 ·skip
  have z0 := b76.cell (i := 0) rfl
  have zf := fun i => b76.frozen i
  clear z0 zf hsl
  go_upto_region 6 with fail
  obtain ⟨w7, hw7⟩ : ∃ z : World, z = w6 := ⟨_, rfl⟩
  obtain ⟨fa, hfa⟩ : ∃ z, z = (some ⟨g4, 0, none⟩ : Option Addr) := ⟨_, rfl⟩
  obtain ⟨fn, hfn⟩ : ∃ z, z = xs.length := ⟨_, rfl⟩
  obtain ⟨fc, hfc⟩ : ∃ z, z = c4 := ⟨_, rfl⟩
  have P7 : ∃ fl, StB w3 w7 w4.heap.size rb bs' fa fn fc fl := ⟨xs, by rw [hw7, hfa, hfn, hfc]; exact b76, by rw [hw7]; exact hR6.mono (by omega), by rw [hw7]; exact G6, hx25, by rw [hfn], by rw [hw7, hfa]; obtain ⟨_, _, e1, k1⟩ := hO6.opened; cases e1; exact k1, fun x hx => by rw [hw7]; rw [hfa] at hx; cases hx; exact ⟨hg40, by show g4 < w6.heap.size; omega⟩, by rw [hw7]; exact hlt7⟩
  clear hfa hfn hfc
  rw [← hw7]
  clear hw7 hO6 b76 G6 hR6 hlt7
  obtain ⟨fl, hb7, hR7, hG7, hle7, hfn7, hat7, hlo7, hlt7⟩ := P7
  have b5 := bk.gr hG7 (fun e => by have := Option.some.inj e; omega)
  have n5 : rb ≠ w2.heap.size := by omega
  have n7 : rb ≠ w4.heap.size := by omega
  have hl5 := b5.lt
  have x0 := b5.cell (i := 0) rfl
  have x1 := b5.cell (i := 1) rfl
  have y0 := hb7.cell (i := 0) rfl
  have HFN := Lib.hid hfn7
  have HREL : Hid (∀ W, w7.grownBy W (some rb) → ∀ o, W.cell? ⟨w2.heap.size, o, none⟩ = w7.cell? ⟨w2.heap.size, o, none⟩ ∧ W.cell? ⟨w4.heap.size, o, none⟩ = w7.cell? ⟨w4.heap.size, o, none⟩) := Lib.hid (fun W G o => ⟨gcell G w2.heap.size o hl5 (fun e => n5 e.symm), gcell G w4.heap.size o hlt7 (fun e => n7 e.symm)⟩)
  clear hfn7
  refine wp_regionT (fun w' => ∀ o, w'.cell? ⟨w2.heap.size, o, none⟩ = w7.cell? ⟨w2.heap.size, o, none⟩ ∧ w'.cell? ⟨w4.heap.size, o, none⟩ = w7.cell? ⟨w4.heap.size, o, none⟩) 8 (by kernel_rfl) ?_
  have hS0 := HREL.out _ (Gr.ext (Ext.drew w7) _)
  ((refine tkT 0 (v := ?_) rfl (by kernel_rfl) (by kernel_rfl) ?_ (by assumption) ?_; rotate_left; (intro wS hSw; (try dsimp only at hSw); go_simp; (try with_reducible rfl)); (try simp only [Act.put, lA, lB, lC])); (refine tkT 1 (v := ?_) rfl (by kernel_rfl) (by kernel_rfl) ?_ (by assumption) ?_; rotate_left; (intro wS hSw; (try dsimp only at hSw); go_simp; (try with_reducible rfl)); (try simp only [Act.put, lA, lB, lC])); (refine tkT 2 (v := ?_) rfl (by kernel_rfl) (by kernel_rfl) ?_ (by assumption) ?_; rotate_left; (intro wS hSw; (try dsimp only at hSw); go_simp; (try with_reducible rfl)); (try simp only [Act.put, lA, lB, lC])); (refine tkT 3 (v := ?_) rfl (by kernel_rfl) (by kernel_rfl) ?_ (by assumption) ?_; rotate_left; (intro wS hSw; (try dsimp only at hSw); go_simp; (try with_reducible rfl)); (try simp only [Act.put, lA, lB, lC])))
  (refine wpAnyT_do 4 (by kernel_rfl) rfl (fun K hK => ?_))
  go_simp
  refine (pick_c rb bs' _ 6 _ (hR7.ext (Ext.drew w7)) (by omega) (by omega)).mono ?_
  rintro e w8 ⟨k, rfl, k0, k1, hR8, hG8⟩
  obtain ⟨m, rfl⟩ : ∃ m : Nat, k = (m : Int) := ⟨k.toNat, by omega⟩
  have hm : m ≤ 5 := by rcases k1 with h | h <;> omega
  have G8 := Gr.trans (Gr.ext (Ext.drew w7) (some rb)) hG8
  have hS1 := HREL.out _ G8
  clear k0 k1 hG8
  (refine hK _ _ hS1 ?_; clear hK K; (try simp only [Act.put, lA, lB, lC]))
  (refine wpAnyT_do 5 (by kernel_rfl) rfl (fun K hK => ?_))
  go_simp
  refine (l20Bools_i rb bs' _ m m rfl _ hR8 (by omega) (by omega)).mono ?_
  rintro e w9 hD9
  obtain ⟨a9, c9, ys, rfl, hy9, hO9, hR9, hG9⟩ := hD9.i
  have G9 := Gr.trans G8 hG9
  have hS2 := HREL.out _ G9
  have GG := Gr.trans hG7 G9
  have hys : ys.length ≤ 5 := by omega
  have hs8 := G8.size
  have hs9 := hG9.size
  clear hD9 hG9 hy9
  (refine hK _ _ hS2 ?_; clear hK K; (try simp only [Act.put, lA, lB, lC]))
  have r9 := R3.gr GG (fun e => by have := Option.some.inj e; omega)
  have q9 := Q3.gr GG (fun e => by have := Option.some.inj e; omega)
  have u0 := r9.cell (i := 0) rfl
  have u1 := r9.cell (i := 1) rfl
  have uf := fun i => r9.frozen i
  have ul := r9.lt
  have hS3 : ∀ o, ((w9.setCell ⟨w.heap.size, 0, none⟩ (.slice ta K.ts.length tc)).setCell ⟨w.heap.size, 1, none⟩ (.slice pa K.ps.length pc)).cell? ⟨w2.heap.size, o, none⟩ = w7.cell? ⟨w2.heap.size, o, none⟩ ∧ ((w9.setCell ⟨w.heap.size, 0, none⟩ (.slice ta K.ts.length tc)).setCell ⟨w.heap.size, 1, none⟩ (.slice pa K.ps.length pc)).cell? ⟨w4.heap.size, o, none⟩ = w7.cell? ⟨w4.heap.size, o, none⟩ := fun o =>
   ⟨(cell_far (by omega) _).trans ((cell_far (by omega) _).trans (hS2 o).1), (cell_far (by omega) _).trans ((cell_far (by omega) _).trans (hS2 o).2)⟩
  have hS4 : ∀ o, (((w9.setCell ⟨w.heap.size, 0, none⟩ (.slice ta K.ts.length tc)).setCell ⟨w.heap.size, 1, none⟩ (.slice pa K.ps.length pc)).setCell ⟨w.heap.size + 1, 0, none⟩ (.slice fa fn fc)).cell? ⟨w2.heap.size, o, none⟩ = w7.cell? ⟨w2.heap.size, o, none⟩ ∧ (((w9.setCell ⟨w.heap.size, 0, none⟩ (.slice ta K.ts.length tc)).setCell ⟨w.heap.size, 1, none⟩ (.slice pa K.ps.length pc)).setCell ⟨w.heap.size + 1, 0, none⟩ (.slice fa fn fc)).cell? ⟨w4.heap.size, o, none⟩ = w7.cell? ⟨w4.heap.size, o, none⟩ := fun o =>
   ⟨(cell_far (by omega) _).trans (hS3 o).1, (cell_far (by omega) _).trans (hS3 o).2⟩
  have r10 := (r9.set 0 (.slice ta K.ts.length tc)).set 1 (.slice pa K.ps.length pc)
  have q10 := (q9.setOther (p := ⟨w.heap.size, 0, none⟩) (by simp) (.slice ta K.ts.length tc)).setOther (p := ⟨w.heap.size, 1, none⟩) (by simp) (.slice pa K.ps.length pc)
  have r11 := r10.setOther (p := ⟨w.heap.size + 1, 0, none⟩) (by simp) (.slice fa fn fc)
  have q11 := q10.set 0 (.slice fa fn fc)
  have v0 := q10.cell (i := 0) rfl
  have vf := fun i => q10.frozen i
  have vl := q10.lt
  have d0 := r11.cell (i := 0) rfl
  have d1 := r11.cell (i := 1) rfl
  have e0 := q11.cell (i := 0) rfl
  have HK := Lib.hid (hK.on3 (B1 := w.heap.size) (B2 := w.heap.size + 1) E23 GG rl1 (by omega) (by omega) (.slice ta K.ts.length tc) (.slice pa K.ps.length pc) (.slice fa fn fc))
  have HE := Lib.hid (Ext.setNew (Ext.setNew (Ext.setNew (ext_of_gr (E2.trans E23) GG (by omega)) (p := ⟨w.heap.size, 0, none⟩) (Nat.le_refl _) (.slice ta K.ts.length tc)) (p := ⟨w.heap.size, 1, none⟩) (Nat.le_refl _) (.slice pa K.ps.length pc)) (p := ⟨w.heap.size + 1, 0, none⟩) (Nat.le_succ _) (.slice fa fn fc))
  have hat9 : BoolsAt w9 fa fl := bools_gr hat7 G9 (fun x hx => by have := hlo7 x hx; omega)
  have HB1 := Lib.hid (((hat9.set (b := w.heap.size) (fun x hx => by have := hlo7 x hx; omega) 0 (.slice ta K.ts.length tc)).set (b := w.heap.size) (fun x hx => by have := hlo7 x hx; omega) 1 (.slice pa K.ps.length pc)).set (b := w.heap.size + 1) (fun x hx => by have := hlo7 x hx; omega) 0 (.slice fa fn fc))
  obtain ⟨_, _, ey, hby⟩ := hO9.opened
  cases ey
  obtain ⟨_, _, ey2, _, _, _, hy0'⟩ := ownsRow_row hO9
  cases ey2
  have hy0 : ∀ x, a9 = some x → w8.heap.size ≤ x.block := fun x hx => (hy0' x hx).1
  have HB2 := Lib.hid (((hby.set (b := w.heap.size) (fun x hx => by have := hy0 x hx; omega) 0 (.slice ta K.ts.length tc)).set (b := w.heap.size) (fun x hx => by have := hy0 x hx; omega) 1 (.slice pa K.ps.length pc)).set (b := w.heap.size + 1) (fun x hx => by have := hy0 x hx; omega) 0 (.slice fa fn fc))
  clear hat9 hby hO9 hK r9 q9 r10 q10 r11 q11 hat7 hlo7 HREL hb7 b5 hy0
  (refine wpAnyT_do 6 (by kernel_rfl) rfl (fun K hK => ?_))
  go_simp
  (refine hK _ _ hS3 ?_; clear hK K; (try simp only [Act.put, lA, lB, lC]))
  (refine wpAnyT_do 7 (by kernel_rfl) rfl (fun K hK => ?_))
  go_simp
  (refine hK _ _ hS4 ?_; clear hK K; (try simp only [Act.put, lA, lB, lC]))
  (refine wpAnyT_last 8 (by kernel_rfl) rfl (by decide) (by kernel_rfl) (fun K hK => ?_))
  go_simp
  (refine hK _ _ ?_; clear hK K; (try simp only [Act.put, lA, lB, lC]))
  go_wp2
  refine bodyPost_ret (v := .tuple #[.agg #[.slice ta K.ts.length tc, .slice pa K.ps.length pc], .agg #[.slice fa fn fc], .slice a9 ys.length c9]) (by simp [results, Try.results45, go_sem, d0, d1, e0]) rfl ?_
  exact ⟨ta, tc, pa, pc, K, fa, fc, fl, a9, c9, ys, by rw [HFN.out], HK.out, hcaps, HB1.out, HB2.out, hle7, hys, HE.out⟩
 ·skip
  have z0 := b76.cell (i := 0) rfl
  have zf := fun i => b76.frozen i
  go_upto_region 6 with fail
  obtain ⟨w7, hw7⟩ : ∃ z : World, z = w6.setCell ⟨w4.heap.size, 0, none⟩ (.slice (some ⟨g4, o1, none⟩) (xs.length - 1) (c4 - 1)) := ⟨_, rfl⟩
  obtain ⟨fa, hfa⟩ : ∃ z, z = (some ⟨g4, o1, none⟩ : Option Addr) := ⟨_, rfl⟩
  obtain ⟨fn, hfn⟩ : ∃ z, z = xs.length - 1 := ⟨_, rfl⟩
  obtain ⟨fc, hfc⟩ : ∃ z, z = c4 - 1 := ⟨_, rfl⟩
  have P7 : ∃ fl, StB w3 w7 w4.heap.size rb bs' fa fn fc fl := ⟨xs.drop 1, by rw [hw7, hfa, hfn, hfc]; exact b76.set 0 _, by rw [hw7]; exact (hR6.grn (grown_setCell _ _ _ _) (fun k hk => by have := Option.some.inj hk; omega)).mono (by omega), by rw [hw7]; exact Gr.setNew G6 (p := ⟨w4.heap.size, 0, none⟩) s4 _, by rw [List.length_drop]; omega, by rw [hfn, List.length_drop], by rw [hw7, hfa]; exact bools_drop (by obtain ⟨_, _, e1, k1⟩ := (hO6.setOther (p := ⟨w4.heap.size, 0, none⟩) (fun e => hng (Option.some.inj e)) (.slice (some ⟨g4, o1, none⟩) (xs.length - 1) (c4 - 1))).opened; cases e1; exact k1) (by have := HX4.out; omega) (by have := HO1.out; have := HX4.out; omega), fun x hx => by rw [hw7]; rw [hfa] at hx; cases hx; exact ⟨hg40, by show g4 < (w6.setCell _ _).heap.size; simp; omega⟩, by rw [hw7]; simpa using hlt7⟩
  clear hfa hfn hfc z0 zf hsl
  rw [← hw7]
  clear hw7 hO6 b76 G6 hR6 hlt7
  obtain ⟨fl, hb7, hR7, hG7, hle7, hfn7, hat7, hlo7, hlt7⟩ := P7
  have b5 := bk.gr hG7 (fun e => by have := Option.some.inj e; omega)
  have n5 : rb ≠ w2.heap.size := by omega
  have n7 : rb ≠ w4.heap.size := by omega
  have hl5 := b5.lt
  have x0 := b5.cell (i := 0) rfl
  have x1 := b5.cell (i := 1) rfl
  have y0 := hb7.cell (i := 0) rfl
  have HFN := Lib.hid hfn7
  have HREL : Hid (∀ W, w7.grownBy W (some rb) → ∀ o, W.cell? ⟨w2.heap.size, o, none⟩ = w7.cell? ⟨w2.heap.size, o, none⟩ ∧ W.cell? ⟨w4.heap.size, o, none⟩ = w7.cell? ⟨w4.heap.size, o, none⟩) := Lib.hid (fun W G o => ⟨gcell G w2.heap.size o hl5 (fun e => n5 e.symm), gcell G w4.heap.size o hlt7 (fun e => n7 e.symm)⟩)
  clear hfn7
  refine wp_regionT (fun w' => ∀ o, w'.cell? ⟨w2.heap.size, o, none⟩ = w7.cell? ⟨w2.heap.size, o, none⟩ ∧ w'.cell? ⟨w4.heap.size, o, none⟩ = w7.cell? ⟨w4.heap.size, o, none⟩) 8 (by kernel_rfl) ?_
  have hS0 := HREL.out _ (Gr.ext (Ext.drew w7) _)
  ((refine tkT 0 (v := ?_) rfl (by kernel_rfl) (by kernel_rfl) ?_ (by assumption) ?_; rotate_left; (intro wS hSw; (try dsimp only at hSw); go_simp; (try with_reducible rfl)); (try simp only [Act.put, lA, lB, lC])); (refine tkT 1 (v := ?_) rfl (by kernel_rfl) (by kernel_rfl) ?_ (by assumption) ?_; rotate_left; (intro wS hSw; (try dsimp only at hSw); go_simp; (try with_reducible rfl)); (try simp only [Act.put, lA, lB, lC])); (refine tkT 2 (v := ?_) rfl (by kernel_rfl) (by kernel_rfl) ?_ (by assumption) ?_; rotate_left; (intro wS hSw; (try dsimp only at hSw); go_simp; (try with_reducible rfl)); (try simp only [Act.put, lA, lB, lC])); (refine tkT 3 (v := ?_) rfl (by kernel_rfl) (by kernel_rfl) ?_ (by assumption) ?_; rotate_left; (intro wS hSw; (try dsimp only at hSw); go_simp; (try with_reducible rfl)); (try simp only [Act.put, lA, lB, lC])))
  (refine wpAnyT_do 4 (by kernel_rfl) rfl (fun K hK => ?_))
  go_simp
  refine (pick_c rb bs' _ 6 _ (hR7.ext (Ext.drew w7)) (by omega) (by omega)).mono ?_
  rintro e w8 ⟨k, rfl, k0, k1, hR8, hG8⟩
  obtain ⟨m, rfl⟩ : ∃ m : Nat, k = (m : Int) := ⟨k.toNat, by omega⟩
  have hm : m ≤ 5 := by rcases k1 with h | h <;> omega
  have G8 := Gr.trans (Gr.ext (Ext.drew w7) (some rb)) hG8
  have hS1 := HREL.out _ G8
  clear k0 k1 hG8
  (refine hK _ _ hS1 ?_; clear hK K; (try simp only [Act.put, lA, lB, lC]))
  (refine wpAnyT_do 5 (by kernel_rfl) rfl (fun K hK => ?_))
  go_simp
  refine (l20Bools_i rb bs' _ m m rfl _ hR8 (by omega) (by omega)).mono ?_
  rintro e w9 hD9
  obtain ⟨a9, c9, ys, rfl, hy9, hO9, hR9, hG9⟩ := hD9.i
  have G9 := Gr.trans G8 hG9
  have hS2 := HREL.out _ G9
  have GG := Gr.trans hG7 G9
  have hys : ys.length ≤ 5 := by omega
  have hs8 := G8.size
  have hs9 := hG9.size
  clear hD9 hG9 hy9
  (refine hK _ _ hS2 ?_; clear hK K; (try simp only [Act.put, lA, lB, lC]))
  have r9 := R3.gr GG (fun e => by have := Option.some.inj e; omega)
  have q9 := Q3.gr GG (fun e => by have := Option.some.inj e; omega)
  have u0 := r9.cell (i := 0) rfl
  have u1 := r9.cell (i := 1) rfl
  have uf := fun i => r9.frozen i
  have ul := r9.lt
  have hS3 : ∀ o, ((w9.setCell ⟨w.heap.size, 0, none⟩ (.slice ta K.ts.length tc)).setCell ⟨w.heap.size, 1, none⟩ (.slice pa K.ps.length pc)).cell? ⟨w2.heap.size, o, none⟩ = w7.cell? ⟨w2.heap.size, o, none⟩ ∧ ((w9.setCell ⟨w.heap.size, 0, none⟩ (.slice ta K.ts.length tc)).setCell ⟨w.heap.size, 1, none⟩ (.slice pa K.ps.length pc)).cell? ⟨w4.heap.size, o, none⟩ = w7.cell? ⟨w4.heap.size, o, none⟩ := fun o =>
   ⟨(cell_far (by omega) _).trans ((cell_far (by omega) _).trans (hS2 o).1), (cell_far (by omega) _).trans ((cell_far (by omega) _).trans (hS2 o).2)⟩
  have hS4 : ∀ o, (((w9.setCell ⟨w.heap.size, 0, none⟩ (.slice ta K.ts.length tc)).setCell ⟨w.heap.size, 1, none⟩ (.slice pa K.ps.length pc)).setCell ⟨w.heap.size + 1, 0, none⟩ (.slice fa fn fc)).cell? ⟨w2.heap.size, o, none⟩ = w7.cell? ⟨w2.heap.size, o, none⟩ ∧ (((w9.setCell ⟨w.heap.size, 0, none⟩ (.slice ta K.ts.length tc)).setCell ⟨w.heap.size, 1, none⟩ (.slice pa K.ps.length pc)).setCell ⟨w.heap.size + 1, 0, none⟩ (.slice fa fn fc)).cell? ⟨w4.heap.size, o, none⟩ = w7.cell? ⟨w4.heap.size, o, none⟩ := fun o =>
   ⟨(cell_far (by omega) _).trans (hS3 o).1, (cell_far (by omega) _).trans (hS3 o).2⟩
  have r10 := (r9.set 0 (.slice ta K.ts.length tc)).set 1 (.slice pa K.ps.length pc)
  have q10 := (q9.setOther (p := ⟨w.heap.size, 0, none⟩) (by simp) (.slice ta K.ts.length tc)).setOther (p := ⟨w.heap.size, 1, none⟩) (by simp) (.slice pa K.ps.length pc)
  have r11 := r10.setOther (p := ⟨w.heap.size + 1, 0, none⟩) (by simp) (.slice fa fn fc)
  have q11 := q10.set 0 (.slice fa fn fc)
  have v0 := q10.cell (i := 0) rfl
  have vf := fun i => q10.frozen i
  have vl := q10.lt
  have d0 := r11.cell (i := 0) rfl
  have d1 := r11.cell (i := 1) rfl
  have e0 := q11.cell (i := 0) rfl
  have HK := Lib.hid (hK.on3 (B1 := w.heap.size) (B2 := w.heap.size + 1) E23 GG rl1 (by omega) (by omega) (.slice ta K.ts.length tc) (.slice pa K.ps.length pc) (.slice fa fn fc))
  have HE := Lib.hid (Ext.setNew (Ext.setNew (Ext.setNew (ext_of_gr (E2.trans E23) GG (by omega)) (p := ⟨w.heap.size, 0, none⟩) (Nat.le_refl _) (.slice ta K.ts.length tc)) (p := ⟨w.heap.size, 1, none⟩) (Nat.le_refl _) (.slice pa K.ps.length pc)) (p := ⟨w.heap.size + 1, 0, none⟩) (Nat.le_succ _) (.slice fa fn fc))
  have hat9 : BoolsAt w9 fa fl := bools_gr hat7 G9 (fun x hx => by have := hlo7 x hx; omega)
  have HB1 := Lib.hid (((hat9.set (b := w.heap.size) (fun x hx => by have := hlo7 x hx; omega) 0 (.slice ta K.ts.length tc)).set (b := w.heap.size) (fun x hx => by have := hlo7 x hx; omega) 1 (.slice pa K.ps.length pc)).set (b := w.heap.size + 1) (fun x hx => by have := hlo7 x hx; omega) 0 (.slice fa fn fc))
  obtain ⟨_, _, ey, hby⟩ := hO9.opened
  cases ey
  obtain ⟨_, _, ey2, _, _, _, hy0'⟩ := ownsRow_row hO9
  cases ey2
  have hy0 : ∀ x, a9 = some x → w8.heap.size ≤ x.block := fun x hx => (hy0' x hx).1
  have HB2 := Lib.hid (((hby.set (b := w.heap.size) (fun x hx => by have := hy0 x hx; omega) 0 (.slice ta K.ts.length tc)).set (b := w.heap.size) (fun x hx => by have := hy0 x hx; omega) 1 (.slice pa K.ps.length pc)).set (b := w.heap.size + 1) (fun x hx => by have := hy0 x hx; omega) 0 (.slice fa fn fc))
  clear hat9 hby hO9 hK r9 q9 r10 q10 r11 q11 hat7 hlo7 HREL hb7 b5 hy0
  (refine wpAnyT_do 6 (by kernel_rfl) rfl (fun K hK => ?_))
  go_simp
  (refine hK _ _ hS3 ?_; clear hK K; (try simp only [Act.put, lA, lB, lC]))
  (refine wpAnyT_do 7 (by kernel_rfl) rfl (fun K hK => ?_))
  go_simp
  (refine hK _ _ hS4 ?_; clear hK K; (try simp only [Act.put, lA, lB, lC]))
  (refine wpAnyT_last 8 (by kernel_rfl) rfl (by decide) (by kernel_rfl) (fun K hK => ?_))
  go_simp
  (refine hK _ _ ?_; clear hK K; (try simp only [Act.put, lA, lB, lC]))
  go_wp2
  refine bodyPost_ret (v := .tuple #[.agg #[.slice ta K.ts.length tc, .slice pa K.ps.length pc], .agg #[.slice fa fn fc], .slice a9 ys.length c9]) (by simp [results, Try.results45, go_sem, d0, d1, e0]) rfl ?_
  exact ⟨ta, tc, pa, pc, K, fa, fc, fl, a9, c9, ys, by rw [HFN.out], HK.out, hcaps, HB1.out, HB2.out, hle7, hys, HE.out⟩
end Go.Proofs.Ytgialedmbmfejaa
