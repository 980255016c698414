/- The drawing of bitstreams. -/
import Derived.Test.YtgialedmbmfejaaBDk
import Derived.Test.YtgialedmbmfejaaBEnc
import Derived.Test.YtgialedmbmfejaaBDec
namespace Go.Proofs.Ytgialedmbmfejaa
open Go.RowKit
set_option maxRecDepth 100000
set_option linter.unusedVariables false
set_option linter.unusedSimpArgs false
/-- Bytes that were drawn. -/
def DrawnY (w : World) (e : Ending) (w' : World) : Prop := ∃ a c bs, e = .returned (.slice a (List.length bs) c) ∧ BytAt w' a bs ∧ AllB bs ∧ bs.length ≤ 333 ∧ bs.length ≤ c ∧ c ≤ maxLen ∧ Ext w w'
theorem encV_333 {K : Conf} (h : K.Ok) : (encV K).length = 333 := by
 have e : encV K = bodyV K ++ [sumV (bodyV K) / 256, sumV (bodyV K) % 256] := by unfold encV; rw [if_pos (confB_true h)]
 have := h.body.2
 rw [e, List.length_append, this]; rfl
theorem byt_take {w : World} {a : Option Addr} {xs : List Int} (hI : BytAt w a xs) (i : Nat) : BytAt w a (xs.take i) := by
 rcases hI with h | ⟨b, o, ha, hb, hc⟩
 ·subst h; exact .inl (by simp)
 ·refine .inr ⟨b, o, ha, hb, fun j hj => ?_⟩
  rw [List.length_take] at hj
  rw [hc j (by omega), List.getD_eq_getElem?_getD, List.getD_eq_getElem?_getD, List.getElem?_take_of_lt (by omega)]
theorem AllB.take {xs : List Int} (h : AllB xs) (i : Nat) : AllB (xs.take i) := fun x hx => h x (List.mem_of_mem_take hx)
theorem AllB.set {xs : List Int} (h : AllB xs) (i : Nat) {x : Int} (h0 : 0 ≤ x) (h1 : x < 256) : AllB (xs.set i x) := fun y hy => by
 rcases List.mem_or_eq_of_mem_set hy with hy | rfl
 ·exact h y hy
 ·exact ⟨h0, h1⟩
theorem OwnY.drawn {w w' : World} {b rb : Nat} {v : Value} {xs : List Int} (h : OwnY w b v xs) (g : w.grownBy w' (some rb)) (hr : rb < b) : OwnY w' b v xs :=
 ownsRow_gr h g (off_rb (fun q hq => h.lt q hq) hr)
theorem OwnY.put {w : World} {b g n c : Nat} {xs : List Int} (h : OwnY w b (.slice (some ⟨g, 0, none⟩) n c) xs) {i : Nat} (hi : i < xs.length) (x : Int) : OwnY (w.setCell ⟨g, i, none⟩ (.int .u8 x)) b (.slice (some ⟨g, 0, none⟩) n c) (xs.set i x) := by
 obtain ⟨a', c', e, _⟩ := ownsRow_row h
 cases e
 have := ownsRow_setAt h i (by rw [List.length_map]; exact hi) (.int .u8 x)
 unfold OwnY
 rw [List.map_set, List.length_set]; exact this
theorem wrap8_range (x : Int) : 0 ≤ IntKind.u8.wrap x ∧ IntKind.u8.wrap x < 256 := by simp [IntKind.wrap, IntKind.bits, IntKind.signed]; omega
set_option maxHeartbeats 8000000 in
theorem DrawDecodeConfig_c (a : Option Addr) (c : Nat) (bs : List Int) (w : World) (hB : BytesAt w a bs) (hl : bs.length ≤ 1048576) (hc : bs.length ≤ c) (hcm : c ≤ maxLen) :
  Calls Try.prog 43 #[.slice a bs.length c] w (DrawnY w) := by
 go_enter Try.func43, Try.ntmps43
 go_wp2_with fail
 refine (open_c a c bs _ hB hl hc hcm).mono ?_
 rintro e w1 ⟨rb, bs', rfl, hR1, hrb, hE1⟩
 have rl1 := hR1.lt
 go_wp2_with fail
 refine (l20Config_c rb bs' 0 0 _ hR1 (by omega) (by omega) (by omega)).mono ?_
 rintro e w2 ⟨ta, tc, pa, pc, K, rfl, hK, _, hok, hR2, hG2⟩
 have hOK := hok (Int.le_refl _)
 have hKA := (hK w2 (fun _ _ _ => rfl)).1
 have E2 := ext_of_gr hE1 hG2 hrb
 have s2 := hG2.size
 have T := specEncodeConfig_c K ta pa tc pc w2 hKA
 obtain ⟨ys, hys⟩ : ∃ ys, ys = encV K := ⟨_, rfl⟩
 have hlen : ys.length = 333 := by rw [hys]; exact encV_333 hOK
 have hall : AllB ys := by rw [hys]; exact encV_all K
 rw [← hys] at T
 have HL := Lib.hid hlen
 have HA := Lib.hid hall
 have hl0 : 0 < ys.length := by omega
 have hl1 : ys.length ≤ 333 := by omega
 clear hys hlen hall hok hOK hKA hK hG2 hE1
 go_wp2_with fail
 refine T.mono ?_
 rintro e w3 ⟨v, rfl, hO, hE3⟩
 obtain ⟨ga, cy, rfl, _, hcy1, hcy2, _⟩ := ownsRow_row hO
 obtain ⟨g, rfl, hg0, hg1⟩ := ownsRow_block hO hl0
 have hR3 := hR2.ext hE3
 have E3 := E2.trans hE3
 have hrg : rb < w2.heap.size := by omega
 have hne : g ≠ rb := by omega
 clear T hR2 E2 hE3 rl1 s2
 go_wp2_with fail
 refine (pick_c rb bs' _ 3 _ hR3 (by omega) (by omega)).mono ?_
 rintro e w4 ⟨k, rfl, k0, k1, hR4, hG4⟩
 have hcase : k = 0 ∨ k = 1 ∨ k = 2 := by rcases k1 with h | h <;> omega
 have hO4 := hO.drawn hG4 hrg
 have E4 := ext_of_gr E3 hG4 hrb
 clear hO hR3 hG4 E3 k0 k1
 rcases hcase with rfl | rfl | rfl
 ·go_wp2_with fail
  refine (pick_c rb bs' _ ys.length _ hR4 (by omega) (by omega)).mono ?_
  rintro e w5 ⟨k, rfl, k0, k1, hR5, hG5⟩
  obtain ⟨i, rfl⟩ : ∃ i : Nat, k = (i : Int) := ⟨k.toNat, by omega⟩
  have hi : i < ys.length := by rcases k1 with h | h <;> omega
  have hii : (i : Int) < (ys.length : Int) := by omega
  have hO5 := hO4.drawn hG5 hrg
  have E5 := ext_of_gr E4 hG5 hrb
  obtain ⟨y0, y1⟩ := HA.out.get i hi
  have q : w5.cell? ⟨g, i, none⟩ = some (.int .u8 (ys.getD i 0)) := ownsRow_cell hO5 (by rw [List.getElem?_map, List.getD_eq_getElem?_getD, List.getElem?_eq_getElem hi]; rfl)
  have fz := ownsRow_frozen hO5 i
  obtain ⟨y, hy⟩ : ∃ y, y = ys.getD i 0 := ⟨_, rfl⟩
  rw [← hy] at q y0 y1
  have hg5 : g < w5.heap.size := (hO5.lt g rfl).2
  have hwy : IntKind.i64.wrap y = y := by rw [IntKind.wrap_i64]; omega
  have HO5 := Lib.hid hO5
  clear hy k0 k1 hO4 hR4 hG5 E4 hO5
  go_wp2_with fail
  refine wp_regionT (fun w' => ∀ o, w'.cell? ⟨g, o, none⟩ = w5.cell? ⟨g, o, none⟩) 14 (by kernel_rfl) ?_
  have hS0 : ∀ o, w5.drew.cell? ⟨g, o, none⟩ = w5.cell? ⟨g, o, none⟩ := fun o => rfl
  ((refine tkT 0 (v := ?_) rfl (by kernel_rfl) (by kernel_rfl) ?_ (by assumption) ?_; rotate_left; (intro wS hSw; (try dsimp only at hSw); go_simp; (try with_reducible rfl)); (try simp only [Act.put, lA, lB, lC])); (refine tkT 1 (v := ?_) rfl (by kernel_rfl) (by kernel_rfl) ?_ (by assumption) ?_; rotate_left; (intro wS hSw; (try dsimp only at hSw); go_simp; (try with_reducible rfl)); (try simp only [Act.put, lA, lB, lC])); (refine tkT 2 (v := ?_) rfl (by kernel_rfl) (by kernel_rfl) ?_ (by assumption) ?_; rotate_left; (intro wS hSw; (try dsimp only at hSw); go_simp; (try with_reducible rfl)); (try simp only [Act.put, lA, lB, lC])); (refine tkT 3 (v := ?_) rfl (by kernel_rfl) (by kernel_rfl) ?_ (by assumption) ?_; rotate_left; (intro wS hSw; (try dsimp only at hSw); go_simp; (try with_reducible rfl)); (try simp only [Act.put, lA, lB, lC])); (refine tkT 4 (v := ?_) rfl (by kernel_rfl) (by kernel_rfl) ?_ (by assumption) ?_; rotate_left; (intro wS hSw; (try dsimp only at hSw); go_simp; (try with_reducible rfl)); (try simp only [Act.put, lA, lB, lC])); (refine tkT 5 (v := ?_) rfl (by kernel_rfl) (by kernel_rfl) ?_ (by assumption) ?_; rotate_left; (intro wS hSw; (try dsimp only at hSw); go_simp; (try with_reducible rfl)); (try simp only [Act.put, lA, lB, lC])); (refine tkT 6 (v := ?_) rfl (by kernel_rfl) (by kernel_rfl) ?_ (by assumption) ?_; rotate_left; (intro wS hSw; (try dsimp only at hSw); go_simp; (try with_reducible rfl)); (try simp only [Act.put, lA, lB, lC])); (refine tkT 7 (v := ?_) rfl (by kernel_rfl) (by kernel_rfl) ?_ (by assumption) ?_; rotate_left; (intro wS hSw; (try dsimp only at hSw); go_simp; (try with_reducible rfl)); (try simp only [Act.put, lA, lB, lC])); (refine tkT 8 (v := ?_) rfl (by kernel_rfl) (by kernel_rfl) ?_ (by assumption) ?_; rotate_left; (intro wS hSw; (try dsimp only at hSw); go_simp; (try with_reducible rfl)); (try simp only [Act.put, lA, lB, lC])))
  (refine wpAnyT_do 9 (by kernel_rfl) rfl (fun K hK => ?_))
  go_simp
  refine (pick_c rb bs' _ 255 _ (hR5.ext (Ext.drew w5)) (by omega) (by omega)).mono ?_
  rintro e w6 ⟨k, rfl, k0, k1, hR6, hG6⟩
  have hk : 0 ≤ k ∧ k < 255 := by rcases k1 with h | h <;> omega
  obtain ⟨k00, k11⟩ := hk
  have hS1 : ∀ o, w6.cell? ⟨g, o, none⟩ = w5.cell? ⟨g, o, none⟩ := fun o => gcell hG6 g o hg5 hne
  have hg6 : g < w6.heap.size := Nat.lt_of_lt_of_le hg5 hG6.size
  have HO6 := Lib.hid ((HO5.out.ext (Ext.drew w5)).drawn hG6 hrg)
  have E6 := ext_of_gr (E5.trans (Ext.drew w5)) hG6 hrb
  have fz6 := ownsRow_frozen HO6.out i
  clear k0 k1 hG6
  (refine hK _ _ hS1 ?_; clear hK K; (try simp only [Act.put, lA, lB, lC]))
  ((refine tkT 10 (v := ?_) rfl (by kernel_rfl) (by kernel_rfl) ?_ (by assumption) ?_; rotate_left; (intro wS hSw; (try dsimp only at hSw); go_simp; (try with_reducible rfl)); (try simp only [Act.put, lA, lB, lC])); (refine tkT 11 (v := ?_) rfl (by kernel_rfl) (by kernel_rfl) ?_ (by assumption) ?_; rotate_left; (intro wS hSw; (try dsimp only at hSw); go_simp; (try with_reducible rfl)); (try simp only [Act.put, lA, lB, lC])); (refine tkT 12 (v := ?_) rfl (by kernel_rfl) (by kernel_rfl) ?_ (by assumption) ?_; rotate_left; (intro wS hSw; (try dsimp only at hSw); go_simp; (try with_reducible rfl)); (try simp only [Act.put, lA, lB, lC])); (refine tkT 13 (v := ?_) rfl (by kernel_rfl) (by kernel_rfl) ?_ (by assumption) ?_; rotate_left; (intro wS hSw; (try dsimp only at hSw); go_simp; (try with_reducible rfl)); (try simp only [Act.put, lA, lB, lC])))
  (refine wpAnyT_last 14 (by kernel_rfl) rfl (by decide) (by kernel_rfl) (fun K hK => ?_))
  go_simp
  (refine hK _ _ ?_; clear hK K; (try simp only [Act.put, lA, lB, lC]))
  obtain ⟨z, hz⟩ : ∃ z, z = IntKind.u8.wrap ((IntKind.i64.wrap (IntKind.i64.wrap (y + 1) + k)).tmod 256) := ⟨_, rfl⟩
  have hz0 := wrap8_range ((IntKind.i64.wrap (IntKind.i64.wrap (y + 1) + k)).tmod 256)
  rw [← hz] at hz0 ⊢
  have HP := Lib.hid (HO6.out.put hi z)
  have HAZ := Lib.hid (HA.out.set i hz0.1 hz0.2)
  have HE := Lib.hid (Ext.setNew E6 (p := ⟨g, i, none⟩) (by show w.heap.size ≤ g; have := E5.size; have := hrb; omega) (.int .u8 z))
  clear hz E6 E5
  go_wp2_with fail
  go_ret
  exact ⟨_, _, ys.set i z, by rw [List.length_set]; rfl, HP.out.byt, HAZ.out, by rw [List.length_set]; exact hl1, by rw [List.length_set]; exact hcy1, hcy2, HE.out⟩
 ·go_wp2_with fail
  refine (pick_c rb bs' _ 3 _ hR4 (by omega) (by omega)).mono ?_
  rintro e w5 ⟨k, rfl, k0, k1, hR5, hG5⟩
  have hO5 := hO4.drawn hG5 hrg
  have E5 := ext_of_gr E4 hG5 hrb
  clear hO4 E4 hR4 hG5
  by_cases hk : k = 0
  ·subst hk
   go_wp2_with fail
   refine (pick_c rb bs' _ ys.length _ hR5 (by omega) (by omega)).mono ?_
   rintro e w6 ⟨k, rfl, k0, k1, hR6, hG6⟩
   obtain ⟨i, rfl⟩ : ∃ i : Nat, k = (i : Int) := ⟨k.toNat, by omega⟩
   have hi : i < ys.length := by rcases k1 with h | h <;> omega
   have hii : (i : Int) ≤ (cy : Int) := by omega
   have HO6 := Lib.hid (hO5.drawn hG6 hrg)
   have E6 := ext_of_gr E5 hG6 hrb
   have HT := Lib.hid (byt_take HO6.out.byt i)
   have HTL : Hid ((ys.take i).length = i) := Lib.hid (by rw [List.length_take]; omega)
   clear k0 k1 hO5 hR5 hG6 E5
   go_wp2_with fail
   go_ret
   exact ⟨_, _, ys.take i, by rw [HTL.out]; rfl, HT.out, HA.out.take i, by rw [HTL.out]; omega, by rw [HTL.out]; omega, hcy2, E6⟩
  ·go_wp2_with fail
   go_ret
   exact ⟨_, _, ys, rfl, hO5.byt, HA.out, hl1, hcy1, hcy2, E5⟩
 ·go_wp2_with fail
  go_ret
  exact ⟨_, _, ys, rfl, hO4.byt, HA.out, hl1, hcy1, hcy2, E4⟩
end Go.Proofs.Ytgialedmbmfejaa
