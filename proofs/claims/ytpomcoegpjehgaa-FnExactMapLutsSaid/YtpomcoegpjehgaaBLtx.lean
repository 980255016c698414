/- Bundle: how the exact laws read rows of lookup tables. -/
import Derived.Test.YtpomcoegpjehgaaBCut
import Derived.Test.YtpomcoegpjehgaaMarkI
import Derived.Test.YtpomcoegpjehgaaRegion
import Derived.Test.YtpomcoegpjehgaaBLut
namespace Go.Proofs.Ytpomcoegpjehgaa
open Go.RowKit
set_option maxRecDepth 100000
set_option linter.unusedVariables false
set_option linter.unusedSimpArgs false
/-! ### Sizes and marks, of no program -/
def SmI (x : List Int) : Prop := x.length ≤ 1000
def SmL {α : Type} (S : α → Prop) (xs : List α) : Prop := xs.length ≤ 1000 ∧ ∀ x ∈ xs, S x
def szI (x : List Int) : Nat := x.length
def mkII (k : Int) (x : List Int) : List Int := mksI k x.length
def szF {α : Type} (sz : α → Nat) : List α → Nat
  | [] => 0
  | x :: xs => sz x + szF sz xs
def mkFN {α : Type} (mk : Int → α → α) (sz : α → Nat) : Int → List α → List α
  | _, [] => []
  | k, x :: xs => mk k x :: mkFN mk sz (k + sz x) xs
section
variable {α : Type} {mk : Int → α → α} {sz : α → Nat}
theorem szF_append (xs ys : List α) : szF sz (xs ++ ys) = szF sz xs + szF sz ys := by
  induction xs with
  | nil => simp [szF]
  | cons x xs ih => rw [List.cons_append, szF, szF, ih]; omega
theorem take_snocN (xs : List α) (k : Nat) (d : α) (h : k < xs.length) : xs.take (k + 1) = xs.take k ++ [xs.getD k d] := by
  rw [List.take_add_one, List.getD_eq_getElem?_getD, List.getElem?_eq_getElem h]; rfl
theorem szF_take (xs : List α) (k : Nat) (d : α) (h : k < xs.length) : szF sz (xs.take (k + 1)) = szF sz (xs.take k) + sz (xs.getD k d) := by
  rw [take_snocN xs k d h, szF_append]; simp [szF]
theorem szF_take_le (xs : List α) (k : Nat) : szF sz (xs.take k) ≤ szF sz xs := by
  have := szF_append (sz := sz) (xs.take k) (xs.drop k)
  rw [List.take_append_drop] at this; omega
theorem mkFN_length : ∀ (xs : List α) (k : Int), (mkFN mk sz k xs).length = xs.length
  | [], _ => rfl
  | x :: xs, k => by simp [mkFN, mkFN_length xs]
theorem mkFN_append : ∀ (xs ys : List α) (k : Int), mkFN mk sz k (xs ++ ys) = mkFN mk sz k xs ++ mkFN mk sz (k + szF sz xs) ys
  | [], ys, k => by simp [mkFN, szF]
  | x :: xs, ys, k => by
    rw [List.cons_append, mkFN, mkFN_append xs, mkFN, szF, List.cons_append]
    have : k + (sz x : Int) + (szF sz xs : Int) = k + ((sz x + szF sz xs : Nat) : Int) := by omega
    rw [this]
theorem mkFN_get (xs : List α) (k : Int) (j : Nat) (d : α) (h : j < xs.length) : (mkFN mk sz k xs).getD j d = mk (k + szF sz (xs.take j)) (xs.getD j d) := by
  have e : xs = xs.take j ++ (xs.getD j d :: xs.drop (j + 1)) := by
    rw [List.getD_eq_getElem?_getD, List.getElem?_eq_getElem h]
    simp
  have hl : (mkFN mk sz k (xs.take j)).length = j := by rw [mkFN_length, List.length_take]; omega
  have e2 : mkFN mk sz k xs = mkFN mk sz k (xs.take j) ++ mkFN mk sz (k + szF sz (xs.take j)) (xs.getD j d :: xs.drop (j + 1)) := by rw [← mkFN_append, ← e]
  rw [e2, List.getD_eq_getElem?_getD, List.getElem?_append_right (by omega), hl, Nat.sub_self]
  rfl
/-- What the row holds when k elements are marked. -/
def midF (mk : Int → α → α) (sz : α → Nat) (k0 : Int) (xs : List α) (j : Nat) : List α := mkFN mk sz k0 (xs.take j) ++ xs.drop j
theorem midF_length (k0 : Int) (xs : List α) (j : Nat) (hj : j ≤ xs.length) : (midF mk sz k0 xs j).length = xs.length := by
  unfold midF; rw [List.length_append, mkFN_length, List.length_take, List.length_drop]; omega
theorem drop_getN (xs : List α) (k : Nat) (d : α) (h : k < xs.length) : xs.drop k = xs.getD k d :: xs.drop (k + 1) := by
  rw [List.drop_eq_getElem_cons h, List.getD_eq_getElem?_getD, List.getElem?_eq_getElem h]; rfl
theorem midF_at (k0 : Int) (xs : List α) (j : Nat) (d : α) (hj : j < xs.length) : (midF mk sz k0 xs j).getD j d = xs.getD j d := by
  unfold midF
  have hl : (mkFN mk sz k0 (xs.take j)).length = j := by rw [mkFN_length, List.length_take]; omega
  rw [List.getD_eq_getElem?_getD, List.getElem?_append_right (by omega), hl, Nat.sub_self, List.getElem?_drop, Nat.add_zero, ← List.getD_eq_getElem?_getD]
theorem midF_set (k0 : Int) (xs : List α) (j : Nat) (d : α) (hj : j < xs.length) : (midF mk sz k0 xs j).set j (mk (k0 + szF sz (xs.take j)) (xs.getD j d)) = midF mk sz k0 xs (j + 1) := by
  unfold midF
  have hl : (mkFN mk sz k0 (xs.take j)).length = j := by rw [mkFN_length, List.length_take]; omega
  rw [List.set_append_right _ _ (by omega), hl, Nat.sub_self, drop_getN xs j d hj, List.set_cons_zero, take_snocN xs j d hj, mkFN_append]
  simp [mkFN]
theorem midF_zero (k0 : Int) (xs : List α) : midF mk sz k0 xs 0 = xs := by simp [midF, mkFN]
theorem midF_all (k0 : Int) (xs : List α) : midF mk sz k0 xs xs.length = mkFN mk sz k0 xs := by simp [midF]
end
section
variable {α : Type} {P : OwnP α} {T : TypeId} {w w' : World} {v : Value} {xs : List α} {F : List Nat}
/-- An element of one cell: its cell, and what another in its place makes of the row. -/
theorem Nst.upd1 (hP : GoodP P 1) (h : Nst P T 1 w v xs F) (j : Nat) (d : α) (hj : j < xs.length) : ∃ g c u Fj, v = .slice (some ⟨g, 0, none⟩) xs.length c ∧ g < w.heap.size ∧ w.cell? ⟨g, j, none⟩ = some u ∧ P w [u] (xs.getD j d) Fj ∧ (∀ q ∈ Fj, q ∈ F) ∧ g ∉ Fj ∧
    ∀ w' x', P w' [u] x' Fj → ChgN Fj w w' → Nst P T 1 w' v (xs.set j x') F := by
  obtain ⟨cells, G, h1, h2, rfl, h4⟩ := h
  obtain ⟨a', c', rfl, hr, _⟩ := ownsRow_row h1
  obtain ⟨g, rfl, hb, hg⟩ := ownsRow_block h1 (by omega)
  obtain ⟨cs, Fj, q1, q2, q3, q4⟩ := h2.upd hP j d hj
  obtain ⟨u, rfl⟩ : ∃ u, cs = [u] := by
    have := hP.len q1
    match cs, this with
    | [u], _ => exact ⟨u, rfl⟩
  have hcu : cells[j]? = some u := by have := q2 0 (by omega); simpa using this
  have hgf : g ∈ fp (Value.slice (some ⟨g, 0, none⟩) xs.length c') := mem_fp.2 rfl
  refine ⟨g, c', u, Fj, rfl, hg, ownsRow_cell h1 hcu, q1, fun q hq => List.mem_append_right _ (q3 q hq), fun e => h4 g hgf (q3 g e), fun w' x' hx hc => ?_⟩
  have := q4 w' [u] x' hx (fun g2 hg2 hn => hc.block g2 (h2.lt hP g2 hg2) hn)
  have e : cells.take (j * 1) ++ ([u] ++ cells.drop (j * 1 + 1)) = cells := by
    rw [Nat.mul_one]
    have hjl : j < cells.length := by
      rcases Nat.lt_or_ge j cells.length with h | h
      · exact h
      · rw [List.getElem?_eq_none h] at hcu; cases hcu
    have : cells[j] = u := by rw [List.getElem?_eq_getElem hjl] at hcu; exact Option.some.inj hcu
    rw [← this]
    simp
  rw [e] at this
  refine ⟨cells, G, ?_, this, rfl, h4⟩
  rw [List.length_set]
  refine ownsRow_keep h1 (fun x hx => ?_)
  cases hx
  exact hc.block g hg (fun e => h4 g hgf (q3 g e))
theorem Nst.get1 (hP : GoodP P 1) {a : Option Addr} {n c : Nat} (h : Nst P T 1 w (.slice a n c) xs F) (hn : 0 < xs.length) : ∃ g, a = some ⟨g, 0, none⟩ ∧ g < w.heap.size ∧ ∀ j d, j < xs.length → ∃ u Fj, w.cell? ⟨g, j, none⟩ = some u ∧ P w [u] (xs.getD j d) Fj ∧ ∀ q ∈ Fj, q ∈ F := by
  obtain ⟨cells, G, h1, h2, rfl, h4⟩ := h
  obtain ⟨a', c', e, hr, _⟩ := ownsRow_row h1
  cases e
  obtain ⟨g, rfl, hb, hg⟩ := ownsRow_block h1 hn
  refine ⟨g, rfl, hg, fun j d hj => ?_⟩
  obtain ⟨cs, Fj, q1, q2, q3⟩ := h2.get hP j d hj
  obtain ⟨u, rfl⟩ : ∃ u, cs = [u] := by
    have := hP.len q1
    match cs, this with
    | [u], _ => exact ⟨u, rfl⟩
  have hcu : cells[j]? = some u := by have := q2 0 (by omega); simpa using this
  exact ⟨u, Fj, ownsRow_cell h1 hcu, q1, fun q hq => List.mem_append_right _ (q3 q hq)⟩
end
/-! ### Slices of numbers -/
theorem eqIntS_P (u u' : Value) (x : List Int) (F F' : List Nat) (w : World) (h : PInts w [u] x F) (h' : PInts w [u'] x F') (hs : SmI x) : Calls Try.prog 48 #[u, u'] w fun e w' => e = .returned (.bool true) ∧ Ext w w' := by
  obtain ⟨v, e, o, rfl⟩ := h
  obtain ⟨v', e', o', rfl⟩ := h'
  cases e; cases e'
  obtain ⟨a, c, rfl, h1, _⟩ := o.opened
  obtain ⟨a', c', rfl, h1', _⟩ := o'.opened
  exact eqIntS_c a a' c c' x w h1 h1' (by unfold SmI at hs; omega)
theorem markIntS_P (u : Value) (x : List Int) (F : List Nat) (k : Int) (w : World) (h : PInts w [u] x F) (hs : SmI x) (h0 : 0 ≤ k) (h1 : k ≤ 100000000) : Calls Try.prog 56 #[u, .int .i64 k] w fun e w' => e = .returned (.int .i64 (k + szI x)) ∧ PInts w' [u] (mkII k x) F ∧ ChgN F w w' := by
  obtain ⟨v, e, o, rfl⟩ := h
  cases e
  obtain ⟨a, c, rfl, _⟩ := o.opened
  refine (markIntS_o 0 a c x k w o h0 (by omega) (by unfold SmI at hs; omega)).mono ?_
  rintro e w' ⟨rfl, o2, g2⟩
  refine ⟨rfl, ⟨_, rfl, ?_, rfl⟩, ChgN.ofGr g2⟩
  unfold OwnInts mkII
  rw [mksI_length]; exact o2
theorem heldIntS_P (u : Value) (x : List Int) (F : List Nat) (k : Int) (w : World) (h : PInts w [u] (mkII k x) F) (hs : SmI x) (h0 : 0 ≤ k) (h1 : k ≤ 100000000) : Calls Try.prog 57 #[u, .int .i64 k] w fun e w' => e = .returned (.int .i64 (k + szI x)) ∧ Ext w w' := by
  obtain ⟨v, e, o, rfl⟩ := h
  cases e
  obtain ⟨a, c, rfl, h2, _⟩ := o.opened
  unfold mkII at h2 ⊢
  rw [mksI_length]
  refine (heldIntS_c a c x.length k w h2 h0 (by omega) (by unfold SmI at hs; omega)).mono ?_
  rintro e w' ⟨rfl, rfl⟩
  exact ⟨rfl, Ext.refl _⟩
set_option maxHeartbeats 1000000 in
theorem eqIntSS_P (u u' : Value) (xs : List (List Int)) (F F' : List Nat) (w : World) (h : PNst PInts 23 1 w [u] xs F) (h' : PNst PInts 23 1 w [u'] xs F') (hs : SmL SmI xs) : Calls Try.prog 77 #[u, u'] w fun e w' => e = .returned (.bool true) ∧ Ext w w' := by
  obtain ⟨v, e, o⟩ := h
  obtain ⟨v', e', o'⟩ := h'
  cases e; cases e'
  have HL := Lib.hid hs.2
  have hl := hs.1
  obtain ⟨a, c, rfl, _⟩ := o.sl
  obtain ⟨a', c', rfl, _⟩ := o'.sl
  clear hs
  go_enter Try.func77, Try.ntmps77
  go_wp2_with fail
  go_loopw [5] (fun i wr => ∃ k : Nat, k ≤ xs.length ∧ i = .int .i64 k ∧ Ext w wr) (fun i _ => xs.length - (intOf i).toNat)
  case atStart => exact ⟨0, Nat.zero_le _, rfl, Ext.refl w⟩
  case round =>
    obtain ⟨k, hk, rfl, hE⟩ := hrel
    by_cases hlt : k < xs.length
    · obtain ⟨b1, rfl, hb1, hc1⟩ := Nst.get1 goodInts (o.ext goodInts hE) (by omega)
      obtain ⟨b2, rfl, hb2, hc2⟩ := Nst.get1 goodInts (o'.ext goodInts hE) (by omega)
      obtain ⟨u1, F1, q1, p1, _⟩ := hc1 k [] hlt
      obtain ⟨u2, F2, q2, p2, _⟩ := hc2 k [] hlt
      have hrl := HL.out (xs.getD k []) (by rw [List.getD_eq_getElem?_getD, List.getElem?_eq_getElem hlt]; exact List.getElem_mem hlt)
      obtain ⟨x, hx⟩ : ∃ x, x = xs.getD k [] := ⟨_, rfl⟩
      rw [← hx] at p1 p2 hrl
      obtain ⟨w1, rfl⟩ : ∃ x : World, x = wr := ⟨_, rfl⟩
      clear hc1 hc2 hx
      go_wp2_with fail
      go_region_held3 ((fun w' => (∀ b o, b < w1.heap.size → w'.cell? ⟨b, o, none⟩ = w1.cell? ⟨b, o, none⟩) ∧ Ext w1 w')) ((first | assumption | (with_reducible exact held_mk (Ext.drew w1)) | (with_reducible exact held_mk (((Ext.refl w1).alloc _).drew')) | (with_reducible exact held_mk ((Ext.drew w1).alloc _)))) ((go_simp; go_at_call 48; refine (eqIntS_P u1 u2 x F1 F2 _ (GoodP.ext goodInts p1 (Ext.drew w1)) (GoodP.ext goodInts p2 (Ext.drew w1)) hrl).mono ?_; rintro e w2 ⟨rfl, hE2⟩; have hK1 := held_mk ((Ext.drew w1).trans hE2)))
      have hE3 := held_ext hK1
      go_wp2
      go_roundw
      case rel => exact ⟨k + 1, by omega, by go_num, hE.trans hE3⟩
      case measure => simp [intOf]; omega
    · go_wp2
      go_ret
      exact ⟨rfl, hE⟩
set_option maxHeartbeats 1000000 in
theorem markIntSS_P (u : Value) (xs : List (List Int)) (F : List Nat) (k : Int) (w : World) (h : PNst PInts 23 1 w [u] xs F) (hs : SmL SmI xs) (h0 : 0 ≤ k) (h1 : k + szF szI xs ≤ 100000000) : Calls Try.prog 79 #[u, .int .i64 k] w fun e w' => e = .returned (.int .i64 (k + szF szI xs)) ∧ PNst PInts 23 1 w' [u] (mkFN mkII szI k xs) F ∧ ChgN F w w' := by
  obtain ⟨v, e, o⟩ := h
  cases e
  have HL := Lib.hid hs.2
  have hl := hs.1
  have HT := Lib.hid (szF_take_le (sz := szI) xs)
  obtain ⟨a, c, rfl, _⟩ := o.sl
  clear hs
  go_enter Try.func79, Try.ntmps79
  go_wp2_with fail
  go_loopw [1, 5] (fun u1 u5 wr => ∃ (j : Nat) (m : Int), j ≤ xs.length ∧ u5 = .int .i64 j ∧ u1 = .int .i64 m ∧ Hid (m = k + szF szI (xs.take j)) ∧ Hid (Nst PInts 23 1 wr (.slice a xs.length c) (midF mkII szI k xs j) F) ∧ ChgN F w wr) (fun _ i _ => xs.length - (intOf i).toNat)
  case atStart => exact ⟨0, k, Nat.zero_le _, rfl, rfl, Lib.hid (by simp [szF]), Lib.hid (by rw [midF_zero]; exact o), ChgN.refl _⟩
  case round =>
    clear o
    obtain ⟨j, m, hj, rfl, rfl, HM, HO, hC⟩ := hrel
    have htl := HT.out j
    have hml := midF_length (mk := mkII) (sz := szI) k xs j hj
    by_cases hlt : j < xs.length
    · obtain ⟨g, c2, u1, Fj, ev, hg, q1, p1, hF, hgF, hup⟩ := HO.out.upd1 goodInts j [] (by omega)
      rw [midF_at k xs j [] hlt] at p1
      have hrl := HL.out (xs.getD j []) (by rw [List.getD_eq_getElem?_getD, List.getElem?_eq_getElem hlt]; exact List.getElem_mem hlt)
      have hs := midF_set (mk := mkII) (sz := szI) k xs j [] hlt
      have hts := szF_take (sz := szI) xs j [] hlt
      rw [← HM.out] at hs
      have hle := HT.out (j + 1)
      rw [hts] at hle
      have hm0 := HM.out
      obtain ⟨x, hx⟩ : ∃ x, x = xs.getD j [] := ⟨_, rfl⟩
      rw [← hx] at p1 hrl hs hts hle
      rw [hml] at ev
      cases ev
      have HS := Lib.hid hs
      have HTS := Lib.hid hts
      have HUP := Lib.hid hup
      have hm1 : 0 ≤ m ∧ m + szI x ≤ 100000000 := by omega
      obtain ⟨hm1, hm2⟩ := hm1
      obtain ⟨w1, rfl⟩ : ∃ x : World, x = wr := ⟨_, rfl⟩
      clear hs hts hup hx hle hm0 htl hml
      go_wp2_with fail
      refine (markIntS_P u1 x Fj m _ p1 hrl hm1 (by omega)).mono ?_
      rintro e w2 ⟨rfl, p2, c2'⟩
      have hsz := c2'.size
      have hnum : m + (szI x : Int) ≤ 9223372036854775807 := by omega
      go_wp2
      go_roundw
      case rel => exact ⟨j + 1, m + szI x, by omega, by go_num, rfl, Lib.hid (by rw [HTS.out, HM.out]; omega), Lib.hid (by rw [← HS.out]; exact HUP.out w2 _ p2 c2'), hC.trans (c2'.wider hF)⟩
      case measure => simp [intOf]; omega
    · have hk2 : j = xs.length := by omega
      subst hk2
      have HO2 := HO.out
      rw [midF_all] at HO2
      have hm := HM.out
      rw [List.take_length] at hm
      subst hm
      go_wp2
      go_ret
      exact ⟨rfl, ⟨_, rfl, HO2⟩, hC⟩
set_option maxHeartbeats 1000000 in
theorem heldIntSS_P (u : Value) (xs : List (List Int)) (F : List Nat) (k : Int) (w : World) (h : PNst PInts 23 1 w [u] (mkFN mkII szI k xs) F) (hs : SmL SmI xs) (h0 : 0 ≤ k) (h1 : k + szF szI xs ≤ 100000000) : Calls Try.prog 80 #[u, .int .i64 k] w fun e w' => e = .returned (.int .i64 (k + szF szI xs)) ∧ Ext w w' := by
  obtain ⟨v, e, o⟩ := h
  cases e
  have HL := Lib.hid hs.2
  have hl := hs.1
  have HT := Lib.hid (szF_take_le (sz := szI) xs)
  have HML := Lib.hid (mkFN_length (mk := mkII) (sz := szI) xs k)
  obtain ⟨a, c, rfl, _⟩ := o.sl
  rw [HML.out]
  rw [HML.out] at o
  clear hs
  go_enter Try.func80, Try.ntmps80
  go_wp2_with fail
  go_loopw [1, 5] (fun u1 u5 wr => ∃ (j : Nat) (m : Int), j ≤ xs.length ∧ u5 = .int .i64 j ∧ u1 = .int .i64 m ∧ Hid (m = k + szF szI (xs.take j)) ∧ Ext w wr) (fun _ i _ => xs.length - (intOf i).toNat)
  case atStart => exact ⟨0, k, Nat.zero_le _, rfl, rfl, Lib.hid (by simp [szF]), Ext.refl _⟩
  case round =>
    obtain ⟨j, m, hj, rfl, rfl, HM, hE⟩ := hrel
    have htl := HT.out j
    by_cases hlt : j < xs.length
    · obtain ⟨b1, rfl, hb1, hc1⟩ := Nst.get1 goodInts (o.ext goodInts hE) (by rw [HML.out]; omega)
      obtain ⟨u1, F1, q1, p1, _⟩ := hc1 j [] (by rw [HML.out]; exact hlt)
      rw [mkFN_get xs k j [] hlt, ← HM.out] at p1
      have hrl := HL.out (xs.getD j []) (by rw [List.getD_eq_getElem?_getD, List.getElem?_eq_getElem hlt]; exact List.getElem_mem hlt)
      have hts := szF_take (sz := szI) xs j [] hlt
      have hle := HT.out (j + 1)
      rw [hts] at hle
      have hm0 := HM.out
      obtain ⟨x, hx⟩ : ∃ x, x = xs.getD j [] := ⟨_, rfl⟩
      rw [← hx] at p1 hrl hts hle
      have HTS := Lib.hid hts
      have hm1 : 0 ≤ m ∧ m + szI x ≤ 100000000 := by omega
      obtain ⟨hm1, hm2⟩ := hm1
      clear hc1 hts hx hle hm0 htl
      go_wp2_with fail
      refine (heldIntS_P u1 x F1 m _ p1 hrl hm1 (by omega)).mono ?_
      rintro e w2 ⟨rfl, hE2⟩
      go_wp2
      go_roundw
      case rel => exact ⟨j + 1, m + szI x, by omega, by go_num, rfl, Lib.hid (by rw [HTS.out, HM.out]; omega), hE.trans hE2⟩
      case measure => simp [intOf]; omega
    · have hk2 : j = xs.length := by omega
      subst hk2
      have hm := HM.out
      rw [List.take_length] at hm
      subst hm
      go_wp2
      go_ret
      exact ⟨rfl, hE⟩
set_option maxHeartbeats 1000000 in
theorem eqIntSSS_P (u u' : Value) (xs : List (List (List Int))) (F F' : List Nat) (w : World) (h : PNst PII 30 1 w [u] xs F) (h' : PNst PII 30 1 w [u'] xs F') (hs : SmL (SmL SmI) xs) : Calls Try.prog 27 #[u, u'] w fun e w' => e = .returned (.bool true) ∧ Ext w w' := by
  obtain ⟨v, e, o⟩ := h
  obtain ⟨v', e', o'⟩ := h'
  cases e; cases e'
  have HL := Lib.hid hs.2
  have hl := hs.1
  obtain ⟨a, c, rfl, _⟩ := o.sl
  obtain ⟨a', c', rfl, _⟩ := o'.sl
  clear hs
  go_enter Try.func27, Try.ntmps27
  go_wp2_with fail
  go_loopw [5] (fun i wr => ∃ k : Nat, k ≤ xs.length ∧ i = .int .i64 k ∧ Ext w wr) (fun i _ => xs.length - (intOf i).toNat)
  case atStart => exact ⟨0, Nat.zero_le _, rfl, Ext.refl w⟩
  case round =>
    obtain ⟨k, hk, rfl, hE⟩ := hrel
    by_cases hlt : k < xs.length
    · obtain ⟨b1, rfl, hb1, hc1⟩ := Nst.get1 goodII (o.ext goodII hE) (by omega)
      obtain ⟨b2, rfl, hb2, hc2⟩ := Nst.get1 goodII (o'.ext goodII hE) (by omega)
      obtain ⟨u1, F1, q1, p1, _⟩ := hc1 k [] hlt
      obtain ⟨u2, F2, q2, p2, _⟩ := hc2 k [] hlt
      have hrl := HL.out (xs.getD k []) (by rw [List.getD_eq_getElem?_getD, List.getElem?_eq_getElem hlt]; exact List.getElem_mem hlt)
      obtain ⟨x, hx⟩ : ∃ x, x = xs.getD k [] := ⟨_, rfl⟩
      rw [← hx] at p1 p2 hrl
      obtain ⟨w1, rfl⟩ : ∃ x : World, x = wr := ⟨_, rfl⟩
      clear hc1 hc2 hx
      go_wp2_with fail
      go_region_held3 ((fun w' => (∀ b o, b < w1.heap.size → w'.cell? ⟨b, o, none⟩ = w1.cell? ⟨b, o, none⟩) ∧ Ext w1 w')) ((first | assumption | (with_reducible exact held_mk (Ext.drew w1)) | (with_reducible exact held_mk (((Ext.refl w1).alloc _).drew')) | (with_reducible exact held_mk ((Ext.drew w1).alloc _)))) ((go_simp; go_at_call 77; refine (eqIntSS_P u1 u2 x F1 F2 _ (GoodP.ext goodII p1 (Ext.drew w1)) (GoodP.ext goodII p2 (Ext.drew w1)) hrl).mono ?_; rintro e w2 ⟨rfl, hE2⟩; have hK1 := held_mk ((Ext.drew w1).trans hE2)))
      have hE3 := held_ext hK1
      go_wp2
      go_roundw
      case rel => exact ⟨k + 1, by omega, by go_num, hE.trans hE3⟩
      case measure => simp [intOf]; omega
    · go_wp2
      go_ret
      exact ⟨rfl, hE⟩
set_option maxHeartbeats 1000000 in
theorem markIntSSS_P (u : Value) (xs : List (List (List Int))) (F : List Nat) (k : Int) (w : World) (h : PNst PII 30 1 w [u] xs F) (hs : SmL (SmL SmI) xs) (h0 : 0 ≤ k) (h1 : k + szF (szF szI) xs ≤ 100000000) : Calls Try.prog 29 #[u, .int .i64 k] w fun e w' => e = .returned (.int .i64 (k + szF (szF szI) xs)) ∧ PNst PII 30 1 w' [u] (mkFN (mkFN mkII szI) (szF szI) k xs) F ∧ ChgN F w w' := by
  obtain ⟨v, e, o⟩ := h
  cases e
  have HL := Lib.hid hs.2
  have hl := hs.1
  have HT := Lib.hid (szF_take_le (sz := (szF szI)) xs)
  obtain ⟨a, c, rfl, _⟩ := o.sl
  clear hs
  go_enter Try.func29, Try.ntmps29
  go_wp2_with fail
  go_loopw [1, 5] (fun u1 u5 wr => ∃ (j : Nat) (m : Int), j ≤ xs.length ∧ u5 = .int .i64 j ∧ u1 = .int .i64 m ∧ Hid (m = k + szF (szF szI) (xs.take j)) ∧ Hid (Nst PII 30 1 wr (.slice a xs.length c) (midF (mkFN mkII szI) (szF szI) k xs j) F) ∧ ChgN F w wr) (fun _ i _ => xs.length - (intOf i).toNat)
  case atStart => exact ⟨0, k, Nat.zero_le _, rfl, rfl, Lib.hid (by simp [szF]), Lib.hid (by rw [midF_zero]; exact o), ChgN.refl _⟩
  case round =>
    clear o
    obtain ⟨j, m, hj, rfl, rfl, HM, HO, hC⟩ := hrel
    have htl := HT.out j
    have hml := midF_length (mk := (mkFN mkII szI)) (sz := (szF szI)) k xs j hj
    by_cases hlt : j < xs.length
    · obtain ⟨g, c2, u1, Fj, ev, hg, q1, p1, hF, hgF, hup⟩ := HO.out.upd1 goodII j [] (by omega)
      rw [midF_at k xs j [] hlt] at p1
      have hrl := HL.out (xs.getD j []) (by rw [List.getD_eq_getElem?_getD, List.getElem?_eq_getElem hlt]; exact List.getElem_mem hlt)
      have hs := midF_set (mk := (mkFN mkII szI)) (sz := (szF szI)) k xs j [] hlt
      have hts := szF_take (sz := (szF szI)) xs j [] hlt
      rw [← HM.out] at hs
      have hle := HT.out (j + 1)
      rw [hts] at hle
      have hm0 := HM.out
      obtain ⟨x, hx⟩ : ∃ x, x = xs.getD j [] := ⟨_, rfl⟩
      rw [← hx] at p1 hrl hs hts hle
      rw [hml] at ev
      cases ev
      have HS := Lib.hid hs
      have HTS := Lib.hid hts
      have HUP := Lib.hid hup
      have hm1 : 0 ≤ m ∧ m + (szF szI) x ≤ 100000000 := by omega
      obtain ⟨hm1, hm2⟩ := hm1
      obtain ⟨w1, rfl⟩ : ∃ x : World, x = wr := ⟨_, rfl⟩
      clear hs hts hup hx hle hm0 htl hml
      go_wp2_with fail
      refine (markIntSS_P u1 x Fj m _ p1 hrl hm1 (by omega)).mono ?_
      rintro e w2 ⟨rfl, p2, c2'⟩
      have hsz := c2'.size
      have hnum : m + ((szF szI) x : Int) ≤ 9223372036854775807 := by omega
      go_wp2
      go_roundw
      case rel => exact ⟨j + 1, m + (szF szI) x, by omega, by go_num, rfl, Lib.hid (by rw [HTS.out, HM.out]; omega), Lib.hid (by rw [← HS.out]; exact HUP.out w2 _ p2 c2'), hC.trans (c2'.wider hF)⟩
      case measure => simp [intOf]; omega
    · have hk2 : j = xs.length := by omega
      subst hk2
      have HO2 := HO.out
      rw [midF_all] at HO2
      have hm := HM.out
      rw [List.take_length] at hm
      subst hm
      go_wp2
      go_ret
      exact ⟨rfl, ⟨_, rfl, HO2⟩, hC⟩
set_option maxHeartbeats 1000000 in
theorem heldIntSSS_P (u : Value) (xs : List (List (List Int))) (F : List Nat) (k : Int) (w : World) (h : PNst PII 30 1 w [u] (mkFN (mkFN mkII szI) (szF szI) k xs) F) (hs : SmL (SmL SmI) xs) (h0 : 0 ≤ k) (h1 : k + szF (szF szI) xs ≤ 100000000) : Calls Try.prog 30 #[u, .int .i64 k] w fun e w' => e = .returned (.int .i64 (k + szF (szF szI) xs)) ∧ Ext w w' := by
  obtain ⟨v, e, o⟩ := h
  cases e
  have HL := Lib.hid hs.2
  have hl := hs.1
  have HT := Lib.hid (szF_take_le (sz := (szF szI)) xs)
  have HML := Lib.hid (mkFN_length (mk := (mkFN mkII szI)) (sz := (szF szI)) xs k)
  obtain ⟨a, c, rfl, _⟩ := o.sl
  rw [HML.out]
  rw [HML.out] at o
  clear hs
  go_enter Try.func30, Try.ntmps30
  go_wp2_with fail
  go_loopw [1, 5] (fun u1 u5 wr => ∃ (j : Nat) (m : Int), j ≤ xs.length ∧ u5 = .int .i64 j ∧ u1 = .int .i64 m ∧ Hid (m = k + szF (szF szI) (xs.take j)) ∧ Ext w wr) (fun _ i _ => xs.length - (intOf i).toNat)
  case atStart => exact ⟨0, k, Nat.zero_le _, rfl, rfl, Lib.hid (by simp [szF]), Ext.refl _⟩
  case round =>
    obtain ⟨j, m, hj, rfl, rfl, HM, hE⟩ := hrel
    have htl := HT.out j
    by_cases hlt : j < xs.length
    · obtain ⟨b1, rfl, hb1, hc1⟩ := Nst.get1 goodII (o.ext goodII hE) (by rw [HML.out]; omega)
      obtain ⟨u1, F1, q1, p1, _⟩ := hc1 j [] (by rw [HML.out]; exact hlt)
      rw [mkFN_get xs k j [] hlt, ← HM.out] at p1
      have hrl := HL.out (xs.getD j []) (by rw [List.getD_eq_getElem?_getD, List.getElem?_eq_getElem hlt]; exact List.getElem_mem hlt)
      have hts := szF_take (sz := (szF szI)) xs j [] hlt
      have hle := HT.out (j + 1)
      rw [hts] at hle
      have hm0 := HM.out
      obtain ⟨x, hx⟩ : ∃ x, x = xs.getD j [] := ⟨_, rfl⟩
      rw [← hx] at p1 hrl hts hle
      have HTS := Lib.hid hts
      have hm1 : 0 ≤ m ∧ m + (szF szI) x ≤ 100000000 := by omega
      obtain ⟨hm1, hm2⟩ := hm1
      clear hc1 hts hx hle hm0 htl
      go_wp2_with fail
      refine (heldIntSS_P u1 x F1 m _ p1 hrl hm1 (by omega)).mono ?_
      rintro e w2 ⟨rfl, hE2⟩
      go_wp2
      go_roundw
      case rel => exact ⟨j + 1, m + (szF szI) x, by omega, by go_num, rfl, Lib.hid (by rw [HTS.out, HM.out]; omega), hE.trans hE2⟩
      case measure => simp [intOf]; omega
    · have hk2 : j = xs.length := by omega
      subst hk2
      have hm := HM.out
      rw [List.take_length] at hm
      subst hm
      go_wp2
      go_ret
      exact ⟨rfl, hE⟩
end Go.Proofs.Ytpomcoegpjehgaa

namespace Go.Proofs.Ytpomcoegpjehgaa
open Go.RowKit
set_option linter.unusedVariables false
set_option linter.unusedSimpArgs false
/-- A row that holds A, cs, B, the cells cs being open. -/
def RowHole (T : TypeId) (size n c g : Nat) (A B : List Value) (w : World) (cs : List Value) : Prop := w.ownsRow 0 T size (.slice (some ⟨g, 0, none⟩) n c) n (A ++ (cs ++ B))
section
variable {T : TypeId} {size n c g : Nat} {A B : List Value} {w w' : World} {cs : List Value}
theorem RowHole.set (h : RowHole T size n c g A B w cs) (i : Nat) (hi : i < cs.length) (u : Value) {p : Nat} (hp : p = A.length + i) : RowHole T size n c g A B (w.setCell ⟨g, p, none⟩ u) (cs.set i u) := by
  subst hp
  have := ownsRow_setAt h (A.length + i) (by simp; omega) u
  rw [List.set_append_right _ _ (by omega), Nat.add_sub_cancel_left, List.set_append_left _ _ hi] at this
  exact this
theorem RowHole.keep (h : RowHole T size n c g A B w cs) (hk : w'.heap[g]? = w.heap[g]?) : RowHole T size n c g A B w' cs := ownsRow_keep h (fun q hq => by cases hq; exact hk)
theorem RowHole.cell (h : RowHole T size n c g A B w cs) {i : Nat} {u : Value} (hu : cs[i]? = some u) : w.cell? ⟨g, A.length + i, none⟩ = some u := by
  refine ownsRow_cell h ?_
  have hi : i < cs.length := by
    rcases Nat.lt_or_ge i cs.length with h | h
    · exact h
    · rw [List.getElem?_eq_none h] at hu; cases hu
  rw [List.getElem?_append_right (by omega), Nat.add_sub_cancel_left, List.getElem?_append_left hi]
  exact hu
theorem RowHole.frozen (h : RowHole T size n c g A B w cs) (i : Nat) : w.frozen? ⟨g, i, none⟩ = false := ownsRow_frozen h i
theorem RowHole.lt (h : RowHole T size n c g A B w cs) : g < w.heap.size := (World.ownsRow.lt h g rfl).2
end
theorem splitN {cells cs : List Value} {p n : Nat} (hl : cs.length = n) (hle : p + n ≤ cells.length) (h : ∀ i, i < n → cells[p + i]? = cs[i]?) : cells = cells.take p ++ (cs ++ cells.drop (p + n)) := by
  refine List.ext_getElem? (fun i => ?_)
  by_cases h1 : i < p
  · rw [List.getElem?_append_left (by rw [List.length_take]; omega), List.getElem?_take_of_lt h1]
  · rw [List.getElem?_append_right (by rw [List.length_take]; omega), List.length_take, Nat.min_eq_left (by omega)]
    by_cases h2 : i < p + n
    · rw [List.getElem?_append_left (by omega), ← h (i - p) (by omega), show p + (i - p) = i by omega]
    · rw [List.getElem?_append_right (by omega), List.getElem?_drop, hl, show p + n + (i - p - n) = i by omega]
section
variable {α : Type} {P : OwnP α} {T : TypeId} {size : Nat} {w w' : World} {v : Value} {xs : List α} {F : List Nat}
theorem Nst.open (hP : GoodP P size) (h : Nst P T size w v xs F) (j : Nat) (d : α) (hj : j < xs.length) : ∃ g c cs Fj A B, v = .slice (some ⟨g, 0, none⟩) xs.length c ∧ A.length = j * size ∧ P w cs (xs.getD j d) Fj ∧ (∀ q ∈ Fj, q ∈ F) ∧ g ∈ F ∧ g ∉ Fj ∧ RowHole T size xs.length c g A B w cs ∧
    ∀ w' cs' x', RowHole T size xs.length c g A B w' cs' → P w' cs' x' Fj → (∀ q ∈ F, q ∉ Fj → q ≠ g → w'.heap[q]? = w.heap[q]?) → Nst P T size w' v (xs.set j x') F := by
  obtain ⟨cells, G, h1, h2, rfl, h4⟩ := h
  by_cases hz : size = 0
  · subst hz
    obtain ⟨a', c', rfl, hr, _⟩ := ownsRow_row h1
    obtain ⟨g, rfl, hb, hg⟩ := ownsRow_block h1 (by omega)
    obtain ⟨cs, Fj, q1, q2, q3, q4⟩ := h2.upd hP j d hj
    have hgf : g ∈ fp (Value.slice (some ⟨g, 0, none⟩) xs.length c') := mem_fp.2 rfl
    have hc0 : cells = [] := List.eq_nil_of_length_eq_zero (by rw [h2.len hP]; omega)
    have hcs : cs = [] := List.eq_nil_of_length_eq_zero (hP.len q1)
    subst hc0 hcs
    refine ⟨g, c', [], Fj, [], [], rfl, by simp, q1, fun q hq => List.mem_append_right _ (q3 q hq), List.mem_append_left _ hgf, fun e => h4 g hgf (q3 g e), h1, fun w' cs' x' hh hx hk => ?_⟩
    have := q4 w' cs' x' hx (fun q hq hn => hk q (List.mem_append_right _ hq) hn (fun e => h4 g hgf (by rw [← e]; exact hq)))
    have hcs' : cs' = [] := List.eq_nil_of_length_eq_zero (hP.len hx)
    subst hcs'
    exact ⟨[], G, by rw [List.length_set]; exact hh, by simpa using this, rfl, h4⟩
  · obtain ⟨a', c', rfl, hr, _⟩ := ownsRow_row h1
    obtain ⟨g, rfl, hb, hg⟩ := ownsRow_block h1 (by omega)
    obtain ⟨cs, Fj, q1, q2, q3, q4⟩ := h2.upd hP j d hj
    have hgf : g ∈ fp (Value.slice (some ⟨g, 0, none⟩) xs.length c') := mem_fp.2 rfl
    have hcl := h2.len hP
    have hle : j * size + size ≤ cells.length := by
      rw [hcl]
      have := Nat.mul_le_mul_right size (show j + 1 ≤ xs.length by omega)
      rw [Nat.add_mul, Nat.one_mul] at this
      exact this
    have hsp := splitN (hP.len q1) hle q2
    refine ⟨g, c', cs, Fj, cells.take (j * size), cells.drop (j * size + size), rfl, by rw [List.length_take]; omega, q1, fun q hq => List.mem_append_right _ (q3 q hq), List.mem_append_left _ hgf, fun e => h4 g hgf (q3 g e), ?_, fun w' cs' x' hh hx hk => ?_⟩
    · unfold RowHole
      rw [← hsp]; exact h1
    · have := q4 w' cs' x' hx (fun q hq hn => hk q (List.mem_append_right _ hq) hn (fun e => h4 g hgf (by rw [← e]; exact hq)))
      exact ⟨_, G, by rw [List.length_set]; exact hh, this, rfl, h4⟩
theorem Nst.getN (hP : GoodP P size) {a : Option Addr} {n c : Nat} (h : Nst P T size w (.slice a n c) xs F) (hn : 0 < xs.length) : ∃ g, a = some ⟨g, 0, none⟩ ∧ g < w.heap.size ∧ (∀ i, w.frozen? ⟨g, i, none⟩ = false) ∧ ∀ j d, j < xs.length → ∃ cs Fj, P w cs (xs.getD j d) Fj ∧ (∀ i u, i < size → cs[i]? = some u → w.cell? ⟨g, j * size + i, none⟩ = some u) ∧ ∀ q ∈ Fj, q ∈ F := by
  obtain ⟨cells, G, h1, h2, rfl, h4⟩ := h
  obtain ⟨a', c', e, hr, _⟩ := ownsRow_row h1
  cases e
  obtain ⟨g, rfl, hb, hg⟩ := ownsRow_block h1 hn
  refine ⟨g, rfl, hg, fun i => ownsRow_frozen h1 i, fun j d hj => ?_⟩
  obtain ⟨cs, Fj, q1, q2, q3⟩ := h2.get hP j d hj
  exact ⟨cs, Fj, q1, fun i u hi hu => ownsRow_cell h1 ((q2 i hi).trans hu), fun q hq => List.mem_append_right _ (q3 q hq)⟩
end
end Go.Proofs.Ytpomcoegpjehgaa

namespace Go.Proofs.Ytpomcoegpjehgaa
open Go.RowKit
set_option maxRecDepth 100000
set_option linter.unusedVariables false
set_option linter.unusedSimpArgs false
def SmLut (x : LutT) : Prop := SmI x.lv
def szLut (x : LutT) : Nat := x.lv.length + 2
def mkLut (k : Int) (x : LutT) : LutT := ⟨k, mkII (k + 1) x.lv, k + 1 + szI x.lv⟩
abbrev PLuts : OwnP (List LutT) := PNst PLut 50 3
theorem goodLuts : GoodP PLuts 1 := goodNst goodLut
set_option maxHeartbeats 1000000 in
theorem eqLut_c (n t : Int) (u v : Value) (x : List Int) (F F' : List Nat) (w : World) (h : PInts w [u] x F) (h' : PInts w [v] x F') (hs : SmI x) :
    Calls Try.prog 95 #[.agg #[.int .i64 n, u, .int .i64 t], .agg #[.int .i64 n, v, .int .i64 t]] w fun e w' => e = .returned (.bool true) ∧ Ext w w' := by
  obtain ⟨u', e, o, hF⟩ := id h
  cases e
  obtain ⟨v', e, o', hF'⟩ := id h'
  cases e
  obtain ⟨ua, uc, rfl, _, _⟩ := own_sl o
  obtain ⟨va, vc, rfl, _, _⟩ := own_sl o'
  clear hF hF' o o'
  have Ey : Ext w ((w.alloc (.cells #[.int .i64 n, .slice ua x.length uc, .int .i64 t] 50)).alloc (.cells #[.int .i64 n, .slice va x.length vc, .int .i64 t] 50)) := ((Ext.refl w).alloc _).alloc _
  have y := (Blk.at w [.int .i64 n, .slice ua x.length uc, .int .i64 t] 50 rfl).alloc (.cells #[.int .i64 n, .slice va x.length vc, .int .i64 t] 50)
  have z := Blk.at (w.alloc (.cells #[.int .i64 n, .slice ua x.length uc, .int .i64 t] 50)) [.int .i64 n, .slice va x.length vc, .int .i64 t] 50 (B := w.heap.size + 1) (by simp)
  go_enter Try.func95, Try.ntmps95
  go_wp2_with fail
  refine (eqIntS_P _ _ x F F' _ (goodInts.ext h Ey) (goodInts.ext h' Ey) hs).mono ?_
  rintro e w1 ⟨rfl, hE1⟩
  have E1 := Ey.trans hE1
  have y1 := y.ext hE1
  have z1 := z.ext hE1
  have c2 := y1.cell (i := 2) rfl
  have cl := y1.lt
  have d2 := z1.cell (i := 2) rfl
  have dl := z1.lt
  go_wp2_with fail
  go_ret
  exact ⟨rfl, E1⟩
set_option maxHeartbeats 1000000 in
theorem eqLutS_P (u u' : Value) (xs : List LutT) (F F' : List Nat) (w : World) (h : PLuts w [u] xs F) (h' : PLuts w [u'] xs F') (hs : SmL SmLut xs) : Calls Try.prog 53 #[u, u'] w fun e w' => e = .returned (.bool true) ∧ Ext w w' := by
  obtain ⟨v, e, o⟩ := h
  obtain ⟨v', e', o'⟩ := h'
  cases e; cases e'
  have HL := Lib.hid hs.2
  have hl := hs.1
  obtain ⟨a, c, rfl, _⟩ := o.sl
  obtain ⟨a', c', rfl, _⟩ := o'.sl
  clear hs
  go_enter Try.func53, Try.ntmps53
  go_wp2_with fail
  go_loopw [5] (fun i wr => ∃ k : Nat, k ≤ xs.length ∧ i = .int .i64 k ∧ Ext w wr) (fun i _ => xs.length - (intOf i).toNat)
  case atStart => exact ⟨0, Nat.zero_le _, rfl, Ext.refl w⟩
  case round =>
    obtain ⟨k, hk, rfl, hE⟩ := hrel
    by_cases hlt : k < xs.length
    · obtain ⟨b1, rfl, hb1, _, hc1⟩ := Nst.getN goodLut (o.ext goodLut hE) (by omega)
      obtain ⟨b2, rfl, hb2, _, hc2⟩ := Nst.getN goodLut (o'.ext goodLut hE) (by omega)
      obtain ⟨cs1, F1, p1, q1, _⟩ := hc1 k lut0 hlt
      obtain ⟨cs2, F2, p2, q2, _⟩ := hc2 k lut0 hlt
      have hrl := HL.out (xs.getD k lut0) (by rw [List.getD_eq_getElem?_getD, List.getElem?_eq_getElem hlt]; exact List.getElem_mem hlt)
      obtain ⟨x, hx⟩ : ∃ x, x = xs.getD k lut0 := ⟨_, rfl⟩
      rw [← hx] at p1 p2 hrl
      obtain ⟨u1, rfl, o1, rfl⟩ := p1
      obtain ⟨u2, rfl, o2, rfl⟩ := p2
      obtain ⟨ua, uc, rfl, _, _⟩ := own_sl o1
      obtain ⟨va, vc, rfl, _, _⟩ := own_sl o2
      have r10 := q1 0 _ (by omega) rfl
      have r11 := q1 1 _ (by omega) rfl
      have r12 := q1 2 _ (by omega) rfl
      have r20 := q2 0 _ (by omega) rfl
      have r21 := q2 1 _ (by omega) rfl
      have r22 := q2 2 _ (by omega) rfl
      have P1 : PInts wr [_] x.lv _ := ⟨_, rfl, o1, rfl⟩
      have P2 : PInts wr [_] x.lv _ := ⟨_, rfl, o2, rfl⟩
      rw [Nat.add_zero] at r10 r20
      obtain ⟨n, lv, t⟩ := x
      dsimp only at P1 P2 r10 r11 r12 r20 r21 r22 o1 o2
      change SmI lv at hrl
      obtain ⟨w1, rfl⟩ : ∃ x : World, x = wr := ⟨_, rfl⟩
      clear hc1 hc2 hx q1 q2 o1 o2
      go_wp2_with fail
      go_region_held3 ((fun w' => (∀ b o, b < w1.heap.size → w'.cell? ⟨b, o, none⟩ = w1.cell? ⟨b, o, none⟩) ∧ Ext w1 w')) ((first | assumption | (with_reducible exact held_mk (Ext.drew w1)) | (with_reducible exact held_mk (((Ext.refl w1).alloc _).drew')) | (with_reducible exact held_mk ((Ext.drew w1).alloc _)))) ((go_simp; go_at_call 95; refine (eqLut_c n t _ _ lv _ _ _ (goodInts.ext P1 (Ext.drew w1)) (goodInts.ext P2 (Ext.drew w1)) hrl).mono ?_; rintro e w2 ⟨rfl, hE2⟩; have hK1 := held_mk ((Ext.drew w1).trans hE2)))
      have hE3 := held_ext hK1
      go_wp2
      go_roundw
      case rel => exact ⟨k + 1, by omega, by go_num, hE.trans hE3⟩
      case measure => simp [intOf]; omega
    · go_wp2
      go_ret
      exact ⟨rfl, hE⟩
set_option maxHeartbeats 2000000 in
theorem markLutS_P (u : Value) (xs : List LutT) (F : List Nat) (k : Int) (w : World) (h : PLuts w [u] xs F) (hs : SmL SmLut xs) (h0 : 0 ≤ k) (h1 : k + szF szLut xs ≤ 100000000) : Calls Try.prog 54 #[u, .int .i64 k] w fun e w' => e = .returned (.int .i64 (k + szF szLut xs)) ∧ PLuts w' [u] (mkFN mkLut szLut k xs) F ∧ ChgN F w w' := by
  obtain ⟨v, e, o⟩ := h
  cases e
  have HL := Lib.hid hs.2
  have hl := hs.1
  have HT := Lib.hid (szF_take_le (sz := szLut) xs)
  obtain ⟨a, c, rfl, _⟩ := o.sl
  clear hs
  go_enter Try.func54, Try.ntmps54
  go_wp2_with fail
  go_loopw [1, 5] (fun u1 u5 wr => ∃ (j : Nat) (m : Int), j ≤ xs.length ∧ u5 = .int .i64 j ∧ u1 = .int .i64 m ∧ Hid (m = k + szF szLut (xs.take j)) ∧ Hid (Nst PLut 50 3 wr (.slice a xs.length c) (midF mkLut szLut k xs j) F) ∧ ChgN F w wr) (fun _ i _ => xs.length - (intOf i).toNat)
  case atStart => exact ⟨0, k, Nat.zero_le _, rfl, rfl, Lib.hid (by simp [szF]), Lib.hid (by rw [midF_zero]; exact o), ChgN.refl _⟩
  case round =>
    clear o
    obtain ⟨j, m, hj, rfl, rfl, HM, HO, hC⟩ := hrel
    have htl := HT.out j
    have hml := midF_length (mk := mkLut) (sz := szLut) k xs j hj
    by_cases hlt : j < xs.length
    · obtain ⟨g, c2, cs, Fj, A, B, ev, hA, p1, hF, hgI, hgF, hH, hup⟩ := HO.out.open goodLut j lut0 (by omega)
      rw [midF_at k xs j lut0 hlt] at p1
      have hrl := HL.out (xs.getD j lut0) (by rw [List.getD_eq_getElem?_getD, List.getElem?_eq_getElem hlt]; exact List.getElem_mem hlt)
      have hs := midF_set (mk := mkLut) (sz := szLut) k xs j lut0 hlt
      have hts := szF_take (sz := szLut) xs j lut0 hlt
      rw [← HM.out] at hs
      have hle := HT.out (j + 1)
      rw [hts] at hle
      have hm0 := HM.out
      obtain ⟨x, hx⟩ : ∃ x, x = xs.getD j lut0 := ⟨_, rfl⟩
      rw [← hx] at p1 hrl hs hts hle
      rw [hml] at ev hH hup
      cases ev
      have HS := Lib.hid hs
      have HTS := Lib.hid hts
      have HUP := Lib.hid hup
      obtain ⟨u1, rfl, o1, rfl⟩ := p1
      obtain ⟨ua, uc, rfl, _, _⟩ := own_sl o1
      change SmI x.lv at hrl
      have hszx : (szLut x : Int) = (szI x.lv : Int) + 2 := by unfold szLut szI; omega
      have hm1 : 0 ≤ m ∧ m + szI x.lv + 2 ≤ 100000000 := by omega
      obtain ⟨hm1, hm2⟩ := hm1
      have r0 := hH.cell (i := 0) rfl
      have rf := fun i => hH.frozen i
      rw [hA, Nat.add_zero] at r0
      have hgl := hH.lt
      have lF := fun q hq => (HO.out.lt goodLut q hq)
      obtain ⟨w1, rfl⟩ : ∃ x : World, x = wr := ⟨_, rfl⟩
      have H1 := hH.set 0 (by simp) (.int .i64 m) (p := j * 3) (by omega)
      have c1 : ChgN [g] w1 (w1.setCell ⟨g, j * 3, none⟩ (.int .i64 m)) := (ChgN.refl w1).setCell (by simp) _
      have P1 : PInts (w1.setCell ⟨g, j * 3, none⟩ (.int .i64 m)) [.slice ua x.lv.length uc] x.lv (fp (.slice ua x.lv.length uc)) := goodInts.chg ⟨_, rfl, o1, rfl⟩ c1 (fun q hq hq2 => by simp at hq2; subst hq2; exact hgF hq)
      have s1 := H1.cell (i := 1) rfl
      have s1f := fun i => H1.frozen i
      rw [hA] at s1
      have hgl1 := H1.lt
      clear hs hts hup hx hle hm0 htl hml o1
      go_wp2_with fail
      refine (markIntS_P _ x.lv _ (m + 1) _ P1 hrl (by omega) (by omega)).mono ?_
      rintro e w2 ⟨rfl, P2, c2'⟩
      have hg2 := c2'.block g hgl1 hgF
      have H2 := H1.keep hg2
      have r2 := H2.cell (i := 2) rfl
      have r2f := fun i => H2.frozen i
      rw [hA] at r2
      have hgl2 := H2.lt
      have H3 := H2.set 2 (by simp) (.int .i64 (m + 1 + szI x.lv)) (p := j * 3 + 2) (by omega)
      have c3 : ChgN [g] w2 (w2.setCell ⟨g, j * 3 + 2, none⟩ (.int .i64 (m + 1 + szI x.lv))) := (ChgN.refl w2).setCell (by simp) _
      have P3 := goodInts.chg P2 c3 (fun q hq hq2 => by simp at hq2; subst hq2; exact hgF hq)
      have hnum : m + 1 + (szI x.lv : Int) ≤ 9223372036854775807 := by omega
      have hnum2 : m + 1 + (szI x.lv : Int) + 1 ≤ 9223372036854775807 := by omega
      have hall : ChgN F w1 (w2.setCell ⟨g, j * 3 + 2, none⟩ (.int .i64 (m + 1 + szI x.lv))) := ((c1.wider (fun q hq => by simp at hq; subst hq; exact hgI)).trans (c2'.wider hF)).trans (c3.wider (fun q hq => by simp at hq; subst hq; exact hgI))
      have hN := HUP.out _ _ (mkLut m x) H3 (by
        obtain ⟨q, eq, oq, hq⟩ := P3
        cases eq
        exact ⟨_, rfl, oq, rfl⟩) (fun q hq hnq hqg => by
        have l0 := lF q hq
        have e1 := c1.block q l0 (by simp; exact hqg)
        have e2 := c2'.block q (by have := c1.size; omega) hnq
        have e3 := c3.block q (by have := c1.size; have := c2'.size; omega) (by simp; exact hqg)
        exact e3.trans (e2.trans e1))
      have HN := Lib.hid hN
      clear hN H3 P3 c3 H1 P1 c1 HUP
      go_wp2_with fail
      go_roundw
      case rel => exact ⟨j + 1, m + szLut x, by omega, by go_num, by rw [hszx]; congr 1; omega, Lib.hid (by rw [HTS.out, HM.out]; omega), Lib.hid (by rw [← HS.out]; exact HN.out), hC.trans hall⟩
      case measure => simp [intOf]; omega
    · have hk2 : j = xs.length := by omega
      subst hk2
      have HO2 := HO.out
      rw [midF_all] at HO2
      have hm := HM.out
      rw [List.take_length] at hm
      subst hm
      go_wp2
      go_ret
      exact ⟨rfl, ⟨_, rfl, HO2⟩, hC⟩
set_option maxHeartbeats 2000000 in
theorem heldLutS_P (u : Value) (xs : List LutT) (F : List Nat) (k : Int) (w : World) (h : PLuts w [u] (mkFN mkLut szLut k xs) F) (hs : SmL SmLut xs) (h0 : 0 ≤ k) (h1 : k + szF szLut xs ≤ 100000000) : Calls Try.prog 55 #[u, .int .i64 k] w fun e w' => e = .returned (.int .i64 (k + szF szLut xs)) ∧ Ext w w' := by
  obtain ⟨v, e, o⟩ := h
  cases e
  have HL := Lib.hid hs.2
  have hl := hs.1
  have HT := Lib.hid (szF_take_le (sz := szLut) xs)
  have HML := Lib.hid (mkFN_length (mk := mkLut) (sz := szLut) xs k)
  obtain ⟨a, c, rfl, _⟩ := o.sl
  rw [HML.out]
  rw [HML.out] at o
  clear hs
  go_enter Try.func55, Try.ntmps55
  go_wp2_with fail
  go_loopw [1, 5] (fun u1 u5 wr => ∃ (j : Nat) (m : Int), j ≤ xs.length ∧ u5 = .int .i64 j ∧ u1 = .int .i64 m ∧ Hid (m = k + szF szLut (xs.take j)) ∧ Ext w wr) (fun _ i _ => xs.length - (intOf i).toNat)
  case atStart => exact ⟨0, k, Nat.zero_le _, rfl, rfl, Lib.hid (by simp [szF]), Ext.refl _⟩
  case round =>
    obtain ⟨j, m, hj, rfl, rfl, HM, hE⟩ := hrel
    have htl := HT.out j
    by_cases hlt : j < xs.length
    · obtain ⟨b1, rfl, hb1, _, hc1⟩ := Nst.getN goodLut (o.ext goodLut hE) (by rw [HML.out]; omega)
      obtain ⟨cs1, F1, p1, q1, _⟩ := hc1 j lut0 (by rw [HML.out]; exact hlt)
      rw [mkFN_get xs k j lut0 hlt, ← HM.out] at p1
      have hrl := HL.out (xs.getD j lut0) (by rw [List.getD_eq_getElem?_getD, List.getElem?_eq_getElem hlt]; exact List.getElem_mem hlt)
      have hts := szF_take (sz := szLut) xs j lut0 hlt
      have hle := HT.out (j + 1)
      rw [hts] at hle
      have hm0 := HM.out
      obtain ⟨x, hx⟩ : ∃ x, x = xs.getD j lut0 := ⟨_, rfl⟩
      rw [← hx] at p1 hrl hts hle
      have HTS := Lib.hid hts
      obtain ⟨u1, rfl, o1, rfl⟩ := p1
      obtain ⟨ua, uc, rfl, _, _⟩ := own_sl o1
      have r0 := q1 0 _ (by omega) rfl
      have r1 := q1 1 _ (by omega) rfl
      have r2 := q1 2 _ (by omega) rfl
      rw [Nat.add_zero] at r0
      change SmI x.lv at hrl
      have P1 : PInts wr [_] (mkII (m + 1) x.lv) _ := ⟨_, rfl, o1, rfl⟩
      obtain ⟨w1, rfl⟩ : ∃ x : World, x = wr := ⟨_, rfl⟩
      have hszx : (szLut x : Int) = (szI x.lv : Int) + 2 := by unfold szLut szI; omega
      have hm1 : 0 ≤ m ∧ m + szI x.lv + 2 ≤ 100000000 := by omega
      obtain ⟨hm1, hm2⟩ := hm1
      unfold mkLut at r0 r1 r2
      dsimp only at r0 r1 r2 P1
      have hmk : (mkLut m x).lv = mkII (m + 1) x.lv := rfl
      rw [hmk] at P1
      obtain ⟨M, hM⟩ : ∃ M, M = (mkII (m + 1) x.lv).length := ⟨_, rfl⟩
      try rw [hmk] at r1
      rw [← hM] at r1 P1
      clear hc1 hts hx hle hm0 htl q1 o1 hM
      go_wp2_with fail
      refine (heldIntS_P _ x.lv _ (m + 1) _ P1 hrl (by omega) (by omega)).mono ?_
      rintro e w2 ⟨rfl, hE2⟩
      have r2' := ((ecell hE2).1 b1 (j * 3 + 2) hb1).trans r2
      have hb2 : b1 < w2.heap.size := Nat.lt_of_lt_of_le hb1 hE2.size
      have hnum : m + 1 + (szI x.lv : Int) ≤ 9223372036854775807 := by omega
      have hnum2 : 0 ≤ m + 1 + (szI x.lv : Int) := by omega
      go_wp2_with fail
      go_roundw
      case rel => exact ⟨j + 1, m + szLut x, by omega, by go_num, by rw [hszx]; congr 1; omega, Lib.hid (by rw [HTS.out, HM.out]; omega), hE.trans hE2⟩
      case measure => simp [intOf]; omega
    · have hk2 : j = xs.length := by omega
      subst hk2
      have hm := HM.out
      rw [List.take_length] at hm
      subst hm
      go_wp2
      go_ret
      exact ⟨rfl, hE⟩
end Go.Proofs.Ytpomcoegpjehgaa

namespace Go.Proofs.Ytpomcoegpjehgaa
open Go.RowKit
set_option maxRecDepth 100000
set_option linter.unusedVariables false
set_option linter.unusedSimpArgs false
def SmallLuts (x : List LutT) : Prop := (SmL SmLut) x ∧ (szF szLut) x ≤ 1048576
def RepLuts (w : World) (b N : Nat) (v : Value) (x : List LutT) : Prop := ∃ F, PLuts w [v] x F ∧ (∀ g ∈ F, b ≤ g ∧ g < N) ∧ SmallLuts x
def MkLuts (w : World) (v : Value) (km : Int) : Prop := ∃ (x : List LutT) (F : List Nat), km = 1 + (szF szLut) x ∧ PLuts w [v] ((mkFN mkLut szLut) 1 x) F ∧ SmallLuts x
section
variable {w w' : World} {b b2 N : Nat} {v v' : Value} {x : List LutT}
theorem RepLuts.ext (h : RepLuts w b N v x) (e : Ext w w') : RepLuts w' b N v x := by
  obtain ⟨F, h1, h2, h3⟩ := h
  exact ⟨F, GoodP.ext goodLuts h1 e, h2, h3⟩
theorem RepLuts.le (h : RepLuts w b N v x) (hb : b2 ≤ b) : RepLuts w b2 N v x := by
  obtain ⟨F, h1, h2, h3⟩ := h
  exact ⟨F, h1, fun g hg => by have := h2 g hg; omega, h3⟩
theorem RepLuts.hi {n m : Nat} (h : RepLuts w b N v x) (g : Mid n m w w') (hb : m ≤ b) : RepLuts w' b N v x := by
  obtain ⟨F, h1, h2, h3⟩ := h
  exact ⟨F, GoodP.mid goodLuts h1 g (fun q hq => by have := h2 q hq; omega), h2, h3⟩
theorem GiveLuts.rep {e : Ending} (h : GiveN PLut 50 3 w x e w') (hs : SmallLuts x := by assumption) : ∃ v, e = .returned v ∧ RepLuts w' w.heap.size w'.heap.size v x ∧ Ext w w' := by
  obtain ⟨v, F, h1, h2, h3, h4⟩ := h
  have hp : PLuts w' [v] x F := ⟨v, rfl, h2⟩
  exact ⟨v, h1, ⟨F, hp, fun g hg => ⟨h3 g hg, GoodP.lt goodLuts hp g hg⟩, hs⟩, h4⟩
theorem eqLuts_R {b3 N3 : Nat} (h : RepLuts w b N v x) (h' : RepLuts w b3 N3 v' x) : Calls Try.prog 53 #[v, v'] w fun e w' => e = .returned (.bool true) ∧ Ext w w' := by
  obtain ⟨F, h1, h2, h3⟩ := h
  obtain ⟨F', h1', _⟩ := h'
  exact eqLutS_P v v' x F F' w h1 h1' h3.1
theorem MkLuts.ext {k : Int} (h : MkLuts w v k) (e : Ext w w') : MkLuts w' v k := by
  obtain ⟨x, F, h1, h2, h3⟩ := h
  exact ⟨x, F, h1, GoodP.ext goodLuts h2 e, h3⟩
theorem MkLuts.kb {k : Int} (h : MkLuts w v k) : 0 ≤ k ∧ k ≤ 100000000 := by
  obtain ⟨x, F, rfl, h2, h3⟩ := h
  have := h3.2
  omega
theorem markLuts_R (h : RepLuts w b N v x) : Calls Try.prog 54 #[v, .int .i64 1] w fun e w' => ∃ km, e = .returned (.int .i64 km) ∧ MkLuts w' v km ∧ Mid b N w w' := by
  obtain ⟨F, h1, h2, h3⟩ := h
  refine (markLutS_P v x F 1 w h1 h3.1 (by omega) (by have := h3.2; omega)).mono ?_
  rintro e w' ⟨rfl, o, m⟩
  exact ⟨_, rfl, ⟨x, F, rfl, o, h3⟩, m.mid h2⟩
theorem heldLuts_R {km : Int} (h : MkLuts w v km) : Calls Try.prog 55 #[v, .int .i64 1] w fun e w' => e = .returned (.int .i64 km) ∧ Ext w w' := by
  obtain ⟨x, F, rfl, h2, h3⟩ := h
  exact heldLutS_P v x F 1 w h2 h3.1 (by omega) (by have := h3.2; omega)
end
end Go.Proofs.Ytpomcoegpjehgaa

