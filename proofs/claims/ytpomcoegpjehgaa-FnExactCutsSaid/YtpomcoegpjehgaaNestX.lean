/- How the exact laws compare and mark rows whose elements own blocks. -/
import Derived.Test.YtpomcoegpjehgaaCutT
import Derived.Test.YtpomcoegpjehgaaMarkI
import Derived.Test.YtpomcoegpjehgaaRegion
namespace Go.Proofs.Ytpomcoegpjehgaa
open Go.RowKit
set_option maxRecDepth 100000
set_option linter.unusedVariables false
set_option linter.unusedSimpArgs false
/-! ### Sizes and marks, of no program -/
def SmI (x : List Int) : Prop := x.length ≤ 1000
def SmL {α : Type} (S : α → Prop) (xs : List α) : Prop := xs.length ≤ 1000 ∧ ∀ x ∈ xs, S x
def szI (x : List Int) : Nat := x.length
def mkII (k : Int) (x : List Int) : List Int := mksI k x.length
def szF {α : Type} (sz : α → Nat) : List α → Nat
  | [] => 0
  | x :: xs => sz x + szF sz xs
def mkFN {α : Type} (mk : Int → α → α) (sz : α → Nat) : Int → List α → List α
  | _, [] => []
  | k, x :: xs => mk k x :: mkFN mk sz (k + sz x) xs
section
variable {α : Type} {mk : Int → α → α} {sz : α → Nat}
theorem szF_append (xs ys : List α) : szF sz (xs ++ ys) = szF sz xs + szF sz ys := by
  induction xs with
  | nil => simp [szF]
  | cons x xs ih => rw [List.cons_append, szF, szF, ih]; omega
theorem take_snocN (xs : List α) (k : Nat) (d : α) (h : k < xs.length) : xs.take (k + 1) = xs.take k ++ [xs.getD k d] := by
  rw [List.take_add_one, List.getD_eq_getElem?_getD, List.getElem?_eq_getElem h]; rfl
theorem szF_take (xs : List α) (k : Nat) (d : α) (h : k < xs.length) : szF sz (xs.take (k + 1)) = szF sz (xs.take k) + sz (xs.getD k d) := by
  rw [take_snocN xs k d h, szF_append]; simp [szF]
theorem szF_take_le (xs : List α) (k : Nat) : szF sz (xs.take k) ≤ szF sz xs := by
  have := szF_append (sz := sz) (xs.take k) (xs.drop k)
  rw [List.take_append_drop] at this; omega
theorem mkFN_length : ∀ (xs : List α) (k : Int), (mkFN mk sz k xs).length = xs.length
  | [], _ => rfl
  | x :: xs, k => by simp [mkFN, mkFN_length xs]
theorem mkFN_append : ∀ (xs ys : List α) (k : Int), mkFN mk sz k (xs ++ ys) = mkFN mk sz k xs ++ mkFN mk sz (k + szF sz xs) ys
  | [], ys, k => by simp [mkFN, szF]
  | x :: xs, ys, k => by
    rw [List.cons_append, mkFN, mkFN_append xs, mkFN, szF, List.cons_append]
    have : k + (sz x : Int) + (szF sz xs : Int) = k + ((sz x + szF sz xs : Nat) : Int) := by omega
    rw [this]
theorem mkFN_get (xs : List α) (k : Int) (j : Nat) (d : α) (h : j < xs.length) : (mkFN mk sz k xs).getD j d = mk (k + szF sz (xs.take j)) (xs.getD j d) := by
  have e : xs = xs.take j ++ (xs.getD j d :: xs.drop (j + 1)) := by
    rw [List.getD_eq_getElem?_getD, List.getElem?_eq_getElem h]
    simp
  have hl : (mkFN mk sz k (xs.take j)).length = j := by rw [mkFN_length, List.length_take]; omega
  have e2 : mkFN mk sz k xs = mkFN mk sz k (xs.take j) ++ mkFN mk sz (k + szF sz (xs.take j)) (xs.getD j d :: xs.drop (j + 1)) := by rw [← mkFN_append, ← e]
  rw [e2, List.getD_eq_getElem?_getD, List.getElem?_append_right (by omega), hl, Nat.sub_self]
  rfl
/-- What the row holds when k elements are marked. -/
def midF (mk : Int → α → α) (sz : α → Nat) (k0 : Int) (xs : List α) (j : Nat) : List α := mkFN mk sz k0 (xs.take j) ++ xs.drop j
theorem midF_length (k0 : Int) (xs : List α) (j : Nat) (hj : j ≤ xs.length) : (midF mk sz k0 xs j).length = xs.length := by
  unfold midF; rw [List.length_append, mkFN_length, List.length_take, List.length_drop]; omega
theorem drop_getN (xs : List α) (k : Nat) (d : α) (h : k < xs.length) : xs.drop k = xs.getD k d :: xs.drop (k + 1) := by
  rw [List.drop_eq_getElem_cons h, List.getD_eq_getElem?_getD, List.getElem?_eq_getElem h]; rfl
theorem midF_at (k0 : Int) (xs : List α) (j : Nat) (d : α) (hj : j < xs.length) : (midF mk sz k0 xs j).getD j d = xs.getD j d := by
  unfold midF
  have hl : (mkFN mk sz k0 (xs.take j)).length = j := by rw [mkFN_length, List.length_take]; omega
  rw [List.getD_eq_getElem?_getD, List.getElem?_append_right (by omega), hl, Nat.sub_self, List.getElem?_drop, Nat.add_zero, ← List.getD_eq_getElem?_getD]
theorem midF_set (k0 : Int) (xs : List α) (j : Nat) (d : α) (hj : j < xs.length) : (midF mk sz k0 xs j).set j (mk (k0 + szF sz (xs.take j)) (xs.getD j d)) = midF mk sz k0 xs (j + 1) := by
  unfold midF
  have hl : (mkFN mk sz k0 (xs.take j)).length = j := by rw [mkFN_length, List.length_take]; omega
  rw [List.set_append_right _ _ (by omega), hl, Nat.sub_self, drop_getN xs j d hj, List.set_cons_zero, take_snocN xs j d hj, mkFN_append]
  simp [mkFN]
theorem midF_zero (k0 : Int) (xs : List α) : midF mk sz k0 xs 0 = xs := by simp [midF, mkFN]
theorem midF_all (k0 : Int) (xs : List α) : midF mk sz k0 xs xs.length = mkFN mk sz k0 xs := by simp [midF]
end
section
variable {α : Type} {P : OwnP α} {T : TypeId} {w w' : World} {v : Value} {xs : List α} {F : List Nat}
/-- An element of one cell: its cell, and what another in its place makes of the row. -/
theorem Nst.upd1 (hP : GoodP P 1) (h : Nst P T 1 w v xs F) (j : Nat) (d : α) (hj : j < xs.length) : ∃ g c u Fj, v = .slice (some ⟨g, 0, none⟩) xs.length c ∧ g < w.heap.size ∧ w.cell? ⟨g, j, none⟩ = some u ∧ P w [u] (xs.getD j d) Fj ∧ (∀ q ∈ Fj, q ∈ F) ∧ g ∉ Fj ∧
    ∀ w' x', P w' [u] x' Fj → ChgN Fj w w' → Nst P T 1 w' v (xs.set j x') F := by
  obtain ⟨cells, G, h1, h2, rfl, h4⟩ := h
  obtain ⟨a', c', rfl, hr, _⟩ := ownsRow_row h1
  obtain ⟨g, rfl, hb, hg⟩ := ownsRow_block h1 (by omega)
  obtain ⟨cs, Fj, q1, q2, q3, q4⟩ := h2.upd hP j d hj
  obtain ⟨u, rfl⟩ : ∃ u, cs = [u] := by
    have := hP.len q1
    match cs, this with
    | [u], _ => exact ⟨u, rfl⟩
  have hcu : cells[j]? = some u := by have := q2 0 (by omega); simpa using this
  have hgf : g ∈ fp (Value.slice (some ⟨g, 0, none⟩) xs.length c') := mem_fp.2 rfl
  refine ⟨g, c', u, Fj, rfl, hg, ownsRow_cell h1 hcu, q1, fun q hq => List.mem_append_right _ (q3 q hq), fun e => h4 g hgf (q3 g e), fun w' x' hx hc => ?_⟩
  have := q4 w' [u] x' hx (fun g2 hg2 hn => hc.block g2 (h2.lt hP g2 hg2) hn)
  have e : cells.take (j * 1) ++ ([u] ++ cells.drop (j * 1 + 1)) = cells := by
    rw [Nat.mul_one]
    have hjl : j < cells.length := by
      rcases Nat.lt_or_ge j cells.length with h | h
      · exact h
      · rw [List.getElem?_eq_none h] at hcu; cases hcu
    have : cells[j] = u := by rw [List.getElem?_eq_getElem hjl] at hcu; exact Option.some.inj hcu
    rw [← this]
    simp
  rw [e] at this
  refine ⟨cells, G, ?_, this, rfl, h4⟩
  rw [List.length_set]
  refine ownsRow_keep h1 (fun x hx => ?_)
  cases hx
  exact hc.block g hg (fun e => h4 g hgf (q3 g e))
theorem Nst.get1 (hP : GoodP P 1) {a : Option Addr} {n c : Nat} (h : Nst P T 1 w (.slice a n c) xs F) (hn : 0 < xs.length) : ∃ g, a = some ⟨g, 0, none⟩ ∧ g < w.heap.size ∧ ∀ j d, j < xs.length → ∃ u Fj, w.cell? ⟨g, j, none⟩ = some u ∧ P w [u] (xs.getD j d) Fj ∧ ∀ q ∈ Fj, q ∈ F := by
  obtain ⟨cells, G, h1, h2, rfl, h4⟩ := h
  obtain ⟨a', c', e, hr, _⟩ := ownsRow_row h1
  cases e
  obtain ⟨g, rfl, hb, hg⟩ := ownsRow_block h1 hn
  refine ⟨g, rfl, hg, fun j d hj => ?_⟩
  obtain ⟨cs, Fj, q1, q2, q3⟩ := h2.get hP j d hj
  obtain ⟨u, rfl⟩ : ∃ u, cs = [u] := by
    have := hP.len q1
    match cs, this with
    | [u], _ => exact ⟨u, rfl⟩
  have hcu : cells[j]? = some u := by have := q2 0 (by omega); simpa using this
  exact ⟨u, Fj, ownsRow_cell h1 hcu, q1, fun q hq => List.mem_append_right _ (q3 q hq)⟩
end
/-! ### Slices of numbers -/
theorem eqIntS_P (u u' : Value) (x : List Int) (F F' : List Nat) (w : World) (h : PInts w [u] x F) (h' : PInts w [u'] x F') (hs : SmI x) : Calls Try.prog 48 #[u, u'] w fun e w' => e = .returned (.bool true) ∧ Ext w w' := by
  obtain ⟨v, e, o, rfl⟩ := h
  obtain ⟨v', e', o', rfl⟩ := h'
  cases e; cases e'
  obtain ⟨a, c, rfl, h1, _⟩ := o.opened
  obtain ⟨a', c', rfl, h1', _⟩ := o'.opened
  exact eqIntS_c a a' c c' x w h1 h1' (by unfold SmI at hs; omega)
theorem markIntS_P (u : Value) (x : List Int) (F : List Nat) (k : Int) (w : World) (h : PInts w [u] x F) (hs : SmI x) (h0 : 0 ≤ k) (h1 : k ≤ 100000000) : Calls Try.prog 56 #[u, .int .i64 k] w fun e w' => e = .returned (.int .i64 (k + szI x)) ∧ PInts w' [u] (mkII k x) F ∧ ChgN F w w' := by
  obtain ⟨v, e, o, rfl⟩ := h
  cases e
  obtain ⟨a, c, rfl, _⟩ := o.opened
  refine (markIntS_o 0 a c x k w o h0 (by omega) (by unfold SmI at hs; omega)).mono ?_
  rintro e w' ⟨rfl, o2, g2⟩
  refine ⟨rfl, ⟨_, rfl, ?_, rfl⟩, ChgN.ofGr g2⟩
  unfold OwnInts mkII
  rw [mksI_length]; exact o2
theorem heldIntS_P (u : Value) (x : List Int) (F : List Nat) (k : Int) (w : World) (h : PInts w [u] (mkII k x) F) (hs : SmI x) (h0 : 0 ≤ k) (h1 : k ≤ 100000000) : Calls Try.prog 57 #[u, .int .i64 k] w fun e w' => e = .returned (.int .i64 (k + szI x)) ∧ Ext w w' := by
  obtain ⟨v, e, o, rfl⟩ := h
  cases e
  obtain ⟨a, c, rfl, h2, _⟩ := o.opened
  unfold mkII at h2 ⊢
  rw [mksI_length]
  refine (heldIntS_c a c x.length k w h2 h0 (by omega) (by unfold SmI at hs; omega)).mono ?_
  rintro e w' ⟨rfl, rfl⟩
  exact ⟨rfl, Ext.refl _⟩
set_option maxHeartbeats 1000000 in
theorem eqIntSS_P (u u' : Value) (xs : List (List Int)) (F F' : List Nat) (w : World) (h : PNst PInts 23 1 w [u] xs F) (h' : PNst PInts 23 1 w [u'] xs F') (hs : SmL SmI xs) : Calls Try.prog 77 #[u, u'] w fun e w' => e = .returned (.bool true) ∧ Ext w w' := by
  obtain ⟨v, e, o⟩ := h
  obtain ⟨v', e', o'⟩ := h'
  cases e; cases e'
  have HL := Lib.hid hs.2
  have hl := hs.1
  obtain ⟨a, c, rfl, _⟩ := o.sl
  obtain ⟨a', c', rfl, _⟩ := o'.sl
  clear hs
  go_enter Try.func77, Try.ntmps77
  go_wp2_with fail
  go_loopw [5] (fun i wr => ∃ k : Nat, k ≤ xs.length ∧ i = .int .i64 k ∧ Ext w wr) (fun i _ => xs.length - (intOf i).toNat)
  case atStart => exact ⟨0, Nat.zero_le _, rfl, Ext.refl w⟩
  case round =>
    obtain ⟨k, hk, rfl, hE⟩ := hrel
    by_cases hlt : k < xs.length
    · obtain ⟨b1, rfl, hb1, hc1⟩ := Nst.get1 goodInts (o.ext goodInts hE) (by omega)
      obtain ⟨b2, rfl, hb2, hc2⟩ := Nst.get1 goodInts (o'.ext goodInts hE) (by omega)
      obtain ⟨u1, F1, q1, p1, _⟩ := hc1 k [] hlt
      obtain ⟨u2, F2, q2, p2, _⟩ := hc2 k [] hlt
      have hrl := HL.out (xs.getD k []) (by rw [List.getD_eq_getElem?_getD, List.getElem?_eq_getElem hlt]; exact List.getElem_mem hlt)
      obtain ⟨x, hx⟩ : ∃ x, x = xs.getD k [] := ⟨_, rfl⟩
      rw [← hx] at p1 p2 hrl
      obtain ⟨w1, rfl⟩ : ∃ x : World, x = wr := ⟨_, rfl⟩
      clear hc1 hc2 hx
      go_wp2_with fail
      go_region_held3 ((fun w' => (∀ b o, b < w1.heap.size → w'.cell? ⟨b, o, none⟩ = w1.cell? ⟨b, o, none⟩) ∧ Ext w1 w')) ((first | assumption | (with_reducible exact held_mk (Ext.drew w1)) | (with_reducible exact held_mk (((Ext.refl w1).alloc _).drew')) | (with_reducible exact held_mk ((Ext.drew w1).alloc _)))) ((go_simp; go_at_call 48; refine (eqIntS_P u1 u2 x F1 F2 _ (GoodP.ext goodInts p1 (Ext.drew w1)) (GoodP.ext goodInts p2 (Ext.drew w1)) hrl).mono ?_; rintro e w2 ⟨rfl, hE2⟩; have hK1 := held_mk ((Ext.drew w1).trans hE2)))
      have hE3 := held_ext hK1
      go_wp2
      go_roundw
      case rel => exact ⟨k + 1, by omega, by go_num, hE.trans hE3⟩
      case measure => simp [intOf]; omega
    · go_wp2
      go_ret
      exact ⟨rfl, hE⟩
set_option maxHeartbeats 1000000 in
theorem markIntSS_P (u : Value) (xs : List (List Int)) (F : List Nat) (k : Int) (w : World) (h : PNst PInts 23 1 w [u] xs F) (hs : SmL SmI xs) (h0 : 0 ≤ k) (h1 : k + szF szI xs ≤ 100000000) : Calls Try.prog 79 #[u, .int .i64 k] w fun e w' => e = .returned (.int .i64 (k + szF szI xs)) ∧ PNst PInts 23 1 w' [u] (mkFN mkII szI k xs) F ∧ ChgN F w w' := by
  obtain ⟨v, e, o⟩ := h
  cases e
  have HL := Lib.hid hs.2
  have hl := hs.1
  have HT := Lib.hid (szF_take_le (sz := szI) xs)
  obtain ⟨a, c, rfl, _⟩ := o.sl
  clear hs
  go_enter Try.func79, Try.ntmps79
  go_wp2_with fail
  go_loopw [1, 5] (fun u1 u5 wr => ∃ (j : Nat) (m : Int), j ≤ xs.length ∧ u5 = .int .i64 j ∧ u1 = .int .i64 m ∧ Hid (m = k + szF szI (xs.take j)) ∧ Hid (Nst PInts 23 1 wr (.slice a xs.length c) (midF mkII szI k xs j) F) ∧ ChgN F w wr) (fun _ i _ => xs.length - (intOf i).toNat)
  case atStart => exact ⟨0, k, Nat.zero_le _, rfl, rfl, Lib.hid (by simp [szF]), Lib.hid (by rw [midF_zero]; exact o), ChgN.refl _⟩
  case round =>
    clear o
    obtain ⟨j, m, hj, rfl, rfl, HM, HO, hC⟩ := hrel
    have htl := HT.out j
    have hml := midF_length (mk := mkII) (sz := szI) k xs j hj
    by_cases hlt : j < xs.length
    · obtain ⟨g, c2, u1, Fj, ev, hg, q1, p1, hF, hgF, hup⟩ := HO.out.upd1 goodInts j [] (by omega)
      rw [midF_at k xs j [] hlt] at p1
      have hrl := HL.out (xs.getD j []) (by rw [List.getD_eq_getElem?_getD, List.getElem?_eq_getElem hlt]; exact List.getElem_mem hlt)
      have hs := midF_set (mk := mkII) (sz := szI) k xs j [] hlt
      have hts := szF_take (sz := szI) xs j [] hlt
      rw [← HM.out] at hs
      have hle := HT.out (j + 1)
      rw [hts] at hle
      have hm0 := HM.out
      obtain ⟨x, hx⟩ : ∃ x, x = xs.getD j [] := ⟨_, rfl⟩
      rw [← hx] at p1 hrl hs hts hle
      rw [hml] at ev
      cases ev
      have HS := Lib.hid hs
      have HTS := Lib.hid hts
      have HUP := Lib.hid hup
      have hm1 : 0 ≤ m ∧ m + szI x ≤ 100000000 := by omega
      obtain ⟨hm1, hm2⟩ := hm1
      obtain ⟨w1, rfl⟩ : ∃ x : World, x = wr := ⟨_, rfl⟩
      clear hs hts hup hx hle hm0 htl hml
      go_wp2_with fail
      refine (markIntS_P u1 x Fj m _ p1 hrl hm1 (by omega)).mono ?_
      rintro e w2 ⟨rfl, p2, c2'⟩
      have hsz := c2'.size
      have hnum : m + (szI x : Int) ≤ 9223372036854775807 := by omega
      go_wp2
      go_roundw
      case rel => exact ⟨j + 1, m + szI x, by omega, by go_num, rfl, Lib.hid (by rw [HTS.out, HM.out]; omega), Lib.hid (by rw [← HS.out]; exact HUP.out w2 _ p2 c2'), hC.trans (c2'.wider hF)⟩
      case measure => simp [intOf]; omega
    · have hk2 : j = xs.length := by omega
      subst hk2
      have HO2 := HO.out
      rw [midF_all] at HO2
      have hm := HM.out
      rw [List.take_length] at hm
      subst hm
      go_wp2
      go_ret
      exact ⟨rfl, ⟨_, rfl, HO2⟩, hC⟩
set_option maxHeartbeats 1000000 in
theorem heldIntSS_P (u : Value) (xs : List (List Int)) (F : List Nat) (k : Int) (w : World) (h : PNst PInts 23 1 w [u] (mkFN mkII szI k xs) F) (hs : SmL SmI xs) (h0 : 0 ≤ k) (h1 : k + szF szI xs ≤ 100000000) : Calls Try.prog 80 #[u, .int .i64 k] w fun e w' => e = .returned (.int .i64 (k + szF szI xs)) ∧ Ext w w' := by
  obtain ⟨v, e, o⟩ := h
  cases e
  have HL := Lib.hid hs.2
  have hl := hs.1
  have HT := Lib.hid (szF_take_le (sz := szI) xs)
  have HML := Lib.hid (mkFN_length (mk := mkII) (sz := szI) xs k)
  obtain ⟨a, c, rfl, _⟩ := o.sl
  rw [HML.out]
  rw [HML.out] at o
  clear hs
  go_enter Try.func80, Try.ntmps80
  go_wp2_with fail
  go_loopw [1, 5] (fun u1 u5 wr => ∃ (j : Nat) (m : Int), j ≤ xs.length ∧ u5 = .int .i64 j ∧ u1 = .int .i64 m ∧ Hid (m = k + szF szI (xs.take j)) ∧ Ext w wr) (fun _ i _ => xs.length - (intOf i).toNat)
  case atStart => exact ⟨0, k, Nat.zero_le _, rfl, rfl, Lib.hid (by simp [szF]), Ext.refl _⟩
  case round =>
    obtain ⟨j, m, hj, rfl, rfl, HM, hE⟩ := hrel
    have htl := HT.out j
    by_cases hlt : j < xs.length
    · obtain ⟨b1, rfl, hb1, hc1⟩ := Nst.get1 goodInts (o.ext goodInts hE) (by rw [HML.out]; omega)
      obtain ⟨u1, F1, q1, p1, _⟩ := hc1 j [] (by rw [HML.out]; exact hlt)
      rw [mkFN_get xs k j [] hlt, ← HM.out] at p1
      have hrl := HL.out (xs.getD j []) (by rw [List.getD_eq_getElem?_getD, List.getElem?_eq_getElem hlt]; exact List.getElem_mem hlt)
      have hts := szF_take (sz := szI) xs j [] hlt
      have hle := HT.out (j + 1)
      rw [hts] at hle
      have hm0 := HM.out
      obtain ⟨x, hx⟩ : ∃ x, x = xs.getD j [] := ⟨_, rfl⟩
      rw [← hx] at p1 hrl hts hle
      have HTS := Lib.hid hts
      have hm1 : 0 ≤ m ∧ m + szI x ≤ 100000000 := by omega
      obtain ⟨hm1, hm2⟩ := hm1
      clear hc1 hts hx hle hm0 htl
      go_wp2_with fail
      refine (heldIntS_P u1 x F1 m _ p1 hrl hm1 (by omega)).mono ?_
      rintro e w2 ⟨rfl, hE2⟩
      go_wp2
      go_roundw
      case rel => exact ⟨j + 1, m + szI x, by omega, by go_num, rfl, Lib.hid (by rw [HTS.out, HM.out]; omega), hE.trans hE2⟩
      case measure => simp [intOf]; omega
    · have hk2 : j = xs.length := by omega
      subst hk2
      have hm := HM.out
      rw [List.take_length] at hm
      subst hm
      go_wp2
      go_ret
      exact ⟨rfl, hE⟩
set_option maxHeartbeats 1000000 in
theorem eqIntSSS_P (u u' : Value) (xs : List (List (List Int))) (F F' : List Nat) (w : World) (h : PNst PII 30 1 w [u] xs F) (h' : PNst PII 30 1 w [u'] xs F') (hs : SmL (SmL SmI) xs) : Calls Try.prog 27 #[u, u'] w fun e w' => e = .returned (.bool true) ∧ Ext w w' := by
  obtain ⟨v, e, o⟩ := h
  obtain ⟨v', e', o'⟩ := h'
  cases e; cases e'
  have HL := Lib.hid hs.2
  have hl := hs.1
  obtain ⟨a, c, rfl, _⟩ := o.sl
  obtain ⟨a', c', rfl, _⟩ := o'.sl
  clear hs
  go_enter Try.func27, Try.ntmps27
  go_wp2_with fail
  go_loopw [5] (fun i wr => ∃ k : Nat, k ≤ xs.length ∧ i = .int .i64 k ∧ Ext w wr) (fun i _ => xs.length - (intOf i).toNat)
  case atStart => exact ⟨0, Nat.zero_le _, rfl, Ext.refl w⟩
  case round =>
    obtain ⟨k, hk, rfl, hE⟩ := hrel
    by_cases hlt : k < xs.length
    · obtain ⟨b1, rfl, hb1, hc1⟩ := Nst.get1 goodII (o.ext goodII hE) (by omega)
      obtain ⟨b2, rfl, hb2, hc2⟩ := Nst.get1 goodII (o'.ext goodII hE) (by omega)
      obtain ⟨u1, F1, q1, p1, _⟩ := hc1 k [] hlt
      obtain ⟨u2, F2, q2, p2, _⟩ := hc2 k [] hlt
      have hrl := HL.out (xs.getD k []) (by rw [List.getD_eq_getElem?_getD, List.getElem?_eq_getElem hlt]; exact List.getElem_mem hlt)
      obtain ⟨x, hx⟩ : ∃ x, x = xs.getD k [] := ⟨_, rfl⟩
      rw [← hx] at p1 p2 hrl
      obtain ⟨w1, rfl⟩ : ∃ x : World, x = wr := ⟨_, rfl⟩
      clear hc1 hc2 hx
      go_wp2_with fail
      go_region_held3 ((fun w' => (∀ b o, b < w1.heap.size → w'.cell? ⟨b, o, none⟩ = w1.cell? ⟨b, o, none⟩) ∧ Ext w1 w')) ((first | assumption | (with_reducible exact held_mk (Ext.drew w1)) | (with_reducible exact held_mk (((Ext.refl w1).alloc _).drew')) | (with_reducible exact held_mk ((Ext.drew w1).alloc _)))) ((go_simp; go_at_call 77; refine (eqIntSS_P u1 u2 x F1 F2 _ (GoodP.ext goodII p1 (Ext.drew w1)) (GoodP.ext goodII p2 (Ext.drew w1)) hrl).mono ?_; rintro e w2 ⟨rfl, hE2⟩; have hK1 := held_mk ((Ext.drew w1).trans hE2)))
      have hE3 := held_ext hK1
      go_wp2
      go_roundw
      case rel => exact ⟨k + 1, by omega, by go_num, hE.trans hE3⟩
      case measure => simp [intOf]; omega
    · go_wp2
      go_ret
      exact ⟨rfl, hE⟩
set_option maxHeartbeats 1000000 in
theorem markIntSSS_P (u : Value) (xs : List (List (List Int))) (F : List Nat) (k : Int) (w : World) (h : PNst PII 30 1 w [u] xs F) (hs : SmL (SmL SmI) xs) (h0 : 0 ≤ k) (h1 : k + szF (szF szI) xs ≤ 100000000) : Calls Try.prog 29 #[u, .int .i64 k] w fun e w' => e = .returned (.int .i64 (k + szF (szF szI) xs)) ∧ PNst PII 30 1 w' [u] (mkFN (mkFN mkII szI) (szF szI) k xs) F ∧ ChgN F w w' := by
  obtain ⟨v, e, o⟩ := h
  cases e
  have HL := Lib.hid hs.2
  have hl := hs.1
  have HT := Lib.hid (szF_take_le (sz := (szF szI)) xs)
  obtain ⟨a, c, rfl, _⟩ := o.sl
  clear hs
  go_enter Try.func29, Try.ntmps29
  go_wp2_with fail
  go_loopw [1, 5] (fun u1 u5 wr => ∃ (j : Nat) (m : Int), j ≤ xs.length ∧ u5 = .int .i64 j ∧ u1 = .int .i64 m ∧ Hid (m = k + szF (szF szI) (xs.take j)) ∧ Hid (Nst PII 30 1 wr (.slice a xs.length c) (midF (mkFN mkII szI) (szF szI) k xs j) F) ∧ ChgN F w wr) (fun _ i _ => xs.length - (intOf i).toNat)
  case atStart => exact ⟨0, k, Nat.zero_le _, rfl, rfl, Lib.hid (by simp [szF]), Lib.hid (by rw [midF_zero]; exact o), ChgN.refl _⟩
  case round =>
    clear o
    obtain ⟨j, m, hj, rfl, rfl, HM, HO, hC⟩ := hrel
    have htl := HT.out j
    have hml := midF_length (mk := (mkFN mkII szI)) (sz := (szF szI)) k xs j hj
    by_cases hlt : j < xs.length
    · obtain ⟨g, c2, u1, Fj, ev, hg, q1, p1, hF, hgF, hup⟩ := HO.out.upd1 goodII j [] (by omega)
      rw [midF_at k xs j [] hlt] at p1
      have hrl := HL.out (xs.getD j []) (by rw [List.getD_eq_getElem?_getD, List.getElem?_eq_getElem hlt]; exact List.getElem_mem hlt)
      have hs := midF_set (mk := (mkFN mkII szI)) (sz := (szF szI)) k xs j [] hlt
      have hts := szF_take (sz := (szF szI)) xs j [] hlt
      rw [← HM.out] at hs
      have hle := HT.out (j + 1)
      rw [hts] at hle
      have hm0 := HM.out
      obtain ⟨x, hx⟩ : ∃ x, x = xs.getD j [] := ⟨_, rfl⟩
      rw [← hx] at p1 hrl hs hts hle
      rw [hml] at ev
      cases ev
      have HS := Lib.hid hs
      have HTS := Lib.hid hts
      have HUP := Lib.hid hup
      have hm1 : 0 ≤ m ∧ m + (szF szI) x ≤ 100000000 := by omega
      obtain ⟨hm1, hm2⟩ := hm1
      obtain ⟨w1, rfl⟩ : ∃ x : World, x = wr := ⟨_, rfl⟩
      clear hs hts hup hx hle hm0 htl hml
      go_wp2_with fail
      refine (markIntSS_P u1 x Fj m _ p1 hrl hm1 (by omega)).mono ?_
      rintro e w2 ⟨rfl, p2, c2'⟩
      have hsz := c2'.size
      have hnum : m + ((szF szI) x : Int) ≤ 9223372036854775807 := by omega
      go_wp2
      go_roundw
      case rel => exact ⟨j + 1, m + (szF szI) x, by omega, by go_num, rfl, Lib.hid (by rw [HTS.out, HM.out]; omega), Lib.hid (by rw [← HS.out]; exact HUP.out w2 _ p2 c2'), hC.trans (c2'.wider hF)⟩
      case measure => simp [intOf]; omega
    · have hk2 : j = xs.length := by omega
      subst hk2
      have HO2 := HO.out
      rw [midF_all] at HO2
      have hm := HM.out
      rw [List.take_length] at hm
      subst hm
      go_wp2
      go_ret
      exact ⟨rfl, ⟨_, rfl, HO2⟩, hC⟩
set_option maxHeartbeats 1000000 in
theorem heldIntSSS_P (u : Value) (xs : List (List (List Int))) (F : List Nat) (k : Int) (w : World) (h : PNst PII 30 1 w [u] (mkFN (mkFN mkII szI) (szF szI) k xs) F) (hs : SmL (SmL SmI) xs) (h0 : 0 ≤ k) (h1 : k + szF (szF szI) xs ≤ 100000000) : Calls Try.prog 30 #[u, .int .i64 k] w fun e w' => e = .returned (.int .i64 (k + szF (szF szI) xs)) ∧ Ext w w' := by
  obtain ⟨v, e, o⟩ := h
  cases e
  have HL := Lib.hid hs.2
  have hl := hs.1
  have HT := Lib.hid (szF_take_le (sz := (szF szI)) xs)
  have HML := Lib.hid (mkFN_length (mk := (mkFN mkII szI)) (sz := (szF szI)) xs k)
  obtain ⟨a, c, rfl, _⟩ := o.sl
  rw [HML.out]
  rw [HML.out] at o
  clear hs
  go_enter Try.func30, Try.ntmps30
  go_wp2_with fail
  go_loopw [1, 5] (fun u1 u5 wr => ∃ (j : Nat) (m : Int), j ≤ xs.length ∧ u5 = .int .i64 j ∧ u1 = .int .i64 m ∧ Hid (m = k + szF (szF szI) (xs.take j)) ∧ Ext w wr) (fun _ i _ => xs.length - (intOf i).toNat)
  case atStart => exact ⟨0, k, Nat.zero_le _, rfl, rfl, Lib.hid (by simp [szF]), Ext.refl _⟩
  case round =>
    obtain ⟨j, m, hj, rfl, rfl, HM, hE⟩ := hrel
    have htl := HT.out j
    by_cases hlt : j < xs.length
    · obtain ⟨b1, rfl, hb1, hc1⟩ := Nst.get1 goodII (o.ext goodII hE) (by rw [HML.out]; omega)
      obtain ⟨u1, F1, q1, p1, _⟩ := hc1 j [] (by rw [HML.out]; exact hlt)
      rw [mkFN_get xs k j [] hlt, ← HM.out] at p1
      have hrl := HL.out (xs.getD j []) (by rw [List.getD_eq_getElem?_getD, List.getElem?_eq_getElem hlt]; exact List.getElem_mem hlt)
      have hts := szF_take (sz := (szF szI)) xs j [] hlt
      have hle := HT.out (j + 1)
      rw [hts] at hle
      have hm0 := HM.out
      obtain ⟨x, hx⟩ : ∃ x, x = xs.getD j [] := ⟨_, rfl⟩
      rw [← hx] at p1 hrl hts hle
      have HTS := Lib.hid hts
      have hm1 : 0 ≤ m ∧ m + (szF szI) x ≤ 100000000 := by omega
      obtain ⟨hm1, hm2⟩ := hm1
      clear hc1 hts hx hle hm0 htl
      go_wp2_with fail
      refine (heldIntSS_P u1 x F1 m _ p1 hrl hm1 (by omega)).mono ?_
      rintro e w2 ⟨rfl, hE2⟩
      go_wp2
      go_roundw
      case rel => exact ⟨j + 1, m + (szF szI) x, by omega, by go_num, rfl, Lib.hid (by rw [HTS.out, HM.out]; omega), hE.trans hE2⟩
      case measure => simp [intOf]; omega
    · have hk2 : j = xs.length := by omega
      subst hk2
      have hm := HM.out
      rw [List.take_length] at hm
      subst hm
      go_wp2
      go_ret
      exact ⟨rfl, hE⟩
end Go.Proofs.Ytpomcoegpjehgaa
