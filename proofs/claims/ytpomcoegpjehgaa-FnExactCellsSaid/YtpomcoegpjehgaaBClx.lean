/- Bundle: how the exact laws read rows of logic cells. -/
import Derived.Test.YtpomcoegpjehgaaBCel
namespace Go.Proofs.Ytpomcoegpjehgaa
open Go.RowKit
set_option maxRecDepth 100000
set_option linter.unusedVariables false
set_option linter.unusedSimpArgs false
def SmCell (x : CellT) : Prop := SmI x.ins
def szCell (x : CellT) : Nat := x.ins.length + 3
def mkCell (k : Int) (x : CellT) : CellT := ⟨k, mkII (k + 1) x.ins, k + 1 + szI x.ins, (k + 1 + szI x.ins + 1) % 3 == 0⟩
abbrev PCells : OwnP (List CellT) := PNst PCell 64 4
theorem goodCells : GoodP PCells 1 := goodNst goodCell
set_option maxHeartbeats 1000000 in
theorem eqCell_c (n t : Int) (r : Bool) (u v : Value) (x : List Int) (F F' : List Nat) (w : World) (h : PInts w [u] x F) (h' : PInts w [v] x F') (hs : SmI x) :
    Calls Try.prog 96 #[.agg #[.int .i64 n, u, .int .i64 t, .bool r], .agg #[.int .i64 n, v, .int .i64 t, .bool r]] w fun e w' => e = .returned (.bool true) ∧ Ext w w' := by
  obtain ⟨u', e, o, hF⟩ := id h
  cases e
  obtain ⟨v', e, o', hF'⟩ := id h'
  cases e
  obtain ⟨ua, uc, rfl, _, _⟩ := own_sl o
  obtain ⟨va, vc, rfl, _, _⟩ := own_sl o'
  clear hF hF' o o'
  have Ey : Ext w ((w.alloc (.cells #[.int .i64 n, .slice ua x.length uc, .int .i64 t, .bool r] 64)).alloc (.cells #[.int .i64 n, .slice va x.length vc, .int .i64 t, .bool r] 64)) := ((Ext.refl w).alloc _).alloc _
  have y := (Blk.at w [.int .i64 n, .slice ua x.length uc, .int .i64 t, .bool r] 64 rfl).alloc (.cells #[.int .i64 n, .slice va x.length vc, .int .i64 t, .bool r] 64)
  have z := Blk.at (w.alloc (.cells #[.int .i64 n, .slice ua x.length uc, .int .i64 t, .bool r] 64)) [.int .i64 n, .slice va x.length vc, .int .i64 t, .bool r] 64 (B := w.heap.size + 1) (by simp)
  go_enter Try.func96, Try.ntmps96
  go_wp2_with fail
  refine (eqIntS_P _ _ x F F' _ (goodInts.ext h Ey) (goodInts.ext h' Ey) hs).mono ?_
  rintro e w1 ⟨rfl, hE1⟩
  have E1 := Ey.trans hE1
  have y1 := y.ext hE1
  have z1 := z.ext hE1
  have c2 := y1.cell (i := 2) rfl
  have cl := y1.lt
  have d2 := z1.cell (i := 2) rfl
  have c3 := y1.cell (i := 3) rfl
  have d3 := z1.cell (i := 3) rfl
  have hb : (r != r) = false := by simp
  have dl := z1.lt
  go_wp2_with fail
  go_ret
  exact ⟨rfl, E1⟩
set_option maxHeartbeats 1000000 in
theorem eqCellS_P (u u' : Value) (xs : List CellT) (F F' : List Nat) (w : World) (h : PCells w [u] xs F) (h' : PCells w [u'] xs F') (hs : SmL SmCell xs) : Calls Try.prog 58 #[u, u'] w fun e w' => e = .returned (.bool true) ∧ Ext w w' := by
  obtain ⟨v, e, o⟩ := h
  obtain ⟨v', e', o'⟩ := h'
  cases e; cases e'
  have HL := Lib.hid hs.2
  have hl := hs.1
  obtain ⟨a, c, rfl, _⟩ := o.sl
  obtain ⟨a', c', rfl, _⟩ := o'.sl
  clear hs
  go_enter Try.func58, Try.ntmps58
  go_wp2_with fail
  go_loopw [5] (fun i wr => ∃ k : Nat, k ≤ xs.length ∧ i = .int .i64 k ∧ Ext w wr) (fun i _ => xs.length - (intOf i).toNat)
  case atStart => exact ⟨0, Nat.zero_le _, rfl, Ext.refl w⟩
  case round =>
    obtain ⟨k, hk, rfl, hE⟩ := hrel
    by_cases hlt : k < xs.length
    · obtain ⟨b1, rfl, hb1, _, hc1⟩ := Nst.getN goodCell (o.ext goodCell hE) (by omega)
      obtain ⟨b2, rfl, hb2, _, hc2⟩ := Nst.getN goodCell (o'.ext goodCell hE) (by omega)
      obtain ⟨cs1, F1, p1, q1, _⟩ := hc1 k cell0 hlt
      obtain ⟨cs2, F2, p2, q2, _⟩ := hc2 k cell0 hlt
      have hrl := HL.out (xs.getD k cell0) (by rw [List.getD_eq_getElem?_getD, List.getElem?_eq_getElem hlt]; exact List.getElem_mem hlt)
      obtain ⟨x, hx⟩ : ∃ x, x = xs.getD k cell0 := ⟨_, rfl⟩
      rw [← hx] at p1 p2 hrl
      obtain ⟨u1, rfl, o1, rfl⟩ := p1
      obtain ⟨u2, rfl, o2, rfl⟩ := p2
      obtain ⟨ua, uc, rfl, _, _⟩ := own_sl o1
      obtain ⟨va, vc, rfl, _, _⟩ := own_sl o2
      have r10 := q1 0 _ (by omega) rfl
      have r11 := q1 1 _ (by omega) rfl
      have r12 := q1 2 _ (by omega) rfl
      have r13 := q1 3 _ (by omega) rfl
      have r20 := q2 0 _ (by omega) rfl
      have r21 := q2 1 _ (by omega) rfl
      have r22 := q2 2 _ (by omega) rfl
      have r23 := q2 3 _ (by omega) rfl
      have P1 : PInts wr [_] x.ins _ := ⟨_, rfl, o1, rfl⟩
      have P2 : PInts wr [_] x.ins _ := ⟨_, rfl, o2, rfl⟩
      rw [Nat.add_zero] at r10 r20
      obtain ⟨n, ins, t, r⟩ := x
      dsimp only at P1 P2 r10 r11 r12 r13 r20 r21 r22 r23 o1 o2
      change SmI ins at hrl
      obtain ⟨w1, rfl⟩ : ∃ x : World, x = wr := ⟨_, rfl⟩
      clear hc1 hc2 hx q1 q2 o1 o2
      go_wp2_with fail
      go_region_held3 ((fun w' => (∀ b o, b < w1.heap.size → w'.cell? ⟨b, o, none⟩ = w1.cell? ⟨b, o, none⟩) ∧ Ext w1 w')) ((first | assumption | (with_reducible exact held_mk (Ext.drew w1)) | (with_reducible exact held_mk (((Ext.refl w1).alloc _).drew')) | (with_reducible exact held_mk ((Ext.drew w1).alloc _)))) ((go_simp; go_at_call 96; refine (eqCell_c n t r _ _ ins _ _ _ (goodInts.ext P1 (Ext.drew w1)) (goodInts.ext P2 (Ext.drew w1)) hrl).mono ?_; rintro e w2 ⟨rfl, hE2⟩; have hK1 := held_mk ((Ext.drew w1).trans hE2)))
      have hE3 := held_ext hK1
      go_wp2
      go_roundw
      case rel => exact ⟨k + 1, by omega, by go_num, hE.trans hE3⟩
      case measure => simp [intOf]; omega
    · go_wp2
      go_ret
      exact ⟨rfl, hE⟩
set_option maxHeartbeats 2000000 in
theorem markCellS_P (u : Value) (xs : List CellT) (F : List Nat) (k : Int) (w : World) (h : PCells w [u] xs F) (hs : SmL SmCell xs) (h0 : 0 ≤ k) (h1 : k + szF szCell xs ≤ 100000000) : Calls Try.prog 59 #[u, .int .i64 k] w fun e w' => e = .returned (.int .i64 (k + szF szCell xs)) ∧ PCells w' [u] (mkFN mkCell szCell k xs) F ∧ ChgN F w w' := by
  obtain ⟨v, e, o⟩ := h
  cases e
  have HL := Lib.hid hs.2
  have hl := hs.1
  have HT := Lib.hid (szF_take_le (sz := szCell) xs)
  obtain ⟨a, c, rfl, _⟩ := o.sl
  clear hs
  go_enter Try.func59, Try.ntmps59
  go_wp2_with fail
  go_loopw [1, 5] (fun u1 u5 wr => ∃ (j : Nat) (m : Int), j ≤ xs.length ∧ u5 = .int .i64 j ∧ u1 = .int .i64 m ∧ Hid (m = k + szF szCell (xs.take j)) ∧ Hid (Nst PCell 64 4 wr (.slice a xs.length c) (midF mkCell szCell k xs j) F) ∧ ChgN F w wr) (fun _ i _ => xs.length - (intOf i).toNat)
  case atStart => exact ⟨0, k, Nat.zero_le _, rfl, rfl, Lib.hid (by simp [szF]), Lib.hid (by rw [midF_zero]; exact o), ChgN.refl _⟩
  case round =>
    clear o
    obtain ⟨j, m, hj, rfl, rfl, HM, HO, hC⟩ := hrel
    have htl := HT.out j
    have hml := midF_length (mk := mkCell) (sz := szCell) k xs j hj
    by_cases hlt : j < xs.length
    · obtain ⟨g, c2, cs, Fj, A, B, ev, hA, p1, hF, hgI, hgF, hH, hup⟩ := HO.out.open goodCell j cell0 (by omega)
      rw [midF_at k xs j cell0 hlt] at p1
      have hrl := HL.out (xs.getD j cell0) (by rw [List.getD_eq_getElem?_getD, List.getElem?_eq_getElem hlt]; exact List.getElem_mem hlt)
      have hs := midF_set (mk := mkCell) (sz := szCell) k xs j cell0 hlt
      have hts := szF_take (sz := szCell) xs j cell0 hlt
      rw [← HM.out] at hs
      have hle := HT.out (j + 1)
      rw [hts] at hle
      have hm0 := HM.out
      obtain ⟨x, hx⟩ : ∃ x, x = xs.getD j cell0 := ⟨_, rfl⟩
      rw [← hx] at p1 hrl hs hts hle
      rw [hml] at ev hH hup
      cases ev
      have HS := Lib.hid hs
      have HTS := Lib.hid hts
      have HUP := Lib.hid hup
      obtain ⟨u1, rfl, o1, rfl⟩ := p1
      obtain ⟨ua, uc, rfl, _, _⟩ := own_sl o1
      change SmI x.ins at hrl
      have hszx : (szCell x : Int) = (szI x.ins : Int) + 3 := by unfold szCell szI; omega
      have hm1 : 0 ≤ m ∧ m + szI x.ins + 3 ≤ 100000000 := by omega
      obtain ⟨hm1, hm2⟩ := hm1
      have r0 := hH.cell (i := 0) rfl
      have rf := fun i => hH.frozen i
      rw [hA, Nat.add_zero] at r0
      have hgl := hH.lt
      have lF := fun q hq => (HO.out.lt goodCell q hq)
      obtain ⟨w1, rfl⟩ : ∃ x : World, x = wr := ⟨_, rfl⟩
      have H1 := hH.set 0 (by simp) (.int .i64 m) (p := j * 4) (by omega)
      have c1 : ChgN [g] w1 (w1.setCell ⟨g, j * 4, none⟩ (.int .i64 m)) := (ChgN.refl w1).setCell (by simp) _
      have P1 : PInts (w1.setCell ⟨g, j * 4, none⟩ (.int .i64 m)) [.slice ua x.ins.length uc] x.ins (fp (.slice ua x.ins.length uc)) := goodInts.chg ⟨_, rfl, o1, rfl⟩ c1 (fun q hq hq2 => by simp at hq2; subst hq2; exact hgF hq)
      have s1 := H1.cell (i := 1) rfl
      have s1f := fun i => H1.frozen i
      rw [hA] at s1
      have hgl1 := H1.lt
      clear hs hts hup hx hle hm0 htl hml o1
      go_wp2_with fail
      refine (markIntS_P _ x.ins _ (m + 1) _ P1 hrl (by omega) (by omega)).mono ?_
      rintro e w2 ⟨rfl, P2, c2'⟩
      have hg2 := c2'.block g hgl1 hgF
      have H2 := H1.keep hg2
      have r2 := H2.cell (i := 2) rfl
      have r2f := fun i => H2.frozen i
      rw [hA] at r2
      have hgl2 := H2.lt
      have H3 := H2.set 2 (by simp) (.int .i64 (m + 1 + szI x.ins)) (p := j * 4 + 2) (by omega)
      have c3 : ChgN [g] w2 (w2.setCell ⟨g, j * 4 + 2, none⟩ (.int .i64 (m + 1 + szI x.ins))) := (ChgN.refl w2).setCell (by simp) _
      have P3 := goodInts.chg P2 c3 (fun q hq hq2 => by simp at hq2; subst hq2; exact hgF hq)
      have H4 := H3.set 3 (by simp) (.bool ((m + 1 + szI x.ins + 1) % 3 == 0)) (p := j * 4 + 3) (by omega)
      have c4 : ChgN [g] (w2.setCell ⟨g, j * 4 + 2, none⟩ (.int .i64 (m + 1 + szI x.ins))) ((w2.setCell ⟨g, j * 4 + 2, none⟩ (.int .i64 (m + 1 + szI x.ins))).setCell ⟨g, j * 4 + 3, none⟩ (.bool ((m + 1 + szI x.ins + 1) % 3 == 0))) := (ChgN.refl _).setCell (by simp) _
      have P4 := goodInts.chg P3 c4 (fun q hq hq2 => by simp at hq2; subst hq2; exact hgF hq)
      have r3 := H3.cell (i := 3) rfl
      have r3f := fun i => H3.frozen i
      rw [hA] at r3
      have hgl3 := H3.lt
      have hnum : m + 1 + (szI x.ins : Int) ≤ 9223372036854775807 := by omega
      have hnum2 : m + 1 + (szI x.ins : Int) + 1 ≤ 9223372036854775807 := by omega
      have hnum3 : m + 1 + (szI x.ins : Int) + 1 + 1 ≤ 9223372036854775807 := by omega
      have hnum4 : 0 ≤ m + 1 + (szI x.ins : Int) + 1 := by omega
      have hg1 : ∀ q ∈ [g], q ∈ F := fun q hq => by simp at hq; subst hq; exact hgI
      have hall : ChgN F w1 ((w2.setCell ⟨g, j * 4 + 2, none⟩ (.int .i64 (m + 1 + szI x.ins))).setCell ⟨g, j * 4 + 3, none⟩ (.bool ((m + 1 + szI x.ins + 1) % 3 == 0))) := (((c1.wider hg1).trans (c2'.wider hF)).trans (c3.wider hg1)).trans (c4.wider hg1)
      have hN := HUP.out _ _ (mkCell m x) H4 (by
        obtain ⟨q, eq, oq, hq⟩ := P4
        cases eq
        exact ⟨_, rfl, oq, rfl⟩) (fun q hq hnq hqg => by
        have l0 := lF q hq
        have e1 := c1.block q l0 (by simp; exact hqg)
        have e2 := c2'.block q (by have := c1.size; omega) hnq
        have e3 := c3.block q (by have := c1.size; have := c2'.size; omega) (by simp; exact hqg)
        have e4 := c4.block q (by have := c1.size; have := c2'.size; have := c3.size; omega) (by simp; exact hqg)
        exact e4.trans (e3.trans (e2.trans e1)))
      have HN := Lib.hid hN
      clear hN H3 P3 c3 H4 P4 c4 H1 P1 c1 HUP
      go_wp2_with fail
      go_roundw
      case rel => exact ⟨j + 1, m + szCell x, by omega, by go_num, by rw [hszx]; congr 1; omega, Lib.hid (by rw [HTS.out, HM.out]; omega), Lib.hid (by rw [← HS.out]; exact HN.out), hC.trans hall⟩
      case measure => simp [intOf]; omega
    · have hk2 : j = xs.length := by omega
      subst hk2
      have HO2 := HO.out
      rw [midF_all] at HO2
      have hm := HM.out
      rw [List.take_length] at hm
      subst hm
      go_wp2
      go_ret
      exact ⟨rfl, ⟨_, rfl, HO2⟩, hC⟩
set_option maxHeartbeats 2000000 in
theorem heldCellS_P (u : Value) (xs : List CellT) (F : List Nat) (k : Int) (w : World) (h : PCells w [u] (mkFN mkCell szCell k xs) F) (hs : SmL SmCell xs) (h0 : 0 ≤ k) (h1 : k + szF szCell xs ≤ 100000000) : Calls Try.prog 60 #[u, .int .i64 k] w fun e w' => e = .returned (.int .i64 (k + szF szCell xs)) ∧ Ext w w' := by
  obtain ⟨v, e, o⟩ := h
  cases e
  have HL := Lib.hid hs.2
  have hl := hs.1
  have HT := Lib.hid (szF_take_le (sz := szCell) xs)
  have HML := Lib.hid (mkFN_length (mk := mkCell) (sz := szCell) xs k)
  obtain ⟨a, c, rfl, _⟩ := o.sl
  rw [HML.out]
  rw [HML.out] at o
  clear hs
  go_enter Try.func60, Try.ntmps60
  go_wp2_with fail
  go_loopw [1, 5] (fun u1 u5 wr => ∃ (j : Nat) (m : Int), j ≤ xs.length ∧ u5 = .int .i64 j ∧ u1 = .int .i64 m ∧ Hid (m = k + szF szCell (xs.take j)) ∧ Ext w wr) (fun _ i _ => xs.length - (intOf i).toNat)
  case atStart => exact ⟨0, k, Nat.zero_le _, rfl, rfl, Lib.hid (by simp [szF]), Ext.refl _⟩
  case round =>
    obtain ⟨j, m, hj, rfl, rfl, HM, hE⟩ := hrel
    have htl := HT.out j
    by_cases hlt : j < xs.length
    · obtain ⟨b1, rfl, hb1, _, hc1⟩ := Nst.getN goodCell (o.ext goodCell hE) (by rw [HML.out]; omega)
      obtain ⟨cs1, F1, p1, q1, _⟩ := hc1 j cell0 (by rw [HML.out]; exact hlt)
      rw [mkFN_get xs k j cell0 hlt, ← HM.out] at p1
      have hrl := HL.out (xs.getD j cell0) (by rw [List.getD_eq_getElem?_getD, List.getElem?_eq_getElem hlt]; exact List.getElem_mem hlt)
      have hts := szF_take (sz := szCell) xs j cell0 hlt
      have hle := HT.out (j + 1)
      rw [hts] at hle
      have hm0 := HM.out
      obtain ⟨x, hx⟩ : ∃ x, x = xs.getD j cell0 := ⟨_, rfl⟩
      rw [← hx] at p1 hrl hts hle
      have HTS := Lib.hid hts
      obtain ⟨u1, rfl, o1, rfl⟩ := p1
      obtain ⟨ua, uc, rfl, _, _⟩ := own_sl o1
      have r0 := q1 0 _ (by omega) rfl
      have r1 := q1 1 _ (by omega) rfl
      have r2 := q1 2 _ (by omega) rfl
      have r3 := q1 3 _ (by omega) rfl
      rw [Nat.add_zero] at r0
      change SmI x.ins at hrl
      have P1 : PInts wr [_] (mkII (m + 1) x.ins) _ := ⟨_, rfl, o1, rfl⟩
      obtain ⟨w1, rfl⟩ : ∃ x : World, x = wr := ⟨_, rfl⟩
      have hszx : (szCell x : Int) = (szI x.ins : Int) + 3 := by unfold szCell szI; omega
      have hm1 : 0 ≤ m ∧ m + szI x.ins + 3 ≤ 100000000 := by omega
      obtain ⟨hm1, hm2⟩ := hm1
      unfold mkCell at r0 r1 r2 r3
      dsimp only at r0 r1 r2 r3 P1
      have hmk : (mkCell m x).ins = mkII (m + 1) x.ins := rfl
      rw [hmk] at P1
      obtain ⟨M, hM⟩ : ∃ M, M = (mkII (m + 1) x.ins).length := ⟨_, rfl⟩
      try rw [hmk] at r1
      rw [← hM] at r1 P1
      clear hc1 hts hx hle hm0 htl q1 o1 hM
      go_wp2_with fail
      refine (heldIntS_P _ x.ins _ (m + 1) _ P1 hrl (by omega) (by omega)).mono ?_
      rintro e w2 ⟨rfl, hE2⟩
      have r2' := ((ecell hE2).1 b1 (j * 4 + 2) hb1).trans r2
      have r3' := ((ecell hE2).1 b1 (j * 4 + 3) hb1).trans r3
      have hnum3 : m + 1 + (szI x.ins : Int) + 1 + 1 ≤ 9223372036854775807 := by omega
      have hnum4 : 0 ≤ m + 1 + (szI x.ins : Int) + 1 := by omega
      have hnum5 : m + 1 + (szI x.ins : Int) + 1 ≤ 9223372036854775807 := by omega
      have hb2 : b1 < w2.heap.size := Nat.lt_of_lt_of_le hb1 hE2.size
      have hnum : m + 1 + (szI x.ins : Int) ≤ 9223372036854775807 := by omega
      have hnum2 : 0 ≤ m + 1 + (szI x.ins : Int) := by omega
      go_wp2_with fail
      go_roundw
      case rel => exact ⟨j + 1, m + szCell x, by omega, by go_num, by rw [hszx]; congr 1; omega, Lib.hid (by rw [HTS.out, HM.out]; omega), hE.trans hE2⟩
      case measure => simp [intOf]; omega
    · have hk2 : j = xs.length := by omega
      subst hk2
      have hm := HM.out
      rw [List.take_length] at hm
      subst hm
      go_wp2
      go_ret
      exact ⟨rfl, hE⟩
end Go.Proofs.Ytpomcoegpjehgaa

namespace Go.Proofs.Ytpomcoegpjehgaa
open Go.RowKit
set_option maxRecDepth 100000
set_option linter.unusedVariables false
set_option linter.unusedSimpArgs false
def SmallCells (x : List CellT) : Prop := (SmL SmCell) x ∧ (szF szCell) x ≤ 1048576
def RepCells (w : World) (b N : Nat) (v : Value) (x : List CellT) : Prop := ∃ F, PCells w [v] x F ∧ (∀ g ∈ F, b ≤ g ∧ g < N) ∧ SmallCells x
def MkCells (w : World) (v : Value) (km : Int) : Prop := ∃ (x : List CellT) (F : List Nat), km = 1 + (szF szCell) x ∧ PCells w [v] ((mkFN mkCell szCell) 1 x) F ∧ SmallCells x
section
variable {w w' : World} {b b2 N : Nat} {v v' : Value} {x : List CellT}
theorem RepCells.ext (h : RepCells w b N v x) (e : Ext w w') : RepCells w' b N v x := by
  obtain ⟨F, h1, h2, h3⟩ := h
  exact ⟨F, GoodP.ext goodCells h1 e, h2, h3⟩
theorem RepCells.le (h : RepCells w b N v x) (hb : b2 ≤ b) : RepCells w b2 N v x := by
  obtain ⟨F, h1, h2, h3⟩ := h
  exact ⟨F, h1, fun g hg => by have := h2 g hg; omega, h3⟩
theorem RepCells.hi {n m : Nat} (h : RepCells w b N v x) (g : Mid n m w w') (hb : m ≤ b) : RepCells w' b N v x := by
  obtain ⟨F, h1, h2, h3⟩ := h
  exact ⟨F, GoodP.mid goodCells h1 g (fun q hq => by have := h2 q hq; omega), h2, h3⟩
theorem GiveCells.rep {e : Ending} (h : GiveN PCell 64 4 w x e w') (hs : SmallCells x := by assumption) : ∃ v, e = .returned v ∧ RepCells w' w.heap.size w'.heap.size v x ∧ Ext w w' := by
  obtain ⟨v, F, h1, h2, h3, h4⟩ := h
  have hp : PCells w' [v] x F := ⟨v, rfl, h2⟩
  exact ⟨v, h1, ⟨F, hp, fun g hg => ⟨h3 g hg, GoodP.lt goodCells hp g hg⟩, hs⟩, h4⟩
theorem eqCells_R {b3 N3 : Nat} (h : RepCells w b N v x) (h' : RepCells w b3 N3 v' x) : Calls Try.prog 58 #[v, v'] w fun e w' => e = .returned (.bool true) ∧ Ext w w' := by
  obtain ⟨F, h1, h2, h3⟩ := h
  obtain ⟨F', h1', _⟩ := h'
  exact eqCellS_P v v' x F F' w h1 h1' h3.1
theorem MkCells.ext {k : Int} (h : MkCells w v k) (e : Ext w w') : MkCells w' v k := by
  obtain ⟨x, F, h1, h2, h3⟩ := h
  exact ⟨x, F, h1, GoodP.ext goodCells h2 e, h3⟩
theorem MkCells.kb {k : Int} (h : MkCells w v k) : 0 ≤ k ∧ k ≤ 100000000 := by
  obtain ⟨x, F, rfl, h2, h3⟩ := h
  have := h3.2
  omega
theorem markCells_R (h : RepCells w b N v x) : Calls Try.prog 59 #[v, .int .i64 1] w fun e w' => ∃ km, e = .returned (.int .i64 km) ∧ MkCells w' v km ∧ Mid b N w w' := by
  obtain ⟨F, h1, h2, h3⟩ := h
  refine (markCellS_P v x F 1 w h1 h3.1 (by omega) (by have := h3.2; omega)).mono ?_
  rintro e w' ⟨rfl, o, m⟩
  exact ⟨_, rfl, ⟨x, F, rfl, o, h3⟩, m.mid h2⟩
theorem heldCells_R {km : Int} (h : MkCells w v km) : Calls Try.prog 60 #[v, .int .i64 1] w fun e w' => e = .returned (.int .i64 km) ∧ Ext w w' := by
  obtain ⟨x, F, rfl, h2, h3⟩ := h
  exact heldCellS_P v x F 1 w h2 h3.1 (by omega) (by have := h3.2; omega)
end
end Go.Proofs.Ytpomcoegpjehgaa

