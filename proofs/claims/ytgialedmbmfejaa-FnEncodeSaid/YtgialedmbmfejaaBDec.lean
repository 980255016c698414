/- Bundle: the reading of a bitstream. -/
import Derived.Test.YtgialedmbmfejaaBEnc
import Derived.Laws.BytesArg
import Derived.Test.YtgialedmbmfejaaMidB
import Derived.Test.YtgialedmbmfejaaBKf
import Derived.Lib.Bytes
namespace Go.Proofs.Ytgialedmbmfejaa
open Go.RowKit
set_option maxRecDepth 100000
set_option linter.unusedVariables false
set_option linter.unusedSimpArgs false
/-- n bytes, from number p on; 0 where there is none. -/
def getN (bs : List Int) (p n : Nat) : List Int := (List.range n).map fun i => bs.getD (p + i) 0
theorem getN_succ (bs : List Int) (p n : Nat) : getN bs p (n + 1) = getN bs p n ++ [bs.getD (p + n) 0] := by simp [getN, List.range_succ]
theorem getN_len (bs : List Int) (p n : Nat) : (getN bs p n).length = n := by simp [getN]
def pT (bs : List Int) (p : Nat) : Tile := ⟨bs.getD p 0, getN bs (p + 1) 3, bs.getD (p + 4) 0 == 1, getN bs (p + 5) 8⟩
def pP (bs : List Int) (p : Nat) : Int × Bool := (bs.getD p 0, bs.getD (p + 1) 0 == 1)
def pTs (bs : List Int) (n : Nat) : List Tile := (List.range n).map fun i => pT bs (13 * i)
def pPs (bs : List Int) (n : Nat) : List (Int × Bool) := (List.range n).map fun o => pP bs (325 + 2 * o)
theorem pTs_succ (bs : List Int) (n : Nat) : pTs bs (n + 1) = pTs bs n ++ [pT bs (13 * n)] := by simp [pTs, List.range_succ]
theorem pPs_succ (bs : List Int) (n : Nat) : pPs bs (n + 1) = pPs bs n ++ [pP bs (325 + 2 * n)] := by simp [pPs, List.range_succ]
theorem pTs_len (bs : List Int) (n : Nat) : (pTs bs n).length = n := by simp [pTs]
theorem pPs_len (bs : List Int) (n : Nat) : (pPs bs n).length = n := by simp [pPs]
def pK (bs : List Int) : Conf := ⟨pTs bs 25, pPs bs 3⟩
def conf0 : Conf := ⟨[], []⟩
/-- Does the bitstream decode? -/
noncomputable def decB (bs : List Int) : Bool := encV (pK bs) == bs && bs.length == 333
noncomputable def decV (bs : List Int) : Conf := if decB bs then pK bs else conf0
theorem encV_len (k : Conf) : (encV k).length = 0 ∨ (encV k).length = 333 := by
 by_cases h : confB k = true
 ·right
  have e : encV k = bodyV k ++ [sumV (bodyV k) / 256, sumV (bodyV k) % 256] := by unfold encV; rw [if_pos h]
  have := (confB_iff.1 h).body.2
  rw [e]; simp; omega
 ·left
  have e : encV k = [] := by unfold encV; rw [if_neg h]
  rw [e]; rfl
theorem encV_all (k : Conf) : AllB (encV k) := by
 by_cases h : confB k = true
 ·have e : encV k = bodyV k ++ [sumV (bodyV k) / 256, sumV (bodyV k) % 256] := by unfold encV; rw [if_pos h]
  have h1 := (confB_iff.1 h).body.1
  obtain ⟨s0, s1⟩ := sumV_lt (bodyV k)
  rw [e]
  exact h1.app (.cons (by omega) (by omega) (.cons (by omega) (by omega) .nil))
 ·have e : encV k = [] := by unfold encV; rw [if_neg h]
  rw [e]; exact .nil
theorem confAt_pK_lens (bs : List Int) : ∀ j, j < (pK bs).ts.length → ((pK bs).ts.getD j tile0).sl.length ≤ 1048576 ∧ ((pK bs).ts.getD j tile0).dr.length ≤ 1048576 := by
 intro j hj
 have hj2 : j < 25 := by rw [show (pK bs).ts = pTs bs 25 from rfl, pTs_len] at hj; exact hj
 have e : (pK bs).ts.getD j tile0 = pT bs (13 * j) := by
  show (pTs bs 25).getD j tile0 = _
  simp [pTs, List.getD_eq_getElem?_getD, hj2]
 rw [e]
 simp [pT, getN_len]
/-- The program's test says the same. -/
theorem dec_test (bs : List Int) : (decide (331 ≤ bs.length) && encV (pK bs) == bs) = decB bs := by
 unfold decB
 rcases encV_len (pK bs) with h | h
 ·by_cases e : encV (pK bs) = bs
  ·rw [e] at h
   have h1 : decide (331 ≤ bs.length) = false := by simp; omega
   have h2 : (bs.length == 333) = false := by simp; omega
   rw [h1, h2, Bool.and_false, Bool.false_and]
  ·have : (encV (pK bs) == bs) = false := by simpa using e
   rw [this, Bool.and_false, Bool.false_and]
 ·by_cases e : encV (pK bs) = bs
  ·rw [e] at h
   have h1 : decide (331 ≤ bs.length) = true := by simp; omega
   have h2 : (bs.length == 333) = true := by simp; omega
   rw [h1, h2, Bool.and_true, Bool.true_and]
  ·have : (encV (pK bs) == bs) = false := by simpa using e
   rw [this, Bool.and_false, Bool.false_and]
theorem strOf_inj : ∀ {xs ys : List Int}, AllB xs → AllB ys → strOfNums xs = strOfNums ys → xs = ys := by
 intro xs ys hx hy h
 have h1 : xs.map (fun n => UInt8.ofNat n.toNat) = ys.map (fun n => UInt8.ofNat n.toNat) := by
  have := congrArg (fun s : ByteArray => s.data.toList) h
  simpa [strOfNums_data] using this
 clear h
 induction xs generalizing ys with
 | nil => cases ys with
  | nil => rfl
  | cons y ys => simp at h1
 | cons x xs ih => cases ys with
  | nil => simp at h1
  | cons y ys =>
   simp only [List.map_cons, List.cons.injEq] at h1
   have a := hx x (by simp)
   have b := hy y (by simp)
   have e1 := congrArg UInt8.toNat h1.1
   have a1 := a.1; have a2 := a.2; have b1 := b.1; have b2 := b.2
   have hx2 : (UInt8.ofNat x.toNat).toNat = x.toNat := by simp [UInt8.toNat_ofNat']; omega
   have hy2 : (UInt8.ofNat y.toNat).toNat = y.toNat := by simp [UInt8.toNat_ofNat']; omega
   rw [hx2, hy2] at e1
   have e2 : x = y := by omega
   rw [e2, ih (fun z hz => hx z (by simp [hz])) (fun z hz => hy z (by simp [hz])) h1.2]
theorem byteArr_beq (x y : ByteArray) : (x == y) = decide (x = y) := by
 obtain ⟨a⟩ := x
 obtain ⟨b⟩ := y
 show (a == b) = _
 by_cases h : a = b
 ·subst h; simp
 ·have : ¬ (ByteArray.mk a = ByteArray.mk b) := fun e => h (ByteArray.mk.inj e)
  simp [h, this]
theorem str_beq {xs ys : List Int} (hx : AllB xs) (hy : AllB ys) : (strOfNums xs == strOfNums ys) = (xs == ys) := by
 rw [byteArr_beq]
 by_cases h : xs = ys
 ·subst h; simp
 ·have h2 : strOfNums xs ≠ strOfNums ys := fun e => h (strOf_inj hx hy e)
  have e2 : (xs == ys) = false := by simpa using h
  rw [e2]; simpa using h2
theorem conv_byt {w : World} {a : Option Addr} {n c : Nat} {xs : List Int} (h : BytAt w a xs) (hx : xs.length = n) : (convert 22 9 (.slice a n c)).run Try.prog w = .ok (.string (strOfNums xs)) w := by
 rcases h with rfl | ⟨b, o, rfl, hb, hc⟩
 ·obtain rfl : n = 0 := by simpa using hx.symm
  rw [run_convert_bytes_string w 22 9 5 a 0 c Try.underlying22 Try.underlying5 Try.underlying9]
  cases a with
  | none => simp [Conv.bytesToString]; rfl
  | some x =>
   rw [run_bytesToString w x 0 c [] (by simp [loadCells, loadCellsFrom])]
   rfl
 ·exact run_convert_bytes_arg w 22 5 Try.underlying22 Try.underlying5 b o n c xs hx (fun i hi => hc i (by omega)) 9 Try.underlying9
end Go.Proofs.Ytgialedmbmfejaa

namespace Go.Proofs.Ytgialedmbmfejaa
open Go.RowKit
set_option maxRecDepth 100000
set_option linter.unusedVariables false
set_option linter.unusedSimpArgs false
/-- Block rb holds a reader of bs that has come to number p. -/
def RdS (w : World) (rb : Nat) (bs : List Int) (p : Nat) (bad : Bool) : Prop := ∃ a n c, Blk w rb 109 [.slice a n c, .bool bad] ∧ n = bs.length - p ∧ n ≤ c ∧ c ≤ maxLen ∧ BytAt w a (bs.drop p) ∧ ∀ x, a = some x → n ≠ 0 → x.block < rb
theorem drop_cons {bs : List Int} {p : Nat} (h : p < bs.length) : bs.drop p = bs.getD p 0 :: bs.drop (p + 1) := by
 rw [List.drop_eq_getElem_cons h, List.getD_eq_getElem?_getD, List.getElem?_eq_getElem h]; rfl
/-- s[l:] of a slice that starts anywhere: at the end of the capacity the address stays. -/
theorem run_fromO {P : Program} {t e : TypeId} {sz : Nat} (ht : P.underlying t = some (.slice e)) (hsz : (P.info? e).map (·.size) = some sz) (B O n cap : Nat) (l : Int) (h0 : 0 ≤ l) (h1 : l ≤ n) :
  ∃ o, (l < cap → o = O + l.toNat * sz) ∧ ∀ w, (Instr.sliceAt t (.slice (some ⟨B, O, none⟩) n cap) (some (.int .i64 l)) none none).run P w = .ok (.slice (some ⟨B, o, none⟩) (n - l.toNat) (cap - l.toNat)) w := by
 have he := elem_of ht
 have ht' : P.underlying t = some (.slice (P.elem t)) := by rw [he]; exact ht
 have hadd : (⟨B, O, none⟩ : Addr).add (l.toNat * sz) = ⟨B, O + l.toNat * sz, none⟩ := by unfold Addr.add; split <;> simp_all
 refine ⟨if cap = l.toNat then O else O + l.toNat * sz, fun h => by rw [if_neg (by omega)], fun w => ?_⟩
 rw [run_sliceAt_slice w t _ _ _ _ ht', run_slice_l w t _ n cap ht' .i64 l h0 h1, he, run_size hsz]
 simp only [Result.andThen_ok, sliced, Option.map_some, hadd]
 split <;> rfl
theorem next_c (w : World) (rb : Nat) (bs : List Int) (p : Nat) (bad : Bool) (hb : AllB bs) (hl : bs.length ≤ 1048576) (h : RdS w rb bs p bad) :
  Calls Try.prog 77 #[.pointer (some ⟨rb, 0, none⟩)] w fun e w' => e = .returned (.int .i64 (bs.getD p 0)) ∧ RdS w' rb bs (p + 1) (bad || decide (bs.length ≤ p)) ∧ w.grownBy w' (some rb) := by
 obtain ⟨a, n, c, y, hn, hnc, hcm, hB, hlt⟩ := h
 have y0 := y.cell (i := 0) rfl
 have y1 := y.cell (i := 1) rfl
 have yl := y.lt
 have fz := fun i => y.frozen i
 by_cases hp : p < bs.length
 ·have hd := drop_cons hp
  have hn0 : 0 < n := by omega
  have hbd : (bad || decide (bs.length ≤ p)) = bad := by rw [decide_eq_false (by omega), Bool.or_false]
  rw [hbd]
  have hx := hb.get p hp
  obtain ⟨b, o, rfl, hbl, hc⟩ := hB.get (by rw [List.length_drop]; omega)
  have q := hc 0 (by rw [List.length_drop]; omega)
  have e0 : (bs.drop p).getD 0 0 = bs.getD p 0 := by rw [hd]; rfl
  rw [e0] at q
  have hbr := hlt _ rfl (by omega)
  obtain ⟨x, hxx⟩ : ∃ x, x = bs.getD p 0 := ⟨_, rfl⟩
  rw [← hxx] at q hx ⊢
  have hw : IntKind.i64.wrap x = x := by simp [IntKind.wrap, IntKind.bits, IntKind.signed, IntKind.min, IntKind.max]; omega
  have hni : ((n : Int) == 0) = false := by simp; omega
  have hn1 : (1 : Int) ≤ (n : Int) := by omega
  dsimp only at hbr
  have HC := Lib.hid hc
  have HY := Lib.hid y
  have HN := Lib.hid hn
  rw [Nat.add_zero] at q
  obtain ⟨o', ho', hsl⟩ := run_fromO (P := Try.prog) (t := 22) (e := 5) (sz := 1) Try.underlying22 (by kernel_rfl) b o n c 1 (by omega) hn1
  have HO := Lib.hid ho'
  have HXX := Lib.hid hd
  clear hc e0 hbd hxx y hn hB hlt ho' hd
  go_enter Try.func77, Try.ntmps77
  go_wp2
  go_ret
  refine ⟨rfl, ⟨some ⟨b, o', none⟩, n - 1, c - 1, HY.out.set 0 _, by have := HN.out; omega, by omega, by omega, ?_, fun x hx h0 => by cases hx; exact hbr⟩, gr_setOwn (Gr.refl _ _) _ _⟩
  by_cases hlast : bs.drop (p + 1) = []
  ·exact .inl hlast
  ·have hl2 : 0 < (bs.drop (p + 1)).length := by
    cases hq : bs.drop (p + 1) with
    | nil => exact absurd hq hlast
    | cons z zs => simp
   have e1 : o' = o + 1 := by
    have := HO.out (by have := HN.out; rw [List.length_drop] at hl2; omega)
    simpa using this
   refine .inr ⟨b, o', rfl, by simpa using hbl, fun j hj => ?_⟩
   have h1 := HC.out (j + 1) (by rw [HXX.out, List.length_cons]; omega)
   rw [HXX.out] at h1
   rw [World.cell?_of_block (a := ⟨b, o' + j, none⟩) (heap_setCell_other w ⟨rb, 0, none⟩ b _ (by simp; omega)), e1, show o + 1 + j = o + (j + 1) from by omega]
   simpa using h1
 ·have hd : bs.getD p 0 = 0 := by rw [List.getD_eq_getElem?_getD, List.getElem?_eq_none (by omega)]; rfl
  have hn0 : n = 0 := by omega
  subst hn0
  have HN := Lib.hid hn
  clear hn
  have hbd : (bad || decide (bs.length ≤ p)) = true := by rw [decide_eq_true (by omega), Bool.or_true]
  rw [hd, hbd]
  clear hd hbd
  go_enter Try.func77, Try.ntmps77
  go_wp2
  go_ret
  refine ⟨rfl, ⟨a, 0, c, y.set 1 _, by have := HN.out; omega, hnc, hcm, ?_, fun x hx h0 => absurd rfl h0⟩, gr_setOwn (Gr.refl _ _) _ _⟩
  left
  exact List.drop_of_length_le (by omega)
end Go.Proofs.Ytgialedmbmfejaa

namespace Go.Proofs.Ytgialedmbmfejaa
open Go.RowKit
set_option maxRecDepth 100000
set_option linter.unusedVariables false
set_option linter.unusedSimpArgs false
def RdP (w : World) (rb : Nat) (bs : List Int) (p : Nat) : Prop := RdS w rb bs p (decide (bs.length < p))
theorem rdp_bad (l p : Nat) : (decide (l < p) || decide (l ≤ p)) = decide (l < p + 1) := by
 by_cases h : l ≤ p
 ·rw [decide_eq_true h, Bool.or_true, decide_eq_true (by omega)]
 ·rw [decide_eq_false h, decide_eq_false (by omega), decide_eq_false (by omega)]; rfl
theorem next_p (w : World) (rb : Nat) (bs : List Int) (p : Nat) (hb : AllB bs) (hl : bs.length ≤ 1048576) (h : RdP w rb bs p) :
  Calls Try.prog 77 #[.pointer (some ⟨rb, 0, none⟩)] w fun e w' => e = .returned (.int .i64 (bs.getD p 0)) ∧ RdP w' rb bs (p + 1) ∧ w.grownBy w' (some rb) := by
 have := next_c w rb bs p _ hb hl h
 rw [rdp_bad] at this
 exact this
theorem BytAt.kept {w w' : World} {a : Option Addr} {xs : List Int} {r : Option Nat} (h : BytAt w a xs) (hg : w.grownBy w' r) (hr : ∀ x, a = some x → 0 < xs.length → r ≠ some x.block) : BytAt w' a xs := by
 rcases h with rfl | ⟨b, o, rfl, hb, hc⟩
 ·exact .inl rfl
 ·by_cases h0 : xs = []
  ·exact .inl h0
  ·have h1 : 0 < xs.length := List.length_pos_iff.2 h0
   refine .inr ⟨b, o, rfl, Nat.lt_of_lt_of_le hb hg.size, fun j hj => ?_⟩
   rw [World.cell?_of_block (a := ⟨b, o + j, none⟩) (hg.block b hb (fun e => hr _ rfl h1 e.symm))]
   exact hc j hj
theorem RdP.gr {w w' : World} {rb : Nat} {bs : List Int} {p : Nat} {r : Option Nat} (h : RdP w rb bs p) (hg : w.grownBy w' r) (hr : ∀ k, r = some k → rb < k) : RdP w' rb bs p := by
 obtain ⟨a, n, c, y, hn, hnc, hcm, hB, hlt⟩ := h
 refine ⟨a, n, c, y.gr hg (fun e => by have := hr _ e; omega), hn, hnc, hcm, hB.kept hg (fun x hx h0 e => ?_), hlt⟩
 have h1 := hlt x hx (by rw [List.length_drop] at h0; omega)
 have h2 := hr _ e
 omega
theorem RdP.lt {w : World} {rb : Nat} {bs : List Int} {p : Nat} (h : RdP w rb bs p) : rb < w.heap.size := by
 obtain ⟨a, n, c, y, _⟩ := h
 exact y.lt
theorem makeN (n : Nat) (hn : n ≤ 1048576) (w : World) : (Instr.makeSlice 23 (.int .i64 0) (.int .i64 (n : Int))).run Try.prog w = .ok (.slice (some ⟨w.heap.size, 0, none⟩) 0 n) (w.alloc (.cells (zeros [.int .i64 0] n).toArray 3)) := by
 obtain ⟨i, hi, hzz⟩ := Option.map_eq_some_iff.1 intInfo2
 simp only [Prod.mk.injEq] at hzz
 obtain ⟨hiz, hs, hbb⟩ := hzz
 have hbi2 : (i.bytes : Int) * (n : Int) ≤ 281474976710656 := by
  rw [hbb]; omega
 have h := run_make (P := Try.prog) w 23 3 i (.int .i64 0) Try.underlying23 hi hiz .i64 .i64 0 n (by omega) (by omega) hbi2 (by omega)
 simp only [Int.toNat_natCast] at h
 have e : n * i.size = n * [Value.int .i64 0].length := by rw [hs]; rfl
 have hz : (Value.int .i64 0).cells = [Value.int .i64 0].toArray := rfl
 rw [h, hz, e, zeros, ← made_flat [Value.int .i64 0] (by decide) n]
 rfl
theorem madeN (n : Nat) (hn : n ≤ 1048576) (w : World) : OwnInts (w.alloc (.cells (zeros [.int .i64 0] n).toArray 3)) w.heap.size 3 (.slice (some ⟨w.heap.size, 0, none⟩) 0 n) [] := by
 refine ⟨rfl, .inr ⟨w.heap.size, n, (zeros [.int .i64 0] n).toArray, rfl, Nat.le_refl _, heap_alloc_new w _, Nat.zero_le _, ?_, ?_, ?_⟩⟩
 ·unfold maxLen; omega
 ·simp [zeros]
 ·simp
set_option maxHeartbeats 1000000 in
theorem many_c (w : World) (rb : Nat) (bs : List Int) (p n : Nat) (hb : AllB bs) (hl : bs.length ≤ 1048576) (hn : n ≤ 1048576) (h : RdP w rb bs p) :
  Calls Try.prog 78 #[.pointer (some ⟨rb, 0, none⟩), .int .i64 (n : Int)] w fun e w' => ∃ v, e = .returned v ∧ OwnInts w' w.heap.size 3 v (getN bs p n) ∧ RdP w' rb bs (p + n) ∧ w.grownBy w' (some rb) := by
 have hmk := makeN n hn w
 have O0 := madeN n hn w
 have A0 := (Ext.refl w).alloc (.cells (zeros [.int .i64 0] n).toArray 3)
 have R0 := h.gr (Gr.ext A0 none) (fun k hk => by cases hk)
 have hrb := h.lt
 go_enter Try.func78, Try.ntmps78
 go_wp2_with fail
 go_loopw [5, 9] (fun u5 u9 wr => ∃ j : Nat, j ≤ n ∧ u9 = .int .i64 j ∧ OwnInts wr w.heap.size 3 u5 (getN bs p j) ∧ RdP wr rb bs (p + j) ∧ w.grownBy wr (some rb)) (fun _ i _ => n - (intOf i).toNat)
 case atStart => exact ⟨0, Nat.zero_le _, rfl, O0, R0, Gr.ext A0 _⟩
 case round =>
  obtain ⟨j, hj, rfl, hO, hR, hG⟩ := hrel
  clear hmk O0 R0 A0 h
  by_cases hlt : j < n
  ·have T := Lib.hid (next_p wr rb bs (p + j) hb hl hR)
   have HG := Lib.hid hG
   have HL := getN_len bs p j
   have HS := Lib.hid (getN_succ bs p j)
   have hz := hG.size
   have HU : Hid (∀ k, u5.ownBlock = some k → w.heap.size ≤ k) := Lib.hid (fun k hk => (World.ownsRow.lt hO k hk).1)
   obtain ⟨xs, hxs⟩ : ∃ xs, xs = getN bs p j := ⟨_, rfl⟩
   obtain ⟨x, hx⟩ : ∃ x, x = bs.getD (p + j) 0 := ⟨_, rfl⟩
   rw [← hxs] at hO HL HS
   rw [← hx] at T HS
   clear hxs hx
   have HL := Lib.hid HL
   clear hR hG
   go_wp2_with fail
   refine (T.out).mono ?_
   rintro e w1 ⟨rfl, hR1, hG1⟩
   have hO1 : OwnInts w1 w.heap.size 3 u5 xs := ownsRow_gr hO hG1 (by cases hu : u5.ownBlock with | none => exact .inl rfl | some q => exact .inr (fun e => by have := (World.ownsRow.lt hO q hu).1; have e2 := Option.some.inj e; omega))
   have A := (Ext.refl w1).alloc (.cells #[.int .i64 x] 3)
   have hO2 := ownsRow_ext hO1 A
   have hz1 := hG1.size
   go_wp2_with (at_builtin; go_loud (refine wpList_app tyInts hO2 (RowAt.new w1 #[.int .i64 x] _) rfl (oneCell_int1 _) (by have := HL.out; omega) (by simp; omega) rfl rfl rfl rfl ?_); intro v8 w8 o8 g8 m8)
   have HO8 := Lib.hid o8
   have HG8 := Lib.hid g8
   have HR1 := Lib.hid hR1
   clear o8 g8 m8 hO hO1 hO2 hR1
   go_wp2
   go_roundw
   case rel =>
    have G1 := Gr.alloc (Gr.trans HG.out hG1) (.cells #[.int .i64 x] 3)
    refine ⟨j + 1, by omega, by go_num, ?_, ?_, ?_⟩
    ·rw [HS.out]
     unfold OwnInts
     rw [List.length_append, List.map_append]
     exact HO8.out
    ·exact (RdP.gr (HR1.out) (Gr.ext A none) (fun k hk => by cases hk)).gr HG8.out (fun k hk => by have := HU.out k hk; omega)
    ·exact Gr.row G1 HG8.out HU.out
   case measure => simp [intOf]; omega
  ·have hk2 : j = n := by omega
   subst hk2
   have HO := Lib.hid hO
   have HR := Lib.hid hR
   have HG := Lib.hid hG
   clear hO hR hG
   go_wp2
   go_ret
   exact ⟨_, rfl, HO.out, HR.out, HG.out⟩
theorem flagR_c (w : World) (rb : Nat) (bs : List Int) (p : Nat) (hb : AllB bs) (hl : bs.length ≤ 1048576) (h : RdP w rb bs p) :
  Calls Try.prog 79 #[.pointer (some ⟨rb, 0, none⟩)] w fun e w' => e = .returned (.bool (bs.getD p 0 == 1)) ∧ RdP w' rb bs (p + 1) ∧ w.grownBy w' (some rb) := by
 have T := Lib.hid (next_p w rb bs p hb hl h)
 obtain ⟨x, hx⟩ : ∃ x, x = bs.getD p 0 := ⟨_, rfl⟩
 rw [← hx] at T ⊢
 clear hx h
 go_enter Try.func79, Try.ntmps79
 go_wp2_with fail
 refine (T.out).mono ?_
 rintro e w1 ⟨rfl, hR1, hG1⟩
 cases h1 : (x == 1)
 ·go_wp2
  go_ret
  exact ⟨by rw [h1]; rfl, hR1, hG1⟩
 ·go_wp2
  go_ret
  exact ⟨by rw [h1]; rfl, hR1, hG1⟩
theorem equal_c {w : World} {a a' : Option Addr} {n c n' c' : Nat} {xs ys : List Int} (h : BytAt w a xs) (hx : xs.length = n) (h' : BytAt w a' ys) (hy : ys.length = n') (ax : AllB xs) (ay : AllB ys) :
  Calls Try.prog 80 #[.slice a n c, .slice a' n' c'] w fun e w' => e = .returned (.bool (xs == ys)) ∧ w' = w := by
 have c1 := conv_byt (c := c) h hx
 have c2 := conv_byt (c := c') h' hy
 have hs : ((strOfNums xs).toList == (strOfNums ys).toList) = (xs == ys) := by
  rw [Lib.strOfNums_toList, Lib.strOfNums_toList, ← str_beq ax ay, byteArr_beq]
  by_cases h : strOfNums xs = strOfNums ys
  ·have h2 : Lib.bytesOf xs = Lib.bytesOf ys := by rw [← Lib.strOfNums_toList, ← Lib.strOfNums_toList, h]
   rw [h2]; simp [h]
  ·have h2 : Lib.bytesOf xs ≠ Lib.bytesOf ys := fun e => h (congrArg (fun l : List UInt8 => (⟨l.toArray⟩ : ByteArray)) (show (strOfNums xs).data.toList = (strOfNums ys).data.toList from e))
   rw [decide_eq_false h]; simpa using h2
 rw [← hs]
 clear hs
 go_enter Try.func80, Try.ntmps80
 go_wp2
 go_ret
 exact ⟨rfl, rfl⟩
end Go.Proofs.Ytgialedmbmfejaa

namespace Go.Proofs.Ytgialedmbmfejaa
open Go.RowKit
set_option maxRecDepth 100000
set_option linter.unusedVariables false
set_option linter.unusedSimpArgs false
theorem ext_gr {w w1 w' : World} {R : Nat} (h : Ext w w1) (hg : w1.grownBy w' (some R)) (hR : w.heap.size ≤ R) : Ext w w' := ext_grown (v := .slice (some ⟨R, 0, none⟩) 0 0) h hg (fun k hk => by have e : R = k := Option.some.inj hk; omega)
theorem own_gr {w w' : World} {base R : Nat} {e : TypeId} {size : Nat} {v : Value} {n : Nat} {xs : List Value} (h : w.ownsRow base e size v n xs) (hg : w.grownBy w' (some R)) (hR : R < base) : w'.ownsRow base e size v n xs :=
 ownsRow_gr h hg (off_rowI (u := v) (v := .slice (some ⟨R, 0, none⟩) 0 0) (fun k hk e => by have := (World.ownsRow.lt h k hk).1; have e2 : R = k := Option.some.inj e; omega))
theorem OwnK.grown {w w' : World} {base R : Nat} {tv pv : Value} {us : List Value} {K : Conf} (h : OwnK w base tv pv us K) (hg : w.grownBy w' (some R)) (hR : R < base) : OwnK w' base tv pv us K :=
 { h with
  ts := { h.ts with row := own_gr h.ts.row hg hR, els := h.ts.els.gr (v := .slice (some ⟨R, 0, none⟩) 0 0) hg (fun j k hj hk e => by have := (h.ts.els.lt hj hk).1; have e2 : R = k := Option.some.inj e; omega) }
  ps := own_gr h.ps hg hR }
theorem OwnK.appTile3 {w0 w w' : World} {base : Nat} {tv pv v' u1 u2 : Value} {us : List Value} {K : Conf} {x : Tile} (h0 : OwnK w0 base tv pv us K) (h : OwnK w base tv pv us K) (hsz : w0.heap.size ≤ w.heap.size) (hrow : w'.ownsRow base 61 4 v' (K.ts.length + 1) (cellsT K.ts us ++ [.int .i64 x.tb, u1, .bool x.rg, u2])) (hg : w.grownBy w' tv.ownBlock) (hm : RowMoved w tv v')
  (o1 : OwnInts w base 3 u1 x.sl) (o2 : OwnInts w base 3 u2 x.dr) (n1 : ∀ q, u1.ownBlock = some q → w0.heap.size ≤ q) (n2 : ∀ q, u2.ownBlock = some q → w0.heap.size ≤ q) (n12 : ∀ q, u1.ownBlock = some q → u2.ownBlock ≠ some q) :
  OwnK w' base v' pv (us ++ [u1, u2]) { K with ts := K.ts ++ [x] } := by
 have hv : ∀ q, tv.ownBlock = some q → q < w0.heap.size := fun q hq => (World.ownsRow.lt h0.ts.row q hq).2
 have hu : ∀ j q, j < 2 * K.ts.length → (us.getD j vnil).ownBlock = some q → q < w0.heap.size := fun j q hj hq => (h0.ts.els.lt (by rw [flT_length]; exact hj) hq).2
 have hp : ∀ q, pv.ownBlock = some q → q < w0.heap.size := fun q hq => (World.ownsRow.lt h0.ps q hq).2
 have hul := h.ts.ul
 refine ⟨h.ts.app2 hrow hg hm o1 o2 hv hu n1 n2 n12, ownsRow_gr h.ps hg (off_rowI (fun q hq e => (h.op q hq).1 e)), fun q hq => ⟨fun e5 => ?_, fun j hj hk => ?_⟩⟩
 ·rcases hm with e6 | ⟨r, e6, hr⟩
  ·rw [e6] at e5; exact (h.op q hq).1 e5
  ·rw [e6] at e5
   have := hp q hq
   have : r = q := Option.some.inj e5
   omega
 ·have hq2 := hp q hq
  have hj2 : j < 2 * (K.ts ++ [x]).length := hj
  rw [List.length_append] at hj2
  simp only [List.length_cons, List.length_nil] at hj2
  have e4 : us ++ [u1, u2] = (us ++ [u1]) ++ [u2] := by simp
  rw [e4, getD_app _ _ _ _ (by rw [List.length_append]; simp; omega)] at hk
  split at hk
  ·have := n2 q hk; omega
  ·rename_i hne
   rw [List.length_append] at hne
   simp only [List.length_cons, List.length_nil] at hne
   rw [getD_app _ _ _ _ (by omega)] at hk
   split at hk
   ·have := n1 q hk; omega
   ·exact (h.op q hq).2 j (by omega) hk
/-- A configuration and a flag are given back. -/
def GiveKB (w : World) (k : Conf) (b : Bool) (e : Ending) (w' : World) : Prop := ∃ tv pv us, e = .returned (.tuple #[.agg #[tv, pv], .bool b]) ∧ OwnK w' w.heap.size tv pv us k ∧ Ext w w'
/-- The configuration under way: its box is c, its rows lie from c + 1 on, the result's box is r, the reader's box is r + 1. -/
structure DRel (w : World) (bs : List Int) (p : Nat) (K : Conf) (tv pv : Value) (us : List Value) (wr : World) : Prop where
 b : Blk wr (w.heap.size + 1 + 1) 52 [tv, pv]
 o : OwnK wr (w.heap.size + 1 + 1 + 1) tv pv us K
 r : Blk wr w.heap.size 52 [vnil, vnil]
 d : RdP wr (w.heap.size + 1) bs p
 e : Ext w wr
end Go.Proofs.Ytgialedmbmfejaa

