/- Bundle: the best cuts of both libraries. -/
import Derived.Test.YtgialedmbmfejaaBCut
import Derived.Test.YtgialedmbmfejaaBEv
namespace Go.Proofs.Ytgialedmbmfejaa
set_option linter.unusedVariables false
set_option linter.unusedSimpArgs false
/-- The largest arrival time of a cut's leaves. -/
def maxA (ar cut : List Int) : Int := cut.foldl (fun t l => max t (ar.getD l.toNat 0)) 0
theorem maxA_snoc (ar xs : List Int) (x : Int) : maxA ar (xs ++ [x]) = max (maxA ar xs) (ar.getD x.toNat 0) := by unfold maxA; rw [List.foldl_append]; rfl
theorem maxA_ok {ar : List Int} {m : Int} (h : LvOk ar m) (hm : 0 ≤ m) (cut : List Int) : 0 ≤ maxA ar cut ∧ maxA ar cut ≤ m := by
 unfold maxA
 refine foldl_inv (p := fun t => 0 ≤ t ∧ t ≤ m) (fun t l ht => ?_) cut 0 ⟨Int.le_refl _, hm⟩
 have := h.get hm l.toNat
 omega
theorem maxA_congr {ar bs : List Int} (h : ∀ i : Nat, ar.getD i 0 = bs.getD i 0) (cut : List Int) : maxA ar cut = maxA bs cut := by
 unfold maxA
 congr 1
 funext t l
 rw [h]
/-- The better of two cuts: the earlier one stays unless the other is better. -/
def betterB (ar c b : List Int) : Bool := decide (maxA ar c < maxA ar b) || (decide (maxA ar c = maxA ar b) && decide (c.length < b.length))
def pickB (ar b c : List Int) : List Int := if betterB ar c b then c else b
def bestOf (ar : List Int) : List (List Int) → List Int
 | [] => []
 | x :: xs => xs.foldl (pickB ar) x
theorem bestOf_snoc (ar : List Int) (xs : List (List Int)) (y : List Int) (h : xs ≠ []) : bestOf ar (xs ++ [y]) = pickB ar (bestOf ar xs) y := by
 cases xs with
 | nil => exact absurd rfl h
 | cons x xs => simp [bestOf]
theorem pickB_mem {ar b c : List Int} {L : List (List Int)} (hb : b ∈ L) (hc : c ∈ L) : pickB ar b c ∈ L := by unfold pickB; split <;> assumption
theorem bestOf_mem (ar : List Int) (xs : List (List Int)) (h : xs ≠ []) : bestOf ar xs ∈ xs := by
 cases xs with
 | nil => exact absurd rfl h
 | cons x xs => exact foldl_inv_mem (p := fun b => b ∈ x :: xs) xs (fun b a ha hb => pickB_mem hb (List.mem_cons_of_mem _ ha)) x (by simp)
def bestStep (s : List (List Int) × List Int) (L : List (List Int)) : List (List Int) × List Int := (s.1 ++ [bestOf s.2 L.dropLast], s.2 ++ [1 + maxA s.2 (bestOf s.2 L.dropLast)])
def bestK (all : List (List (List Int))) (f k : Nat) : List (List Int) × List Int := ((all.drop f).take k).foldl bestStep (List.replicate f [], List.replicate f 0)
theorem bestK_zero (all : List (List (List Int))) (f : Nat) : bestK all f 0 = (List.replicate f [], List.replicate f 0) := by simp [bestK]
theorem bestK_succ (all : List (List (List Int))) (f k : Nat) (h : f + k < all.length) : bestK all f (k + 1) = bestStep (bestK all f k) (all.getD (f + k) []) := by
 unfold bestK
 rw [foldl_snocD bestStep (all.drop f) k [] _ (by rw [List.length_drop]; omega)]
 congr 1
 rw [List.getD_eq_getElem?_getD, List.getD_eq_getElem?_getD, List.getElem?_drop]
theorem bestK_len (all : List (List (List Int))) (f k : Nat) (h : f + k ≤ all.length) : (bestK all f k).1.length = f + k ∧ (bestK all f k).2.length = f + k := by
 induction k with
 | zero => rw [bestK_zero]; simp
 | succ k ih =>
  rw [bestK_succ all f k (by omega)]
  have := ih (by omega)
  simp [bestStep, this]; omega
theorem lvOk_snoc {ar : List Int} {m x : Int} (h : LvOk ar m) (h0 : 0 ≤ x) (h1 : x ≤ m + 1) : LvOk (ar ++ [x]) (m + 1) := by
 intro y hy
 rcases List.mem_append.1 hy with h2 | h2
 ·have := h y h2; omega
 ·simp at h2; omega
theorem bestK_ok (all : List (List (List Int))) (f k : Nat) (h : f + k ≤ all.length) : LvOk (bestK all f k).2 k := by
 induction k with
 | zero => rw [bestK_zero]; intro x hx; have := List.eq_of_mem_replicate hx; omega
 | succ k ih =>
  rw [bestK_succ all f k (by omega)]
  have h1 := ih (by omega)
  have := maxA_ok h1 (by omega) (bestOf (bestK all f k).2 (all.getD (f + k) []).dropLast)
  exact lvOk_snoc h1 (by omega) (by omega)
/-- The best cuts and the arrival times of a circuit. -/
def bestN (c : Circ) : List (List Int) × List Int := bestK (cutsN c) c.first.toNat c.gates.length
noncomputable def mdepthV (c : Circ) : Int := if validB c then topOf (bestN c).2 (c.next ++ c.outs) else -1
theorem dropLast_snoc {α : Type} (xs : List α) (x : α) : (xs ++ [x]).dropLast = xs := by simp
end Go.Proofs.Ytgialedmbmfejaa

namespace Go.Proofs.Ytgialedmbmfejaa
open Go.RowKit
set_option maxRecDepth 100000
set_option linter.unusedVariables false
set_option linter.unusedSimpArgs false
theorem l5Arrive_c (a b : Option Addr) (ca cb : Nat) (ar cut : List Int) (m : Nat) (w : World) (hx : IntsAt w a ar) (hy : IntsAt w b cut) (hok : LvOk ar m) (hm : m ≤ 1000) (lx : ar.length ≤ 1000) (ly : cut.length ≤ 1000) (hc : ∀ z ∈ cut, 0 ≤ z ∧ z < ar.length) :
  Calls Try.prog 143 #[.slice a ar.length ca, .slice b cut.length cb] w fun e w' => e = .returned (.int .i64 (maxA ar cut)) ∧ Ext w w' := by
 have HOK := Lib.hid (fun xs => maxA_ok hok (by omega) xs)
 have HGT := Lib.hid (fun i => hok.get (by omega) i)
 have HC := Lib.hid hc
 clear hc hok
 go_enter Try.func143, Try.ntmps143
 go_wp2_with fail
 go_loopw [5, 6] (fun u5 u6 wr => ∃ (k : Nat) (T : Int), k ≤ cut.length ∧ u6 = .int .i64 k ∧ u5 = .int .i64 T ∧ Hid (T = maxA ar (cut.take k)) ∧ Ext w wr) (fun _ i _ => cut.length - (intOf i).toNat)
 case atStart => exact ⟨0, 0, Nat.zero_le _, rfl, rfl, Lib.hid rfl, Ext.refl _⟩
 case round =>
  obtain ⟨k, T, hk, rfl, rfl, HT, hE⟩ := hrel
  by_cases hlt : k < cut.length
  ·have hz := HC.out (cut.getD k 0) (getN_mem hlt)
   obtain ⟨b1, o1, rfl, hb1, hc1⟩ := (hx.ext hE).get (by omega)
   obtain ⟨b2, o2, rfl, hb2, hc2⟩ := (hy.ext hE).get (by omega)
   have q2 := hc2 k hlt
   have hs := maxA_snoc ar (cut.take k) (cut.getD k 0)
   rw [← take_snocD cut k 0 hlt, ← HT.out] at hs
   have hT := HOK.out (cut.take k)
   rw [← HT.out] at hT
   obtain ⟨z, hzz⟩ : ∃ z, z = cut.getD k 0 := ⟨_, rfl⟩
   rw [← hzz] at hz q2 hs
   have q1 := hc1 z.toNat (by omega)
   have hg := HGT.out z.toNat
   obtain ⟨x, hxx⟩ : ∃ x, x = ar.getD z.toNat 0 := ⟨_, rfl⟩
   rw [← hxx] at q1 hg hs
   obtain ⟨hz1, hz2⟩ := hz
   obtain ⟨hT1, hT2⟩ := hT
   obtain ⟨hg1, hg2⟩ := hg
   have HS := Lib.hid hs
   clear hc1 hc2 hzz hxx hs
   by_cases hmx : T < x
   ·go_wp2_with fail
    go_roundw
    case rel => exact ⟨k + 1, x, by omega, by go_num, by first | rfl | (congr 1; omega), Lib.hid (by rw [HS.out]; omega), hE⟩
    case measure => simp [intOf]; omega
   ·go_wp2_with fail
    go_roundw
    case rel => exact ⟨k + 1, T, by omega, by go_num, by first | rfl | (congr 1; omega), Lib.hid (by rw [HS.out]; omega), hE⟩
    case measure => simp [intOf]; omega
  ·have hkk : k = cut.length := by omega
   subst hkk
   have e : maxA ar cut = T := by rw [HT.out, List.take_length]
   have HE := Lib.hid e
   clear e HT
   go_wp2_with fail
   go_ret
   exact ⟨by rw [HE.out]; rfl, hE⟩
theorem moved_offN {w : World} {v v' u : Value} (hm : RowMoved w v v') (hu : ∀ k, u.ownBlock = some k → k < w.heap.size) (hd : ∀ k, u.ownBlock = some k → v.ownBlock ≠ some k) : ∀ k, u.ownBlock = some k → v'.ownBlock ≠ some k := by
 intro k hk e
 rcases hm with h | ⟨q, h, hq⟩
 ·rw [h] at e; exact hd k hk e
 ·rw [h] at e
  have := hu k hk
  have : q = k := Option.some.inj e
  omega
theorem row_leN {w : World} {b b2 : Nat} {e : TypeId} {size : Nat} {v : Value} {n : Nat} {xs : List Value} (h : w.ownsRow b e size v n xs) (hb : b2 ≤ b) : w.ownsRow b2 e size v n xs := ownsRow_base h hb
theorem intInfoN : (Try.prog.info? 3).map (fun i => (i.zero, i.size, i.bytes)) = some (some (.int .i64 0), 1, 8) := by kernel_rfl
theorem slInfoN : (Try.prog.info? 23).map (fun i => (i.zero, i.size, i.bytes)) = some (some (.slice none 0 0), 1, 24) := by kernel_rfl
theorem getD_dropLast {α : Type} (L : List α) (j : Nat) (d : α) (h : j < L.dropLast.length) : L.dropLast.getD j d = L.getD j d := by
 rw [List.length_dropLast] at h
 rw [List.getD_eq_getElem?_getD, List.getD_eq_getElem?_getD, List.getElem?_dropLast, if_pos h]
set_option maxHeartbeats 4000000 in
theorem l5Best_c (c : Circ) (p : Where3) (ca : Option Addr) (cc : Nat) (all : List (List (List Int))) (F : List Nat) (w : World) (hc : CircAt w c p) (V : c.Valid) (hN : NstII w (.slice ca all.length cc) all F) (hall : all = cutsN c) :
  Calls Try.prog 132 #[.agg #[.int .i64 c.inputs, .slice p.an c.next.length p.cn, .slice p.ag c.gates.length p.cg, .slice p.ao c.outs.length p.co], .slice ca all.length cc] w (BestPost w (bestN c).1 (bestN c).2) := by
 have hi0 := V.i0
 have hi4 := V.i4
 have ln := V.ln
 have lg := V.lg
 have lo := V.lo
 obtain ⟨an, cn, ag, cg, ao, co⟩ := p
 dsimp only
 obtain ⟨f, hf⟩ : ∃ f : Nat, c.first = (f : Int) := ⟨c.first.toNat, by unfold Circ.first; omega⟩
 have hf1 : 1 ≤ f ∧ f ≤ 8 := by unfold Circ.first at hf; omega
 obtain ⟨hf1, hf2⟩ := hf1
 obtain ⟨ok, okl⟩ := cutsK_ok V c.gates.length (Nat.le_refl _)
 rw [List.take_length] at ok okl
 change CutsOk _ (cutsN c) at ok
 change ((cutsN c).length : Int) = _ at okl
 rw [← hall] at ok okl
 have hal : all.length = f + c.gates.length := by omega
 have HU : Hid (bestN c = bestK all f c.gates.length) := Lib.hid (by unfold bestN; rw [hall, hf]; rfl)
 have HOK := Lib.hid ok
 have HAL := Lib.hid hal
 have halt : ∀ i, i < c.gates.length → f + i < all.length := fun i hi => by omega
 have HALT := Lib.hid halt
 have hal2 : all.length ≤ 100 := by omega
 have hal3 : 0 < all.length := by omega
 obtain ⟨U, hUU⟩ : ∃ U, U = bestN c := ⟨_, rfl⟩
 rw [← hUU] at HU ⊢
 have y := CircBox.made w c ⟨an, cn, ag, cg, ao, co⟩ 26
 have E0 : Ext w (w.alloc (.cells #[.int .i64 c.inputs, .slice an c.next.length cn, .slice ag c.gates.length cg, .slice ao c.outs.length co] 26)) := (Ext.refl w).alloc _
 obtain ⟨gA, rfl, hgA, hgC⟩ := NstII.get hN hal3
 have HGC := Lib.hid hgC
 clear hUU V hall ok okl hal halt hgC
 (obtain ⟨lb, b0, b1, b2, b3⟩ := (id y))
 go_enter Try.func132, Try.ntmps132
 go_wp2_with fail
 refine (l1First_c c ⟨an, cn, ag, cg, ao, co⟩ _ (by omega) (by omega) (by omega)).mono ?_
 rintro e w1 ⟨rfl, hE1⟩
 rw [hf]
 have hm1 := run_zeros' (P := Try.prog) 23 3 (.int .i64 0) [.int .i64 0] 8 Try.underlying23 intInfoN rfl (by decide) (by decide) f (by omega) w1
 have E1 := E0.trans hE1
 have y1 := y.ext hE1
 have B1 := Blk.at w1 (zeros [Value.int .i64 0] f) 3 rfl
 have eZ1 : Ext w1 (w1.alloc (.cells (zeros [Value.int .i64 0] f).toArray 3)) := (Ext.refl w1).alloc _
 have y2 := y1.ext eZ1
 have ls1 := E1.size
 have ly1 := y1.lt
 clear lb b0 b1 b2 b3 y
 (obtain ⟨lb, b0, b1, b2, b3⟩ := (id y2))
 go_wp2_with fail
 refine (l1First_c c ⟨an, cn, ag, cg, ao, co⟩ _ (by omega) (by omega) (by omega)).mono ?_
 rintro e w2 ⟨rfl, hE2⟩
 rw [hf]
 have hm2 := run_zeros' (P := Try.prog) 157 23 (.slice none 0 0) [.slice none 0 0] 24 Try.underlying157 slInfoN rfl (by decide) (by decide) f (by omega) w2
 have B2 := Blk.at w2 (zeros [Value.slice none 0 0] f) 23 rfl
 have eZ2 : Ext w2 (w2.alloc (.cells (zeros [Value.slice none 0 0] f).toArray 23)) := (Ext.refl w2).alloc _
 have O1 : OwnInts (w2.alloc (.cells (zeros [Value.slice none 0 0] f).toArray 23)) (w.heap.size + 1) 3 (.slice (some ⟨w1.heap.size, 0, none⟩) f f) (List.replicate f 0) := by
  have := ((B1.ext hE2).ext eZ2).owns (n := f) (size := 1) (base := w.heap.size + 1) (by rw [zeros_length]; rfl) (by omega) (by unfold maxLen; omega)
  unfold OwnInts
  rw [List.length_replicate, List.map_replicate, ← zeros_one]
  exact this
 have ls2 := hE2.size
 have O2 : (w2.alloc (.cells (zeros [Value.slice none 0 0] f).toArray 23)).ownsRow (w.heap.size + 1) 23 1 (.slice (some ⟨w2.heap.size, 0, none⟩) f f) f (List.replicate f (.slice none 0 0)) := by
  have := B2.owns (n := f) (size := 1) (base := w.heap.size + 1) (by rw [zeros_length]; rfl) (by simp at ls2; omega) (by unfold maxLen; omega)
  rw [← zeros_one]
  exact this
 have y3 := (y2.ext hE2).ext eZ2
 have E3 := ((E1.trans eZ1).trans hE2).trans eZ2
 have hne : w1.heap.size < w2.heap.size := by simp at ls2; omega
 clear b0 b1 b2 b3 lb B1 eZ1 eZ2 B2
 go_wp2_with fail
 go_loopw [6, 7, 8] (fun u6 u7 u8 wr => ∃ (i : Nat) (vals : List Value) (ar : List Int) (bs : List (List Int)), i ≤ c.gates.length ∧ u8 = .int .i64 i ∧ Hid (ar = (bestK all f i).2) ∧ Hid (bs = (bestK all f i).1) ∧ OwnInts wr (w.heap.size + 1) 3 u6 ar ∧ wr.ownsRow (w.heap.size + 1) 23 1 u7 bs.length vals ∧ Hid (∀ q, u6.ownBlock = some q → u7.ownBlock ≠ some q) ∧ ReadII w vals bs ∧ CircBox wr w.heap.size c ⟨an, cn, ag, cg, ao, co⟩ ∧ Ext w wr) (fun _ _ v _ => c.gates.length - (intOf v).toNat)
 case atStart =>
  exact ⟨0, List.replicate f (.slice none 0 0), List.replicate f 0, List.replicate f [], Nat.zero_le _, rfl, Lib.hid (by rw [bestK_zero]), Lib.hid (by rw [bestK_zero]), O1, by rw [List.length_replicate]; exact O2, Lib.hid (fun q hq e => by cases hq; have e2 : w2.heap.size = w1.heap.size := Option.some.inj e; omega), ReadII.nils w f, y3, E3⟩
 case round =>
  clear O1 O2 y3 E3 hm1 hm2 y1 y2
  obtain ⟨i, vals, ar, bs, hi, rfl, HAR, HBS, hA, hB, HD, hR, y, hE⟩ := hrel
  (obtain ⟨lb, b0, b1, b2, b3⟩ := (id y))
  dsimp only at b1 b2 b3
  by_cases hlt : i < c.gates.length
  ·have hfi := HALT.out i hlt
   have okL := HOK.out (f + i) hfi
   obtain ⟨M, hM, hMne, hM8, hMok⟩ := okL.gate (by rw [hf]; omega)
   obtain ⟨pa, pc, pF, r1, nP, hpc, _⟩ := HGC.out (f + i) hfi
   have hsuc := bestK_succ all f i hfi
   have hlen := bestK_len all f i (by omega)
   have hlv := bestK_ok all f i (by omega)
   rw [← HAR.out] at hlen hlv
   rw [← HBS.out] at hlen
   have hpr : bestK all f i = (bs, ar) := by rw [HAR.out, HBS.out]
   rw [hpr] at hsuc
   unfold bestStep at hsuc
   dsimp only at hsuc
   obtain ⟨L, hL⟩ : ∃ L, L = all.getD (f + i) [] := ⟨_, rfl⟩
   rw [← hL] at hM okL nP r1 hpc hsuc
   have hdl : L.dropLast = M := by rw [hM]; simp
   rw [hdl] at hsuc
   have hLl : L.length = M.length + 1 := by rw [hM]; simp
   have hget : ∀ j, j < M.length → L.getD j [] = M.getD j [] := by
    intro j hj
    rw [hM, List.getD_eq_getElem?_getD, List.getElem?_append_left hj, List.getD_eq_getElem?_getD]
   obtain ⟨hal', hbl'⟩ : ar.length = f + i ∧ bs.length = f + i := ⟨hlen.2, hlen.1⟩
   have hmem : ∀ j, j < M.length → (M.getD j []).length ≤ 3 ∧ ∀ z ∈ M.getD j [], 0 ≤ z ∧ z < ar.length := by
    intro j hj
    have := hMok _ (getN_mem (d := []) hj)
    refine ⟨this.len, fun z hz => ?_⟩
    have := this.lo z hz
    have := (hMok _ (getN_mem (d := []) hj)).hi z hz
    omega
   have hM1 : 1 ≤ M.length := by
    rcases Nat.eq_zero_or_pos M.length with h | h
    ·exact absurd (List.eq_nil_of_length_eq_zero h) hMne
    ·exact h
   have hat : ∀ j, j < M.length → ∃ aj cj, w.cell? ⟨(pa.getD ⟨0, 0, none⟩).block, j, none⟩ = some (.slice aj (M.getD j []).length cj) ∧ IntsAt w aj (M.getD j []) := by
    intro j hj
    obtain ⟨g, e, hgl, hg⟩ := NstI.get nP (by omega)
    obtain ⟨aj, cj, h1, h2⟩ := hg j (by omega)
    rw [hget j hj] at h1 h2
    exact ⟨aj, cj, by rw [e]; exact h1, h2⟩
   obtain ⟨gL, rfl, hgL, _⟩ := NstI.get nP (by omega)
   have HAT : Hid (∀ j, j < M.length → ∃ aj cj, w.cell? ⟨gL, j, none⟩ = some (.slice aj (M.getD j []).length cj) ∧ IntsAt w aj (M.getD j [])) := Lib.hid hat
   have HMEM := Lib.hid hmem
   have HSUC := Lib.hid hsuc
   have HLV := Lib.hid hlv
   have HNE := Lib.hid hMne
   have HALL := Lib.hid hal'
   have HBLL := Lib.hid hbl'
   have hall2 : ar.length ≤ 100 := by omega
   have hbll2 : bs.length ≤ 100 := by omega
   have hlv2 := (show i ≤ 14 by omega)
   have hsz := hE.size
   have r2 := (ecell hE).1 gA (f + i) hgA
   rw [r1] at r2
   have hgA2 : gA < wr.heap.size := by omega
   have HLL := Lib.hid hLl
   have hLl1 : 1 ≤ L.length := by omega
   have hLl2 : L.length ≤ 9 := by omega
   obtain ⟨w3, rfl⟩ : ∃ x : World, x = wr := ⟨_, rfl⟩
   obtain ⟨aa, ac, rfl, hAI, _⟩ := hA.opened
   obtain ⟨ba, bc, rfl, _⟩ := ownsRow_row hB
   clear hM okL r1 hpr hL hdl hLl hget hmem hsuc hlv hMne hal' hbl' hlen hat hMok
   go_wp2_with fail
   refine (l1First_c c ⟨an, cn, ag, cg, ao, co⟩ _ (by omega) (by omega) (by omega)).mono ?_
   rintro e w4 ⟨rfl, hE4⟩
   rw [hf]
   have r3 := (ecell hE4).1 gA (f + i) hgA2
   rw [r2] at r3
   have hidx : (((f : Int) + (i : Int))).toNat = f + i := by omega
   go_wp2_with fail
   have E4 := hE.trans hE4
   have hsz4 := hE4.size
   go_loopw [10, 11] (fun u10 u11 wr => ∃ j k : Nat, 1 ≤ j ∧ j ≤ M.length ∧ k < j ∧ u11 = .int .i64 j ∧ u10 = .int .i64 k ∧ Hid (M.getD k [] = bestOf ar (M.take j)) ∧ Ext w4 wr) (fun _ i _ => M.length - (intOf i).toNat)
   case atStart =>
    refine ⟨1, 0, Nat.le_refl _, hM1, Nat.zero_lt_one, rfl, rfl, Lib.hid ?_, Ext.refl _⟩
    cases hM : M with
    | nil => rw [hM] at hM1; simp at hM1
    | cons x xs => rfl
   case round =>
    clear b0 b1 b2 b3 lb r2 r3
    obtain ⟨j, k, hj1, hj2, hkj, rfl, rfl, HB, hE5⟩ := hrel
    have E5 := E4.trans hE5
    have hgL5 : gL < wr.heap.size := by have := E5.size; omega
    obtain ⟨ak, ck, x1k, iK⟩ := HAT.out k (by omega)
    obtain ⟨yl, yz⟩ := HMEM.out k (by omega)
    have x2k := (ecell E5).1 gL k hgL
    rw [x1k] at x2k
    have hAw := hA.ext (hE4.trans hE5)
    have hkL : k < L.length := by have := HLL.out; omega
    obtain ⟨aw, cw, eaw, iAw, _⟩ := hAw.opened
    cases eaw
    by_cases hlt2 : j < M.length
    ·obtain ⟨aj, cj, x1j, iJ⟩ := HAT.out j hlt2
     obtain ⟨xl, xz⟩ := HMEM.out j hlt2
     have hsn := bestOf_snoc ar (M.take j) (M.getD j []) (by intro e; have := congrArg List.length e; rw [List.length_take] at this; simp only [List.length_nil] at this; omega)
     rw [← take_snocD M j [] hlt2, ← HB.out] at hsn
     obtain ⟨x, hx⟩ : ∃ x, x = M.getD j [] := ⟨_, rfl⟩
     obtain ⟨yv, hy⟩ : ∃ x, x = M.getD k [] := ⟨_, rfl⟩
     rw [← hx] at x1j iJ xl xz hsn
     rw [← hy] at x1k x2k iK yl yz hsn
     have x2j := (ecell E5).1 gL j hgL
     rw [x1j] at x2j
     have hjL : (j : Int) < (L.length : Int) - 1 := by have := HLL.out; omega
     have hjL2 : j < L.length := by omega
     have HX := Lib.hid hx
     have HY := Lib.hid hy
     have HSN := Lib.hid hsn
     have HXZ := Lib.hid xz
     have HYZ := Lib.hid yz
     obtain ⟨w5, rfl⟩ : ∃ x : World, x = wr := ⟨_, rfl⟩
     clear x1j x1k hx hy hsn xz yz
     go_wp2_with fail
     refine (l5Arrive_c _ aj _ cj ar x i _ iAw (iJ.ext E5) HLV.out (by omega) (by omega) (by omega) HXZ.out).mono ?_
     rintro e w6 ⟨rfl, hE6⟩
     have x3k := (ecell hE6).1 gL k hgL5
     rw [x2k] at x3k
     have x3j := (ecell hE6).1 gL j hgL5
     rw [x2j] at x3j
     have lgL6 : gL < w6.heap.size := by have := hE6.size; omega
     go_wp2_with fail
     refine (l5Arrive_c _ ak _ ck ar yv i _ (iAw.ext hE6) (iK.ext (E5.trans hE6)) HLV.out (by omega) (by omega) (by omega) HYZ.out).mono ?_
     rintro e w7 ⟨rfl, hE7⟩
     have x4k := (ecell hE7).1 gL k lgL6
     rw [x3k] at x4k
     have x4j := (ecell hE7).1 gL j lgL6
     rw [x3j] at x4j
     have lgL7 : gL < w7.heap.size := by have := hE7.size; omega
     have E57 := hE5.trans (hE6.trans hE7)
     unfold pickB betterB at HSN
     obtain ⟨ta, hta⟩ : ∃ t, t = maxA ar x := ⟨_, rfl⟩
     obtain ⟨tb, htb⟩ : ∃ t, t = maxA ar yv := ⟨_, rfl⟩
     rw [← hta, ← htb] at HSN
     rw [← hta, ← htb]
     clear hta htb x2k x2j x3k x3j
     by_cases c1 : ta < tb
     ·rw [decide_eq_true c1] at HSN
      go_wp2_with fail
      have d1 : decide (ta < tb) = true := by simp [c1]
      go_quiet (fail)
      go_wp2_with fail
      go_roundw
      case rel => exact ⟨j + 1, j, by omega, by omega, by omega, by go_num, rfl, Lib.hid (by rw [HSN.out, ← HX.out]; rfl), by (repeat (first | with_reducible assumption | with_reducible exact Ext.refl _ | with_reducible refine Ext.drew' ?_ | with_reducible refine Ext.drewN' ?_ _ | with_reducible refine Ext.alloc ?_ _ | (with_reducible refine Ext.setNew ?_ (by first | exact Nat.le_refl _ | (simp; done) | (simp; omega) | omega) _)))⟩
      case measure => simp [intOf]; omega
     ·rw [decide_eq_false c1] at HSN
      by_cases c2 : ta = tb
      ·rw [decide_eq_true c2] at HSN
       by_cases c3 : x.length < yv.length
       ·rw [decide_eq_true c3] at HSN
        go_wp2_with fail
        have d1 : decide (ta < tb) = false := by simp [c1]
        have d2 : (ta == tb) = true := by simp [c2]
        have d3 : decide ((x.length : Int) < (yv.length : Int)) = true := by simp; omega
        go_quiet (fail)
        go_wp2_with fail
        go_roundw
        case rel => exact ⟨j + 1, j, by omega, by omega, by omega, by go_num, rfl, Lib.hid (by rw [HSN.out, ← HX.out]; rfl), by (repeat (first | with_reducible assumption | with_reducible exact Ext.refl _ | with_reducible refine Ext.drew' ?_ | with_reducible refine Ext.drewN' ?_ _ | with_reducible refine Ext.alloc ?_ _ | (with_reducible refine Ext.setNew ?_ (by first | exact Nat.le_refl _ | (simp; done) | (simp; omega) | omega) _)))⟩
        case measure => simp [intOf]; omega
       ·rw [decide_eq_false c3] at HSN
        go_wp2_with fail
        have d1 : decide (ta < tb) = false := by simp [c1]
        have d2 : (ta == tb) = true := by simp [c2]
        have d3 : decide ((x.length : Int) < (yv.length : Int)) = false := by simp; omega
        go_quiet (fail)
        go_wp2_with fail
        go_roundw
        case rel => exact ⟨j + 1, k, by omega, by omega, by omega, by go_num, rfl, Lib.hid (by rw [HSN.out, ← HY.out]; rfl), by (repeat (first | with_reducible assumption | with_reducible exact Ext.refl _ | with_reducible refine Ext.drew' ?_ | with_reducible refine Ext.drewN' ?_ _ | with_reducible refine Ext.alloc ?_ _ | (with_reducible refine Ext.setNew ?_ (by first | exact Nat.le_refl _ | (simp; done) | (simp; omega) | omega) _)))⟩
        case measure => simp [intOf]; omega
      ·rw [decide_eq_false c2] at HSN
       go_wp2_with fail
       have d1 : decide (ta < tb) = false := by simp [c1]
       have d2 : (ta == tb) = false := by simp [c2]
       go_quiet (fail)
       go_wp2_with fail
       go_roundw
       case rel => exact ⟨j + 1, k, by omega, by omega, by omega, by go_num, rfl, Lib.hid (by rw [HSN.out, ← HY.out]; rfl), by (repeat (first | with_reducible assumption | with_reducible exact Ext.refl _ | with_reducible refine Ext.drew' ?_ | with_reducible refine Ext.drewN' ?_ _ | with_reducible refine Ext.alloc ?_ _ | (with_reducible refine Ext.setNew ?_ (by first | exact Nat.le_refl _ | (simp; done) | (simp; omega) | omega) _)))⟩
       case measure => simp [intOf]; omega
    ·have hjM : j = M.length := by omega
     have hb := HB.out
     rw [hjM, List.take_length] at hb
     have hjL : ¬ (j : Int) < (L.length : Int) - 1 := by have := HLL.out; omega
     obtain ⟨yv, hy⟩ : ∃ x, x = M.getD k [] := ⟨_, rfl⟩
     rw [← hy] at x1k x2k iK yl yz hb
     have hsuc := HSUC.out
     rw [← hb] at hsuc
     have HSU := Lib.hid hsuc
     have HYZ := Lib.hid yz
     obtain ⟨w5, rfl⟩ : ∃ x : World, x = wr := ⟨_, rfl⟩
     have e3 : Ext w3 (w5.alloc (.cells #[.slice ak yv.length ck] 23)) := (hE4.trans hE5).alloc _
     have hoB := fun q hq => (World.ownsRow.lt hB q hq)
     have HOB := Lib.hid hoB
     have hoA := fun q hq => (own_lo hA q hq)
     have HOA := Lib.hid hoA
     have hBe := ownsRow_ext hB e3
     have ls5 := E5.size
     clear hsuc hb hy yz x1k hoB hoA
     go_wp2_with (at_builtin; refine wpList_app tyII hBe (rowNew w5 [.slice ak yv.length ck] _ rfl) rfl (by simp [Value.oneCell']) (by omega) (by simp; omega) rfl rfl rfl rfl ?_; intro v8 w8 o8 g8 m8; obtain ⟨a8, c8, rfl, _⟩ := ownsRow_row o8; have E8 : Ext w w8 := ext_grown (E5.alloc _) g8 (fun q hq => by have := (HOB.out q hq).1; omega); have x8 := (ecell E8).1 gL k hgL; have x9 := x8.trans ((ecell E5).1 gL k hgL).symm; rw [x2k] at x9; clear x8; have lg8 : gL < w8.heap.size := by have := E8.size; omega)
     have hA8 : OwnInts w8 (w.heap.size + 1) 3 (.slice aa ar.length ac) ar := ownsRow_gr (ownsRow_ext hA e3) g8 (off_row (fun q hq e => HD.out q hq e))
     obtain ⟨aw8, cw8, eaw8, iA8, _⟩ := hA8.opened
     cases eaw8
     refine (l5Arrive_c _ ak _ ck ar yv i _ iA8 (iK.ext E8) HLV.out (by omega) (by omega) (by omega) HYZ.out).mono ?_
     rintro e w9 ⟨rfl, hE9⟩
     have hmx := maxA_ok HLV.out (by omega) yv
     obtain ⟨tm, htm⟩ : ∃ t, t = maxA ar yv := ⟨_, rfl⟩
     rw [← htm] at hmx
     rw [← htm]
     have HTM := Lib.hid htm
     obtain ⟨hmx1, hmx2⟩ := hmx
     clear htm x9 x2k
     have hA9 : w9.ownsRow (w.heap.size + 1) 3 1 (.slice aa ar.length ac) ar.length (ar.map (Value.int .i64)) := ownsRow_ext hA8 hE9
     have ls9 := hE9.size
     have ls8 := E8.size
     go_wp2_with (at_builtin; refine wpList_app tyInts (ownsRow_ext hA9 ((Ext.refl _).alloc _)) (rowNew w9 [.int .i64 (1 + tm)] _ rfl) rfl (by simp [Value.oneCell']) (by omega) (by simp; omega) rfl rfl rfl rfl ?_; intro v10 w10 o10 g10 m10; obtain ⟨a10, c10, rfl, _⟩ := ownsRow_row o10)
     have hd1 := moved_offN (u := .slice aa ar.length ac) m8 (fun q hq => by have := (HOA.out q hq).2; have := e3.size; omega) HD.out
     have hd2 := moved_offN (u := .slice a8 (bs.length + 1) c8) m10 (fun q hq => by have := (World.ownsRow.lt o8 q hq).2; simp; omega) (fun q hq e => hd1 q e hq)
     have hB10 := ownsRow_gr (ownsRow_ext o8 (hE9.alloc (.cells #[.int .i64 (1 + tm)] 3))) g10 (off_row (fun q hq e => hd1 q e hq))
     have hHOA := HOA.out
     have hHOB := HOB.out
     go_roundw
     case rel =>
      refine ⟨i + 1, vals ++ [.slice ak yv.length ck], ar ++ [1 + tm], bs ++ [yv], by omega, by go_num, Lib.hid (by rw [HSU.out, HTM.out]), Lib.hid (by rw [HSU.out]), own_app (ys := [1 + tm]) rfl rfl o10, ?_, Lib.hid (fun q hq e => hd2 q e hq), hR.snoc iK, ?_, ?_⟩
      ·rw [List.length_append]; exact hB10
      ·exact (((y.ext e3).grn g8 (fun e => by have := (hHOB _ e).1; omega)).ext (hE9.alloc _)).grn g10 (fun e => by have := (hHOA _ e).1; omega)
      ·exact ext_grown (E8.trans (hE9.alloc _)) g10 (fun q hq => by have := (hHOA q hq).1; omega)
     case measure => simp [intOf]; omega
  ·have hig : i = c.gates.length := by omega
   subst hig
   rw [← HU.out] at HAR HBS
   have e1 := HAR.out
   have e2 := HBS.out
   subst e1 e2
   clear HAR HBS HD
   go_wp2_with fail
   refine bodyPost_ret (v := .tuple #[_, _]) (by simp [results, Try.results132, go_sem]; exact ⟨rfl, rfl⟩) rfl ?_
   exact ⟨_, _, vals, rfl, row_leN hB (by omega), row_leN hA (by omega), hR.ext hE, hE⟩
end Go.Proofs.Ytgialedmbmfejaa

namespace Go.Proofs.Ytgialedmbmfejaa
open Go.RowKit
set_option maxRecDepth 100000
set_option linter.unusedVariables false
set_option linter.unusedSimpArgs false
theorem bestN_len {c : Circ} (V : c.Valid) : ((bestN c).2.length : Int) = c.vars ∧ (bestN c).1.length = (bestN c).2.length ∧ LvOk (bestN c).2 c.gates.length := by
 have hi0 := V.i0
 have hf : 1 ≤ c.first := by unfold Circ.first; omega
 have hl := cutsN_length c hf
 have h1 := bestK_len (cutsN c) c.first.toNat c.gates.length (by unfold Circ.vars at hl; omega)
 have h2 := bestK_ok (cutsN c) c.first.toNat c.gates.length (by unfold Circ.vars at hl; omega)
 unfold bestN
 refine ⟨?_, by rw [h1.1, h1.2], h2⟩
 rw [h1.2]; unfold Circ.vars; omega
/-- Every root is a literal of a variable. -/
theorem root_ok {c : Circ} (V : c.Valid) {xs : List Int} (h : ∀ x ∈ xs, x ∈ c.next ++ c.outs) : ∀ i, i < xs.length → 0 ≤ xs.getD i 0 ∧ xs.getD i 0 < 2 * c.vars := by
 intro i hi
 obtain ⟨j, hj, he⟩ := List.mem_iff_getElem.1 (h _ (getN_mem (d := 0) hi))
 have := litB_ok (V.rs j hj)
 rw [List.getD_eq_getElem?_getD, List.getElem?_eq_getElem hj, Option.getD_some, he] at this
 exact this
end Go.Proofs.Ytgialedmbmfejaa

namespace Go.Proofs.Ytgialedmbmfejaa
set_option linter.unusedVariables false
set_option linter.unusedSimpArgs false
def leafIdx (leaves : List Int) (v : Int) : Option Nat := leaves.findIdx? (· == v)
theorem leafIdx_some {leaves : List Int} {v : Int} {k : Nat} (h : leafIdx leaves v = some k) : k < leaves.length ∧ leaves.getD k 0 = v ∧ ∀ j, j < k → leaves.getD j 0 ≠ v := by
 unfold leafIdx at h
 rw [List.findIdx?_eq_some_iff_getElem] at h
 obtain ⟨h1, h2, h3⟩ := h
 refine ⟨h1, by rw [List.getD_eq_getElem?_getD, List.getElem?_eq_getElem h1]; simpa using h2, fun j hj => ?_⟩
 have := h3 j hj
 rw [List.getD_eq_getElem?_getD, List.getElem?_eq_getElem (by omega)]
 simpa using this
theorem leafIdx_at {leaves : List Int} {v : Int} {k : Nat} (hk : k < leaves.length) (he : leaves.getD k 0 = v) (hb : ∀ j, j < k → leaves.getD j 0 ≠ v) : leafIdx leaves v = some k := by
 unfold leafIdx
 rw [List.findIdx?_eq_some_iff_getElem]
 rw [List.getD_eq_getElem?_getD, List.getElem?_eq_getElem hk] at he
 refine ⟨hk, by simpa using he, fun j hj => ?_⟩
 have := hb j hj
 rw [List.getD_eq_getElem?_getD, List.getElem?_eq_getElem (by omega)] at this
 simpa using this
theorem leafIdx_none {leaves : List Int} {v : Int} (h : ∀ j, j < leaves.length → leaves.getD j 0 ≠ v) : leafIdx leaves v = none := by
 unfold leafIdx
 rw [List.findIdx?_eq_none_iff]
 intro x hx
 obtain ⟨j, hj, e⟩ := mem_getN (d := 0) hx
 have := h j hj
 rw [e] at this
 simpa using this
theorem leafIdx_no {leaves : List Int} {v : Int} (h : leafIdx leaves v = none) : v ∉ leaves := by
 intro hv
 unfold leafIdx at h
 rw [List.findIdx?_eq_none_iff] at h
 have := h v hv
 simp at this
def leafB (leaves : List Int) (x : Nat) (v : Int) (d : Bool) : Bool := match leafIdx leaves v with
 | some k => bitN x k
 | none => d
def coneStep (leaves : List Int) (x : Nat) (L : List Bool) (g : Int × Int) : List Bool := L ++ [leafB leaves x L.length (litV L g.1 && litV L g.2)]
def cone0 (f : Nat) (leaves : List Int) (x : Nat) : List Bool := (List.range f).map fun (v : Nat) => leafB leaves x v false
def coneN (gs : List (Int × Int)) (f : Nat) (leaves : List Int) (x : Nat) : List Bool := gs.foldl (coneStep leaves x) (cone0 f leaves x)
def coneB (c : Circ) (leaves : List Int) (x v : Nat) : Bool := (coneN c.gates c.first.toNat leaves x).getD v false
theorem cone0_length (f : Nat) (leaves : List Int) (x : Nat) : (cone0 f leaves x).length = f := by simp [cone0]
theorem foldl_cone_length (leaves : List Int) (x : Nat) (gs : List (Int × Int)) : ∀ L, (gs.foldl (coneStep leaves x) L).length = L.length + gs.length := by
 induction gs with
 | nil => intro L; rfl
 | cons g gs ih => intro L; rw [List.foldl_cons, ih, coneStep, List.length_append]; simp; omega
theorem foldl_cone_pre (leaves : List Int) (x : Nat) (gs : List (Int × Int)) : ∀ (L : List Bool) (i : Nat), i < L.length → (gs.foldl (coneStep leaves x) L).getD i false = L.getD i false := by
 induction gs with
 | nil => intro L i hi; rfl
 | cons g gs ih =>
  intro L i hi
  rw [List.foldl_cons, ih _ _ (by rw [coneStep, List.length_append]; omega), coneStep, getD_append_left _ _ _ _ hi]
theorem coneN_take (gs : List (Int × Int)) (f : Nat) (leaves : List Int) (x k : Nat) (hk : k ≤ gs.length) (i : Nat) (hi : i < f + k) : (coneN gs f leaves x).getD i false = (coneN (gs.take k) f leaves x).getD i false := by
 have e : coneN gs f leaves x = (gs.drop k).foldl (coneStep leaves x) (coneN (gs.take k) f leaves x) := by
  unfold coneN; rw [← List.foldl_append, List.take_append_drop]
 rw [e]
 refine foldl_cone_pre leaves x _ _ _ ?_
 unfold coneN
 rw [foldl_cone_length, cone0_length, List.length_take]; omega
/-- What a variable's value is made of. -/
theorem coneB_low {c : Circ} {leaves : List Int} {x v : Nat} (hv : v < c.first.toNat) : coneB c leaves x v = leafB leaves x v false := by
 unfold coneB
 rw [coneN_take c.gates _ leaves x 0 (Nat.zero_le _) v (by omega)]
 simp [coneN, cone0, List.getD_eq_getElem?_getD, hv]
theorem coneB_gate {c : Circ} {leaves : List Int} {x k : Nat} (hk : k < c.gates.length) (h1 : ((c.gates.getD k (0, 0)).1 / 2).toNat < c.first.toNat + k) (h2 : ((c.gates.getD k (0, 0)).2 / 2).toNat < c.first.toNat + k) :
  coneB c leaves x (c.first.toNat + k) = leafB leaves x ((c.first.toNat + k : Nat) : Int) ((coneB c leaves x ((c.gates.getD k (0, 0)).1 / 2).toNat != ((c.gates.getD k (0, 0)).1 % 2 == 1)) && (coneB c leaves x ((c.gates.getD k (0, 0)).2 / 2).toNat != ((c.gates.getD k (0, 0)).2 % 2 == 1))) := by
 have hl : (coneN (c.gates.take k) c.first.toNat leaves x).length = c.first.toNat + k := by unfold coneN; rw [foldl_cone_length, cone0_length, List.length_take]; omega
 have e : coneN (c.gates.take (k + 1)) c.first.toNat leaves x = coneStep leaves x (coneN (c.gates.take k) c.first.toNat leaves x) (c.gates.getD k (0, 0)) := by
  unfold coneN; exact foldl_snocD _ _ k (0, 0) _ hk
 unfold coneB
 rw [coneN_take c.gates _ leaves x (k + 1) (by omega) _ (by omega), e, coneN_take c.gates _ leaves x k (by omega) _ h1, coneN_take c.gates _ leaves x k (by omega) _ h2]
 unfold coneStep
 rw [getD_snoc, if_neg (by omega), if_pos hl.symm, hl]
 rfl
/-- The table: bit x is the value for the assignment x. -/
def tabN (b : Nat → Bool) : Nat → Nat
 | 0 => 0
 | k + 1 => tabN b k + if b k then 2 ^ k else 0
theorem tabN_lt (b : Nat → Bool) : ∀ k, tabN b k < 2 ^ k
 | 0 => by simp [tabN]
 | k + 1 => by
  have := tabN_lt b k
  rw [tabN, Nat.pow_succ]
  split <;> omega
theorem tabN_bit (b : Nat → Bool) : ∀ k j, j < k → bitN (tabN b k) j = b j
 | 0, j, h => absurd h (Nat.not_lt_zero j)
 | k + 1, j, h => by
  have hlt := tabN_lt b k
  rw [tabN]
  unfold bitN
  by_cases e : j = k
  ·subst e
   have h1 : (tabN b j + if b j then 2 ^ j else 0) / 2 ^ j = if b j then 1 else 0 := by
    split
    ·rw [Nat.add_div_right _ (Nat.two_pow_pos j), Nat.div_eq_of_lt hlt]
    ·rw [Nat.add_zero, Nat.div_eq_of_lt hlt]
   rw [h1]
   cases b j <;> rfl
  ·have ih := tabN_bit b k j (by omega)
   unfold bitN at ih
   rw [← ih]
   split
   ·obtain ⟨d, rfl⟩ : ∃ d, k = j + 1 + d := ⟨k - j - 1, by omega⟩
    have e2 : 2 ^ (j + 1 + d) = 2 ^ j * (2 * 2 ^ d) := by rw [Nat.pow_add, Nat.pow_succ, Nat.mul_assoc]
    rw [e2, Nat.add_mul_div_left _ _ (Nat.two_pow_pos j), Nat.add_mul_mod_self_left]
   ·rw [Nat.add_zero]
def tableV (c : Circ) (leaves : List Int) (v : Nat) : Nat := tabN (fun x => coneB c leaves x v) (2 ^ leaves.length)
theorem or_pow (t k : Nat) (h : t < 2 ^ k) (hk : k ≤ 60) : bits .or .i64 t ((2 ^ k : Nat) : Int) = t + ((2 ^ k : Nat) : Int) := by
 have hp : 2 ^ k ≤ 2 ^ 60 := Nat.pow_le_pow_right (by decide) hk
 have ha' : t % 2 ^ IntKind.i64.bits = t := Nat.mod_eq_of_lt (Nat.lt_of_lt_of_le (by omega : t < 2 ^ 62) (by decide))
 have hb' : 2 ^ k % 2 ^ IntKind.i64.bits = 2 ^ k := Nat.mod_eq_of_lt (Nat.lt_of_lt_of_le (by omega : 2 ^ k < 2 ^ 62) (by decide))
 simp only [bits, BitVec.ofInt_natCast, BitVec.toNat_or, BitVec.toNat_ofNat, ha', hb']
 have e : t ||| 2 ^ k = t + 2 ^ k := by
  rw [Nat.or_comm]
  have := Nat.two_pow_add_eq_or_of_lt h 1
  rw [Nat.mul_one] at this
  rw [← this]; omega
 rw [e, IntKind.wrap_i64]
 omega
end Go.Proofs.Ytgialedmbmfejaa

namespace Go.Proofs.Ytgialedmbmfejaa
set_option linter.unusedVariables false
set_option linter.unusedSimpArgs false
structure LutT where
 var : Int
 lv : List Int
 tb : Int
def lut0 : LutT := ⟨0, [], 0⟩
/-- Variables become needed. -/
def needL (nd : List Bool) (xs : List Int) : List Bool := xs.foldl (fun nd z => nd.set z.toNat true) nd
theorem needL_length (xs : List Int) : ∀ nd, (needL nd xs).length = nd.length := by
 induction xs with
 | nil => intro nd; rfl
 | cons x xs ih => intro nd; unfold needL at ih ⊢; rw [List.foldl_cons, ih, List.length_set]
theorem needL_snoc (nd : List Bool) (xs : List Int) (z : Int) : needL nd (xs ++ [z]) = (needL nd xs).set z.toNat true := by unfold needL; rw [List.foldl_append]; rfl
theorem needL_get (xs : List Int) : ∀ (nd : List Bool) (i : Nat), i < nd.length → (needL nd xs).getD i false = (nd.getD i false || xs.any (fun z => z.toNat == i)) := by
 induction xs with
 | nil => intro nd i hi; simp [needL]
 | cons x xs ih =>
  intro nd i hi
  have : needL nd (x :: xs) = needL (nd.set x.toNat true) xs := rfl
  rw [this, ih _ _ (by rw [List.length_set]; exact hi), List.any_cons]
  have e : (nd.set x.toNat true).getD i false = (nd.getD i false || (x.toNat == i)) := by
   rw [List.getD_eq_getElem?_getD, List.getD_eq_getElem?_getD, List.getElem?_set]
   by_cases h : x.toNat = i
   ·subst h; simp [hi]
   ·have : (x.toNat == i) = false := by simp [h]
    rw [if_neg h, this, Bool.or_false]
  rw [e, Bool.or_assoc]
theorem boolsExt {xs ys : List Bool} (hl : xs.length = ys.length) (h : ∀ i, i < xs.length → xs.getD i false = ys.getD i false) : xs = ys := by
 refine List.ext_getElem hl (fun j h1 h2 => ?_)
 have := h j h1
 rwa [List.getD_eq_getElem?_getD, List.getD_eq_getElem?_getD, List.getElem?_eq_getElem h1, List.getElem?_eq_getElem h2] at this
theorem needL_comm (nd : List Bool) (a b : List Int) : needL nd (a ++ b) = needL nd (b ++ a) := by
 refine boolsExt (by rw [needL_length, needL_length]) (fun i hi => ?_)
 rw [needL_length] at hi
 rw [needL_get _ _ _ hi, needL_get _ _ _ hi, List.any_append, List.any_append, Bool.or_comm (List.any a _)]
def halves (xs : List Int) : List Int := xs.map (· / 2)
/-- One variable, from the last one down: its table if it is needed. -/
def lutStep (c : Circ) (s : List Bool × List LutT) (v : Nat) : List Bool × List LutT :=
 if s.1.getD v false then (needL s.1 ((bestN c).1.getD v []), ⟨v, (bestN c).1.getD v [], (tableV c ((bestN c).1.getD v []) v : Nat)⟩ :: s.2) else s
def lutK (c : Circ) (n : Nat) : Nat → List Bool × List LutT
 | 0 => (needL (List.replicate n false) (halves (c.next ++ c.outs)), [])
 | k + 1 => lutStep c (lutK c n k) (n - 1 - k)
def lutN (c : Circ) : List LutT := (lutK c c.vars.toNat c.gates.length).2
noncomputable def lutV (c : Circ) : List LutT := if validB c then lutN c else []
theorem lutStep_length (c : Circ) (s : List Bool × List LutT) (v : Nat) : (lutStep c s v).1.length = s.1.length := by
 unfold lutStep
 split
 ·rw [needL_length]
 ·rfl
theorem lutK_length (c : Circ) (n k : Nat) : (lutK c n k).1.length = n := by
 induction k with
 | zero => rw [lutK, needL_length, List.length_replicate]
 | succ k ih => rw [lutK, lutStep_length, ih]
theorem lutK_count (c : Circ) (n k : Nat) : (lutK c n k).2.length ≤ k := by
 induction k with
 | zero => simp [lutK]
 | succ k ih =>
  rw [lutK, lutStep]
  split
  ·simp; omega
  ·omega
/-- The best cut of a gate: one of its cuts, all of whose variables lie before it. -/
theorem bestN_cut {c : Circ} (V : c.Valid) {k : Nat} (hk : k < c.gates.length) : CutOk (c.first + k) ((bestN c).1.getD (c.first.toNat + k) []) := by
 have hi0 := V.i0
 have hf : 1 ≤ c.first := by unfold Circ.first; omega
 obtain ⟨ok, okl⟩ := cutsK_ok V c.gates.length (Nat.le_refl _)
 rw [List.take_length] at ok okl
 change CutsOk _ (cutsN c) at ok
 change ((cutsN c).length : Int) = _ at okl
 have key : ∀ m, m ≤ c.gates.length → k < m → (bestK (cutsN c) c.first.toNat m).1.getD (c.first.toNat + k) [] = bestOf (bestK (cutsN c) c.first.toNat k).2 ((cutsN c).getD (c.first.toNat + k) []).dropLast := by
  intro m
  induction m with
  | zero => intro _ h; omega
  | succ m ih =>
   intro hm hkm
   rw [bestK_succ _ _ _ (by omega)]
   unfold bestStep
   dsimp only
   have hl := (bestK_len (cutsN c) c.first.toNat m (by omega)).1
   rw [getD_snoc, hl]
   by_cases h : k = m
   ·subst h; rw [if_neg (by omega), if_pos rfl]
   ·rw [if_pos (by omega)]; exact ih (by omega) (by omega)
 have okL := ok (c.first.toNat + k) (by omega)
 obtain ⟨M, hM, hMne, hM8, hMok⟩ := okL.gate (by omega)
 unfold bestN
 rw [key _ (Nat.le_refl _) hk, hM]
 have : (M ++ [[((c.first.toNat + k : Nat) : Int)]]).dropLast = M := by simp
 rw [this]
 have h := hMok _ (bestOf_mem (bestK (cutsN c) c.first.toNat k).2 M hMne)
 have e : ((c.first.toNat + k : Nat) : Int) = c.first + k := by omega
 rwa [e] at h
end Go.Proofs.Ytgialedmbmfejaa

