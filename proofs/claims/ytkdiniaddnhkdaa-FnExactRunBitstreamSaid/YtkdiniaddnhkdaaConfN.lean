/- How the exact laws mark rows of tiles and of pads that the call owns: the walks. -/
import Derived.Test.YtkdiniaddnhkdaaConfM
namespace Go.Proofs.Ytkdiniaddnhkdaa
open Go.RowKit
set_option maxRecDepth 100000
set_option linter.unusedVariables false
set_option linter.unusedSimpArgs false
/-- Of the old blocks, only those of S may have changed. -/
structure OnlyIn (S : Nat → Prop) (w w' : World) : Prop where
  os : w'.os = w.os
  tape : w'.tape = w.tape
  output : w'.output = w.output
  size : w.heap.size ≤ w'.heap.size
  block : ∀ k, k < w.heap.size → ¬ S k → w'.heap[k]? = w.heap[k]?
section
variable {S : Nat → Prop} {w w' w'' : World}
theorem OnlyIn.refl (w : World) : OnlyIn S w w := ⟨rfl, rfl, rfl, Nat.le_refl _, fun _ _ _ => rfl⟩
theorem OnlyIn.trans (h : OnlyIn S w w') (k : OnlyIn S w' w'') : OnlyIn S w w'' :=
  ⟨k.os.trans h.os, k.tape.trans h.tape, k.output.trans h.output, Nat.le_trans h.size k.size, fun i hi hr => (k.block i (Nat.lt_of_lt_of_le hi h.size) hr).trans (h.block i hi hr)⟩
theorem OnlyIn.ofExt (h : Ext w w') : OnlyIn S w w' := ⟨Below.os h, Below.tape h, Below.output h, Below.size h, fun i hi _ => Below.block h i hi⟩
theorem OnlyIn.ofGr {ob : Option Nat} (h : w.grownBy w' ob) (hb : ∀ k, ob = some k → S k) : OnlyIn S w w' :=
  ⟨h.os, h.tape, h.output, h.size, fun i hi hr => h.block i hi (fun e => hr (hb i e.symm))⟩
theorem OnlyIn.setCell (h : OnlyIn S w w') {p : Addr} (hp : S p.block) (v : Value) : OnlyIn S w (w'.setCell p v) :=
  ⟨h.os, h.tape, h.output, by simpa using h.size, fun k hk hn => (heap_setCell_other w' p k v (fun e => hn (by rw [e]; exact hp))).trans (h.block k hk hn)⟩
theorem OnlyIn.wider {S2 : Nat → Prop} (h : OnlyIn S w w') (hs : ∀ k, S k → S2 k) : OnlyIn S2 w w' :=
  ⟨h.os, h.tape, h.output, h.size, fun k hk hn => h.block k hk (fun e => hn (hs k e))⟩
theorem OnlyIn.mid {b N : Nat} (h : OnlyIn S w w') (hs : ∀ k, S k → b ≤ k ∧ k < N) : Mid b N w w' :=
  ⟨h.os, h.tape, h.output, h.size, fun k hk hr => h.block k hk (fun e => by have := hs k e; omega)⟩
theorem ownsRow_only {base : Nat} {e : TypeId} {size : Nat} {v : Value} {n : Nat} {xs : List Value} (h : w.ownsRow base e size v n xs) (m : OnlyIn S w w') (hr : ∀ k, v.ownBlock = some k → ¬ S k) : w'.ownsRow base e size v n xs := by
  refine ⟨h.1, ?_⟩
  rcases h.2 with hn | ⟨g, cap, cur, rfl, hb, hgg, rest⟩
  · exact .inl hn
  · exact .inr ⟨g, cap, cur, rfl, hb, (m.block g (Array.getElem?_eq_some_iff.1 hgg).1 (hr g rfl)).trans hgg, rest⟩
end
theorem cellsT_mark : ∀ (ts : List Tile) (us : List Value), us.length = 2 * ts.length → ∀ (j : Nat), j < ts.length → ∀ (x : Tile), ((cellsT ts us).set (j * 4) (.int .i64 x.tb)).set (j * 4 + 2) (.bool x.rg) = cellsT (ts.set j x) us
  | [], _, _, j, h, _ => by simp at h
  | y :: ys, [], h, _, _, _ => by simp at h
  | y :: ys, [_], h, _, _, _ => by simp at h; omega
  | y :: ys, c :: d :: us, h, 0, _, x => by simp [cellsT]
  | y :: ys, c :: d :: us, h, j + 1, hj, x => by
    have := cellsT_mark ys us (by simp at h; omega) j (by simpa using hj) x
    have e1 : (j + 1) * 4 = j * 4 + 1 + 1 + 1 + 1 := by omega
    rw [e1]
    simp only [cellsT, List.set_cons_succ]
    rw [this]
theorem off_rowI {v u : Value} (hd : ∀ k, u.ownBlock = some k → v.ownBlock ≠ some k) : u.ownBlock = none ∨ u.ownBlock ≠ v.ownBlock := by
  cases e : u.ownBlock with
  | none => exact .inl rfl
  | some k => right; exact (hd k e).symm
theorem Elts.mark {w w' : World} {base : Nat} {us : List Value} {xss : List (List Int)} (h : Elts w base us xss) {i : Nat} (hi : i < xss.length) {x : List Int} (hg : w.grownBy w' (us.getD i vnil).ownBlock) (hu : OwnInts w' base 3 (us.getD i vnil) x) : Elts w' base us (xss.set i x) := by
  refine ⟨by simp [h.len], fun j hj => ?_, fun a b k hab hb hk => h.dis a b k hab (by simpa using hb) hk⟩
  rw [List.length_set] at hj
  rw [getD_set _ _ _ _ _ hi]
  by_cases e : i = j
  · subst e; rw [if_pos rfl]; exact hu
  · rw [if_neg e]
    refine ownsRow_gr (h.el j hj) hg (off_rowI (fun k hk => ?_))
    rcases Nat.lt_or_ge j i with h1 | h1
    · exact h.dis j i k h1 hi hk
    · intro e2; exact h.dis i j k (by omega) hj e2 hk
/-- The blocks of a row of tiles. -/
def BlkT (v : Value) (us : List Value) (n : Nat) (q : Nat) : Prop := v.ownBlock = some q ∨ ∃ j, j < 2 * n ∧ (us.getD j vnil).ownBlock = some q
set_option maxHeartbeats 1000000 in
theorem markTileConfigS_c (base : Nat) (a : Option Addr) (c : Nat) (us : List Value) (ts : List Tile) (k : Int) (w : World) (ho : OwnT w base (.slice a ts.length c) us ts) (h0 : 0 ≤ k) (h1 : k + totM ts ≤ 100000000) (hl : ts.length ≤ 1048576) (hls : ∀ j, j < ts.length → (ts.getD j tile0).sl.length ≤ 1048576 ∧ (ts.getD j tile0).dr.length ≤ 1048576) :
    Calls Try.prog 63 #[.slice a ts.length c, .int .i64 k] w fun e w' => e = .returned (.int .i64 (k + totM ts)) ∧ OwnT w' base (.slice a ts.length c) us (mkTs k ts) ∧ OnlyIn (BlkT (.slice a ts.length c) us ts.length) w w' := by
  have HT := Lib.hid (totM_le ts)
  have HLS := Lib.hid hls
  clear hls
  go_enter Try.func63, Try.ntmps63
  go_wp2_with fail
  go_loopw [1, 5] (fun u1 u5 wr => ∃ j : Nat, j ≤ ts.length ∧ u5 = .int .i64 j ∧ u1 = .int .i64 (k + totM (ts.take j)) ∧ OwnT wr base (.slice a ts.length c) us (midT k ts j) ∧ OnlyIn (BlkT (.slice a ts.length c) us ts.length) w wr) (fun _ i _ => ts.length - (intOf i).toNat)
  case atStart => exact ⟨0, Nat.zero_le _, rfl, by simp [totM], by simpa [midT, mkTs] using ho, OnlyIn.refl _⟩
  case round =>
    clear ho
    obtain ⟨j, hj, rfl, rfl, hO, hM⟩ := hrel
    have hml := midT_length k ts j hj
    have htl := HT.out j
    by_cases hlt : j < ts.length
    · have hul := hO.ul
      rw [hml] at hul
      have hcl := cellsT_length (midT k ts j) us (by rw [hml]; exact hul)
      rw [hml] at hcl
      obtain ⟨c0, c1, c2, c3⟩ := cellsT_get (midT k ts j) us (by rw [hml]; exact hul) j (by rw [hml]; exact hlt)
      obtain ⟨f0, f1⟩ := flT_get (midT k ts j) j (by rw [hml]; exact hlt)
      have hfl := flT_length (midT k ts j)
      rw [hml] at hfl
      have hset := midT_set k ts j hlt
      have hts := totM_take ts j hlt
      have hts1 := HT.out (j + 1)
      have hlsj := HLS.out j hlt
      rw [midT_at k ts j hlt] at c0 c2 f0 f1
      obtain ⟨x, hx⟩ : ∃ x, x = ts.getD j tile0 := ⟨_, rfl⟩
      rw [← hx] at c0 c2 f0 f1 hset hts hlsj
      obtain ⟨T, hT⟩ : ∃ T, T = totM (ts.take j) := ⟨_, rfl⟩
      rw [← hT] at hset hts htl ⊢
      obtain ⟨M, hMM⟩ : ∃ M, M = midT k ts j := ⟨_, rfl⟩
      rw [← hMM] at hO hml hcl c0 c1 c2 c3 f0 f1 hfl hset
      have e0 := hO.els.el (2 * j) (by omega)
      have e1 := hO.els.el (2 * j + 1) (by omega)
      rw [f0] at e0
      rw [f1] at e1
      obtain ⟨sa, sc, s1, s2, _⟩ := e0.opened
      obtain ⟨da, dc, d1, d2, _⟩ := e1.opened
      have hoff := hO.off
      rw [hml] at hoff
      have hrow := hO.row
      rw [hml] at hrow
      obtain ⟨g, hga, _, hg⟩ := ownsRow_block hrow (by omega)
      subst hga
      have o0 : (us.getD (2 * j) vnil).ownBlock ≠ some g := fun e => hoff (2 * j) g (by omega) e rfl
      have o1 : (us.getD (2 * j + 1) vnil).ownBlock ≠ some g := fun e => hoff (2 * j + 1) g (by omega) e rfl
      have hlen : szM x = 2 + x.sl.length + x.dr.length := rfl
      -- the four stores
      have W1 : (wr.setCell ⟨g, j * 4, none⟩ (.int .i64 (k + T))).ownsRow base 85 4 (.slice (some ⟨g, 0, none⟩) ts.length c) ts.length _ := ownsRow_setAt hrow (j * 4) (by rw [hcl]; omega) (.int .i64 (k + T))
      have E1 := hO.els.setCell (p := ⟨g, j * 4, none⟩) (fun i hi e => hoff i g (by omega) e rfl) (.int .i64 (k + T))
      have q0 := ownsRow_cell hrow c0
      have fz0 := ownsRow_frozen hrow (j * 4)
      have q1 := ownsRow_cell W1 (j := j * 4 + 1) (u := us.getD (2 * j) vnil) (by rw [List.getElem?_set_ne (by omega)]; exact c1)
      have a0 := E1.el (2 * j) (by omega)
      rw [f0, s1] at a0
      have hsb := ownI_lt a0
      rw [s1] at q1
      have HS := Lib.hid hset
      have HTS := Lib.hid hts
      have S1 := Lib.hid s1
      have D1 := Lib.hid d1
      have HOFF := Lib.hid hoff
      have HC := Lib.hid (And.intro c1 (And.intro c2 c3))
      have HF := Lib.hid (And.intro f0 f1)
      have HMT := Lib.hid (And.intro hMM hT)
      clear hset hts s1 d1 hoff c0 c1 c2 c3 f0 f1 e0 e1 hO hrow hMM hT hx s2 d2
      go_wp2_with fail
      refine (markIntS_o base sa sc x.sl (k + T + 1) _ a0 (by omega) (by omega) hlsj.1).mono ?_
      rintro e w2 ⟨rfl, O2, G2⟩
      have R2 := ownsRow_gr W1 G2 (.inr (fun e => o0 (by rw [S1.out]; exact e.symm)))
      have E2 := E1.mark (i := 2 * j) (by omega) (by rw [S1.out]; exact G2) (x := mksI (k + T + 1) x.sl.length) (by rw [S1.out]; unfold OwnInts; rw [mksI_length]; exact O2)
      have q2 := ownsRow_cell R2 (j := j * 4 + 2) (by rw [List.getElem?_set_ne (by omega)]; exact HC.out.2.1)
      have fz2 := ownsRow_frozen R2 (j * 4 + 2)
      have R3 := ownsRow_setAt R2 (j * 4 + 2) (by rw [List.length_set, hcl]; omega) (.bool ((k + T + 1 + x.sl.length) % 3 == 0))
      have E3 := E2.setCell (p := ⟨g, j * 4 + 2, none⟩) (fun i hi e => HOFF.out i g (by rw [List.length_set] at hi; omega) e rfl) (.bool ((k + T + 1 + x.sl.length) % 3 == 0))
      have q3 := ownsRow_cell R3 (j := j * 4 + 3) (u := us.getD (2 * j + 1) vnil) (by rw [List.getElem?_set_ne (by omega), List.getElem?_set_ne (by omega)]; exact HC.out.2.2)
      have a1 := E3.el (2 * j + 1) (by rw [List.length_set]; omega)
      have hf3 : ((flT M).set (2 * j) (mksI (k + T + 1) x.sl.length)).getD (2 * j + 1) [] = x.dr := by
        rw [getD_set _ _ _ _ _ (by omega), if_neg (by omega)]; exact HF.out.2
      rw [hf3, D1.out] at a1
      rw [D1.out] at q3
      clear hf3
      go_wp2_with fail
      refine (markIntS_o base da dc x.dr (k + T + 1 + x.sl.length + 1) _ a1 (by omega) (by omega) hlsj.2).mono ?_
      rintro e w4 ⟨rfl, O4, G4⟩
      have R4 := ownsRow_gr R3 G4 (.inr (fun e => o1 (by rw [D1.out]; exact e.symm)))
      have E4 := E3.mark (i := 2 * j + 1) (by rw [List.length_set]; omega) (by rw [D1.out]; exact G4) (x := mksI (k + T + 1 + x.sl.length + 1) x.dr.length) (by rw [D1.out]; unfold OwnInts; rw [mksI_length]; exact O4)
      have em := cellsT_mark M us (by rw [hml]; exact hul) j (by rw [hml]; exact hlt) (mkT (k + T) x)
      have ef := flT_set M j (mkT (k + T) x)
      have hl4 := midT_length k ts (j + 1) hlt
      have HOwn : Hid (OwnT w4 base (.slice (some ⟨g, 0, none⟩) ts.length c) us (midT k ts (j + 1))) := Lib.hid ⟨by
        rw [hl4, ← HS.out, ← em]; exact R4, by rw [← HS.out, ef]; exact E4, by rw [hl4]; exact HOFF.out⟩
      have HOnly : Hid (OnlyIn (BlkT (.slice (some ⟨g, 0, none⟩) ts.length c) us ts.length) w w4) := Lib.hid (by
        refine (hM.setCell (p := ⟨g, j * 4, none⟩) (.inl rfl) (.int .i64 (k + T))).trans (OnlyIn.trans (OnlyIn.ofGr G2 (fun q hq => .inr ⟨2 * j, by omega, by rw [S1.out]; exact hq⟩)) ?_)
        exact ((OnlyIn.refl w2).setCell (p := ⟨g, j * 4 + 2, none⟩) (.inl rfl) (.bool ((k + T + 1 + x.sl.length) % 3 == 0))).trans (OnlyIn.ofGr G4 (fun q hq => .inr ⟨2 * j + 1, by omega, by rw [D1.out]; exact hq⟩)))
      clear R4 E4 R3 E3 R2 E2 W1 E1 em ef hl4 G4 G2 O4 O2 q0 q1 q2 q3 fz0 fz2 hM
      go_wp2
      go_roundw
      case rel => exact ⟨j + 1, by omega, by go_num, by rw [HTS.out]; simp [hlen]; omega, HOwn.out, HOnly.out⟩
      case measure => simp [intOf]; omega
    · have hk2 : j = ts.length := by omega
      subst hk2
      have e : midT k ts ts.length = mkTs k ts := by unfold midT; rw [List.take_length, List.drop_length, List.append_nil]
      rw [e] at hO
      rw [List.take_length]
      go_wp2
      go_ret
      exact ⟨rfl, hO, hM⟩
end Go.Proofs.Ytkdiniaddnhkdaa
