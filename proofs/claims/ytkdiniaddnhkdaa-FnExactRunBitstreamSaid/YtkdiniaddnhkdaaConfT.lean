/- Contracts of the exact laws' helpers on configurations: sizes, copies, comparisons. -/
import Derived.Test.YtkdiniaddnhkdaaConfE
namespace Go.Proofs.Ytkdiniaddnhkdaa
open Go.RowKit
set_option maxRecDepth 100000
set_option linter.unusedVariables false
set_option linter.unusedSimpArgs false
/-! ### copies -/
def MadeTile (w : World) (x : Tile) (e : Ending) (w' : World) : Prop :=
  ∃ B1 B2, e = .returned (.agg #[.int .i64 x.tb, .slice (some ⟨B1, 0, none⟩) x.sl.length x.sl.length, .bool x.rg, .slice (some ⟨B2, 0, none⟩) x.dr.length x.dr.length]) ∧ w.heap.size ≤ B1 ∧ B1 < B2 ∧ Blk w' B1 3 (x.sl.map (Value.int .i64)) ∧ Blk w' B2 3 (x.dr.map (Value.int .i64)) ∧ Ext w w'
theorem toTileConfig_c (x : Tile) (sa da : Option Addr) (sc dc : Nat) (w : World) (hs : IntsAt w sa x.sl) (hd : IntsAt w da x.dr) (l1 : x.sl.length ≤ 1048576) (l2 : x.dr.length ≤ 1048576) :
    Calls Try.prog 112 #[.agg #[.int .i64 x.tb, .slice sa x.sl.length sc, .bool x.rg, .slice da x.dr.length dc]] w (MadeTile w x) := by
  have y := Blk.at w [.int .i64 x.tb, .slice sa x.sl.length sc, .bool x.rg, .slice da x.dr.length dc] 129 rfl
  go_enter Try.func112, Try.ntmps112
  go_wp2_with fail
  refine (toIntS_c _ _ _ _ (hs.ext (by (repeat (first | with_reducible assumption | with_reducible exact Ext.refl _ | with_reducible refine Ext.drew' ?_ | with_reducible refine Ext.drewN' ?_ _ | with_reducible refine Ext.alloc ?_ _ | (with_reducible refine Ext.setNew ?_ (by first | exact Nat.le_refl _ | (simp; done) | (simp; omega) | omega) _))))) l1).mono ?_
  rintro e w1 ⟨B1, rfl, hB1, hI1, hE1⟩
  have E1 := Ext.trans (a := w) (by (repeat (first | with_reducible assumption | with_reducible exact Ext.refl _ | with_reducible refine Ext.drew' ?_ | with_reducible refine Ext.drewN' ?_ _ | with_reducible refine Ext.alloc ?_ _ | (with_reducible refine Ext.setNew ?_ (by first | exact Nat.le_refl _ | (simp; done) | (simp; omega) | omega) _)))) hE1
  have F1 := Ext.trans (a := w.alloc _) (by (repeat (first | with_reducible assumption | with_reducible exact Ext.refl _ | with_reducible refine Ext.drew' ?_ | with_reducible refine Ext.drewN' ?_ _ | with_reducible refine Ext.alloc ?_ _ | (with_reducible refine Ext.setNew ?_ (by first | exact Nat.le_refl _ | (simp; done) | (simp; omega) | omega) _)))) hE1
  have Y1 := y.ext F1
  simp at hB1
  have k1 := (Blk.at ((w.alloc _).alloc _) [.int .i64 x.tb, .slice none 0 0, .bool false, .slice none 0 0] 85 (B := w.heap.size + 1 + 1) (by simp)).ext hE1
  have r1 := ((Blk.at (w.alloc _) [.int .i64 0, .slice none 0 0, .bool false, .slice none 0 0] 85 (B := w.heap.size + 1) (by simp)).alloc _).ext hE1
  have a0 := Y1.cell (i := 0) rfl
  have a1 := Y1.cell (i := 1) rfl
  have a2 := Y1.cell (i := 2) rfl
  have a3 := Y1.cell (i := 3) rfl
  have al := Y1.lt
  have kl := k1.lt
  have z0 := k1.cell (i := 0) rfl
  have z1 := k1.cell (i := 1) rfl
  have z2 := k1.cell (i := 2) rfl
  have z3 := k1.cell (i := 3) rfl
  have zf := fun i => k1.frozen i
  have l1' := hI1.lt
  go_wp2_with fail
  refine (toIntS_c _ _ _ _ (hd.ext (by (repeat (first | with_reducible assumption | with_reducible exact Ext.refl _ | with_reducible refine Ext.drew' ?_ | with_reducible refine Ext.drewN' ?_ _ | with_reducible refine Ext.alloc ?_ _ | (with_reducible refine Ext.setNew ?_ (by first | exact Nat.le_refl _ | (simp; done) | (simp; omega) | omega) _))))) l2).mono ?_
  rintro e w2 ⟨B2, rfl, hB2, hI2, hE2⟩
  have E2 := Ext.trans (a := w) (by (repeat (first | with_reducible assumption | with_reducible exact Ext.refl _ | with_reducible refine Ext.drew' ?_ | with_reducible refine Ext.drewN' ?_ _ | with_reducible refine Ext.alloc ?_ _ | (with_reducible refine Ext.setNew ?_ (by first | exact Nat.le_refl _ | (simp; done) | (simp; omega) | omega) _)))) hE2
  have s1 := hE1.size
  simp at s1
  simp at hB2
  have i1 := ((hI1.setOther (by simp; omega) _).setOther (by simp; omega) _).ext hE2
  have k2 := ((k1.set 1 _).set 2 _).ext hE2
  have r2 := ((r1.setOther (by simp) _).setOther (by simp) _).ext hE2
  clear a0 a1 a2 a3 al z0 z1 z2 z3 zf kl
  have z0 := k2.cell (i := 0) rfl
  have z1 := k2.cell (i := 1) rfl
  have z2 := k2.cell (i := 2) rfl
  have z3 := k2.cell (i := 3) rfl
  have zf := fun i => k2.frozen i
  have kl := k2.lt
  have y0 := r2.cell (i := 0) rfl
  have y1 := r2.cell (i := 1) rfl
  have y2 := r2.cell (i := 2) rfl
  have y3 := r2.cell (i := 3) rfl
  have yf := fun i => r2.frozen i
  have yl := r2.lt
  go_wp2
  refine bodyPost_ret (v := .agg #[.int .i64 x.tb, .slice (some ⟨B1, 0, none⟩) x.sl.length x.sl.length, .bool x.rg, .slice (some ⟨B2, 0, none⟩) x.dr.length x.dr.length]) (by simp [results, Try.results112, go_sem, y0, y1, y2, y3]) rfl ?_
  refine (fun (G1 : Blk _ B1 3 (x.sl.map (Value.int .i64))) (G2 : Blk _ B2 3 (x.dr.map (Value.int .i64))) GE => ⟨B1, B2, rfl, by omega, by omega, G1, G2, GE⟩) ?_ ?_ ?_
  · repeat (first | with_reducible exact i1 | with_reducible refine Blk.setOther ?_ (by simp; omega) _)
  · repeat (first | with_reducible exact hI2 | with_reducible refine Blk.setOther ?_ (by simp; omega) _)
  · (repeat (first | with_reducible assumption | with_reducible exact Ext.refl _ | with_reducible refine Ext.drew' ?_ | with_reducible refine Ext.drewN' ?_ _ | with_reducible refine Ext.alloc ?_ _ | (with_reducible refine Ext.setNew ?_ (by first | exact Nat.le_refl _ | (simp; done) | (simp; omega) | omega) _)))
theorem toPadConfig_c (x : Int) (b : Bool) (w : World) :
    Calls Try.prog 113 #[.agg #[.int .i64 x, .bool b]] w fun e w' => e = .returned (.agg #[.int .i64 x, .bool b]) ∧ Ext w w' := by
  go_enter Try.func113, Try.ntmps113
  go_wp2
  refine bodyPost_ret (v := .agg #[.int .i64 x, .bool b]) (by simp [results, Try.results113, go_sem]) rfl ?_
  refine ⟨rfl, ?_⟩
  repeat (first | exact Ext.refl _ | refine Ext.alloc ?_ _ | (refine Ext.setNew ?_ (by simp) _))
theorem Elts.put2 {w : World} {base : Nat} {us : List Value} {xss : List (List Int)} (h : Elts w base us xss) {k : Nat} (hk : 2 * k + 1 < xss.length) {B1 B2 n1 c1 n2 c2 : Nat} {x1 x2 : List Int} (h1 : OwnInts w base 3 (.slice (some ⟨B1, 0, none⟩) n1 c1) x1) (h2 : OwnInts w base 3 (.slice (some ⟨B2, 0, none⟩) n2 c2) x2) (hlt : B1 < B2)
    (hold : ∀ j q, j < xss.length → (us.getD j vnil).ownBlock = some q → q < B1) : Elts w base ((us.set (2 * k) (.slice (some ⟨B1, 0, none⟩) n1 c1)).set (2 * k + 1) (.slice (some ⟨B2, 0, none⟩) n2 c2)) ((xss.set (2 * k) x1).set (2 * k + 1) x2) := by
  have hl := h.len
  refine (h.put (by omega) h1 (fun j q hj hne hq e => ?_)).put (by rw [List.length_set]; omega) h2 (fun j q hj hne hq e => ?_)
  · have := hold j q hj hq
    have : B1 = q := Option.some.inj e
    omega
  · rw [List.length_set] at hj
    have eB : B2 = q := Option.some.inj e
    rw [getD_set _ _ _ _ _ (by omega)] at hq
    by_cases e1 : 2 * k = j
    · rw [if_pos e1] at hq
      have : B1 = q := Option.some.inj hq
      omega
    · rw [if_neg e1] at hq
      have := hold j q hj hq
      omega
theorem I1ne {w : World} {B1 b : Nat} (h : w.heap.size ≤ B1) (hb : b < w.heap.size) : b < B1 := by omega
theorem tileInfo : (Try.prog.info? 85).map (fun i => (i.zero, i.size, i.bytes)) = some (some (.agg #[.int .i64 0, .slice none 0 0, .bool false, .slice none 0 0]), 4, 64) := by kernel_rfl
theorem padInfo : (Try.prog.info? 87).map (fun i => (i.zero, i.size, i.bytes)) = some (some (.agg #[.int .i64 0, .bool false]), 2, 16) := by kernel_rfl
theorem cellsT_zero : ∀ n : Nat, cellsT (List.replicate n tile0) (List.replicate (2 * n) vnil) = (List.replicate n [.int .i64 0, .slice none 0 0, .bool false, .slice none 0 0]).flatten
  | 0 => rfl
  | n + 1 => by
    have e : 2 * (n + 1) = 2 * n + 1 + 1 := by omega
    rw [e, List.replicate_succ, List.replicate_succ, List.replicate_succ, List.replicate_succ, List.flatten_cons, ← cellsT_zero n]; rfl
theorem flT_zero (n j : Nat) : (flT (List.replicate n tile0)).getD j [] = [] := by
  induction n generalizing j with
  | zero => simp [flT]
  | succ n ih =>
    rw [List.replicate_succ]
    show (tile0.sl :: tile0.dr :: flT (List.replicate n tile0)).getD j [] = []
    match j with
    | 0 => rfl
    | 1 => rfl
    | j + 2 => exact ih j
theorem Elts.zero (w : World) (base n : Nat) : Elts w base (List.replicate (2 * n) vnil) (flT (List.replicate n tile0)) := by
  have hv : ∀ j, (List.replicate (2 * n) vnil).getD j vnil = vnil := fun j => by
    rw [List.getD_eq_getElem?_getD, List.getElem?_replicate]; split <;> rfl
  refine ⟨by rw [flT_length]; simp, fun j hj => ?_, fun i j k _ _ hk => ?_⟩
  · rw [hv, flT_zero]; exact ownsRow_nil
  · rw [hv] at hk; cases hk
def MadeTiles (w : World) (ts : List Tile) (e : Ending) (w' : World) : Prop := ∃ B us, e = .returned (.slice (some ⟨B, 0, none⟩) ts.length ts.length) ∧ OwnT w' w.heap.size (.slice (some ⟨B, 0, none⟩) ts.length ts.length) us ts ∧ Ext w w'
set_option maxHeartbeats 1000000 in
theorem toTileConfigS_c (a : Option Addr) (c : Nat) (ts : List Tile) (w : World) (hx : TilesAt w a ts) (hl : ts.length ≤ 1048576) (hls : ∀ j, j < ts.length → (ts.getD j tile0).sl.length ≤ 1048576 ∧ (ts.getD j tile0).dr.length ≤ 1048576) :
    Calls Try.prog 71 #[.slice a ts.length c] w (MadeTiles w ts) := by
  have hm := run_zeros (P := Try.prog) 22 85 (.agg #[.int .i64 0, .slice none 0 0, .bool false, .slice none 0 0]) [.int .i64 0, .slice none 0 0, .bool false, .slice none 0 0] 64 Try.underlying22 tileInfo rfl (by decide) (by decide) ts.length hl w
  have L0 : Blk (w.alloc (.cells (List.replicate ts.length [.int .i64 0, .slice none 0 0, .bool false, .slice none 0 0]).flatten.toArray 85)) w.heap.size 85 (cellsT (upTo ts tile0 ts.length 0) (List.replicate (2 * ts.length) vnil)) := by
    rw [upTo_zero, cellsT_zero]
    exact Blk.new w _ _
  have HLS := Lib.hid hls
  have T0 : Elts (w.alloc (.cells (List.replicate ts.length [.int .i64 0, .slice none 0 0, .bool false, .slice none 0 0]).flatten.toArray 85)) w.heap.size (List.replicate (2 * ts.length) vnil) (flT (upTo ts tile0 ts.length 0)) := by rw [upTo_zero]; exact Elts.zero _ _ _
  have HV0 : ∀ j q, j < 2 * ts.length → ((List.replicate (2 * ts.length) vnil).getD j vnil).ownBlock = some q → w.heap.size ≠ q := fun j q hj hq => by
    rw [List.getD_eq_getElem?_getD, List.getElem?_replicate] at hq
    split at hq <;> cases hq
  clear hls
  go_enter Try.func71, Try.ntmps71
  go_wp2_with fail
  go_loopw [4] (fun i wr => ∃ (k : Nat) (us : List Value), k ≤ ts.length ∧ i = .int .i64 k ∧ Blk wr w.heap.size 85 (cellsT (upTo ts tile0 ts.length k) us) ∧ Elts wr w.heap.size us (flT (upTo ts tile0 ts.length k)) ∧ Hid (∀ j q, j < 2 * ts.length → (us.getD j vnil).ownBlock = some q → w.heap.size ≠ q) ∧ Ext w wr) (fun i _ => ts.length - (intOf i).toNat)
  case atStart => exact ⟨0, _, Nat.zero_le _, rfl, L0, T0, Lib.hid HV0, (Ext.refl w).alloc _⟩
  case round =>
    obtain ⟨k, us, hk, rfl, hB, hT, hV, hE⟩ := hrel
    clear L0 hm T0 HV0
    by_cases hlt : k < ts.length
    · obtain ⟨b, o, rfl, hb, hc⟩ := (hx.ext hE).get (by omega)
      obtain ⟨sa, sc, da, dc, q0, q1, q2, q3, hsl, hdr⟩ := hc k hlt
      obtain ⟨n1, n2⟩ := HLS.out k hlt
      have hs := upTo_set ts tile0 k hlt
      have hl2 := upTo_length ts tile0 k (by omega)
      have hul : us.length = 2 * ts.length := by rw [hT.len, flT_length, hl2]
      obtain ⟨x, hxx⟩ : ∃ x, x = ts.getD k tile0 := ⟨_, rfl⟩
      rw [← hxx] at q0 q1 q2 q3 hsl hdr n1 n2 hs
      obtain ⟨TS, hTS⟩ : ∃ TS, TS = upTo ts tile0 ts.length k := ⟨_, rfl⟩
      rw [← hTS] at hB hT hs hl2
      have HS := Lib.hid hs
      have HL := Lib.hid hl2
      have HUL := Lib.hid hul
      obtain ⟨w2, rfl⟩ : ∃ x : World, x = wr := ⟨_, rfl⟩
      clear hs hl2 hc hxx hTS hul
      go_wp2_with fail
      refine (toTileConfig_c x sa da sc dc w2 hsl hdr n1 n2).mono ?_
      rintro e w3 ⟨B1, B2, rfl, hB1, hB12, hI1, hI2, hE3⟩
      have hB3 := hB.ext hE3
      have hg := cellsT_get TS us (by rw [HUL.out, HL.out]) k (by rw [HL.out]; exact hlt)
      have z0 := hB3.cell hg.1
      have z1 := hB3.cell hg.2.1
      have z2 := hB3.cell hg.2.2.1
      have z3 := hB3.cell hg.2.2.2
      have zf := fun i => hB3.frozen i
      have hBl := hB.lt
      have hE4 := hE.trans hE3
      have s1 := I1ne hB1 hBl
      have hT3 := (((((hT.ext hE3).setCell (p := ⟨w.heap.size, k * 4, none⟩) (fun j hj e => hV.out j _ (by rw [flT_length, HL.out] at hj; exact hj) e rfl) (.int .i64 x.tb)).setCell (p := ⟨w.heap.size, k * 4 + 1, none⟩) (fun j hj e => hV.out j _ (by rw [flT_length, HL.out] at hj; exact hj) e rfl) (.slice (some ⟨B1, 0, none⟩) x.sl.length x.sl.length)).setCell (p := ⟨w.heap.size, k * 4 + 2, none⟩) (fun j hj e => hV.out j _ (by rw [flT_length, HL.out] at hj; exact hj) e rfl) (.bool x.rg)).setCell (p := ⟨w.heap.size, k * 4 + 3, none⟩) (fun j hj e => hV.out j _ (by rw [flT_length, HL.out] at hj; exact hj) e rfl) (.slice (some ⟨B2, 0, none⟩) x.dr.length x.dr.length))
      have hI1' := (((hI1.setOther (p := ⟨w.heap.size, k * 4, none⟩) (by simp; omega) (.int .i64 x.tb)).setOther (p := ⟨w.heap.size, k * 4 + 1, none⟩) (by simp; omega) (.slice (some ⟨B1, 0, none⟩) x.sl.length x.sl.length)).setOther (p := ⟨w.heap.size, k * 4 + 2, none⟩) (by simp; omega) (.bool x.rg)).setOther (p := ⟨w.heap.size, k * 4 + 3, none⟩) (by simp; omega) (.slice (some ⟨B2, 0, none⟩) x.dr.length x.dr.length)
      have hI2' := (((hI2.setOther (p := ⟨w.heap.size, k * 4, none⟩) (by simp; omega) (.int .i64 x.tb)).setOther (p := ⟨w.heap.size, k * 4 + 1, none⟩) (by simp; omega) (.slice (some ⟨B1, 0, none⟩) x.sl.length x.sl.length)).setOther (p := ⟨w.heap.size, k * 4 + 2, none⟩) (by simp; omega) (.bool x.rg)).setOther (p := ⟨w.heap.size, k * 4 + 3, none⟩) (by simp; omega) (.slice (some ⟨B2, 0, none⟩) x.dr.length x.dr.length)
      have hsz := hE.size
      have o1 : OwnInts _ w.heap.size 3 (.slice (some ⟨B1, 0, none⟩) x.sl.length x.sl.length) x.sl := hI1'.owns (n := x.sl.length) (size := 1) (by simp) (by omega) (by unfold maxLen; omega)
      have o2 : OwnInts _ w.heap.size 3 (.slice (some ⟨B2, 0, none⟩) x.dr.length x.dr.length) x.dr := hI2'.owns (n := x.dr.length) (size := 1) (by simp) (by omega) (by unfold maxLen; omega)
      have hT4 := hT3.put2 (k := k) (by rw [flT_length, HL.out]; omega) o1 o2 hB12 (fun j q hj hq => by have := (hT.lt hj hq).2; omega)
      rw [← flT_set, HS.out] at hT4
      have hB4 := ((((hB3.set (k * 4) (.int .i64 x.tb)).set (k * 4 + 1) (.slice (some ⟨B1, 0, none⟩) x.sl.length x.sl.length)).set (k * 4 + 2) (.bool x.rg)).set (k * 4 + 3) (.slice (some ⟨B2, 0, none⟩) x.dr.length x.dr.length))
      rw [cellsT_set TS us (by rw [HUL.out, HL.out]) k (by rw [HL.out]; exact hlt) x, HS.out] at hB4
      have hV4 : Hid (∀ j q, j < 2 * ts.length → (((us.set (2 * k) (.slice (some ⟨B1, 0, none⟩) x.sl.length x.sl.length)).set (2 * k + 1) (.slice (some ⟨B2, 0, none⟩) x.dr.length x.dr.length)).getD j vnil).ownBlock = some q → w.heap.size ≠ q) := Lib.hid (fun j q hj hq => by
        have hul := HUL.out
        rw [getD_set _ _ _ _ _ (by rw [List.length_set]; omega), getD_set _ _ _ _ _ (by omega)] at hq
        split at hq
        · have : B2 = q := Option.some.inj hq
          omega
        · split at hq
          · have : B1 = q := Option.some.inj hq
            omega
          · exact hV.out j q hj hq)
      have HB4 := Lib.hid hB4
      have HT4 := Lib.hid hT4
      clear hT3 hI1' hI2' o1 o2 hT4 hB4 hg hV hT hB
      go_wp2
      go_roundw
      case rel => exact ⟨k + 1, _, by omega, by go_num, HB4.out, HT4.out, hV4, Ext.setNew (Ext.setNew (Ext.setNew (Ext.setNew hE4 (Nat.le_refl _) _) (Nat.le_refl _) _) (Nat.le_refl _) _) (Nat.le_refl _) _⟩
      case measure => simp [intOf]; omega
    · have hk2 : k = ts.length := by omega
      subst hk2
      rw [upTo_all] at hB hT
      have HR : Hid (OwnT wr w.heap.size (.slice (some ⟨w.heap.size, 0, none⟩) ts.length ts.length) us ts) := Lib.hid ⟨hB.owns (n := ts.length) (size := 4) (by rw [cellsT_length _ _ (by rw [hT.len, flT_length])]) (Nat.le_refl _) (by unfold maxLen; omega), hT, fun j q hj hq e => hV.out j q hj hq (Option.some.inj e)⟩
      clear hB hT hV
      go_wp2
      go_ret
      exact ⟨_, us, rfl, HR.out, hE⟩
/-! ### pads -/
def flatP (gs : List (Int × Bool)) : List Value := gs.flatMap fun g => [.int .i64 g.1, .bool g.2]
theorem flatP_cons (g : Int × Bool) (gs : List (Int × Bool)) : flatP (g :: gs) = .int .i64 g.1 :: .bool g.2 :: flatP gs := rfl
theorem flatP_append (a b : List (Int × Bool)) : flatP (a ++ b) = flatP a ++ flatP b := by simp [flatP]
theorem flatP_length : ∀ gs : List (Int × Bool), (flatP gs).length = gs.length * 2
  | [] => rfl
  | g :: gs => by rw [flatP_cons]; simp only [List.length_cons, flatP_length gs]; omega
theorem flatP_get : ∀ (gs : List (Int × Bool)) (j : Nat), j < gs.length → (flatP gs)[j * 2]? = some (.int .i64 (gs.getD j (0, false)).1) ∧ (flatP gs)[j * 2 + 1]? = some (.bool (gs.getD j (0, false)).2)
  | [], j, h => by simp at h
  | g :: gs, 0, _ => ⟨rfl, rfl⟩
  | g :: gs, j + 1, h => by
    have := flatP_get gs j (by simpa using h)
    have e : (j + 1) * 2 = j * 2 + 1 + 1 := by omega
    rw [flatP_cons, e]
    simpa using this
theorem flatP_set : ∀ (gs : List (Int × Bool)) (k : Nat) (g : Int × Bool), ((flatP gs).set (k * 2) (.int .i64 g.1)).set (k * 2 + 1) (.bool g.2) = flatP (gs.set k g)
  | [], k, g => by simp [flatP]
  | x :: xs, 0, g => rfl
  | x :: xs, k + 1, g => by
    have e : (k + 1) * 2 = k * 2 + 1 + 1 := by omega
    rw [flatP_cons, e]
    simp only [List.set_cons_succ]
    rw [flatP_set xs k g]; rfl
theorem oneCell_flatP (gs : List (Int × Bool)) : ∀ u ∈ flatP gs, u.oneCell' = true := by
  intro u hu
  simp only [flatP, List.mem_flatMap, List.mem_cons, List.not_mem_nil, or_false] at hu
  obtain ⟨g, _, rfl | rfl⟩ := hu <;> rfl
theorem padsAt_of_row {w : World} {a : Option Addr} {ps : List (Int × Bool)} (h : RowAt w a (flatP ps)) : PadsAt w a ps := by
  rcases h with h | ⟨b, o, ha, hb, hc⟩
  · left
    cases ps with
    | nil => rfl
    | cons g gs => rw [flatP_cons] at h; cases h
  · exact .inr ⟨b, o, ha, hb, fun j hj => ⟨hc _ _ (flatP_get ps j hj).1, by rw [Nat.add_assoc]; exact hc _ _ (flatP_get ps j hj).2⟩⟩
def MadePads (w : World) (ps : List (Int × Bool)) (e : Ending) (w' : World) : Prop :=
  ∃ B, e = .returned (.slice (some ⟨B, 0, none⟩) ps.length ps.length) ∧ w.heap.size ≤ B ∧ Blk w' B 87 (flatP ps) ∧ Ext w w'
theorem toPadConfigS_c (a : Option Addr) (c : Nat) (xs : List (Int × Bool)) (w : World) (hx : PadsAt w a xs) (hl : xs.length ≤ 1048576) :
    Calls Try.prog 72 #[.slice a xs.length c] w (MadePads w xs) := by
  have hm := run_zeros (P := Try.prog) 23 87 (.agg #[.int .i64 0, .bool false]) [.int .i64 0, .bool false] 16 Try.underlying23 padInfo rfl (by decide) (by decide) xs.length hl w
  have L0 : Blk (w.alloc (.cells (List.replicate xs.length [Value.int .i64 0, .bool false]).flatten.toArray 87)) w.heap.size 87 (flatP (upTo xs (0, false) xs.length 0)) := by
    have e : flatP (upTo xs (0, false) xs.length 0) = (List.replicate xs.length [Value.int .i64 0, .bool false]).flatten := by rw [upTo_zero]; simp [flatP, List.flatMap]
    rw [e]
    exact Blk.new w _ _
  go_enter Try.func72, Try.ntmps72
  go_wp2_with fail
  go_loopw [4] (fun u wr => ∃ k : Nat, k ≤ xs.length ∧ u = .int .i64 k ∧ Blk wr w.heap.size 87 (flatP (upTo xs (0, false) xs.length k)) ∧ Ext w wr) (fun i _ => xs.length - (intOf i).toNat)
  case atStart => exact ⟨0, Nat.zero_le _, rfl, L0, (Ext.refl w).alloc _⟩
  case round =>
    obtain ⟨k, hk, rfl, hB, hE⟩ := hrel
    clear L0 hm
    by_cases hlt : k < xs.length
    · obtain ⟨b, o, rfl, hb, hcc⟩ := (hx.ext hE).get (by omega)
      obtain ⟨q1, q2⟩ := hcc k hlt
      have hs := upTo_set xs (0, false) k hlt
      have hl2 := upTo_length xs (0, false) k (by omega)
      obtain ⟨x, hxx⟩ : ∃ x, x = xs.getD k (0, false) := ⟨_, rfl⟩
      rw [← hxx] at q1 q2 hs
      have HS := Lib.hid hs
      have HL := Lib.hid hl2
      clear hs hl2 hcc hxx
      go_wp2_with (go_at_call 113; refine (toPadConfig_c _ _ _).mono ?_; rintro e w1 ⟨rfl, hE1⟩; have hB1 := hB.ext hE1; have z0 := hB1.cell (flatP_get (upTo xs (0, false) xs.length k) k (by rw [HL.out]; omega)).1; have z1 := hB1.cell (flatP_get (upTo xs (0, false) xs.length k) k (by rw [HL.out]; omega)).2; have fz := (fun i => hB1.frozen i))
      go_roundw
      case rel =>
        refine ⟨k + 1, by omega, by go_num, ?_, ?_⟩
        · rw [← HS.out, ← flatP_set]
          exact (hB1.set _ _).set _ _
        · exact Ext.setNew (Ext.setNew (hE.trans hE1) (Nat.le_refl _) _) (Nat.le_refl _) _
      case measure => simp [intOf]; omega
    · have hk2 : k = xs.length := by omega
      subst hk2
      rw [upTo_all] at hB
      go_wp2
      go_ret
      exact ⟨_, rfl, Nat.le_refl _, hB, hE⟩
/-! ### configurations -/
/-- How a configuration reads. -/
structure ConfAt (w : World) (k : Conf) (ta pa : Option Addr) : Prop where
  ts : TilesAt w ta k.ts
  ps : PadsAt w pa k.ps
  lt : k.ts.length ≤ 1048576
  lp : k.ps.length ≤ 1048576
  ls : ∀ j, j < k.ts.length → (k.ts.getD j tile0).sl.length ≤ 1048576 ∧ (k.ts.getD j tile0).dr.length ≤ 1048576
theorem ConfAt.ext {w w' : World} {k : Conf} {ta pa : Option Addr} (h : ConfAt w k ta pa) (e : Ext w w') : ConfAt w' k ta pa := { h with ts := h.ts.ext e, ps := h.ps.ext e }
/-- A configuration that the call owns. -/
structure OwnK (w : World) (base : Nat) (tv pv : Value) (us : List Value) (k : Conf) : Prop where
  ts : OwnT w base tv us k.ts
  ps : w.ownsRow base 87 2 pv k.ps.length (flatP k.ps)
  op : ∀ q, pv.ownBlock = some q → tv.ownBlock ≠ some q ∧ ∀ j, j < 2 * k.ts.length → (us.getD j vnil).ownBlock ≠ some q
def GiveK (w : World) (k : Conf) (e : Ending) (w' : World) : Prop := ∃ tv pv us, e = .returned (.agg #[tv, pv]) ∧ OwnK w' w.heap.size tv pv us k ∧ Ext w w'
section
variable {w w' : World} {base : Nat} {tv pv : Value} {us : List Value} {k : Conf}
theorem OwnK.ext (h : OwnK w base tv pv us k) (e : Ext w w') : OwnK w' base tv pv us k := { h with ts := h.ts.ext e, ps := ownsRow_ext h.ps e }
theorem OwnK.sl (h : OwnK w base tv pv us k) : ∃ ta tc pa pc, tv = .slice ta k.ts.length tc ∧ pv = .slice pa k.ps.length pc := by
  obtain ⟨ta, tc, e1, _⟩ := ownsRow_row h.ts.row
  obtain ⟨pa, pc, e2, _⟩ := ownsRow_row h.ps
  exact ⟨ta, tc, pa, pc, e1, e2⟩
theorem OwnK.at_ {ta pa : Option Addr} {n m tc pc : Nat} (h : OwnK w base (.slice ta n tc) (.slice pa m pc) us k) (l1 : k.ts.length ≤ 1048576) (l2 : k.ps.length ≤ 1048576) (l3 : ∀ j, j < k.ts.length → (k.ts.getD j tile0).sl.length ≤ 1048576 ∧ (k.ts.getD j tile0).dr.length ≤ 1048576) : ConfAt w k ta pa := by
  obtain ⟨pa', pc', e2, hp, _⟩ := ownsRow_row h.ps
  cases e2
  exact ⟨h.ts.tiles, padsAt_of_row hp, l1, l2, l3⟩
end
theorem toConfig_c (k : Conf) (ta pa : Option Addr) (tc pc : Nat) (w : World) (hk : ConfAt w k ta pa) :
    Calls Try.prog 19 #[.agg #[.slice ta k.ts.length tc, .slice pa k.ps.length pc]] w (GiveK w k) := by
  have y := Blk.at w [.slice ta k.ts.length tc, .slice pa k.ps.length pc] 33 rfl
  have lt := hk.lt
  have lp := hk.lp
  go_enter Try.func19, Try.ntmps19
  go_wp2_with fail
  refine (toTileConfigS_c _ _ _ _ (hk.ts.ext (by (repeat (first | with_reducible assumption | with_reducible exact Ext.refl _ | with_reducible refine Ext.drew' ?_ | with_reducible refine Ext.drewN' ?_ _ | with_reducible refine Ext.alloc ?_ _ | (with_reducible refine Ext.setNew ?_ (by first | exact Nat.le_refl _ | (simp; done) | (simp; omega) | omega) _))))) lt hk.ls).mono ?_
  rintro e w1 ⟨B1, us, rfl, hT1, hE1⟩
  have E1 := Ext.trans (a := w) (by (repeat (first | with_reducible assumption | with_reducible exact Ext.refl _ | with_reducible refine Ext.drew' ?_ | with_reducible refine Ext.drewN' ?_ _ | with_reducible refine Ext.alloc ?_ _ | (with_reducible refine Ext.setNew ?_ (by first | exact Nat.le_refl _ | (simp; done) | (simp; omega) | omega) _)))) hE1
  have F1 := Ext.trans (a := w.alloc _) (by (repeat (first | with_reducible assumption | with_reducible exact Ext.refl _ | with_reducible refine Ext.drew' ?_ | with_reducible refine Ext.drewN' ?_ _ | with_reducible refine Ext.alloc ?_ _ | (with_reducible refine Ext.setNew ?_ (by first | exact Nat.le_refl _ | (simp; done) | (simp; omega) | omega) _)))) hE1
  have Y1 := y.ext F1
  have k1 := (Blk.at ((w.alloc _).alloc _) [.slice none 0 0, .slice none 0 0] 25 (B := w.heap.size + 1 + 1) (by simp)).ext hE1
  have r1 := ((Blk.at (w.alloc _) [.slice none 0 0, .slice none 0 0] 25 (B := w.heap.size + 1) (by simp)).alloc _).ext hE1
  have a0 := Y1.cell (i := 0) rfl
  have a1 := Y1.cell (i := 1) rfl
  have al := Y1.lt
  have z0 := k1.cell (i := 0) rfl
  have z1 := k1.cell (i := 1) rfl
  have zf := fun i => k1.frozen i
  have kl := k1.lt
  have hbT : ∀ q, (Value.slice (some ⟨B1, 0, none⟩) k.ts.length k.ts.length).ownBlock = some q → w.heap.size + 3 ≤ q ∧ q < w1.heap.size := fun q hq => by have := World.ownsRow.lt hT1.row q hq; simp at this; omega
  have hbU : ∀ j q, j < 2 * k.ts.length → (us.getD j vnil).ownBlock = some q → w.heap.size + 3 ≤ q ∧ q < w1.heap.size := fun j q hj hq => by have := hT1.els.lt (by rw [flT_length]; exact hj) hq; simp at this; omega
  have HT := Lib.hid hT1
  have HBT := Lib.hid hbT
  have HBU := Lib.hid hbU
  clear hT1 hbT hbU
  go_wp2_with fail
  refine (toPadConfigS_c _ _ _ _ (hk.ps.ext (by (repeat (first | with_reducible assumption | with_reducible exact Ext.refl _ | with_reducible refine Ext.drew' ?_ | with_reducible refine Ext.drewN' ?_ _ | with_reducible refine Ext.alloc ?_ _ | (with_reducible refine Ext.setNew ?_ (by first | exact Nat.le_refl _ | (simp; done) | (simp; omega) | omega) _))))) lp).mono ?_
  rintro e w2 ⟨B2, rfl, hB2, hI2, hE2⟩
  have E2 := Ext.trans (a := w) (by (repeat (first | with_reducible assumption | with_reducible exact Ext.refl _ | with_reducible refine Ext.drew' ?_ | with_reducible refine Ext.drewN' ?_ _ | with_reducible refine Ext.alloc ?_ _ | (with_reducible refine Ext.setNew ?_ (by first | exact Nat.le_refl _ | (simp; done) | (simp; omega) | omega) _)))) hE2
  have s1 := hE1.size
  simp at s1
  simp at hB2
  have k2 := (k1.set 0 _).ext hE2
  have r2 := (r1.setOther (by simp) _).ext hE2
  clear a0 a1 al z0 z1 zf kl
  have z0 := k2.cell (i := 0) rfl
  have z1 := k2.cell (i := 1) rfl
  have zf := fun i => k2.frozen i
  have kl := k2.lt
  have y0 := r2.cell (i := 0) rfl
  have y1 := r2.cell (i := 1) rfl
  have yf := fun i => r2.frozen i
  have yl := r2.lt
  have HE2 := Lib.hid hE2
  go_wp2
  refine bodyPost_ret (v := .agg #[.slice (some ⟨B1, 0, none⟩) k.ts.length k.ts.length, .slice (some ⟨B2, 0, none⟩) k.ps.length k.ps.length]) (by simp [results, Try.results19, go_sem, y0, y1]) rfl ?_
  have setT : ∀ (W : World) (b i : Nat) (v : Value), b < w.heap.size + 3 → OwnT W (w.heap.size + 3) (.slice (some ⟨B1, 0, none⟩) k.ts.length k.ts.length) us k.ts → OwnT (W.setCell ⟨b, i, none⟩ v) (w.heap.size + 3) (.slice (some ⟨B1, 0, none⟩) k.ts.length k.ts.length) us k.ts := fun W b i v hb h =>
    { h with row := ownsRow_set h.row (p := ⟨b, i, none⟩) (fun e => by have := (World.ownsRow.lt h.row _ e).1; dsimp only at this; omega) v, els := h.els.setCell (p := ⟨b, i, none⟩) (fun j hj e => by have := (h.els.lt hj e).1; dsimp only at this; omega) v }
  have hT0 : OwnT w1 (w.heap.size + 3) (.slice (some ⟨B1, 0, none⟩) k.ts.length k.ts.length) us k.ts := by have := HT.out; simpa using this
  refine (fun (G1 : OwnT _ (w.heap.size + 3) (.slice (some ⟨B1, 0, none⟩) k.ts.length k.ts.length) us k.ts) (G2 : Blk _ B2 87 (flatP k.ps)) GE => ⟨_, _, us, rfl, ⟨G1.le (by omega), G2.owns (n := k.ps.length) (size := 2) (by rw [flatP_length]) (by omega) (by unfold maxLen; omega), fun q hq => ⟨fun e => (by have e2 : B2 = q := Option.some.inj hq; have := HBT.out q e; omega), fun j hj e => (by have e2 : B2 = q := Option.some.inj hq; have := HBU.out j q hj e; omega)⟩⟩, GE⟩) ?_ ?_ ?_
  · repeat (first | with_reducible exact (setT _ _ _ _ (by omega) hT0).ext HE2.out | with_reducible refine setT _ _ _ _ (by omega) ?_)
  · repeat (first | with_reducible exact hI2 | with_reducible refine Blk.setOther ?_ (by simp; omega) _)
  · (repeat (first | with_reducible assumption | with_reducible exact Ext.refl _ | with_reducible refine Ext.drew' ?_ | with_reducible refine Ext.drewN' ?_ _ | with_reducible refine Ext.alloc ?_ _ | (with_reducible refine Ext.setNew ?_ (by first | exact Nat.le_refl _ | (simp; done) | (simp; omega) | omega) _)))
end Go.Proofs.Ytkdiniaddnhkdaa
