/- Contract: which gates the reference finds used. -/
import Derived.Test.YtpfhlodlefcomaaOptV
import Derived.Test.YtpfhlodlefcomaaSpec1
import Derived.Test.YtpfhlodlefcomaaOwn
import Derived.Test.YtpfhlodlefcomaaEval
import Derived.LoopN
import Derived.Outline
import Derived.Deep.Cut
import Derived.Deep.DeepCutAuto
namespace Go.Proofs.Ytpfhlodlefcomaa
open Go.RowKit
set_option maxRecDepth 100000
set_option linter.unusedVariables false
set_option linter.unusedSimpArgs false
def UsedPost (w : World) (c : Circ) (e : Ending) (w' : World) : Prop := ∃ B, e = .returned (.slice (some ⟨B, 0, none⟩) c.gates.length c.gates.length) ∧ w.heap.size ≤ B ∧ Blk w' B 4 ((usedV c).map Value.bool) ∧ Ext w w'
theorem foldl_take_snoc (f : Int) (n : Nat) (xs : List Int) (k : Nat) (hk : k < xs.length) : rootU f n (xs.take (k + 1)) = markG f (rootU f n (xs.take k)) (xs.getD k 0) := by
  unfold rootU; rw [take_snocG xs k 0 hk, List.foldl_append]; rfl
/-- The marks after j of a gate's two operands. -/
def useK (f : Int) (gs : List (Int × Int)) (us : List Bool) (i : Nat) : Nat → List Bool
  | 0 => us
  | 1 => if us.getD i false = true then markG f us (gs.getD i (0, 0)).1 else us
  | _ => useStep f gs us i
theorem useK_no {f : Int} {gs : List (Int × Int)} {us : List Bool} {i : Nat} (h : us.getD i false = false) (j : Nat) : useK f gs us i j = us := by
  match j with
  | 0 => rfl
  | 1 => simp only [useK, h]; rfl
  | j + 2 => simp only [useK, useStep, h]; rfl
theorem useK_one {f : Int} {gs : List (Int × Int)} {us : List Bool} {i : Nat} (h : us.getD i false = true) : useK f gs us i 1 = markG f us (gs.getD i (0, 0)).1 := by simp only [useK, h, if_true]
theorem useK_two {f : Int} {gs : List (Int × Int)} {us : List Bool} {i : Nat} (h : us.getD i false = true) : useK f gs us i 2 = markG f (useK f gs us i 1) (gs.getD i (0, 0)).2 := by simp only [useK, useStep, h, if_true]
theorem markG_keep {f : Int} {us : List Bool} {l : Int} {i : Nat} (h : l / 2 < f + i) (hu : us.getD i false = true) : (markG f us l).getD i false = true := by
  unfold markG
  split
  · rw [List.getD_eq_getElem?_getD, List.getElem?_set]
    split
    · rename_i h1
      have : (l / 2 - f).toNat = i := h1
      omega
    · rwa [List.getD_eq_getElem?_getD] at hu
  · exact hu
theorem useK_length (f : Int) (gs : List (Int × Int)) (us : List Bool) (i j : Nat) : (useK f gs us i j).length = us.length := by
  match j with
  | 0 => rfl
  | 1 => simp only [useK]; split <;> simp [markG_length]
  | j + 2 => simp [useK, useStep_length]
theorem CircBox.set {w : World} {b : Nat} {c : Circ} {p : Where3} (h : CircBox w b c p) {a : Addr} (ha : b ≠ a.block) (v : Value) : CircBox (w.setCell a v) b c p := by
  have hb := heap_setCell_other w a b v ha
  exact ⟨by simpa using h.lt, (World.cell?_of_block (a := ⟨b, 0, none⟩) hb).trans h.h0, (World.cell?_of_block (a := ⟨b, 1, none⟩) hb).trans h.h1, (World.cell?_of_block (a := ⟨b, 2, none⟩) hb).trans h.h2, (World.cell?_of_block (a := ⟨b, 3, none⟩) hb).trans h.h3⟩
set_option maxHeartbeats 4000000 in
theorem l3Used_c (c : Circ) (p : Where3) (w : World) (hc : CircAt w c p) (V : c.Valid) :
    Calls Try.prog 76 #[.agg #[.int .i64 c.inputs, .slice p.an c.next.length p.cn, .slice p.ag c.gates.length p.cg, .slice p.ao c.outs.length p.co]] w (UsedPost w c) := by
  have hi0 := V.i0
  have hi4 := V.i4
  have ln := V.ln
  have lg := V.lg
  have lo := V.lo
  obtain ⟨F, hF⟩ : ∃ F : Nat, c.first = (F : Int) := ⟨c.first.toNat, by unfold Circ.first; omega⟩
  have hF1 : 1 ≤ F ∧ F ≤ 8 := by unfold Circ.first at hF; omega
  obtain ⟨hF1, hF2⟩ := hF1
  have VG := Lib.hid V.gs
  have VR : Hid (∀ i, i < (c.outs ++ c.next).length → litB ((c.outs ++ c.next).getD i 0) (F + c.gates.length) = true) := Lib.hid (by
    have hr := V.rs
    unfold Circ.vars at hr
    rw [hF, litsOk_append] at hr
    exact litsOk_append.2 ⟨hr.2, hr.1⟩)
  have HU : Hid (usedV c = useDown c.first c.gates c.gates.length (rootU c.first c.gates.length (c.outs ++ c.next))) := Lib.hid rfl
  have made := CircBox.made w c p 26
  have E0 : Ext w (w.alloc (.cells #[.int .i64 c.inputs, .slice p.an c.next.length p.cn, .slice p.ag c.gates.length p.cg, .slice p.ao c.outs.length p.co] 26)) := (Ext.refl w).alloc _
  obtain ⟨xs, hxs⟩ : ∃ xs, xs = c.outs ++ c.next := ⟨_, rfl⟩
  rw [← hxs] at VR HU
  have lxs : xs.length ≤ 6 := by rw [hxs]; simp; omega
  have XS := Lib.hid hxs
  clear V hxs
  go_enter Try.func76, Try.ntmps76
  go_wp2_with fail
  refine (l1First_c c p _ (by omega) (by omega) (by omega)).mono ?_
  rw [hF]
  rintro e w1 ⟨rfl, hE1⟩
  have HF := Lib.hid hF
  clear hF
  have E1 : Ext w w1 := E0.trans hE1
  have y1 := made.ext hE1
  have s1 := y1.lt
  clear E0 made hE1
  have hm := run_zeros' (P := Try.prog) 38 4 (.bool false) [.bool false] 1 Try.underlying38 boolInfo' rfl (by decide) (by decide) c.gates.length (by omega) w1
  have L0 := Blk.at w1 (zeros [Value.bool false] c.gates.length) 4 rfl
  have E2 : Ext w (w1.alloc (.cells (zeros [Value.bool false] c.gates.length).toArray 4)) := E1.alloc _
  have y2 := y1.ext ((Ext.refl w1).alloc (.cells (zeros [Value.bool false] c.gates.length).toArray 4))
  obtain ⟨lz, z0, z1, z2, z3⟩ := (id y1)
  go_wp2_with fail
  clear lz z0 z1 z2 z3
  obtain ⟨B, hB⟩ : ∃ B, B = w1.heap.size := ⟨_, rfl⟩
  rw [← hB] at L0
  have sB : w1.heap.size ≤ B := by omega
  obtain ⟨W2, hW2⟩ : ∃ W2, W2 = w1.alloc (.cells (zeros [Value.bool false] c.gates.length).toArray 4) := ⟨_, rfl⟩
  rw [← hW2] at L0 E2 y2 ⊢
  rw [← hB]
  clear hm hW2 hB
  have C2 := hc.ext E2
  have hnx : RowAt W2 p.an (c.next.map (Value.int .i64)) := C2.nx.row
  have hou : RowAt W2 p.ao (c.outs.map (Value.int .i64)) := C2.ou.row
  have lW := E2.size
  (obtain ⟨lb, b0, b1, b2, b3⟩ := (id y2))
  have EA : Ext W2 ((W2.alloc (.cells #[] 3)).drew) := ((Ext.refl W2).alloc _).drew'
  have OA : World.ownsRow ((W2.alloc (.cells #[] 3)).drew) W2.heap.size 3 1 (.slice (some ⟨W2.heap.size, 0, none⟩) 0 0) 0 [] := ownsRow_ext ((Blk.at W2 [] 3 rfl).owns (n := 0) (size := 1) rfl (Nat.le_refl _) (by decide)) (Ext.drew _)
  have hoA := hou.ext EA
  go_cut [5] (fun v wx => ∃ ra rc, v = .slice ra xs.length rc ∧ wx.ownsRow W2.heap.size 3 1 (.slice ra xs.length rc) xs.length (xs.map (Value.int .i64)) ∧ Ext W2 wx)
  case first =>
    go_region_law (first | (refine step_app tyInts OA hoA (by simp) (oneCell_ints _) (by omega) (by simp) rfl rfl rfl rfl ?_; intro v3 w3 o3 g3 m3; simp only [Nat.zero_add, List.nil_append] at o3; obtain ⟨a3, c3, rfl, _, _, _, ob3⟩ := ownsRow_row o3; have E3 := ext_grown EA g3 (by intro k hk; simp [Value.ownBlock] at hk; omega); obtain ⟨_, p0, p1, p2, p3⟩ := y2.ext E3; have hn3 := hnx.ext E3) | (refine step_app tyInts o3 hn3 (by simp) (oneCell_ints _) (by omega) (by have := E3.size; omega) rfl rfl rfl rfl ?_; intro v4 w4 o4 g4 m4))
    all_goals
      go_wp2_with fail
      go_meet
      rw [← List.map_append, ← XS.out] at o4
      have hl : c.outs.length + c.next.length = xs.length := by rw [XS.out, List.length_append]
      rw [hl] at o4
      obtain ⟨ra, rc, rfl, hr, _⟩ := ownsRow_row o4
      exact ⟨ra, rc, rfl, o4, ext_grown E3 g4 (by intro k hk; exact (o3.lt k hk).1)⟩
  obtain ⟨ra, rc, rfl, hI0, hEc⟩ := hcut
  have hBW := L0.lt
  clear hoA OA EA hnx hou lb b0 b1 b2 b3
  obtain ⟨w5, rfl⟩ : ∃ x : World, x = wc := ⟨_, rfl⟩
  have E5 := E2.trans hEc
  go_wp2_with fail
  go_loopw [6] (fun i wr => ∃ k : Nat, k ≤ xs.length ∧ i = .int .i64 k ∧ Blk wr B 4 ((rootU F c.gates.length (xs.take k)).map Value.bool) ∧ CircBox wr w.heap.size c p ∧ wr.ownsRow W2.heap.size 3 1 (.slice ra xs.length rc) xs.length (xs.map (Value.int .i64)) ∧ Ext w wr) (fun i _ => xs.length - (intOf i).toNat)
  case atStart =>
    refine ⟨0, Nat.zero_le _, rfl, ?_, y2.ext hEc, hI0, E5⟩
    have e : (rootU F c.gates.length (xs.take 0)).map Value.bool = zeros [Value.bool false] c.gates.length := by rw [zeros_one]; simp [rootU]
    rw [e]; exact L0.ext hEc
  case round =>
    clear hEc hI0 L0 y2 y1
    obtain ⟨k, hk, rfl, hB, hy, hI, hE⟩ := hrel
    by_cases hlt : k < xs.length
    · obtain ⟨b9, o9, rfl, hb9, hg⟩ := (intsAt_of_row (ownsRow_at hI)).get (by omega)
      have q := hg k hlt
      have hx := VR.out k hlt
      have hsn := foldl_take_snoc F c.gates.length xs k hlt
      have hul := rootU_length F c.gates.length (xs.take k)
      obtain ⟨us, hus⟩ : ∃ us, us = rootU F c.gates.length (xs.take k) := ⟨_, rfl⟩
      rw [← hus] at hB hsn hul
      obtain ⟨x, hxx⟩ : ∃ x, x = xs.getD k 0 := ⟨_, rfl⟩
      rw [← hxx] at q hx hsn
      rw [litB_iff'] at hx
      obtain ⟨hx1, hx2⟩ := hx
      have HUL := Lib.hid hul
      have HSN := Lib.hid hsn
      have hBlt := hB.lt
      clear hg hxx hus hul hsn
      by_cases hm : (F : Int) ≤ x / 2
      · obtain ⟨j, hj⟩ : ∃ j : Nat, (j : Int) = x / 2 - F := ⟨(x / 2 - F).toNat, by omega⟩
        have hj2 : (x / 2 - (F : Int)).toNat = j := by omega
        have hjl : j < c.gates.length := by omega
        obtain ⟨uu, zz⟩ : ∃ u, wr.cell? ⟨B, j, none⟩ = some u := ⟨_, hB.cell (List.getElem?_eq_getElem (by rw [List.length_map, HUL.out]; exact hjl))⟩
        have fz := hB.frozen j
        have HM : Hid (markG F us x = us.set j true) := Lib.hid (by rw [markG_at _ _ _ hm, hj2])
        clear hj
        go_wp2
        go_roundw
        case rel =>
          refine ⟨k + 1, by omega, by go_num, ?_, ?_, ?_, ?_⟩
          · rw [HSN.out, HM.out, map_set]; exact hB.set _ _
          · exact hy.set (a := ⟨B, j, none⟩) (by show _ ≠ B; omega) _
          · exact ownsRow_set hI (p := ⟨B, j, none⟩) (by intro hh; have := (hI.lt B hh).1; omega) _
          · (repeat (first | with_reducible assumption | with_reducible exact Ext.refl _ | with_reducible refine Ext.drew' ?_ | with_reducible refine Ext.drewN' ?_ _ | with_reducible refine Ext.alloc ?_ _ | (with_reducible refine Ext.setNew ?_ (by first | exact Nat.le_refl _ | (simp; done) | (simp; omega) | omega) _)))
        case measure => simp [intOf]; omega
      · have HM : Hid (markG F us x = us) := Lib.hid (markG_no _ _ _ (by omega))
        go_wp2
        go_roundw
        case rel =>
          refine ⟨k + 1, by omega, by go_num, ?_, hy, hI, hE⟩
          rw [HSN.out, HM.out]; exact hB
        case measure => simp [intOf]; omega
    · have hk2 : k = xs.length := by omega
      subst hk2
      rw [List.take_length] at hB
      obtain ⟨lb, b0, b1, b2, b3⟩ := (id hy)
      go_wp2_with fail
      clear lb b0 b1 b2 b3
      clear hI
      obtain ⟨w6, rfl⟩ : ∃ x : World, x = wr := ⟨_, rfl⟩
      go_loopw [7] (fun i wr => ∃ (k : Nat) (us : List Bool), k ≤ c.gates.length ∧ i = .int .i64 ((k : Int) - 1) ∧ us.length = c.gates.length ∧ Hid (useDown F c.gates k us = usedV c) ∧ Blk wr B 4 (us.map Value.bool) ∧ CircBox wr w.heap.size c p ∧ Ext w wr) (fun i _ => (intOf i + 1).toNat)
      case atStart =>
        refine ⟨c.gates.length, rootU F c.gates.length xs, Nat.le_refl _, by first | rfl | (congr 1; omega), rootU_length _ _ _, ?_, hB, hy, hE⟩
        exact Lib.hid (by rw [HU.out, HF.out])
      case round =>
        clear hB hy hE
        obtain ⟨k, us, hk, rfl, hul, hu, hB, hy, hE⟩ := hrel
        cases k with
        | zero =>
          go_wp2
          go_ret
          have := hu.out
          simp only [useDown] at this
          exact ⟨B, rfl, by omega, by rw [← this]; exact hB, hE⟩
        | succ k =>
          have hkl : k < c.gates.length := by omega
          obtain ⟨b9, o9, hag, hb9, hg1, hg2⟩ := (hc.ext hE).gs.get (by omega)
          have q1 := hg1 k (by omega)
          have q2 := hg2 k (by omega)
          have hv := VG.out k (by omega)
          rw [HF.out] at hv
          obtain ⟨va, vb⟩ := hv
          rw [litB_iff'] at va vb
          obtain ⟨va1, va2⟩ := va
          obtain ⟨vb1, vb2⟩ := vb
          obtain ⟨ga, hga⟩ : ∃ x, x = (c.gates.getD k (0, 0)).1 := ⟨_, rfl⟩
          obtain ⟨gb, hgb⟩ : ∃ x, x = (c.gates.getD k (0, 0)).2 := ⟨_, rfl⟩
          rw [← hga] at q1 va1 va2
          rw [← hgb] at q2 vb1 vb2
          have HA := Lib.hid hga
          have HB := Lib.hid hgb
          have e1 : ((k + 1 : Nat) : Int) - 1 = (k : Int) := by omega
          rw [e1]
          have HUL := Lib.hid hul
          obtain ⟨lb, b0, b1, b2, b3⟩ := (id hy)
          rw [hag] at b2
          have HAG := Lib.hid hag
          have hBl := hB.lt
          have hta : IntKind.i64.wrap (ga.tdiv 2) = ga / 2 := by rw [Int.tdiv_eq_ediv_of_nonneg va1]; exact IntWalk.i64_in _ (by omega)
          have htb : IntKind.i64.wrap (gb.tdiv 2) = gb / 2 := by rw [Int.tdiv_eq_ediv_of_nonneg vb1]; exact IntWalk.i64_in _ (by omega)
          clear hga hgb hg1 hg2 hag hul e1
          go_wp2_with fail
          go_cut [8] (fun v wx => ∃ D, v = .slice (some ⟨D, 0, none⟩) 2 2 ∧ Blk wx D 3 [.int .i64 (ga / 2), .int .i64 (gb / 2)] ∧ wr.heap.size ≤ D ∧ Ext wr wx)
          case first =>
            go_region_law (fail)
            all_goals
              go_wp2_with fail
              go_meet
              exact ⟨wr.heap.size, rfl, (Blk.at wr _ 3 rfl).ext (Ext.drew _), Nat.le_refl _, by (repeat (first | with_reducible assumption | with_reducible exact Ext.refl _ | with_reducible refine Ext.drew' ?_ | with_reducible refine Ext.drewN' ?_ _ | with_reducible refine Ext.alloc ?_ _ | (with_reducible refine Ext.setNew ?_ (by first | exact Nat.le_refl _ | (simp; done) | (simp; omega) | omega) _)))⟩
          obtain ⟨D, rfl, hD, hDl, hEc⟩ := hcut
          have hB := hB.ext hEc
          have hy := hy.ext hEc
          have hE := hE.trans hEc
          obtain ⟨w7, rfl⟩ : ∃ x : World, x = wc := ⟨_, rfl⟩
          clear lb b0 b1 b2 b3 q1 q2 hta htb
          go_wp2_with fail
          go_loopw [9] (fun i wr => ∃ j : Nat, j ≤ 2 ∧ i = .int .i64 j ∧ Blk wr B 4 ((useK F c.gates us k j).map Value.bool) ∧ CircBox wr w.heap.size c p ∧ Blk wr D 3 [.int .i64 (ga / 2), .int .i64 (gb / 2)] ∧ Ext w wr) (fun i _ => 2 - (intOf i).toNat)
          case atStart => exact ⟨0, by omega, rfl, hB, hy, hD, hE⟩
          case round =>
            clear hB hy hD hE
            obtain ⟨j, hj, rfl, hB, hy, hD, hE⟩ := hrel
            have hkl2 : k < (useK F c.gates us k j).length := by rw [useK_length, HUL.out]; omega
            have hcell := hB.cell (i := k) (u := .bool ((useK F c.gates us k j).getD k false)) (by rw [List.getElem?_map, List.getElem?_eq_getElem hkl2]; simp [List.getD_eq_getElem?_getD, List.getElem?_eq_getElem hkl2])
            have d0 := hD.cell (i := 0) rfl
            have d1 := hD.cell (i := 1) rfl
            have hBl := hB.lt
            have hDl2 := hD.lt
            have hBD : B ≠ D := by omega
            have hul := HUL.out
            rcases (by omega : j = 2 ∨ j = 0 ∨ j = 1) with rfl | rfl | rfl
            · clear hcell hkl2 hul
              go_wp2
              go_roundw
              case rel =>
                exact ⟨k, useStep F c.gates us k, by omega, by first | rfl | go_num, by rw [useStep_length]; exact HUL.out, Lib.hid hu.out, hB, hy, hE⟩
              case measure => simp only [intOf]; omega
            · cases hb0 : us.getD k false
              · rw [useK_no hb0] at hcell hB hkl2
                rw [hb0] at hcell
                clear hul hkl2
                have HU0 := Lib.hid hb0
                clear hb0
                go_wp2
                go_roundw
                case rel => exact ⟨1, by omega, rfl, by rw [useK_no HU0.out]; exact hB, hy, hD, hE⟩
                case measure => simp [intOf]
              · have hgt : (useK F c.gates us k 0).getD k false = true := by
                  first
                  | exact hb0
                  | (rw [useK_one hb0]; exact markG_keep (by rw [← HA.out]; omega) hb0)
                rw [hgt] at hcell
                have HM : Hid (useK F c.gates us k 1 = markG F (useK F c.gates us k 0) ga) := Lib.hid (by rw [HA.out]; exact useK_one hb0)
                have hll : (useK F c.gates us k 0).length = c.gates.length := by rw [useK_length, hul]
                obtain ⟨U, hU⟩ : ∃ U, U = useK F c.gates us k 0 := ⟨_, rfl⟩
                rw [← hU] at hB HM hll
                have HLL := Lib.hid hll
                clear hgt hb0 hkl2 hU hul hll
                by_cases hm : (F : Int) ≤ ga / 2
                · obtain ⟨jx, hj⟩ : ∃ j : Nat, (j : Int) = ga / 2 - F := ⟨(ga / 2 - F).toNat, by omega⟩
                  have hj2 : (ga / 2 - (F : Int)).toNat = jx := by omega
                  have hjl : jx < c.gates.length := by omega
                  obtain ⟨uu, zz⟩ : ∃ u, wr.cell? ⟨B, jx, none⟩ = some u := ⟨_, hB.cell (List.getElem?_eq_getElem (by rw [List.length_map, HLL.out]; exact hjl))⟩
                  have fz := hB.frozen jx
                  have HM2 : Hid (markG F U ga = U.set jx true) := Lib.hid (by rw [markG_at _ _ _ hm, hj2])
                  clear hj
                  go_wp2
                  go_roundw
                  case rel =>
                    refine ⟨1, by omega, rfl, ?_, hy.set (a := ⟨B, jx, none⟩) (by show _ ≠ B; omega) _, hD.setOther (p := ⟨B, jx, none⟩) (by show _ ≠ B; omega) _, ?_⟩
                    · rw [HM.out, HM2.out, map_set]; exact hB.set _ _
                    · (repeat (first | with_reducible assumption | with_reducible exact Ext.refl _ | with_reducible refine Ext.drew' ?_ | with_reducible refine Ext.drewN' ?_ _ | with_reducible refine Ext.alloc ?_ _ | (with_reducible refine Ext.setNew ?_ (by first | exact Nat.le_refl _ | (simp; done) | (simp; omega) | omega) _)))
                  case measure => simp [intOf]
                · have HM2 : Hid (markG F U ga = U) := Lib.hid (markG_no _ _ _ (by omega))
                  go_wp2
                  go_roundw
                  case rel => exact ⟨1, by omega, rfl, by rw [HM.out, HM2.out]; exact hB, hy, hD, hE⟩
                  case measure => simp [intOf]
            · cases hb0 : us.getD k false
              · rw [useK_no hb0] at hcell hB hkl2
                rw [hb0] at hcell
                clear hul hkl2
                have HU0 := Lib.hid hb0
                clear hb0
                go_wp2
                go_roundw
                case rel => exact ⟨2, by omega, rfl, by rw [useK_no HU0.out]; exact hB, hy, hD, hE⟩
                case measure => simp [intOf]
              · have hgt : (useK F c.gates us k 1).getD k false = true := by
                  first
                  | exact hb0
                  | (rw [useK_one hb0]; exact markG_keep (by rw [← HA.out]; omega) hb0)
                rw [hgt] at hcell
                have HM : Hid (useK F c.gates us k 2 = markG F (useK F c.gates us k 1) gb) := Lib.hid (by rw [HB.out]; exact useK_two hb0)
                have hll : (useK F c.gates us k 1).length = c.gates.length := by rw [useK_length, hul]
                obtain ⟨U, hU⟩ : ∃ U, U = useK F c.gates us k 1 := ⟨_, rfl⟩
                rw [← hU] at hB HM hll
                have HLL := Lib.hid hll
                clear hgt hb0 hkl2 hU hul hll
                by_cases hm : (F : Int) ≤ gb / 2
                · obtain ⟨jx, hj⟩ : ∃ j : Nat, (j : Int) = gb / 2 - F := ⟨(gb / 2 - F).toNat, by omega⟩
                  have hj2 : (gb / 2 - (F : Int)).toNat = jx := by omega
                  have hjl : jx < c.gates.length := by omega
                  obtain ⟨uu, zz⟩ : ∃ u, wr.cell? ⟨B, jx, none⟩ = some u := ⟨_, hB.cell (List.getElem?_eq_getElem (by rw [List.length_map, HLL.out]; exact hjl))⟩
                  have fz := hB.frozen jx
                  have HM2 : Hid (markG F U gb = U.set jx true) := Lib.hid (by rw [markG_at _ _ _ hm, hj2])
                  clear hj
                  go_wp2
                  go_roundw
                  case rel =>
                    refine ⟨2, by omega, rfl, ?_, hy.set (a := ⟨B, jx, none⟩) (by show _ ≠ B; omega) _, hD.setOther (p := ⟨B, jx, none⟩) (by show _ ≠ B; omega) _, ?_⟩
                    · rw [HM.out, HM2.out, map_set]; exact hB.set _ _
                    · (repeat (first | with_reducible assumption | with_reducible exact Ext.refl _ | with_reducible refine Ext.drew' ?_ | with_reducible refine Ext.drewN' ?_ _ | with_reducible refine Ext.alloc ?_ _ | (with_reducible refine Ext.setNew ?_ (by first | exact Nat.le_refl _ | (simp; done) | (simp; omega) | omega) _)))
                  case measure => simp [intOf]
                · have HM2 : Hid (markG F U gb = U) := Lib.hid (markG_no _ _ _ (by omega))
                  go_wp2
                  go_roundw
                  case rel => exact ⟨2, by omega, rfl, by rw [HM.out, HM2.out]; exact hB, hy, hD, hE⟩
                  case measure => simp [intOf]
end Go.Proofs.Ytpfhlodlefcomaa
