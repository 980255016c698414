/- The law FnMappedDepth: the mapped depth is the longest chain of lookup tables, and at most the circuit's depth. No condition. -/
import Derived.Test.YtpomcoegpjehgaaBytes
import Derived.Test.YtpomcoegpjehgaaDepth2
import Derived.Test.YtpomcoegpjehgaaBLut
import Derived.Test.YtpomcoegpjehgaaExInt
import Derived.Test.YtpomcoegpjehgaaBCel
import Derived.Test.YtpomcoegpjehgaaMdL0
namespace Go.Proofs.Ytpomcoegpjehgaa
open Go.ChangeShapes Go.WideShapes Go.ChangeAt Go.RowKit
set_option maxRecDepth 100000
set_option linter.unusedVariables false
set_option linter.unusedSimpArgs false
theorem mdepth_valid {c : Circ} (V : c.Valid) : mdepthV c = topOf (bestN c).2 (c.next ++ c.outs) := by unfold mdepthV; rw [validB_true V]; rfl
theorem mdepth_bounds (c : Circ) (h : c.gates.length ≤ 100000) : -1 ≤ mdepthV c ∧ mdepthV c ≤ 1000000 := by
  unfold mdepthV
  cases hv : validB c
  · simp
  · have V := validB_iff.1 hv
    obtain ⟨_, _, hok⟩ := bestN_len V
    have h1 := topOf_nonneg (bestN c).2 (c.next ++ c.outs)
    have h2 := topOf_le hok (by omega) (c.next ++ c.outs)
    simp only [if_true]
    omega
theorem varCount_okM {c : Circ} (V : c.Valid) : varCount c = c.vars := by simp [varCount, validB_true V]
set_option maxHeartbeats 8000000 in
theorem fnMappedDepth_walk (a0 : Option Addr) (len0 cap0 : Nat) (z0 : List Int) (w : World) (w0 : IsRow .u8 w a0 len0 cap0 z0) :
    Calls Try.prog 6 #[.slice a0 len0 cap0] w fun e w' => e = .returned (.bool true) ∧ Below w.heap.size w w' := by
  obtain ⟨bs, rfl, hB, hlc, hcm⟩ := bytes_of_row w0
  by_cases hl : bs.length ≤ 1048576
  · go_enter Try.func6, Try.ntmps6
    go_wp2_with fail
    refine (DrawMappedDepth_c a0 cap0 bs _ hB hl hlc hcm).mono ?_
    rintro e w1 ⟨c, p, rfl, hC, hd, hE, hcap⟩
    clear hd hcap
    go_wp2_with fail
    (have y := CircBox.made w1 c p 26; have Ey : Ext w1 (w1.alloc (.cells #[.int .i64 c.inputs, .slice p.an c.next.length p.cn, .slice p.ag c.gates.length p.cg, .slice p.ao c.outs.length p.co] 26)) := (Ext.refl w1).alloc _; have hC := hC.ext Ey)
    generalize w1.alloc (.cells #[.int .i64 c.inputs, .slice p.an c.next.length p.cn, .slice p.ag c.gates.length p.cg, .slice p.ao c.outs.length p.co] 26) = W1 at *
    have E1 := Ext.trans hE Ey
    clear hE Ey
    have T1 := Lib.hid (implMappedDepth_c c p)
    have T2 := Lib.hid (specMappedDepth_c c p)
    have HMD := Lib.hid (mdepth_le (c := c))
    have HMV := Lib.hid (mdepth_valid (c := c))
    obtain ⟨D, hD⟩ : ∃ D, D = mdepthV c := ⟨_, rfl⟩
    rw [← hD] at T1 T2 HMD HMV
    have HD := Lib.hid hD
    clear hD
    refine (T1.out _ hC).mono ?_
    rintro e w2 ⟨rfl, hE2⟩
    have hC := hC.ext hE2
    have y := y.ext hE2
    have E2 := E1.trans hE2
    clear hE2 E1 T1
    (obtain ⟨ly, y0, y1, y2, y3⟩ := (id y))
    go_wp2_with fail
    refine (T2.out _ hC).mono ?_
    rintro e w3 ⟨rfl, hE3⟩
    have hC := hC.ext hE3
    have y := y.ext hE3
    have E3 := E2.trans hE3
    clear hE3 E2 T2 y0 y1 y2 y3 ly
    (obtain ⟨ly, y0, y1, y2, y3⟩ := (id y))
    have hne : (D != D) = false := bne_self_eq_false _
    go_wp2_with fail
    refine (specCircuitValid_c c p _ hC).mono ?_
    rintro e w4 ⟨rfl, hE4⟩
    have hC := hC.ext hE4
    have y := y.ext hE4
    have E4 := E3.trans hE4
    clear hE4 E3 y0 y1 y2 y3 ly hne
    cases hv : validB c
    · have hd : D = -1 := by rw [HD.out]; unfold mdepthV; rw [hv]; rfl
      subst hd
      clear hv
      go_wp2_with fail
      refine (alive_c _).mono ?_
      rintro e w5 ⟨rfl, hE5⟩
      go_wp2
      go_ret
      exact ⟨rfl, E4.trans hE5⟩
    · have V := validB_iff.1 hv
      have KK := lutList V
      have hlv : lutV c = lutN c := by unfold lutV; rw [hv]; rfl
      have hll : (lutN c).length ≤ 14 := by have := lutK_count c c.vars.toNat c.gates.length; have := V.lg; unfold lutN; omega
      obtain ⟨n, hn⟩ : ∃ n : Nat, c.vars = (n : Int) := ⟨c.vars.toNat, by have := V.i0; unfold Circ.vars Circ.first; omega⟩
      have hn22 : c.vars ≤ 22 ∧ 1 ≤ c.vars := by have := V.i0; have := V.i4; have := V.ln; have := V.lg; unfold Circ.vars Circ.first; omega
      have hnn : n ≤ 22 := by omega
      have hvc : varCount c = (n : Int) := by rw [varCount_okM V, hn]
      have T3 := Lib.hid (implMapLuts_c c p)
      have T4 := Lib.hid (implVarCount_c c p)
      have HDP := Lib.hid (implDepth_c c p)
      rw [hvc] at T4
      rw [hlv] at T3
      have HTOP := Lib.hid (llv_top V hn KK)
      have HGET := Lib.hid (llv_length n (lutN c))
      have HOK := Lib.hid (llv_ok n (lutN c))
      have HSUC := Lib.hid (llv_succ n (lutN c))
      have hvz := llv_zero n (lutN c)
      have hel : ∀ i, i < (lutN c).length → 0 ≤ ((lutN c).getD i lut0).var ∧ ((lutN c).getD i lut0).var < (n : Int) ∧ ((lutN c).getD i lut0).lv.length ≤ 3 ∧ ∀ z ∈ ((lutN c).getD i lut0).lv, 0 ≤ z ∧ z < (n : Int) := by
        intro i hi
        have hm := getN_mem (d := lut0) hi
        obtain ⟨k, hk, e1, e2, _⟩ := KK.el _ hm
        have hlf := KK.leaf _ hm
        have hcut := (bestN_cut V hk).len
        rw [← e2] at hcut
        have hvv : c.vars = c.first + c.gates.length := rfl
        have hf : 1 ≤ c.first := by have := V.i0; unfold Circ.first; omega
        refine ⟨by omega, by omega, hcut, fun z hz => ?_⟩
        have := hlf z hz
        omega
      have HEL := Lib.hid hel
      have hxl : (c.outs ++ c.next).length = c.outs.length + c.next.length := by simp
      have hxi := root_ok V (xs := c.outs ++ c.next) (fun x hx => by simp only [List.mem_append] at hx ⊢; exact hx.symm)
      have ln := V.ln
      have lg := V.lg
      have lo := V.lo
      have hmv := HMV.out V
      obtain ⟨LF, hLF⟩ : ∃ LF, LF = fun i => llv n (lutN c) i := ⟨_, rfl⟩
      obtain ⟨L, hL⟩ : ∃ L, L = lutN c := ⟨_, rfl⟩
      rw [← hL] at hll T3 HTOP HGET HOK HSUC hvz HEL
      rw [hn] at hxi
      have HFIN : Hid (topOf (llv n L L.length) (c.outs ++ c.next) = D) := Lib.hid (by rw [HTOP.out, hmv])
      have HXI := Lib.hid hxi
      have hmb := mdepth_bounds c (by omega)
      rw [← HD.out] at hmb
      obtain ⟨hmb0, hmb1⟩ := hmb
      clear hLF LF hL KK hv hlv V hn hn22 hvc hel hxi HTOP hmv HMV HD
      (obtain ⟨ly, y0, y1, y2, y3⟩ := (id y))
      go_wp2_with fail
      refine (T4.out _ hC).mono ?_
      rintro e w5 ⟨rfl, hE5⟩
      have hC := hC.ext hE5
      have y := y.ext hE5
      have E5 := E4.trans hE5
      clear hE5 E4 T4 y0 y1 y2 y3 ly
      have hm := run_make_row' (P := Try.prog) 23 3 (.int .i64 0) 8 Try.underlying23 intInfo2 rfl .i64 .i64 n (by omega) (by omega) w5
      have L0 : Blk (w5.alloc (.cells (madeCells #[.int .i64 0] n) 3)) w5.heap.size 3 ((llv n L 0).map (Value.int .i64)) := by
        rw [zeros_cells, hvz, List.map_replicate]
        exact Blk.new w5 _ _
      have HC5 := Lib.hid hC
      have HY5 := Lib.hid y
      have y := y.ext ((Ext.refl w5).alloc (.cells (madeCells #[.int .i64 0] n) 3))
      have hC := hC.ext ((Ext.refl w5).alloc (.cells (madeCells #[.int .i64 0] n) 3))
      have E56 := (Ext.refl w5).alloc (.cells (madeCells #[.int .i64 0] n) 3)
      have hlt6 := L0.lt
      clear hvz
      (obtain ⟨ly, y0, y1, y2, y3⟩ := (id y))
      go_wp2_with fail
      clear hm
      generalize w5.alloc (.cells (madeCells #[.int .i64 0] n) 3) = W6 at *
      refine (T3.out _ hC).mono ?_
      rintro e w7 ⟨lv, FL, rfl, hNL, hFL0, hE7⟩
      have y7 := y.ext hE7
      have L7 := L0.ext hE7
      have E57 := E56.trans hE7
      obtain ⟨la, lc, rfl, _⟩ := hNL.sl
      have hFL : ∀ g ∈ FL, g ≠ w5.heap.size := fun g hg e2 => by have := hFL0 g hg; omega
      clear hE7 T3 y0 y1 y2 y3 ly L0 hFL0 E56 hC y hlt6
      obtain ⟨B5, hB5⟩ : ∃ B5, B5 = w5.heap.size := ⟨_, rfl⟩
      rw [← hB5] at L7 hFL ⊢
      have HB5 := Lib.hid hB5
      clear hB5
      go_wp2_with fail
      go_loopw [7] (fun u7 wr => ∃ i : Nat, i ≤ L.length ∧ u7 = .int .i64 i ∧ Blk wr B5 3 ((llv n L i).map (Value.int .i64)) ∧ NstL wr (.slice la L.length lc) L FL ∧ Ext w5 wr) (fun i _ => L.length - (intOf i).toNat)
      case atStart => exact ⟨0, Nat.zero_le _, rfl, L7, hNL, E57⟩
      case round =>
        clear L7 hNL E57 y7
        obtain ⟨i, hi, rfl, hBk, hNL, hE⟩ := hrel
        obtain ⟨w8, rfl⟩ : ∃ z : World, z = wr := ⟨_, rfl⟩
        by_cases hlt : i < L.length
        · have HNL := Lib.hid hNL
          obtain ⟨gl, rfl, hgl, _, hcs⟩ := Nst.getN goodLut hNL (by omega)
          obtain ⟨cs, F1, ⟨v, rfl, o1, rfl⟩, q, _⟩ := hcs i lut0 hlt
          have r0 := q 0 _ (by omega) rfl
          have r1 := q 1 _ (by omega) rfl
          rw [Nat.add_zero] at r0
          obtain ⟨v0, v1, v2, v3⟩ := HEL.out i hlt
          have hlen := HGET.out i hi
          have hok := HOK.out i hi
          have hsu := HSUC.out i hlt
          unfold llStep at hsu
          obtain ⟨x, hx⟩ : ∃ x, x = L.getD i lut0 := ⟨_, rfl⟩
          rw [← hx] at r0 o1 v0 v1 v2 v3 hsu
          obtain ⟨va, vc, rfl, hI1, _⟩ := o1.opened
          obtain ⟨ls, hls⟩ : ∃ ls, ls = llv n L i := ⟨_, rfl⟩
          rw [← hls] at hBk hlen hok hsu
          have HV3 := Lib.hid v3
          have HSU := Lib.hid hsu
          have HOK2 := Lib.hid hok
          have HBK := Lib.hid hBk
          have HI1 := Lib.hid hI1
          have HLEN := Lib.hid hlen
          have fz := fun k => hBk.frozen k
          have hBl := hBk.lt
          clear hx hls q hcs hNL o1 v3 hsu hok hBk hI1 hlen
          go_wp2_with fail
          go_loop [8, 9] (fun u8 u9 => ∃ k : Nat, k ≤ x.lv.length ∧ u9 = .int .i64 k ∧ u8 = .int .i64 (maxA ls (x.lv.take k))) (fun _ u9 => x.lv.length - (intOf u9).toNat)
          case atStart => exact ⟨0, Nat.zero_le _, rfl, by simp [maxA]⟩
          case round =>
            obtain ⟨k, hk, rfl, rfl⟩ := hrel
            obtain ⟨m1, m2⟩ := maxA_ok HOK2.out (by omega) (x.lv.take k)
            by_cases hlt2 : k < x.lv.length
            · obtain ⟨b5, o5, rfl, hb5, hc5⟩ := HI1.out.get (by omega)
              have q1 := hc5 k hlt2
              obtain ⟨z0, z1⟩ := HV3.out _ (getN_mem (d := 0) hlt2)
              have hs := maxA_snoc ls (x.lv.take k) (x.lv.getD k 0)
              rw [← take_snocD x.lv k 0 hlt2] at hs
              obtain ⟨z, hz⟩ : ∃ z, z = x.lv.getD k 0 := ⟨_, rfl⟩
              rw [← hz] at q1 z0 z1 hs
              have g1 := HOK2.out.get (by omega) z.toNat
              have q2 := HBK.out.cell (i := z.toNat) (u := .int .i64 (ls.getD z.toNat 0)) (by rw [List.getElem?_map, List.getD_eq_getElem?_getD, List.getElem?_eq_getElem (by have := HLEN.out; omega)]; rfl)
              obtain ⟨ev, hev⟩ : ∃ ev, ev = ls.getD z.toNat 0 := ⟨_, rfl⟩
              rw [← hev] at q2 g1 hs
              obtain ⟨T, hT⟩ : ∃ T, T = maxA ls (x.lv.take k) := ⟨_, rfl⟩
              rw [← hT] at m1 m2 hs ⊢
              have HS := Lib.hid hs
              obtain ⟨g1a, g1b⟩ := g1
              clear hc5 hz hev hT hs
              by_cases hmx : T < ev
              all_goals
                go_wp2_with fail
                go_round
                case rel =>
                  refine ⟨k + 1, by omega, by go_num, ?_⟩
                  first | (rw [HS.out]; done) | (rw [HS.out]; congr 1; omega)
                case measure => simp [intOf]; omega
            · have hk2 : k = x.lv.length := by omega
              rw [hk2, List.take_length] at m1 m2 ⊢
              obtain ⟨T, hT⟩ : ∃ T, T = maxA ls x.lv := ⟨_, rfl⟩
              rw [← hT] at m1 m2 ⊢
              have HT := Lib.hid hT
              obtain ⟨u, hu⟩ : ∃ u : Nat, x.var = (u : Int) := ⟨x.var.toNat, by omega⟩
              rw [hu] at r0 v0 v1
              have HU := Lib.hid hu
              have q3 : ∃ y, w8.cell? ⟨B5, u, none⟩ = some y := ⟨_, HBK.out.cell (i := u) (u := .int .i64 (ls.getD u 0)) (by rw [List.getElem?_map, List.getD_eq_getElem?_getD, List.getElem?_eq_getElem (by have := HLEN.out; omega)]; rfl)⟩
              obtain ⟨yv, q3⟩ := q3
              clear hT hk2 hlt2 hu
              go_wp2_with fail
              go_roundw
              case rel =>
                refine ⟨i + 1, by omega, by go_num, ?_, ?_, ?_⟩
                · have := HBK.out.set u (.int .i64 (T + 1))
                  rw [← List.map_set] at this
                  rw [HSU.out, HU.out, Int.toNat_natCast, ← HT.out]
                  exact this
                · exact HNL.out.keep goodLut (fun g hg => heap_setCell_other _ _ _ _ (hFL g hg))
                · exact Ext.setNew hE (by rw [HB5.out]; exact Nat.le_refl _) _
              case measure => simp [intOf]; omega
        · have hi2 : i = L.length := by omega
          subst hi2
          have hy := HY5.out.ext hE
          have hnx : RowAt w8 p.an (c.next.map (Value.int .i64)) := (HC5.out.ext hE).nx.row
          have hou : RowAt w8 p.ao (c.outs.map (Value.int .i64)) := (HC5.out.ext hE).ou.row
          have HLEN := Lib.hid (HGET.out L.length (Nat.le_refl _))
          have HOK2 := Lib.hid (HOK.out L.length (Nat.le_refl _))
          obtain ⟨ls, hls⟩ : ∃ ls, ls = llv n L L.length := ⟨_, rfl⟩
          rw [← hls] at hBk HLEN HOK2 HFIN
          have EA : Ext w8 ((w8.alloc (.cells #[] 3)).drew) := ((Ext.refl w8).alloc _).drew'
          have OA : World.ownsRow ((w8.alloc (.cells #[] 3)).drew) w8.heap.size 3 1 (.slice (some ⟨w8.heap.size, 0, none⟩) 0 0) 0 [] := ownsRow_ext (ownsRow_made w8 w8.heap.size 3 [] (Nat.le_refl _) (by decide)) (Ext.drew _)
          have hnA := hnx.ext EA
          have hoA := hou.ext EA
          have YA := hy.ext EA
          have HBK := Lib.hid hBk
          have HY8 := Lib.hid hy
          (obtain ⟨ly, y0, y1, y2, y3⟩ := (id hy))
          obtain ⟨lyA, yA0, yA1, yA2, yA3⟩ := YA
          clear hls hBk hNL HGET HOK HSUC HEL hlt hi
          go_upto_region 21 with fail
          go_cut [11] (fun s11 wx => ∃ xa xc, s11 = .slice xa (c.outs ++ c.next).length xc ∧ IntsAt wx xa (c.outs ++ c.next) ∧ Ext w8 wx)
          case first =>
            go_region_law (first | (refine step_app tyInts OA hoA (by simp) (oneCell_ints _) (by omega) (by simp) rfl rfl rfl rfl ?_; intro v3 w9 o3 g3 m3; simp only [Nat.zero_add, List.nil_append] at o3; obtain ⟨a3, c3, rfl, _, _, _, ob3⟩ := ownsRow_row o3; have E3 := ext_grown EA g3 (by intro k hk; simp [Value.ownBlock] at hk; omega); obtain ⟨_, p0, p1, p2, p3⟩ := HY8.out.ext E3; have hn3 := hnx.ext E3) | (refine step_app tyInts o3 hn3 (by simp) (oneCell_ints _) (by omega) (by have := E3.size; omega) rfl rfl rfl rfl ?_; intro v4 w10 o4 g4 m4))
            all_goals
              go_wp2_with fail
              go_meet
              rw [← List.map_append] at o4
              obtain ⟨a4, c4, rfl, r4, _, _, b4⟩ := ownsRow_row o4
              exact ⟨a4, c4, by rw [hxl], intsAt_of_row r4, ext_grown E3 g4 (by intro k hk; have := (o3.lt _ hk).1; omega)⟩
          obtain ⟨xa, xc, rfl, hX, hE9⟩ := hcut
          obtain ⟨w9, rfl⟩ : ∃ z : World, z = wc := ⟨_, rfl⟩
          obtain ⟨xs, hxs⟩ : ∃ xs, xs = c.outs ++ c.next := ⟨_, rfl⟩
          rw [← hxs] at hX hxl HXI HFIN
          rw [← hxs]
          have HB9 := Lib.hid (HBK.out.ext hE9)
          have y9 := HY8.out.ext hE9
          have HC9 := Lib.hid ((HC5.out.ext hE).ext hE9)
          have E9 := (E5.trans hE).trans hE9
          have HXX := Lib.hid hX
          clear hE9 hxs y0 y1 y2 y3 ly lyA yA0 yA1 yA2 yA3 OA hoA hnA EA hnx hou HBK HY8 hX hE
          go_wp2_with fail
          go_loop [10, 12] (fun u4 u6 => ∃ k : Nat, k ≤ xs.length ∧ u6 = .int .i64 k ∧ u4 = .int .i64 (topOf ls (xs.take k))) (fun _ u6 => xs.length - (intOf u6).toNat)
          case atStart => exact ⟨0, Nat.zero_le _, rfl, by simp [topOf]⟩
          case round =>
            obtain ⟨k, hk, rfl, rfl⟩ := hrel
            by_cases hlt : k < xs.length
            · obtain ⟨b5, o5, rfl, hb5, hc5⟩ := HXX.out.get (by omega)
              have q1 := hc5 k hlt
              obtain ⟨i1, i2⟩ := HXI.out k hlt
              have hs := topOf_snoc ls (xs.take k) (xs.getD k 0)
              rw [← take_snocD xs k 0 hlt] at hs
              obtain ⟨x, hx⟩ : ∃ x, x = xs.getD k 0 := ⟨_, rfl⟩
              rw [← hx] at q1 i1 i2 hs
              have q2 := HB9.out.cell (i := (x / 2).toNat) (u := .int .i64 (ls.getD (x / 2).toNat 0)) (by rw [List.getElem?_map, List.getD_eq_getElem?_getD, List.getElem?_eq_getElem (by have := HLEN.out; omega)]; rfl)
              have m1 := HOK2.out.get (by omega) (x / 2).toNat
              have m2 := topOf_nonneg ls (xs.take k)
              have m3 := topOf_le HOK2.out (by omega) (xs.take k)
              have hta : IntKind.i64.wrap (x.tdiv 2) = x / 2 := by rw [Int.tdiv_eq_ediv_of_nonneg i1]; exact IntWalk.i64_in _ (by omega)
              have k1 : 0 ≤ x / 2 := by omega
              have k2 : x / 2 < (n : Int) := by omega
              obtain ⟨ev, hev⟩ : ∃ z, z = ls.getD (x / 2).toNat 0 := ⟨_, rfl⟩
              rw [← hev] at q2 m1 hs
              obtain ⟨T, hT⟩ : ∃ T, T = topOf ls (xs.take k) := ⟨_, rfl⟩
              rw [← hT] at m2 m3 hs ⊢
              obtain ⟨m1a, m1b⟩ := m1
              have HS := Lib.hid hs
              clear hc5 hx hev hT hs
              by_cases hmx : T < ev
              all_goals
                go_wp2_with fail
                go_round
                case rel =>
                  refine ⟨k + 1, by omega, by go_num, ?_⟩
                  first | (rw [HS.out]; done) | (rw [HS.out]; congr 1; omega)
                case measure => simp [intOf]; omega
            · have hk2 : k = xs.length := by omega
              rw [hk2, List.take_length, HFIN.out]
              have heq : (D == D) = true := beq_self_eq_true D
              clear hk2 hlt
              (obtain ⟨ly, y0, y1, y2, y3⟩ := (id y9))
              go_wp2_with fail
              refine (HDP.out _ HC9.out).mono ?_
              rintro e w10 ⟨rfl, hE10⟩
              have hle : decide (D ≤ depthOf c) = true := by have := HMD.out; simp [this]
              go_wp2_with fail
              go_ret
              exact ⟨by first | rfl | (rw [hle]) | simp [hle], E9.trans hE10⟩
  · go_enter Try.func6, Try.ntmps6
    go_wp2
    go_ret
    exact ⟨rfl, Ext.refl _⟩
theorem fnMappedDepth_lifted (os : Os) (started : os.Started) (H : Type) (enc : TypeId × Value → H) :
    ReturnsInHanded {} Try.checked os 6 .any (Rows.fnMappedDepthSpec.pre6 enc Try.prog Try.f6 Rows.fnMappedDepthRow.domain false) (Rows.fnMappedDepthSpec.post enc Try.prog Try.f6 false true false false) := by
  refine returnsInHanded_of_change (C := Try.checked) own started (by kernel_rfl) Try.func6
    (ChangeSpec.witness6 (enc := enc) (C := Try.checked) false ⟨#[], #[.slice none 0 0], []⟩ 8 (by kernel_rfl) (by kernel_rfl) (by kernel_rfl) (by kernel_rfl)) ?_
  intro W base args ds gs before hval0 hW hcnd _
  have hval : ∀ (j : Nat) t v, Try.f6.params[j]? = some t → args[j]? = some v → Value.okWide Try.prog W .any base t v := hval0
  have hW' := hW
  obtain ⟨p, q, hA0, hV, rfl, hfz, hnd⟩ := hW
  have hA : DataW.TrodAll enc Try.prog W 0 (fun _ => true) true Try.f6.params.toList args.toList ds p := hA0
  rw [Try.params6] at hA hval
  obtain ⟨v0, vs0, d0, ds0, p0, q0, hargs, rfl, rfl, h0, r0⟩ := trodAll_cons hA
  obtain ⟨rfl, rfl, rfl⟩ := trodAll_nil r0
  obtain rfl : args = #[v0] := by cases args; simp_all
  obtain ⟨rfl, rfl⟩ := trodVars_none hV
  obtain ⟨a0, len0, cap0, rfl⟩ := okWide_slice Try.underlying22 (hval 0 22 v0 rfl rfl)
  have k0 := h0
  have lt0 : ∀ x ∈ p0, x.block < W.heap.size := by obtain ⟨m, hm⟩ := k0; exact DataW.trod_lt m _ _ _ hm
  obtain ⟨z0, w0⟩ : ∃ zs, IsRow .u8 W a0 len0 cap0 zs := by
    obtain ⟨fuel, hf⟩ := h0
    rcases open_ints Try.underlying22 Try.underlying5 (by kernel_rfl) hf with ⟨hcs, _⟩ | ⟨x, l, c, zs, hcs, _, hl, hm, hz, _, hcell, hwz⟩
    · simp [Value.cells] at hcs
      obtain ⟨rfl, rfl, rfl⟩ := hcs
      exact ⟨[], .inl ⟨rfl, rfl, rfl, rfl⟩⟩
    · simp [Value.cells] at hcs
      obtain ⟨rfl, rfl, rfl⟩ := hcs
      exact ⟨zs, .inr ⟨_, rfl, hl, hm, by simpa using hz, hcell, hwz⟩⟩
  clear hA0 hval0
  refine (fnMappedDepth_walk a0 len0 cap0 z0 W w0).mono fun e W' ⟨he, bel⟩ => ?_
  subst he
  exact ⟨_, rfl, _, _, _, [], _, [], hW', trodAll_mk1 (shut_bool Try.underlying4 _), (trodAll_cons_mk (Below.trod laidOut (by kernel_rfl) (of_decide_eq_true (by kernel_rfl)) k0 bel lt0) trodAll_mk0), rfl, bel.frame _, fun h => by cases h⟩
theorem fnMappedDepth_over : Rows.fnMappedDepthRow.holds Try.pinned (OpenSpec.ofChange Rows.fnMappedDepthSpec) :=
  OpenClaim.holds_of_wide 6 Try.f6 rfl rfl rfl rfl rfl rfl rfl ⟨rfl, rfl, rfl, rfl, rfl⟩ rfl rfl rfl rfl rfl (by kernel_rfl) Try.func6 (by kernel_rfl)
    (of_decide_eq_true (by kernel_rfl)) (by unfold Func.isWrapper; first | (rw [if_pos (by decide +kernel)]; kernel_rfl) | (rw [if_neg (by decide +kernel)]; exact ⟨rfl, rfl⟩))
    (fun os started H enc _ => fnMappedDepth_lifted os started H enc)
theorem fnMappedDepth_holds : Rows.FnMappedDepthSaid := fnMappedDepth_over
end Go.Proofs.Ytpomcoegpjehgaa
