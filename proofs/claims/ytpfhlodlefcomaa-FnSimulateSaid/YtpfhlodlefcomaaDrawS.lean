/- The drawing of the arguments of Simulate. -/
import Derived.Test.YtpfhlodlefcomaaDrawR
import Derived.Deep.DeepCutAuto
namespace Go.Proofs.Ytpfhlodlefcomaa
open Go.RowKit
set_option maxRecDepth 100000
set_option linter.unusedVariables false
set_option linter.unusedSimpArgs false
def lenV : Value → Nat
  | .slice _ n _ => n
  | _ => 0
set_option maxHeartbeats 2000000 in
theorem DrawSimulate_c (a : Option Addr) (c : Nat) (bs : List Int) (w : World) (hB : BytesAt w a bs) (hl : bs.length ≤ 1048576) (hc : bs.length ≤ c) (hcm : c ≤ maxLen) :
    Calls Try.prog 16 #[.slice a bs.length c] w (DrawnCR w 12 41) := by
  go_enter Try.func16, Try.ntmps16
  go_wp2_with fail
  have b0 := Blk.at w [.int .i64 0, .slice none 0 0, .slice none 0 0, .slice none 0 0] 26 rfl
  have E0 : Ext w (w.alloc (.cells #[.int .i64 0, .slice none 0 0, .slice none 0 0, .slice none 0 0] 26)) := (Ext.refl w).alloc _
  have hB0 := hB.ext E0
  have z0 : (w.alloc (.cells #[.int .i64 0, .slice none 0 0, .slice none 0 0, .slice none 0 0] 26)).heap.size = w.heap.size + 1 := by simp
  generalize w.alloc (.cells #[.int .i64 0, .slice none 0 0, .slice none 0 0, .slice none 0 0] 26) = W0 at *
  refine (open_c a c bs _ hB0 hl hc hcm).mono ?_
  rintro e w1 ⟨rb, bs', rfl, hR1, hrb, hE1⟩
  go_wp2_with fail
  refine (l20Circuit_c rb bs' 0 12 _ hR1 (by omega) (by omega) (by omega)).mono ?_
  rintro e w2 hD
  obtain ⟨d, p, rfl, hC, hd, hF, hR2, hG2, hcap⟩ := drawn_open hD
  have rb1 := hR1.lt
  have E2 : Ext W0 w2 := ext_of_gr hE1 hG2 (by omega)
  have b2 := b0.ext E2
  have y2 := CircBox.made w2 d p 26
  have di0 := hd.i0
  have di1 := hd.i1
  have s2 := hG2.size
  have eX : Ext w2 (w2.alloc (.cells #[.int .i64 d.inputs, .slice p.an d.next.length p.cn, .slice p.ag d.gates.length p.cg, .slice p.ao d.outs.length p.co] 26)) := (Ext.refl w2).alloc _
  have hRd := hR2.ext eX
  have b2' := b2.ext eX
  have d8 : d.inputs < 8 := by omega
  have dn8 : ¬ (8 : Int) < d.inputs := by omega
  have hcase : ∃ m m2 : Nat, m ≤ 8 ∧ m2 ≤ 4 ∧ ((0 < d.inputs ∧ d.inputs = (m : Int) ∧ d.inputs % 4 + 1 = (m2 : Int)) ∨ (d.inputs = 0 ∧ (0 : Int) = (m : Int) ∧ d.inputs % 4 + 1 = (m2 : Int)) ∨ (d.inputs = -1 ∧ (0 : Int) = (m : Int) ∧ wrap64 (d.inputs.tmod 4 + 1) = (m2 : Int))) := by
    rcases Int.lt_or_le d.inputs 0 with h | h
    · exact ⟨0, 0, by omega, by omega, .inr (.inr ⟨by omega, rfl, by rw [show d.inputs = -1 by omega, show (-1 : Int).tmod 4 = -1 by decide]; simp [wrap64]⟩)⟩
    · rcases Int.lt_or_le 0 d.inputs with h2 | h2
      · exact ⟨d.inputs.toNat, (d.inputs % 4 + 1).toNat, by omega, by omega, .inl ⟨h2, by omega, by omega⟩⟩
      · exact ⟨0, (d.inputs % 4 + 1).toNat, by omega, by omega, .inr (.inl ⟨by omega, rfl, by omega⟩)⟩
  obtain ⟨m, m2, hm8, hm24, ⟨hpos, hmm, hm3⟩ | ⟨hpos, hmm, hm3⟩ | ⟨hpos, hmm, hm3⟩⟩ := hcase
  · have HMM := Lib.hid hmm
    have HM3 := Lib.hid hm3
    clear hmm hm3
    go_wp2_with fail
    generalize hw3 : w2.alloc (.cells #[.int .i64 d.inputs, .slice p.an d.next.length p.cn, .slice p.ag d.gates.length p.cg, .slice p.ao d.outs.length p.co] 26) = w3 at *
    have s3 : w3.heap.size = w2.heap.size + 1 := by rw [← hw3]; simp
    have S3 := Lib.hid s3
    have s3a : w2.heap.size < w3.heap.size := by omega
    have hrl : rb < w3.heap.size := by omega
    have hrn : rb ≠ w2.heap.size := by omega
    have sz1 := hE1.size
    have hb3 : w.heap.size < w3.heap.size := by omega
    clear hw3 s3
    (obtain ⟨lq, q0, q1, q2, q3⟩ := (id y2))
    refine (l20Rows_i rb bs' (0 + 200) _ m HMM.out _ hRd (by omega) (by omega)).mono ?_
    rintro e w4 ⟨v4, vals, xss, rfl, hxl, hxr, hI⟩
    replace hI := (hI.up hm8).mono (M2 := 400) (by omega)
    have y4 : CircBox w4 _ _ _ := y2.grn hI.gr (by simp; omega)
    clear hxr q0 q1 q2 q3 lq
    go_wp2_with fail
    refine (odd_c rb bs' _ 9 _ hI.rd (by omega) (by omega) (by omega)).mono ?_
    rintro e w5 ⟨k5, rfl, _, hR5, hG5⟩
    have hI5 := hI.draw hrl hR5 hG5
    have y5 : CircBox w5 _ _ _ := y4.grn hG5 (by simp; omega)
    (obtain ⟨lq, q0, q1, q2, q3⟩ := (id y5))
    clear hI y4 hR5 hG5
    go_upto_if 18 with fail
    go_cut [6] (fun v wx => ∃ vals xss, RInv w3 w3.heap.size rb bs' 500 8 v vals xss wx ∧ xss.length ≤ 12)
    case first =>
      cases k5
      · go_wp2_with fail
        go_meet
        exact ⟨vals, xss, hI5.mono (by omega), by omega⟩
      · obtain ⟨oa, oc, rfl, _⟩ := ownsRow_row hI5.own.row
        go_wp2_with fail
        refine (l20Bools_i rb bs' _ _ m2 HM3.out _ hI5.rd (by omega) (by omega)).mono ?_
        rintro e w6 hD6
        obtain ⟨a6, c6, xs, rfl, hx6, hO6, hR6, hG6⟩ := hD6.i
        have hlb := hI5.lb
        have sz6 := hG6.size
        have hoA := ((hI5.own.drawn hG6 hrl).ext ((Ext.refl w6).alloc (.cells #[.slice a6 xs.length c6] 38))).row
        have hx1 : xs.length ≤ 8 := by omega
        clear hx6 hD6 q0 q1 q2 q3 lq
        go_wp2_with (at_builtin; refine wpList_app tyRows hoA (RowAt.new w6 #[.slice a6 xs.length c6] _) rfl (by simp [Value.oneCell']) (by omega) (by simp; omega) rfl rfl rfl rfl ?_; intro v7 w7 o7 g7 m7)
        go_meet
        exact ⟨_, _, (hI5.add hrl (Nat.le_refl _) hx1 hO6 hR6 hG6 g7 m7 rfl (by exact o7)).mono (by omega), by simp; omega⟩
    obtain ⟨vals2, xss2, hI6, hx12⟩ := hcut
    clear q0 q1 q2 q3 lq y5 hI5
    obtain ⟨w6, rfl⟩ : ∃ x : World, x = wc := ⟨_, rfl⟩
    go_wp2_with fail
    refine (odd_c rb bs' _ 20 _ hI6.rd (by omega) (by omega) (by omega)).mono ?_
    rintro e w8 ⟨k8, rfl, _, hR8, hG8⟩
    have hI8 := hI6.draw hrl hR8 hG8
    clear hI6 hR8 hG8
    go_upto_if 29 with fail
    go_cut [6] (fun v wx => ∃ vals xss, RInv w3 w3.heap.size rb bs' 2000 8 v vals xss wx ∧ xss.length ≤ 41)
    case first =>
      cases k8
      · go_wp2_with fail
        go_meet
        exact ⟨vals2, xss2, hI8.mono (by omega), by omega⟩
      · go_wp2_with fail
        go_loopw [6] (fun v wr => ∃ (vals : List Value) (xss : List (List Bool)), xss.length ≤ 41 ∧ RInv w3 w3.heap.size rb bs' (600 + xss.length * 8) 8 v vals xss wr) (fun v _ => 41 - lenV v)
        case atStart => exact ⟨vals2, xss2, by omega, hI8.mono (by omega)⟩
        case round =>
          obtain ⟨vals, xss, hx41, hI9⟩ := hrel
          obtain ⟨oa, oc, rfl, _⟩ := ownsRow_row hI9.own.row
          have y9 : CircBox wr _ _ _ := y2.grn hI9.gr (by simp; omega)
          (obtain ⟨lq, q0, q1, q2, q3⟩ := (id y9))
          by_cases hlt : xss.length ≤ 40
          · go_wp2_with fail
            refine (l20Bools_i rb bs' _ _ m HMM.out _ hI9.rd (by omega) (by omega)).mono ?_
            rintro e w10 hD6
            obtain ⟨a6, c6, xs, rfl, hx6, hO6, hR6, hG6⟩ := hD6.i
            have hlb := hI9.lb
            have sz6 := hG6.size
            have hoA := ((hI9.own.drawn hG6 hrl).ext ((Ext.refl w10).alloc (.cells #[.slice a6 xs.length c6] 38))).row
            have hx1 : xs.length ≤ 8 := by omega
            clear hx6 hD6 q0 q1 q2 q3 lq
            go_wp2_with (at_builtin; refine wpList_app tyRows hoA (RowAt.new w10 #[.slice a6 xs.length c6] _) rfl (by simp [Value.oneCell']) (by omega) (by simp; omega) rfl rfl rfl rfl ?_; intro v7 w7 o7 g7 m7; obtain ⟨oa7, oc7, rfl, _⟩ := ownsRow_row o7)
            go_roundw
            case rel =>
              exact ⟨_, xss ++ [xs], by simp; omega, (hI9.add hrl (Nat.le_refl _) hx1 hO6 hR6 hG6 g7 m7 rfl (by exact o7)).mono (by simp; omega)⟩
            case measure => simp [lenV]; omega
          · go_wp2_with fail
            go_meet
            exact ⟨vals, xss, hI9.mono (by omega), hx41⟩
    obtain ⟨vals3, xss3, hI9, hx41⟩ := hcut
    obtain ⟨w9, rfl⟩ : ∃ x : World, x = wc := ⟨_, rfl⟩
    obtain ⟨oa, oc, rfl, _⟩ := ownsRow_row hI9.own.row
    have y9 : CircBox w9 _ _ _ := y2.grn hI9.gr (by simp; omega)
    have b9 : Blk w9 _ _ _ := b2'.gr hI9.gr (by simp; omega)
    have b40 := b9.cell (i := 0) rfl
    have b41 := b9.cell (i := 1) rfl
    have b42 := b9.cell (i := 2) rfl
    have b43 := b9.cell (i := 3) rfl
    have b4f := (fun i => b9.frozen i)
    (obtain ⟨lq, q0, q1, q2, q3⟩ := (id y9))
    have rC := (((b9.set 0 (.int .i64 d.inputs)).set 1 (.slice p.an d.next.length p.cn)).set 2 (.slice p.ag d.gates.length p.cg)).set 3 (.slice p.ao d.outs.length p.co)
    have rc0 := rC.cell (i := 0) rfl
    have rc1 := rC.cell (i := 1) rfl
    have rc2 := rC.cell (i := 2) rfl
    have rc3 := rC.cell (i := 3) rfl
    go_wp2
    refine bodyPost_ret (v := .tuple #[.agg #[.int .i64 d.inputs, .slice p.an d.next.length p.cn, .slice p.ag d.gates.length p.cg, .slice p.ao d.outs.length p.co], .slice oa xss3.length oc]) (by simp [results, Try.results16, go_sem, rc0, rc1, rc2, rc3]) rfl ?_
    exact draw_run_fin hC hF hd E0 E2 hrb rb1 z0 hE1 (Gr.ext eX _) hI9 hb3 (by omega) hx41 (fun h => absurd h (by decide))
  · have HMM := Lib.hid hmm
    have HM3 := Lib.hid hm3
    have hle0 : d.inputs ≤ 0 := by omega
    have hge0 : 0 ≤ d.inputs := by omega
    have hnl0 : ¬ (0 : Int) < d.inputs := by omega
    clear hpos
    clear hmm hm3
    go_wp2_with fail
    generalize hw3 : w2.alloc (.cells #[.int .i64 d.inputs, .slice p.an d.next.length p.cn, .slice p.ag d.gates.length p.cg, .slice p.ao d.outs.length p.co] 26) = w3 at *
    have s3 : w3.heap.size = w2.heap.size + 1 := by rw [← hw3]; simp
    have S3 := Lib.hid s3
    have s3a : w2.heap.size < w3.heap.size := by omega
    have hrl : rb < w3.heap.size := by omega
    have hrn : rb ≠ w2.heap.size := by omega
    have sz1 := hE1.size
    have hb3 : w.heap.size < w3.heap.size := by omega
    clear hw3 s3
    (obtain ⟨lq, q0, q1, q2, q3⟩ := (id y2))
    refine (l20Rows_i rb bs' (0 + 200) _ m HMM.out _ hRd (by omega) (by omega)).mono ?_
    rintro e w4 ⟨v4, vals, xss, rfl, hxl, hxr, hI⟩
    replace hI := (hI.up hm8).mono (M2 := 400) (by omega)
    have y4 : CircBox w4 _ _ _ := y2.grn hI.gr (by simp; omega)
    clear hxr q0 q1 q2 q3 lq
    go_wp2_with fail
    refine (odd_c rb bs' _ 9 _ hI.rd (by omega) (by omega) (by omega)).mono ?_
    rintro e w5 ⟨k5, rfl, _, hR5, hG5⟩
    have hI5 := hI.draw hrl hR5 hG5
    have y5 : CircBox w5 _ _ _ := y4.grn hG5 (by simp; omega)
    (obtain ⟨lq, q0, q1, q2, q3⟩ := (id y5))
    clear hI y4 hR5 hG5
    go_upto_if 18 with fail
    go_cut [6] (fun v wx => ∃ vals xss, RInv w3 w3.heap.size rb bs' 500 8 v vals xss wx ∧ xss.length ≤ 12)
    case first =>
      cases k5
      · go_wp2_with fail
        go_meet
        exact ⟨vals, xss, hI5.mono (by omega), by omega⟩
      · obtain ⟨oa, oc, rfl, _⟩ := ownsRow_row hI5.own.row
        go_wp2_with fail
        refine (l20Bools_i rb bs' _ _ m2 HM3.out _ hI5.rd (by omega) (by omega)).mono ?_
        rintro e w6 hD6
        obtain ⟨a6, c6, xs, rfl, hx6, hO6, hR6, hG6⟩ := hD6.i
        have hlb := hI5.lb
        have sz6 := hG6.size
        have hoA := ((hI5.own.drawn hG6 hrl).ext ((Ext.refl w6).alloc (.cells #[.slice a6 xs.length c6] 38))).row
        have hx1 : xs.length ≤ 8 := by omega
        clear hx6 hD6 q0 q1 q2 q3 lq
        go_wp2_with (at_builtin; refine wpList_app tyRows hoA (RowAt.new w6 #[.slice a6 xs.length c6] _) rfl (by simp [Value.oneCell']) (by omega) (by simp; omega) rfl rfl rfl rfl ?_; intro v7 w7 o7 g7 m7)
        go_meet
        exact ⟨_, _, (hI5.add hrl (Nat.le_refl _) hx1 hO6 hR6 hG6 g7 m7 rfl (by exact o7)).mono (by omega), by simp; omega⟩
    obtain ⟨vals2, xss2, hI6, hx12⟩ := hcut
    clear q0 q1 q2 q3 lq y5 hI5
    obtain ⟨w6, rfl⟩ : ∃ x : World, x = wc := ⟨_, rfl⟩
    go_wp2_with fail
    refine (odd_c rb bs' _ 20 _ hI6.rd (by omega) (by omega) (by omega)).mono ?_
    rintro e w8 ⟨k8, rfl, _, hR8, hG8⟩
    have hI8 := hI6.draw hrl hR8 hG8
    clear hI6 hR8 hG8
    go_upto_if 29 with fail
    go_cut [6] (fun v wx => ∃ vals xss, RInv w3 w3.heap.size rb bs' 2000 8 v vals xss wx ∧ xss.length ≤ 41)
    case first =>
      cases k8
      · go_wp2_with fail
        go_meet
        exact ⟨vals2, xss2, hI8.mono (by omega), by omega⟩
      · go_wp2_with fail
        go_loopw [6] (fun v wr => ∃ (vals : List Value) (xss : List (List Bool)), xss.length ≤ 41 ∧ RInv w3 w3.heap.size rb bs' (600 + xss.length * 8) 8 v vals xss wr) (fun v _ => 41 - lenV v)
        case atStart => exact ⟨vals2, xss2, by omega, hI8.mono (by omega)⟩
        case round =>
          obtain ⟨vals, xss, hx41, hI9⟩ := hrel
          obtain ⟨oa, oc, rfl, _⟩ := ownsRow_row hI9.own.row
          have y9 : CircBox wr _ _ _ := y2.grn hI9.gr (by simp; omega)
          (obtain ⟨lq, q0, q1, q2, q3⟩ := (id y9))
          by_cases hlt : xss.length ≤ 40
          · go_wp2_with fail
            refine (l20Bools_i rb bs' _ _ m HMM.out _ hI9.rd (by omega) (by omega)).mono ?_
            rintro e w10 hD6
            obtain ⟨a6, c6, xs, rfl, hx6, hO6, hR6, hG6⟩ := hD6.i
            have hlb := hI9.lb
            have sz6 := hG6.size
            have hoA := ((hI9.own.drawn hG6 hrl).ext ((Ext.refl w10).alloc (.cells #[.slice a6 xs.length c6] 38))).row
            have hx1 : xs.length ≤ 8 := by omega
            clear hx6 hD6 q0 q1 q2 q3 lq
            go_wp2_with (at_builtin; refine wpList_app tyRows hoA (RowAt.new w10 #[.slice a6 xs.length c6] _) rfl (by simp [Value.oneCell']) (by omega) (by simp; omega) rfl rfl rfl rfl ?_; intro v7 w7 o7 g7 m7; obtain ⟨oa7, oc7, rfl, _⟩ := ownsRow_row o7)
            go_roundw
            case rel =>
              exact ⟨_, xss ++ [xs], by simp; omega, (hI9.add hrl (Nat.le_refl _) hx1 hO6 hR6 hG6 g7 m7 rfl (by exact o7)).mono (by simp; omega)⟩
            case measure => simp [lenV]; omega
          · go_wp2_with fail
            go_meet
            exact ⟨vals, xss, hI9.mono (by omega), hx41⟩
    obtain ⟨vals3, xss3, hI9, hx41⟩ := hcut
    obtain ⟨w9, rfl⟩ : ∃ x : World, x = wc := ⟨_, rfl⟩
    obtain ⟨oa, oc, rfl, _⟩ := ownsRow_row hI9.own.row
    have y9 : CircBox w9 _ _ _ := y2.grn hI9.gr (by simp; omega)
    have b9 : Blk w9 _ _ _ := b2'.gr hI9.gr (by simp; omega)
    have b40 := b9.cell (i := 0) rfl
    have b41 := b9.cell (i := 1) rfl
    have b42 := b9.cell (i := 2) rfl
    have b43 := b9.cell (i := 3) rfl
    have b4f := (fun i => b9.frozen i)
    (obtain ⟨lq, q0, q1, q2, q3⟩ := (id y9))
    have rC := (((b9.set 0 (.int .i64 d.inputs)).set 1 (.slice p.an d.next.length p.cn)).set 2 (.slice p.ag d.gates.length p.cg)).set 3 (.slice p.ao d.outs.length p.co)
    have rc0 := rC.cell (i := 0) rfl
    have rc1 := rC.cell (i := 1) rfl
    have rc2 := rC.cell (i := 2) rfl
    have rc3 := rC.cell (i := 3) rfl
    go_wp2
    refine bodyPost_ret (v := .tuple #[.agg #[.int .i64 d.inputs, .slice p.an d.next.length p.cn, .slice p.ag d.gates.length p.cg, .slice p.ao d.outs.length p.co], .slice oa xss3.length oc]) (by simp [results, Try.results16, go_sem, rc0, rc1, rc2, rc3]) rfl ?_
    exact draw_run_fin hC hF hd E0 E2 hrb rb1 z0 hE1 (Gr.ext eX _) hI9 hb3 (by omega) hx41 (fun h => absurd h (by decide))
  · have HMM := Lib.hid hmm
    have HM3 := Lib.hid hm3
    have hlt0 : d.inputs < 0 := by omega
    clear hpos
    clear hmm hm3
    go_wp2_with fail
    generalize hw3 : w2.alloc (.cells #[.int .i64 d.inputs, .slice p.an d.next.length p.cn, .slice p.ag d.gates.length p.cg, .slice p.ao d.outs.length p.co] 26) = w3 at *
    have s3 : w3.heap.size = w2.heap.size + 1 := by rw [← hw3]; simp
    have S3 := Lib.hid s3
    have s3a : w2.heap.size < w3.heap.size := by omega
    have hrl : rb < w3.heap.size := by omega
    have hrn : rb ≠ w2.heap.size := by omega
    have sz1 := hE1.size
    have hb3 : w.heap.size < w3.heap.size := by omega
    clear hw3 s3
    (obtain ⟨lq, q0, q1, q2, q3⟩ := (id y2))
    refine (l20Rows_i rb bs' (0 + 200) _ m HMM.out _ hRd (by omega) (by omega)).mono ?_
    rintro e w4 ⟨v4, vals, xss, rfl, hxl, hxr, hI⟩
    replace hI := (hI.up hm8).mono (M2 := 400) (by omega)
    have y4 : CircBox w4 _ _ _ := y2.grn hI.gr (by simp; omega)
    clear hxr q0 q1 q2 q3 lq
    go_wp2_with fail
    refine (odd_c rb bs' _ 9 _ hI.rd (by omega) (by omega) (by omega)).mono ?_
    rintro e w5 ⟨k5, rfl, _, hR5, hG5⟩
    have hI5 := hI.draw hrl hR5 hG5
    have y5 : CircBox w5 _ _ _ := y4.grn hG5 (by simp; omega)
    (obtain ⟨lq, q0, q1, q2, q3⟩ := (id y5))
    clear hI y4 hR5 hG5
    go_upto_if 18 with fail
    go_cut [6] (fun v wx => ∃ vals xss, RInv w3 w3.heap.size rb bs' 500 8 v vals xss wx ∧ xss.length ≤ 12)
    case first =>
      cases k5
      · go_wp2_with fail
        go_meet
        exact ⟨vals, xss, hI5.mono (by omega), by omega⟩
      · obtain ⟨oa, oc, rfl, _⟩ := ownsRow_row hI5.own.row
        go_wp2_with fail
        refine (l20Bools_i rb bs' _ _ m2 HM3.out _ hI5.rd (by omega) (by omega)).mono ?_
        rintro e w6 hD6
        obtain ⟨a6, c6, xs, rfl, hx6, hO6, hR6, hG6⟩ := hD6.i
        have hlb := hI5.lb
        have sz6 := hG6.size
        have hoA := ((hI5.own.drawn hG6 hrl).ext ((Ext.refl w6).alloc (.cells #[.slice a6 xs.length c6] 38))).row
        have hx1 : xs.length ≤ 8 := by omega
        clear hx6 hD6 q0 q1 q2 q3 lq
        go_wp2_with (at_builtin; refine wpList_app tyRows hoA (RowAt.new w6 #[.slice a6 xs.length c6] _) rfl (by simp [Value.oneCell']) (by omega) (by simp; omega) rfl rfl rfl rfl ?_; intro v7 w7 o7 g7 m7)
        go_meet
        exact ⟨_, _, (hI5.add hrl (Nat.le_refl _) hx1 hO6 hR6 hG6 g7 m7 rfl (by exact o7)).mono (by omega), by simp; omega⟩
    obtain ⟨vals2, xss2, hI6, hx12⟩ := hcut
    clear q0 q1 q2 q3 lq y5 hI5
    obtain ⟨w6, rfl⟩ : ∃ x : World, x = wc := ⟨_, rfl⟩
    go_wp2_with fail
    refine (odd_c rb bs' _ 20 _ hI6.rd (by omega) (by omega) (by omega)).mono ?_
    rintro e w8 ⟨k8, rfl, _, hR8, hG8⟩
    have hI8 := hI6.draw hrl hR8 hG8
    clear hI6 hR8 hG8
    go_upto_if 29 with fail
    go_cut [6] (fun v wx => ∃ vals xss, RInv w3 w3.heap.size rb bs' 2000 8 v vals xss wx ∧ xss.length ≤ 41)
    case first =>
      cases k8
      · go_wp2_with fail
        go_meet
        exact ⟨vals2, xss2, hI8.mono (by omega), by omega⟩
      · go_wp2_with fail
        go_loopw [6] (fun v wr => ∃ (vals : List Value) (xss : List (List Bool)), xss.length ≤ 41 ∧ RInv w3 w3.heap.size rb bs' (600 + xss.length * 8) 8 v vals xss wr) (fun v _ => 41 - lenV v)
        case atStart => exact ⟨vals2, xss2, by omega, hI8.mono (by omega)⟩
        case round =>
          obtain ⟨vals, xss, hx41, hI9⟩ := hrel
          obtain ⟨oa, oc, rfl, _⟩ := ownsRow_row hI9.own.row
          have y9 : CircBox wr _ _ _ := y2.grn hI9.gr (by simp; omega)
          (obtain ⟨lq, q0, q1, q2, q3⟩ := (id y9))
          by_cases hlt : xss.length ≤ 40
          · go_wp2_with fail
            refine (l20Bools_i rb bs' _ _ m HMM.out _ hI9.rd (by omega) (by omega)).mono ?_
            rintro e w10 hD6
            obtain ⟨a6, c6, xs, rfl, hx6, hO6, hR6, hG6⟩ := hD6.i
            have hlb := hI9.lb
            have sz6 := hG6.size
            have hoA := ((hI9.own.drawn hG6 hrl).ext ((Ext.refl w10).alloc (.cells #[.slice a6 xs.length c6] 38))).row
            have hx1 : xs.length ≤ 8 := by omega
            clear hx6 hD6 q0 q1 q2 q3 lq
            go_wp2_with (at_builtin; refine wpList_app tyRows hoA (RowAt.new w10 #[.slice a6 xs.length c6] _) rfl (by simp [Value.oneCell']) (by omega) (by simp; omega) rfl rfl rfl rfl ?_; intro v7 w7 o7 g7 m7; obtain ⟨oa7, oc7, rfl, _⟩ := ownsRow_row o7)
            go_roundw
            case rel =>
              exact ⟨_, xss ++ [xs], by simp; omega, (hI9.add hrl (Nat.le_refl _) hx1 hO6 hR6 hG6 g7 m7 rfl (by exact o7)).mono (by simp; omega)⟩
            case measure => simp [lenV]; omega
          · go_wp2_with fail
            go_meet
            exact ⟨vals, xss, hI9.mono (by omega), hx41⟩
    obtain ⟨vals3, xss3, hI9, hx41⟩ := hcut
    obtain ⟨w9, rfl⟩ : ∃ x : World, x = wc := ⟨_, rfl⟩
    obtain ⟨oa, oc, rfl, _⟩ := ownsRow_row hI9.own.row
    have y9 : CircBox w9 _ _ _ := y2.grn hI9.gr (by simp; omega)
    have b9 : Blk w9 _ _ _ := b2'.gr hI9.gr (by simp; omega)
    have b40 := b9.cell (i := 0) rfl
    have b41 := b9.cell (i := 1) rfl
    have b42 := b9.cell (i := 2) rfl
    have b43 := b9.cell (i := 3) rfl
    have b4f := (fun i => b9.frozen i)
    (obtain ⟨lq, q0, q1, q2, q3⟩ := (id y9))
    have rC := (((b9.set 0 (.int .i64 d.inputs)).set 1 (.slice p.an d.next.length p.cn)).set 2 (.slice p.ag d.gates.length p.cg)).set 3 (.slice p.ao d.outs.length p.co)
    have rc0 := rC.cell (i := 0) rfl
    have rc1 := rC.cell (i := 1) rfl
    have rc2 := rC.cell (i := 2) rfl
    have rc3 := rC.cell (i := 3) rfl
    go_wp2
    refine bodyPost_ret (v := .tuple #[.agg #[.int .i64 d.inputs, .slice p.an d.next.length p.cn, .slice p.ag d.gates.length p.cg, .slice p.ao d.outs.length p.co], .slice oa xss3.length oc]) (by simp [results, Try.results16, go_sem, rc0, rc1, rc2, rc3]) rfl ?_
    exact draw_run_fin hC hF hd E0 E2 hrb rb1 z0 hE1 (Gr.ext eX _) hI9 hb3 (by omega) hx41 (fun h => absurd h (by decide))
end Go.Proofs.Ytpfhlodlefcomaa
