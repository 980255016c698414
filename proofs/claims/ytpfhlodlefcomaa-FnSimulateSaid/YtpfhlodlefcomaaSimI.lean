/- Contracts: the program's Simulate. -/
import Derived.Test.YtpfhlodlefcomaaSim0
import Derived.Test.YtpfhlodlefcomaaSpec1
import Derived.Outline
namespace Go.Proofs.Ytpfhlodlefcomaa
open Go.RowKit
set_option maxRecDepth 100000
set_option linter.unusedVariables false
set_option linter.unusedSimpArgs false
theorem rowsFit_c (b : Nat) (c : Circ) (p : Where3) (a : Option Addr) (cap : Nat) (xss : List (List Bool)) (w : World) (hb : CircBox w b c p) (hc : CircAt w c p) (hr : RowsAt w a xss) (hl : xss.length ≤ 1048576) (hlr : ∀ j, j < xss.length → (xss.getD j []).length ≤ 1048576) :
    Calls Try.prog 45 #[.pointer (some ⟨b, 0, none⟩), .slice a xss.length cap] w fun e w' => e = .returned (.bool (fitB c xss)) ∧ Ext w w' := by
  obtain ⟨R, hR⟩ : ∃ R, R = fitB c xss := ⟨_, rfl⟩
  rw [← hR]
  have HR := Lib.hid hR
  have HL := Lib.hid hlr
  clear hR hlr
  (obtain ⟨lb, b0, b1, b2, b3⟩ := (id hb))
  go_enter Try.func45, Try.ntmps45
  go_wp2_with fail
  refine (implCircuitValid_c c p _ hc).mono ?_
  rintro e w1 ⟨rfl, hE1⟩
  cases hv : validB c
  · have hRR : R = false := by rw [HR.out]; unfold fitB; rw [hv]; rfl
    subst hRR
    clear hv
    go_wp2
    go_ret
    exact ⟨rfl, hE1⟩
  · by_cases h40 : 40 < xss.length
    · have hRR : R = false := by rw [HR.out]; unfold fitB; rw [hv, show decide (xss.length ≤ 40) = false by simp; omega]; rfl
      subst hRR
      have hd : decide ((40 : Int) < (xss.length : Int)) = true := by simp; omega
      clear hv
      go_wp2
      go_ret
      exact ⟨rfl, hE1⟩
    · have hd : decide ((40 : Int) < (xss.length : Int)) = false := by simp; omega
      have HV := Lib.hid hv
      clear hv
      go_wp2_with fail
      go_loopw [19] (fun i wr => ∃ k : Nat, k ≤ xss.length ∧ i = .int .i64 k ∧ Hid (∀ j, j < k → ((xss.getD j []).length : Int) = c.inputs) ∧ Ext w wr) (fun i _ => xss.length - (intOf i).toNat)
      case atStart => exact ⟨0, Nat.zero_le _, rfl, Lib.hid (fun j hj => by omega), hE1⟩
      case round =>
        obtain ⟨k, hk, rfl, hp, hE⟩ := hrel
        have y := hb.ext hE
        clear lb b0 b1 b2 b3
        (obtain ⟨lb, b0, b1, b2, b3⟩ := (id y))
        by_cases hlt : k < xss.length
        · obtain ⟨gb, go, rfl, hgb, hg⟩ := (hr.ext hE).get (by omega)
          obtain ⟨aj, cj, q, hA⟩ := hg k hlt
          obtain ⟨n, hn⟩ : ∃ n, n = (xss.getD k []).length := ⟨_, rfl⟩
          have hn1 := HL.out k hlt
          rw [← hn] at q hn1
          have HN := Lib.hid hn
          clear hg hA hn
          by_cases he : (n : Int) = c.inputs
          · have hne : ((n : Int) != c.inputs) = false := by simp [he]
            have HE := Lib.hid he
            clear he
            go_wp2
            go_roundw
            case rel =>
              refine ⟨k + 1, by omega, by go_num, Lib.hid (fun j hj => ?_), hE⟩
              rcases Nat.lt_or_ge j k with h | h
              · exact hp.out j h
              · have : j = k := by omega
                subst this
                rw [← HN.out]; exact HE.out
            case measure => simp [intOf]; omega
          · have hne : ((n : Int) != c.inputs) = true := by simp [he]
            have hRR : R = false := by
              rw [HR.out]
              cases hf : fitB c xss
              · rfl
              · have := (fitB_iff.1 hf).r k hlt
                rw [← HN.out] at this
                exact absurd this he
            subst hRR
            clear he
            go_wp2
            go_ret
            exact ⟨rfl, hE⟩
        · have hk2 : k = xss.length := by omega
          have hRR : R = true := by
            rw [HR.out, fitB_iff]
            exact ⟨validB_iff.1 HV.out, by omega, fun j hj => hp.out j (by omega)⟩
          subst hRR
          subst hk2
          go_wp2
          go_ret
          exact ⟨rfl, hE⟩
set_option maxHeartbeats 4000000 in
theorem implSimulate_c (c : Circ) (p : Where3) (a : Option Addr) (cap : Nat) (xss : List (List Bool)) (w : World) (hc : CircAt w c p) (hr : RowsAt w a xss) (hl : xss.length ≤ 1048576) (hlr : ∀ j, j < xss.length → (xss.getD j []).length ≤ 1048576) :
    Calls Try.prog 17 #[.agg #[.int .i64 c.inputs, .slice p.an c.next.length p.cn, .slice p.ag c.gates.length p.cg, .slice p.ao c.outs.length p.co], .slice a xss.length cap] w (GiveRows w (simV c xss)) := by
  have made := CircBox.made w c p 26
  have E0 : Ext w (w.alloc (.cells #[.int .i64 c.inputs, .slice p.an c.next.length p.cn, .slice p.ag c.gates.length p.cg, .slice p.ao c.outs.length p.co] 26)) := (Ext.refl w).alloc _
  have HO := Lib.hid (show simV c xss = (if fitB c xss then runV c (st0 c) xss else []) from rfl)
  have HL := Lib.hid hlr
  go_enter Try.func17, Try.ntmps17
  go_wp2_with fail
  refine (rowsFit_c w.heap.size c p a cap xss _ made (hc.ext E0) (hr.ext E0) hl hlr).mono ?_
  rintro e w1 ⟨rfl, hE1⟩
  have y1 := made.ext hE1
  have E1 := E0.trans hE1
  clear hlr made E0 hE1
  cases hf : fitB c xss
  · rw [hf] at HO
    clear hf
    go_wp2
    go_ret
    rw [HO.out]
    exact ⟨_, [], rfl, OwnR.nil, E1⟩
  · rw [hf] at HO
    have F := fitB_iff.1 hf
    have HF := Lib.hid F
    have ln := F.V.ln
    have hn40 := F.n
    clear hf F
    (obtain ⟨lb, b0, b1, b2, b3⟩ := (id y1))
    have hm := run_zeros' (P := Try.prog) 38 4 (.bool false) [.bool false] 1 Try.underlying38 boolInfo' rfl (by decide) (by decide) c.next.length (by omega) w1
    have hz : zeros [Value.bool false] c.next.length = (st0 c).map Value.bool := by unfold st0; rw [zeros_one, List.map_replicate]
    have L0 : Blk (w1.alloc (.cells (zeros [Value.bool false] c.next.length).toArray 4)) w1.heap.size 4 ((st0 c).map Value.bool) := by
      have := Blk.at w1 (zeros [Value.bool false] c.next.length) 4 rfl
      rw [hz] at this ⊢; exact this
    have hs0 : (st0 c).length = c.next.length := by simp [st0]
    have S0 : OwnB (w1.alloc (.cells (zeros [Value.bool false] c.next.length).toArray 4)) w1.heap.size (.slice (some ⟨w1.heap.size, 0, none⟩) c.next.length c.next.length) (st0 c) := by
      unfold OwnB
      rw [hs0]
      exact L0.owns (n := c.next.length) (size := 1) (base := w1.heap.size) (by rw [List.length_map, hs0]; simp) (Nat.le_refl _) (by unfold maxLen; omega)
    have E2 := (Ext.refl w1).alloc (.cells (zeros [Value.bool false] c.next.length).toArray 4)
    have y2 := y1.ext E2
    clear L0 hz hs0
    go_wp2_with fail
    clear lb b0 b1 b2 b3
    go_loopw [5, 6, 19] (fun u5 u6 u19 wr => ∃ (k : Nat) (vals : List Value), k ≤ xss.length ∧ u19 = .int .i64 k ∧ OwnB wr w1.heap.size u5 (stRun c (st0 c) (xss.take k)) ∧ Hid (∀ q, u5.ownBlock = some q → u6.ownBlock ≠ some q) ∧ OwnR wr w1.heap.size u6 vals (runV c (st0 c) (xss.take k)) ∧ Ext w1 wr) (fun _ _ i _ => xss.length - (intOf i).toNat)
    case atStart => exact ⟨0, [], Nat.zero_le _, rfl, S0, Lib.hid (by simp [Value.ownBlock]), OwnR.nil, E2⟩
    case round =>
      clear S0 E2 y2 hm
      obtain ⟨k, vals, hk, rfl, hS, hSO, hO, hE⟩ := hrel
      have hrl := runV_length c (xss.take k) (st0 c)
      rw [List.length_take, Nat.min_eq_left hk] at hrl
      by_cases hlt : k < xss.length
      · obtain ⟨gb, go, rfl, hgb, hg⟩ := (hr.ext (E1.trans hE)).get (by omega)
        obtain ⟨aj, cj, q, hA⟩ := hg k hlt
        have hrl2 := HL.out k hlt
        have ok := evOk_run HF.out k hlt
        have hr1 := runV_snoc c (xss.getD k []) (xss.take k) (st0 c)
        have hs1 := stRun_snoc c (xss.getD k []) (xss.take k) (st0 c)
        rw [← take_snocG xss k [] hlt] at hr1 hs1
        obtain ⟨st, hst⟩ : ∃ st, st = stRun c (st0 c) (xss.take k) := ⟨_, rfl⟩
        obtain ⟨row, hrow⟩ : ∃ r, r = xss.getD k [] := ⟨_, rfl⟩
        obtain ⟨outs, hou⟩ : ∃ r, r = runV c (st0 c) (xss.take k) := ⟨_, rfl⟩
        rw [← hst] at hS ok hr1 hs1
        rw [← hrow] at q hA ok hr1 hs1 hrl2
        rw [← hou] at hO hr1 hrl
        have hsl := ok.ls
        obtain ⟨sa, sc, rfl, hSA⟩ := hS.opened
        have y := y1.ext hE
        (obtain ⟨lb, b0, b1, b2, b3⟩ := (id y))
        have hor := hO.row
        rw [hrl] at hor
        obtain ⟨oa, oc, rfl, _⟩ := ownsRow_row hor
        have HRL := Lib.hid hrl
        have HR1 := Lib.hid hr1
        have HS1 := Lib.hid hs1
        have hstl : st.length ≤ 1048576 := by omega
        have HSL := Lib.hid hsl
        have hcall := implStep_c c p sa aj sc cj st row wr (hc.ext (E1.trans hE)) hSA hA hstl hrl2
        clear hg hst hrow hou hr1 hs1 hrl hsl ok hS
        go_wp2_with fail
        refine hcall.mono ?_
        rintro e w2 ⟨v1, v2, rfl, hrep, hE2⟩
        obtain ⟨a1, c1, n1, a2, c2, n2, rfl, rfl⟩ := hrep.sl
        obtain ⟨⟨m, r1, r2, r3, r4, r5, r6⟩, _, _⟩ := hrep
        have bk := Blk.at w2 [.slice a1 n1 c1, .slice a2 n2 c2] 40 rfl
        have eA : Ext w2 ((w2.alloc (.cells #[.slice a1 n1 c1, .slice a2 n2 c2] 40)).alloc (.cells #[.slice a1 n1 c1] 38)) := ((Ext.refl w2).alloc _).alloc _
        have hrA : RowAt ((w2.alloc (.cells #[.slice a1 n1 c1, .slice a2 n2 c2] 40)).alloc (.cells #[.slice a1 n1 c1] 38)) (some ⟨w2.heap.size + 1, 0, none⟩) [.slice a1 n1 c1] := by
          have := RowAt.new (w2.alloc (.cells #[.slice a1 n1 c1, .slice a2 n2 c2] 40)) #[.slice a1 n1 c1] 38
          simpa using this
        have hoA := ownsRow_ext hor (hE2.trans eA)
        have hsA : w1.heap.size ≤ ((w2.alloc (.cells #[.slice a1 n1 c1, .slice a2 n2 c2] 40)).alloc (.cells #[.slice a1 n1 c1] 38)).heap.size := by have := hE.size; have := hE2.size; simp; omega
        have hnA : k + 1 ≤ 1073741824 := by omega
        have bkA := bk.ext ((Ext.refl _).alloc (.cells #[.slice a1 n1 c1] 38))
        have hol := hor.lt
        have HOL := Lib.hid hol
        have HSZ := Lib.hid hE2.size
        have HO := Lib.hid hO
        clear hol bk hcall b0 b1 b2 b3 lb y hO
        go_wp2_with (at_builtin; refine wpList_app tyRows hoA hrA rfl (by simp [Value.oneCell']) hnA hsA rfl rfl rfl rfl ?_; intro v9 w9 o9 g9 m9; obtain ⟨a9, c9, rfl, _⟩ := ownsRow_row o9; have bk9 := bkA.gr g9 (by intro e; have := (HOL.out _ e).2; have := HSZ.out; omega); have z0 := bk9.cell (i := 0) rfl; have z1 := bk9.cell (i := 1) rfl)
        go_roundw
        case rel =>
          have hO9 := HO.out.snoc (u := .slice a1 n1 c1) (x := (stepV c st row).1) (hE2.trans eA) (OwnB.le (r1.ext eA) (by have := hE.size; omega)) (fun q hq => (r1.lt2 q hq).1) g9 m9 (by rw [HRL.out]) (by exact o9)
          have hv2 : OwnB w9 w1.heap.size (.slice a2 n2 c2) (stepV c st row).2 := OwnB.le (ownsRow_gr (r3.ext eA) g9 (off_row (fun q hq e => by have := (r3.lt2 q hq).1; have := (HOL.out q e).2; omega))) (by have := hE.size; omega)
          refine ⟨k + 1, vals ++ [.slice a1 n1 c1], by omega, by go_num, ?_, Lib.hid (fun q hq e => ?_), ?_, ?_⟩
          · rw [HS1.out]; exact hv2
          · have h3 := (r3.lt2 q hq)
            rcases m9 with em | ⟨x, em, hx⟩
            · rw [em] at e; have := (HOL.out q e).2; omega
            · rw [em] at e; have : x = q := Option.some.inj e; have := eA.size; omega
          · rw [HR1.out]; exact hO9
          · exact ext_grown ((hE.trans hE2).trans eA) g9 (fun q hq => (HOL.out q hq).1)
        case measure => simp [intOf]; omega
      · have hk2 : k = xss.length := by omega
        subst hk2
        rw [List.take_length] at hO
        simp only [if_true] at HO
        go_wp2
        go_ret
        rw [HO.out]
        exact ⟨_, vals, rfl, hO.le E1.size, E1.trans hE⟩
end Go.Proofs.Ytpfhlodlefcomaa
