/- The law FnEquivalentRuns: equivalent circuits cannot be distinguished by any run. -/
import Derived.Test.YtpfhlodlefcomaaBytes
import Derived.Test.YtpfhlodlefcomaaDrawP
import Derived.Test.YtpfhlodlefcomaaDiffS
import Derived.Test.YtpfhlodlefcomaaRun
import Derived.Test.YtpfhlodlefcomaaSimI
import Derived.Test.YtpfhlodlefcomaaSameR
import Derived.Test.YtpfhlodlefcomaaRegion2
namespace Go.Proofs.Ytpfhlodlefcomaa
open Go.ChangeShapes Go.WideShapes Go.ChangeAt Go.RowKit
set_option maxRecDepth 100000
set_option linter.unusedVariables false
set_option linter.unusedSimpArgs false
theorem lawBits_m (xi ni : Int) (n : Nat) (h0 : 0 ≤ xi) (h1 : xi ≤ 255) (h2 : ni = n) (hn : n ≤ 30) (w : World) :
    Calls Try.prog 31 #[.int .i64 xi, .int .i64 ni] w (GiveB w (bitsN xi.toNat n)) := by
  have h := lawBits_c xi.toNat n (by omega) hn w
  rw [Int.toNat_of_nonneg h0] at h
  subst h2; exact h
/-- The rows that the law makes of its second code. -/
def rowsM (n : Nat) (ms : List Int) (k : Nat) : List (List Bool) := (ms.take k).map (fun m => bitsN m.toNat n)
theorem rowsM_length (n : Nat) (ms : List Int) (k : Nat) (hk : k ≤ ms.length) : (rowsM n ms k).length = k := by simp [rowsM]; omega
theorem rowsM_snoc (n : Nat) (ms : List Int) (k : Nat) (hk : k < ms.length) : rowsM n ms (k + 1) = rowsM n ms k ++ [bitsN (ms.getD k 0).toNat n] := by
  unfold rowsM
  rw [take_snocG ms k 0 hk, List.map_append]; rfl
theorem rowsM_fit {c : Circ} (V : c.Valid) (ms : List Int) (k : Nat) (hk : k ≤ ms.length) (h : k ≤ 20) : FitR c (rowsM c.inputs.toNat ms k) := by
  refine ⟨V, by rw [rowsM_length _ _ _ hk]; omega, fun j hj => ?_⟩
  have : (rowsM c.inputs.toNat ms k).getD j [] ∈ rowsM c.inputs.toNat ms k := by
    rw [List.getD_eq_getElem?_getD, List.getElem?_eq_getElem hj]; exact List.getElem_mem hj
  obtain ⟨m, _, e⟩ := List.mem_map.1 this
  rw [← e, bitsN_length]
  exact Int.toNat_of_nonneg V.i0
theorem rowsM_sm {c : Circ} (V : c.Valid) (ms : List Int) (k : Nat) (hk : k ≤ ms.length) (h : k ≤ 20) : ∀ j, j < (rowsM c.inputs.toNat ms k).length → ((rowsM c.inputs.toNat ms k).getD j []).length ≤ 1048576 := fun j hj => by
  have := (rowsM_fit V ms k hk h).r j hj
  have := V.i4
  omega
set_option maxHeartbeats 4000000 in
theorem fnEquivalentRuns_walk (a0 : Option Addr) (len0 cap0 : Nat) (z0 : List Int) (a1 : Option Addr) (len1 cap1 : Nat) (z1 : List Int) (w : World) (w0 : IsRow .u8 w a0 len0 cap0 z0) (w1 : IsRow .u8 w a1 len1 cap1 z1) :
    Calls Try.prog 8 #[.slice a0 len0 cap0, .slice a1 len1 cap1] w fun e w' => e = .returned (.bool true) ∧ Below w.heap.size w w' := by
  obtain ⟨bs, rfl, hB, hlc, hcm⟩ := bytes_of_row w0
  obtain ⟨ms, rfl, hM, _, _⟩ := bytes_of_row w1
  by_cases hl : bs.length ≤ 1048576
  · by_cases hl2 : ms.length ≤ 1048576
    · go_enter Try.func8, Try.ntmps8
      go_wp2_with fail
      refine (DrawEquivalent_c a0 cap0 bs _ hB hl hlc hcm).mono ?_
      rintro e w1 ⟨c, d, p, q, rfl, hC, hD, E1, _, _⟩
      go_wp2_with fail
      have Ex : Ext w1 ((w1.alloc (.cells #[.int .i64 c.inputs, .slice p.an c.next.length p.cn, .slice p.ag c.gates.length p.cg, .slice p.ao c.outs.length p.co] 26)).alloc (.cells #[.int .i64 d.inputs, .slice q.an d.next.length q.cn, .slice q.ag d.gates.length q.cg, .slice q.ao d.outs.length q.co] 26)) := ((Ext.refl w1).alloc _).alloc _
      have y := (CircBox.made w1 c p 26).ext ((Ext.refl _).alloc (.cells #[.int .i64 d.inputs, .slice q.an d.next.length q.cn, .slice q.ag d.gates.length q.cg, .slice q.ao d.outs.length q.co] 26))
      have z := CircBox.at (w1.alloc (.cells #[.int .i64 c.inputs, .slice p.an c.next.length p.cn, .slice p.ag c.gates.length p.cg, .slice p.ao c.outs.length p.co] 26)) d q 26 (B := w1.heap.size + 1) (by simp)
      have hC := hC.ext Ex
      have hD := hD.ext Ex
      have E2 := E1.trans Ex
      generalize (w1.alloc (.cells #[.int .i64 c.inputs, .slice p.an c.next.length p.cn, .slice p.ag c.gates.length p.cg, .slice p.ao c.outs.length p.co] 26)).alloc (.cells #[.int .i64 d.inputs, .slice q.an d.next.length q.cn, .slice q.ag d.gates.length q.cg, .slice q.ao d.outs.length q.co] 26) = W2 at *
      clear Ex E1
      have HSM := Lib.hid (fun (h : (sameI c d && !(cexV c d).1) = true) => eqB_sim (a := c) (b := d) h)
      have HV := Lib.hid (fun (h : (sameI c d && !(cexV c d).1) = true) => eqB_valid (a := c) (b := d) h)
      have F1 := Lib.hid (implEquivalent_c c d p q)
      have F2 := Lib.hid (specEquivalent_c c d p q)
      refine (F1.out _ hC hD).mono ?_
      obtain ⟨ok, hok⟩ : ∃ ok, ok = (sameI c d && !(cexV c d).1) := ⟨_, rfl⟩
      rw [← hok] at F2 HSM HV ⊢
      clear hok F1
      rintro e w3 ⟨rfl, hE3⟩
      have hC := hC.ext hE3
      have hD := hD.ext hE3
      have y := y.ext hE3
      have z := z.ext hE3
      have E3 := E2.trans hE3
      clear E2 hE3
      obtain ⟨ly, y0, y1, y2, y3⟩ := (id y)
      obtain ⟨lz, z0, z1, z2, z3⟩ := (id z)
      cases ok
      · go_wp2_with fail
        refine (F2.out _ hC hD).mono ?_
        rintro e w4 ⟨rfl, hE4⟩
        clear y0 y1 y2 y3 ly z0 z1 z2 z3 lz
        go_wp2_with fail
        refine (alive_c _).mono ?_
        rintro e w5 ⟨rfl, hE5⟩
        go_wp2
        go_ret
        exact ⟨rfl, (E3.trans hE4).trans hE5⟩
      · go_wp2_with fail
        refine (F2.out _ hC hD).mono ?_
        rintro e w4 ⟨rfl, hE4⟩
        have hC := hC.ext hE4
        have hD := hD.ext hE4
        have y := y.ext hE4
        have z := z.ext hE4
        have E4 := E3.trans hE4
        clear E3 hE4 y0 y1 y2 y3 ly z0 z1 z2 z3 lz F2
        obtain ⟨V, W⟩ := HV.out (by first | rfl | trivial)
        have HW := Lib.hid W
        have HVV := Lib.hid V
        have i0 := V.i0
        have i4 := V.i4
        have HSM := Lib.hid (HSM.out (by first | rfl | trivial))
        have hM := hM.ext E4
        have X0 := Blk.at w4 [] 38 rfl
        have E0 : Ext w4 (w4.alloc (.cells #[] 38)) := (Ext.refl w4).alloc _
        have O0 : OwnR (w4.alloc (.cells #[] 38)) w4.heap.size (.slice (some ⟨w4.heap.size, 0, none⟩) 0 0) [] (rowsM c.inputs.toNat ms 0) :=
          ⟨rfl, X0.owns (n := 0) (size := 1) rfl (Nat.le_refl _) (by decide), fun j hj => by simp [rowsM] at hj, fun j k hj => by simp [rowsM] at hj, fun i j k _ hj => by simp [rowsM] at hj⟩
        clear V W HV
        go_wp2_with fail
        go_loopw [8, 9] (fun u8 u9 wr => ∃ (k : Nat) (vals : List Value), k ≤ ms.length ∧ k ≤ 20 ∧ u9 = .int .i64 k ∧ OwnR wr w4.heap.size u8 vals (rowsM c.inputs.toNat ms k) ∧ Ext w4 wr) (fun _ i _ => ms.length - (intOf i).toNat)
        case atStart => exact ⟨0, [], Nat.zero_le _, by omega, rfl, O0, E0⟩
        case round =>
          clear X0 E0 O0
          obtain ⟨k, vals, hk, hk20, rfl, hO, hE⟩ := hrel
          have hrl := rowsM_length c.inputs.toNat ms k hk
          have hor := hO.row
          rw [hrl] at hor
          obtain ⟨oa, oc, rfl, _⟩ := ownsRow_row hor
          obtain ⟨ly, y0, y1, y2, y3⟩ := y.ext hE
          by_cases hlt : k < ms.length ∧ k < 20
          · obtain ⟨hlt, hlt2⟩ := hlt
            obtain ⟨bm, om, rfl, hbm, hcc⟩ := (hM.ext hE).get (by omega)
            obtain ⟨q0, q1, q2⟩ := hcc k hlt
            have hsn := rowsM_snoc c.inputs.toNat ms k hlt
            obtain ⟨m, hm⟩ : ∃ m, m = ms.getD k 0 := ⟨_, rfl⟩
            rw [← hm] at q0 q1 q2 hsn
            have HSN := Lib.hid hsn
            have HRL := Lib.hid hrl
            have HO2 := Lib.hid hO
            have HOL := Lib.hid hor.lt
            obtain ⟨w5, rfl⟩ : ∃ x : World, x = wr := ⟨_, rfl⟩
            have hs5 := hE.size
            clear hcc hm hsn hrl hO
            go_wp2_with fail
            have hN1 : ((c.inputs.toNat : Nat) : Int) = c.inputs := by omega
            have HN1 := Lib.hid hN1
            obtain ⟨row, hrow⟩ : ∃ row, row = bitsN m.toNat c.inputs.toNat := ⟨_, rfl⟩
            rw [← hrow] at HSN
            have HROW := Lib.hid hrow
            have hwm : IntKind.i64.wrap m = m := IntWalk.i64_in _ (by omega)
            clear hN1 hrow
            (refine wp_regionT ((fun w' => (∀ b o, b < w5.heap.size → w'.cell? ⟨b, o, none⟩ = w5.cell? ⟨b, o, none⟩) ∧ Ext w5 w')) 10 (by kernel_rfl) ?_; have hS0 := held_mk (Ext.drew w5))
            ((refine wpAnyT_take 0 (v := ?_) rfl (by kernel_rfl) (fun _ _ _ h => h) (Or.inl ⟨by kernel_rfl, ?_⟩) (by assumption) ?_; rotate_left; (intro wS hSw; (try dsimp only at hSw); go_simp; (try with_reducible rfl)); (try simp only [Act.put, List.setIfInBounds_toArray, List.set_cons_zero, List.set_cons_succ])); (refine wpAnyT_take 1 (v := ?_) rfl (by kernel_rfl) (fun _ _ _ h => h) (Or.inl ⟨by kernel_rfl, ?_⟩) (by assumption) ?_; rotate_left; (intro wS hSw; (try dsimp only at hSw); go_simp; (try with_reducible rfl)); (try simp only [Act.put, List.setIfInBounds_toArray, List.set_cons_zero, List.set_cons_succ])); (refine wpAnyT_take 2 (v := ?_) rfl (by kernel_rfl) (fun _ _ _ h => h) (Or.inl ⟨by kernel_rfl, ?_⟩) (by assumption) ?_; rotate_left; (intro wS hSw; (try dsimp only at hSw); go_simp; (try with_reducible rfl)); (try simp only [Act.put, List.setIfInBounds_toArray, List.set_cons_zero, List.set_cons_succ])); (refine wpAnyT_take 3 (v := ?_) rfl (by kernel_rfl) (fun _ _ _ h => h) (Or.inl ⟨by kernel_rfl, ?_⟩) (by assumption) ?_; rotate_left; (intro wS hSw; (try dsimp only at hSw); go_simp; (try with_reducible rfl)); (try simp only [Act.put, List.setIfInBounds_toArray, List.set_cons_zero, List.set_cons_succ])); (refine wpAnyT_take 4 (v := ?_) rfl (by kernel_rfl) (fun _ _ _ h => h) (Or.inl ⟨by kernel_rfl, ?_⟩) (by assumption) ?_; rotate_left; (intro wS hSw; (try dsimp only at hSw); go_simp; (try with_reducible rfl)); (try simp only [Act.put, List.setIfInBounds_toArray, List.set_cons_zero, List.set_cons_succ])); (refine wpAnyT_take 5 (v := ?_) rfl (by kernel_rfl) (fun _ _ _ h => h) (Or.inl ⟨by kernel_rfl, ?_⟩) (by assumption) ?_; rotate_left; (intro wS hSw; (try dsimp only at hSw); go_simp; (try with_reducible rfl)); (try simp only [Act.put, List.setIfInBounds_toArray, List.set_cons_zero, List.set_cons_succ])); (refine wpAnyT_take 6 (v := ?_) rfl (by kernel_rfl) (fun _ _ _ h => h) (Or.inl ⟨by kernel_rfl, ?_⟩) (by assumption) ?_; rotate_left; (intro wS hSw; (try dsimp only at hSw); go_simp; (try with_reducible rfl)); (try simp only [Act.put, List.setIfInBounds_toArray, List.set_cons_zero, List.set_cons_succ])); (refine wpAnyT_take 7 (v := ?_) rfl (by kernel_rfl) (fun _ _ _ h => h) (Or.inl ⟨by kernel_rfl, ?_⟩) (by assumption) ?_; rotate_left; (intro wS hSw; (try dsimp only at hSw); go_simp; (try with_reducible rfl)); (try simp only [Act.put, List.setIfInBounds_toArray, List.set_cons_zero, List.set_cons_succ])))
            (refine wpAnyT_do 8 (by kernel_rfl) rfl (fun K hK => ?_))
            go_simp
            refine (lawBits_m _ _ c.inputs.toNat q1 q2 HN1.out.symm (by omega) _).mono ?_
            rw [← HROW.out]
            rintro e w6 ⟨v6, rfl, hO6, hE6⟩
            obtain ⟨r6, c6, rfl, hB6⟩ := hO6.opened
            have F6 : Ext w5 w6 := (Ext.drew w5).trans hE6
            have hS1 := held_mk F6
            (refine hK _ _ hS1 ?_; clear hK K; (try simp only [Act.put, List.setIfInBounds_toArray, List.set_cons_zero, List.set_cons_succ]))
            (refine wpAnyT_do 9 (by kernel_rfl) rfl (fun K hK => ?_))
            go_simp
            have eA : Ext w6 (w6.alloc (.cells #[.slice r6 row.length c6] 38)) := (Ext.refl w6).alloc _
            have hoA := ownsRow_ext hor (F6.trans eA)
            have hsA : w4.heap.size ≤ (w6.alloc (.cells #[.slice r6 row.length c6] 38)).heap.size := by have := F6.size; simp; omega
            have hS2 := held_mk (F6.trans eA)
            (refine hK _ _ hS2 ?_; clear hK K; (try simp only [Act.put, List.setIfInBounds_toArray, List.set_cons_zero, List.set_cons_succ]))
            (refine wpAnyT_doN 10 (by kernel_rfl) rfl (by decide) (fun K hK => ?_))
            refine step_app tyRows hoA (RowAt.new w6 #[.slice r6 row.length c6] _) rfl (by simp [Value.oneCell']) (by omega) hsA rfl rfl rfl rfl ?_
            intro v9 w9 o9 g9 m9
            obtain ⟨a9, c9, rfl, _⟩ := ownsRow_row o9
            go_simp
            (refine hK _ _ ?_; clear hK K; (try simp only [Act.put, List.setIfInBounds_toArray, List.set_cons_zero, List.set_cons_succ]))
            (refine wpAnyT_last 11 (by kernel_rfl) rfl (by decide) (by kernel_rfl) (fun K hK => ?_))
            go_simp
            (refine hK _ _ ?_; clear hK K; (try simp only [Act.put, List.setIfInBounds_toArray, List.set_cons_zero, List.set_cons_succ]))
            go_wp2_with fail
            go_roundw
            case rel =>
              have hO9 := HO2.out.snoc (u := .slice r6 row.length c6) (x := row) (F6.trans eA) (OwnB.le (hO6.ext eA) (by simp; omega)) (fun q hq => by have := (hO6.lt' q hq).1; simp at this; omega) g9 m9 (by rw [HRL.out]) (by exact o9)
              refine ⟨k + 1, _, by omega, by omega, by go_num, by rw [HSN.out]; exact hO9, ?_⟩
              exact ext_grown ((hE.trans F6).trans eA) g9 (fun q hq => (HOL.out q hq).1)
            case measure => simp [intOf]; omega
          · have HFT := rowsM_fit HVV.out ms k hk hk20
            have hsm := simV_rl HFT
            have hrs := rowsM_sm HVV.out ms k hk hk20
            have hsl := simV_length (fitB_iff.2 HFT)
            have hsd := HSM.out (rowsM c.inputs.toNat ms k)
            have hRA := hO.at_
            rw [hrl] at hsl
            obtain ⟨xss, hx⟩ : ∃ xss, xss = rowsM c.inputs.toNat ms k := ⟨_, rfl⟩
            rw [← hx] at hsm hrs hsl hsd hRA hrl
            have HC0 := fun (w : World) (h1 : CircAt w c p) (h2 : RowsAt w oa xss) => (implSimulate_c c p oa oc xss w h1 h2 (by omega) hrs).mono (fun e w' h => h.opened)
            have HD0 := fun (w : World) (h1 : CircAt w d q) (h2 : RowsAt w oa xss) => (implSimulate_c d q oa oc xss w h1 h2 (by omega) hrs).mono (fun e w' h => h.opened)
            rw [← hsd] at HD0
            obtain ⟨S, hS⟩ : ∃ S, S = simV c xss := ⟨_, rfl⟩
            rw [← hS] at hsm hsl HC0 HD0
            rw [hsl, hrl] at HC0 HD0
            have HC1 := Lib.hid HC0
            have HD1 := Lib.hid HD0
            have HSR := Lib.hid hsm
            have hC5 := hC.ext hE
            have hD5 := hD.ext hE
            obtain ⟨lz, z0, z1, z2, z3⟩ := z.ext hE
            clear hsm hrs hsd hx hS HC0 HD0 HFT hO hor hrl
            obtain ⟨w5, rfl⟩ : ∃ x : World, x = wr := ⟨_, rfl⟩
            by_cases hlt1 : k < ms.length
            all_goals
              go_wp2_with fail
              go_region_held3 ((fun w' => (∀ b o, b < w5.heap.size → w'.cell? ⟨b, o, none⟩ = w5.cell? ⟨b, o, none⟩) ∧ Ext w5 w')) ((first | assumption | (with_reducible exact held_mk (Ext.drew w5)) | (with_reducible exact held_mk (((Ext.refl w5).alloc _).drew')) | (with_reducible exact held_mk ((Ext.drew w5).alloc _)))) (first
                | (go_simp; go_at_call 17; have hguard := hK3; refine (HC1.out _ (hC5.ext (held_ext hK3)) (hRA.ext (held_ext hK3))).mono ?_; rintro e w13 ⟨r13, c13, rfl, hR13, hE13⟩; have hK4 := held_mk ((held_ext hK3).trans hE13))
                | (go_simp; go_at_call 18; have hguard := hK2; refine (sameRows_c r10 r11 c10 c11 _ S hsl _ (hR10.ext hE11) hR11 (by omega) HSR.out).mono ?_; rintro e w12 ⟨rfl, hE12⟩; have hK3 := held_mk ((held_ext hK2).trans hE12))
                | (go_simp; go_at_call 17; have hguard := hK1; refine (HD1.out _ (hD5.ext (held_ext hK1)) (hRA.ext (held_ext hK1))).mono ?_; rintro e w11 ⟨r11, c11, rfl, hR11, hE11⟩; have hK2 := held_mk ((held_ext hK1).trans hE11))
                | (go_simp; go_at_call 17; refine (HC1.out _ (hC5.ext (Ext.drew w5)) (hRA.ext (Ext.drew w5))).mono ?_; rintro e w10 ⟨r10, c10, rfl, hR10, hE10⟩; have hK1 := held_mk ((Ext.drew w5).trans hE10)))
              go_wp2
              go_ret
              exact ⟨rfl, (E4.trans hE).trans (held_ext hK4)⟩
    · go_enter Try.func8, Try.ntmps8
      go_wp2
      go_ret
      exact ⟨rfl, Below.refl _ _⟩
  · go_enter Try.func8, Try.ntmps8
    go_wp2
    go_ret
    exact ⟨rfl, Below.refl _ _⟩
theorem fnEquivalentRuns_lifted (os : Os) (started : os.Started) (H : Type) (enc : TypeId × Value → H) :
    ReturnsInHanded {} Try.checked os 8 .any (Rows.fnEquivalentRunsSpec.pre6 enc Try.prog Try.f8 Rows.fnEquivalentRunsRow.domain false) (Rows.fnEquivalentRunsSpec.post enc Try.prog Try.f8 false true false false) := by
  refine returnsInHanded_of_change (C := Try.checked) own started (by kernel_rfl) Try.func8
    (ChangeSpec.witness6 (enc := enc) (C := Try.checked) false ⟨#[], #[.slice none 0 0, .slice none 0 0], []⟩ 8 (by kernel_rfl) (by kernel_rfl) (by kernel_rfl) (by kernel_rfl)) ?_
  intro W base args ds gs before hval0 hW hcnd _
  have hval : ∀ (j : Nat) t v, Try.f8.params[j]? = some t → args[j]? = some v → Value.okWide Try.prog W .any base t v := hval0
  have hW' := hW
  obtain ⟨p, q, hA0, hV, rfl, hfz, hnd⟩ := hW
  have hA : DataW.TrodAll enc Try.prog W 0 (fun _ => true) true Try.f8.params.toList args.toList ds p := hA0
  rw [Try.params8] at hA hval
  obtain ⟨v0, vs0, d0, ds0, p0, q0, hargs, rfl, rfl, h0, r0⟩ := trodAll_cons hA
  obtain ⟨v1, vs1, d1, ds1, p1, q1, rfl, rfl, rfl, h1, r1⟩ := trodAll_cons r0
  obtain ⟨rfl, rfl, rfl⟩ := trodAll_nil r1
  obtain rfl : args = #[v0, v1] := by cases args; simp_all
  obtain ⟨rfl, rfl⟩ := trodVars_none hV
  obtain ⟨a0, len0, cap0, rfl⟩ := okWide_slice Try.underlying22 (hval 0 22 v0 rfl rfl)
  have k0 := h0
  have lt0 : ∀ x ∈ p0, x.block < W.heap.size := by obtain ⟨m, hm⟩ := k0; exact DataW.trod_lt m _ _ _ hm
  obtain ⟨z0, w0⟩ : ∃ zs, IsRow .u8 W a0 len0 cap0 zs := by
    obtain ⟨fuel, hf⟩ := h0
    rcases open_ints Try.underlying22 Try.underlying5 (by kernel_rfl) hf with ⟨hcs, _⟩ | ⟨x, l, c, zs, hcs, _, hl, hm, hz, _, hcell, hwz⟩
    · simp [Value.cells] at hcs
      obtain ⟨rfl, rfl, rfl⟩ := hcs
      exact ⟨[], .inl ⟨rfl, rfl, rfl, rfl⟩⟩
    · simp [Value.cells] at hcs
      obtain ⟨rfl, rfl, rfl⟩ := hcs
      exact ⟨zs, .inr ⟨_, rfl, hl, hm, by simpa using hz, hcell, hwz⟩⟩
  obtain ⟨a1, len1, cap1, rfl⟩ := okWide_slice Try.underlying22 (hval 1 22 v1 rfl rfl)
  have k1 := h1
  have lt1 : ∀ x ∈ p1, x.block < W.heap.size := by obtain ⟨m, hm⟩ := k1; exact DataW.trod_lt m _ _ _ hm
  obtain ⟨z1, w1⟩ : ∃ zs, IsRow .u8 W a1 len1 cap1 zs := by
    obtain ⟨fuel, hf⟩ := h1
    rcases open_ints Try.underlying22 Try.underlying5 (by kernel_rfl) hf with ⟨hcs, _⟩ | ⟨x, l, c, zs, hcs, _, hl, hm, hz, _, hcell, hwz⟩
    · simp [Value.cells] at hcs
      obtain ⟨rfl, rfl, rfl⟩ := hcs
      exact ⟨[], .inl ⟨rfl, rfl, rfl, rfl⟩⟩
    · simp [Value.cells] at hcs
      obtain ⟨rfl, rfl, rfl⟩ := hcs
      exact ⟨zs, .inr ⟨_, rfl, hl, hm, by simpa using hz, hcell, hwz⟩⟩
  clear hA0 hval0
  refine (fnEquivalentRuns_walk a0 len0 cap0 z0 a1 len1 cap1 z1 W w0 w1).mono fun e W' ⟨he, bel⟩ => ?_
  subst he
  exact ⟨_, rfl, _, _, _, [], _, [], hW', trodAll_mk1 (shut_bool Try.underlying4 _), (trodAll_cons_mk (Below.trod laidOut (by kernel_rfl) (of_decide_eq_true (by kernel_rfl)) k0 bel lt0) (trodAll_cons_mk (Below.trod laidOut (by kernel_rfl) (of_decide_eq_true (by kernel_rfl)) k1 bel lt1) trodAll_mk0)), rfl, bel.frame _, fun h => by cases h⟩
theorem fnEquivalentRuns_over : Rows.fnEquivalentRunsRow.holds Try.pinned (OpenSpec.ofChange Rows.fnEquivalentRunsSpec) :=
  OpenClaim.holds_of_wide 8 Try.f8 rfl rfl rfl rfl rfl rfl rfl ⟨rfl, rfl, rfl, rfl, rfl⟩ rfl rfl rfl rfl rfl (by kernel_rfl) Try.func8 (by kernel_rfl)
    (of_decide_eq_true (by kernel_rfl)) (by unfold Func.isWrapper; first | (rw [if_pos (by decide +kernel)]; kernel_rfl) | (rw [if_neg (by decide +kernel)]; exact ⟨rfl, rfl⟩))
    (fun os started H enc _ => fnEquivalentRuns_lifted os started H enc)
theorem fnEquivalentRuns_holds : Rows.FnEquivalentRunsSaid := fnEquivalentRuns_over
end Go.Proofs.Ytpfhlodlefcomaa
