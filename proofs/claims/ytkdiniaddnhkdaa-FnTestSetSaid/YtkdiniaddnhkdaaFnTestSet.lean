/- The law FnTestSet: the test set detects every detectable fault, and every test in it is needed. No condition. -/
import Derived.Test.YtkdiniaddnhkdaaBytes
import Derived.Test.YtkdiniaddnhkdaaTestS
import Derived.Test.YtkdiniaddnhkdaaSameC
namespace Go.Proofs.Ytkdiniaddnhkdaa
open Go.ChangeShapes Go.WideShapes Go.ChangeAt Go.RowKit
set_option maxRecDepth 100000
set_option linter.unusedVariables false
set_option linter.unusedSimpArgs false
/-- Is the first test of f this one, and does none of the tests before it detect f? -/
def frV (c : Circ) (f : Int × Bool) (S : List Int) (k j : Nat) : Bool := (fst_ c f == S.getD k 0) && (S.take j).all (fun x => !detV c f.1 f.2 x.toNat)
theorem frV_zero (c : Circ) (f : Int × Bool) (S : List Int) (k : Nat) : frV c f S k 0 = (fst_ c f == S.getD k 0) := by simp [frV]
theorem frV_succ (c : Circ) (f : Int × Bool) (S : List Int) (k j : Nat) (hj : j < S.length) : frV c f S k (j + 1) = (frV c f S k j && !detV c f.1 f.2 (S.getD j 0).toNat) := by
  unfold frV
  rw [take_snocG S j 0 hj, List.all_append, ← Bool.and_assoc]
  simp
theorem frV_true {c : Circ} {f : Int × Bool} {S : List Int} {k : Nat} (hk : k ≤ S.length) (h1 : fst_ c f = S.getD k 0) (h2 : ∀ j, j < k → detV c f.1 f.2 (S.getD j 0).toNat = false) : frV c f S k k = true := by
  unfold frV
  rw [h1, beq_self_eq_true, Bool.true_and, List.all_eq_true]
  intro x hx
  obtain ⟨j, hj, rfl⟩ := List.mem_iff_getElem.1 hx
  have hj2 : j < k := by simp at hj; omega
  have := h2 j hj2
  rw [List.getD_eq_getElem?_getD, List.getElem?_eq_getElem (by omega)] at this
  simpa using this
theorem faultsV_in {c : Circ} {i : Nat} (h : i < (faultsV c).length) : c.Valid ∧ 1 ≤ ((faultsV c).getD i (0, false)).1 ∧ ((faultsV c).getD i (0, false)).1 < c.vars ∧ (faultsV c).length ≤ 1000 := by
  unfold faultsV at h ⊢
  cases hv : validB c
  · rw [hv] at h; simp at h
  · rw [hv] at h
    simp only [if_true] at h ⊢
    have V := validB_iff.1 hv
    have hvl := vars_le V
    have hf := fault_in V i h
    exact ⟨V, hf.1, hf.2, by rw [faultsN_length]; omega⟩
theorem find_fst {c : Circ} {f : Int × Bool} (V : c.Valid) (h1 : 1 ≤ f.1) (h2 : f.1 < c.vars) : findV c f.1 f.2 = fst_ c f := by
  unfold findV
  rw [if_pos (faultB_iff.2 ⟨V, h1, h2⟩)]; rfl
theorem set_len (c : Circ) : (tsV c).length ≤ 1000 := by
  have h := (tsV_ok c).len
  rcases Nat.eq_zero_or_pos (faultsV c).length with h0 | h0
  · omega
  · have := (faultsV_in h0).2.2.2; omega
set_option maxHeartbeats 8000000 in
theorem fnTestSet_walk (a0 : Option Addr) (len0 cap0 : Nat) (z0 : List Int) (w : World) (w0 : IsRow .u8 w a0 len0 cap0 z0) :
    Calls Try.prog 5 #[.slice a0 len0 cap0] w fun e w' => e = .returned (.bool true) ∧ Below w.heap.size w w' := by
  obtain ⟨bs, rfl, hB, hlc, hcm⟩ := bytes_of_row w0
  by_cases hl : bs.length ≤ 1048576
  · go_enter Try.func5, Try.ntmps5
    go_wp2_with fail
    refine (DrawTestSet_c a0 cap0 bs _ hB hl hlc hcm).mono ?_
    rintro e w1 ⟨c, p, rfl, hC, _, hE, _⟩
    go_wp2_with fail
    (have y := CircBox.made w1 c p 42; have Ey : Ext w1 (w1.alloc (.cells #[.int .i64 c.inputs, .slice p.an c.next.length p.cn, .slice p.ag c.gates.length p.cg, .slice p.ao c.outs.length p.co] 42)) := (Ext.refl w1).alloc _; have hC := hC.ext Ey)
    generalize w1.alloc (.cells #[.int .i64 c.inputs, .slice p.an c.next.length p.cn, .slice p.ag c.gates.length p.cg, .slice p.ao c.outs.length p.co] 42) = W1 at *
    have E1 := Ext.trans hE Ey
    clear hE Ey
    have OK := tsV_ok c
    have hSl := set_len c
    have hFV := fun i (h : i < (faultsV c).length) => faultsV_in h
    have T1 := Lib.hid (implTestSet_c c p)
    have T2 := Lib.hid (specTestSet_c c p)
    have T3 := Lib.hid (implFaults_c c p)
    have hFsm := faultsV_small c
    obtain ⟨S, hS⟩ : ∃ S, S = tsV c := ⟨_, rfl⟩
    obtain ⟨F, hF⟩ : ∃ F, F = faultsV c := ⟨_, rfl⟩
    rw [← hS] at OK hSl T1 T2
    rw [← hF] at OK hFV T3 hFsm
    have HOK := Lib.hid OK
    have HFV := Lib.hid hFV
    clear OK hFV hS hF
    refine (T1.out _ hC).mono ?_
    rintro e w2 h2
    obtain ⟨sa, sc, rfl, hSA, hE2⟩ := h2.opened
    have hC := hC.ext hE2
    have y := y.ext hE2
    have E2 := E1.trans hE2
    clear h2 hE2 E1 T1
    (obtain ⟨ly, y0, y1, y2, y3⟩ := (id y))
    go_wp2_with fail
    refine (T2.out _ hC).mono ?_
    rintro e w3 h3
    obtain ⟨ra, rc, rfl, hRA, hE3⟩ := h3.opened
    have hC := hC.ext hE3
    have hSA := hSA.ext hE3
    have y := y.ext hE3
    have E3 := E2.trans hE3
    clear h3 hE3 E2 T2 y0 y1 y2 y3 ly
    go_wp2_with fail
    refine (sameInts_c _ _ _ _ S _ hSA hRA (by omega)).mono ?_
    rintro e w4 ⟨rfl, hE4⟩
    have hC := hC.ext hE4
    have hSA := hSA.ext hE4
    have y := y.ext hE4
    have E4 := E3.trans hE4
    clear hE4 E3 hRA
    (obtain ⟨ly, y0, y1, y2, y3⟩ := (id y))
    go_wp2_with fail
    refine (T3.out _ hC).mono ?_
    rintro e w5 ⟨v5, rfl, hO5, hE5⟩
    obtain ⟨fa, fc, rfl, hFA⟩ := hO5.opened
    have hC := hC.ext hE5
    have hSA := hSA.ext hE5
    have y := y.ext hE5
    have E5 := E4.trans hE5
    clear hE5 E4 T3 hO5 y0 y1 y2 y3 ly
    go_wp2_with fail
    go_loopw [6] (fun u wr => ∃ i : Nat, i ≤ F.length ∧ u = .int .i64 i ∧ Ext w5 wr) (fun i _ => F.length - (intOf i).toNat)
    case atStart => exact ⟨0, Nat.zero_le _, rfl, Ext.refl _⟩
    case round =>
      obtain ⟨i, hi, rfl, hE⟩ := hrel
      by_cases hlt : i < F.length
      · obtain ⟨V, h1s, hsv, hF1⟩ := HFV.out i hlt
        have hff := find_fst V h1s hsv
        have hse : F.getD i (0, false) ∈ F := by rw [List.getD_eq_getElem?_getD, List.getElem?_eq_getElem hlt]; exact List.getElem_mem hlt
        have hsn := seen_iff HOK.out hse
        have hdd : ∀ x ∈ S, detectsV c (F.getD i (0, false)).1 (F.getD i (0, false)).2 x = detV c (F.getD i (0, false)).1 (F.getD i (0, false)).2 x.toNat := fun x hx => detectsV_ok ⟨V, h1s, hsv, HOK.out.rng x hx⟩
        obtain ⟨b1, o1, hfa, hb1, hcc⟩ := FaultsAt.get (RowAt.ext hFA hE) (by omega)
        obtain ⟨q1, q2⟩ := hcc i hlt
        have hst : ∀ j, j < S.length → seenV c (F.getD i (0, false)) (S.take (j + 1)) = (seenV c (F.getD i (0, false)) (S.take j) || detV c (F.getD i (0, false)).1 (F.getD i (0, false)).2 (S.getD j 0).toNat) := fun j hj => seen_snoc c _ S j hj
        obtain ⟨f, hf⟩ : ∃ f, f = F.getD i (0, false) := ⟨_, rfl⟩
        rw [← hf] at h1s hsv hff hsn hdd q1 q2 hst
        obtain ⟨s, v⟩ := f
        dsimp only at q1 q2 hff hdd h1s hsv hst
        obtain ⟨D, hD⟩ : ∃ D, D = fst_ c (s, v) := ⟨_, rfl⟩
        rw [← hD] at hff hsn
        have HFF := Lib.hid hff
        have HSN := Lib.hid hsn
        have HDD := Lib.hid hdd
        have HST := Lib.hid hst
        subst hfa
        obtain ⟨w6, rfl⟩ : ∃ x : World, x = wr := ⟨_, rfl⟩
        clear hcc hf hD hff hsn hdd hse hst
        go_wp2_with fail
        go_loopw [7, 8] (fun u7 u8 wr => ∃ (j : Nat) (dk : Bool), j ≤ S.length ∧ u8 = .int .i64 j ∧ u7 = .bool dk ∧ Hid (dk = seenV c (s, v) (S.take j)) ∧ Ext w6 wr) (fun _ i _ => S.length - (intOf i).toNat)
        case atStart => exact ⟨0, false, Nat.zero_le _, rfl, rfl, Lib.hid rfl, Ext.refl _⟩
        case round =>
          obtain ⟨j, dk, hj, rfl, rfl, hdk, hE6⟩ := hrel
          have hy := y.ext (hE.trans hE6)
          have p1 := ((ecell hE6).1 b1 (o1 + i * 2) hb1).trans q1
          have p2 := ((ecell hE6).1 b1 (o1 + i * 2 + 1) hb1).trans q2
          have hb16 := Nat.lt_of_lt_of_le hb1 hE6.size
          (obtain ⟨ly, y0, y1, y2, y3⟩ := (id hy))
          by_cases hlt2 : j < S.length
          · obtain ⟨b5, o5, rfl, hb5, hcx⟩ := (hSA.ext (hE.trans hE6)).get (by omega)
            have q5 := hcx j hlt2
            have hm : S.getD j 0 ∈ S := by rw [List.getD_eq_getElem?_getD, List.getElem?_eq_getElem hlt2]; exact List.getElem_mem hlt2
            have hdx := HDD.out _ hm
            have hsn := HST.out j hlt2
            obtain ⟨x, hxx⟩ : ∃ x, x = S.getD j 0 := ⟨_, rfl⟩
            rw [← hxx] at q5 hsn hdx
            rw [← hdk.out] at hsn
            have HSN2 := Lib.hid hsn
            have HDX := Lib.hid hdx
            obtain ⟨w7, rfl⟩ : ∃ x : World, x = wr := ⟨_, rfl⟩
            clear hcx hm hxx hsn hdk hdx q1 q2
            cases dk
            · go_wp2_with fail
              (refine wp_regionT ((fun w' => (∀ b o, b < w7.heap.size → w'.cell? ⟨b, o, none⟩ = w7.cell? ⟨b, o, none⟩) ∧ Ext w7 w')) 13 (by kernel_rfl) ?_; have hS0 := held_mk (Ext.drew w7))
              ((refine wpAnyT_take 0 (v := ?_) rfl (by kernel_rfl) (fun _ _ _ h => h) (Or.inl ⟨by kernel_rfl, ?_⟩) (by assumption) ?_; rotate_left; (intro wS hSw; (try dsimp only at hSw); go_simp; (try with_reducible rfl)); (try simp only [Act.put, List.setIfInBounds_toArray, List.set_cons_zero, List.set_cons_succ])); (refine wpAnyT_take 1 (v := ?_) rfl (by kernel_rfl) (fun _ _ _ h => h) (Or.inl ⟨by kernel_rfl, ?_⟩) (by assumption) ?_; rotate_left; (intro wS hSw; (try dsimp only at hSw); go_simp; (try with_reducible rfl)); (try simp only [Act.put, List.setIfInBounds_toArray, List.set_cons_zero, List.set_cons_succ])); (refine wpAnyT_take 2 (v := ?_) rfl (by kernel_rfl) (fun _ _ _ h => h) (Or.inl ⟨by kernel_rfl, ?_⟩) (by assumption) ?_; rotate_left; (intro wS hSw; (try dsimp only at hSw); go_simp; (try with_reducible rfl)); (try simp only [Act.put, List.setIfInBounds_toArray, List.set_cons_zero, List.set_cons_succ])); (refine wpAnyT_take 3 (v := ?_) rfl (by kernel_rfl) (fun _ _ _ h => h) (Or.inl ⟨by kernel_rfl, ?_⟩) (by assumption) ?_; rotate_left; (intro wS hSw; (try dsimp only at hSw); go_simp; (try with_reducible rfl)); (try simp only [Act.put, List.setIfInBounds_toArray, List.set_cons_zero, List.set_cons_succ])); (refine wpAnyT_take 4 (v := ?_) rfl (by kernel_rfl) (fun _ _ _ h => h) (Or.inl ⟨by kernel_rfl, ?_⟩) (by assumption) ?_; rotate_left; (intro wS hSw; (try dsimp only at hSw); go_simp; (try with_reducible rfl)); (try simp only [Act.put, List.setIfInBounds_toArray, List.set_cons_zero, List.set_cons_succ])); (refine wpAnyT_take 5 (v := ?_) rfl (by kernel_rfl) (fun _ _ _ h => h) (Or.inl ⟨by kernel_rfl, ?_⟩) (by assumption) ?_; rotate_left; (intro wS hSw; (try dsimp only at hSw); go_simp; (try with_reducible rfl)); (try simp only [Act.put, List.setIfInBounds_toArray, List.set_cons_zero, List.set_cons_succ])); (refine wpAnyT_take 6 (v := ?_) rfl (by kernel_rfl) (fun _ _ _ h => h) (Or.inl ⟨by kernel_rfl, ?_⟩) (by assumption) ?_; rotate_left; (intro wS hSw; (try dsimp only at hSw); go_simp; (try with_reducible rfl)); (try simp only [Act.put, List.setIfInBounds_toArray, List.set_cons_zero, List.set_cons_succ])); (refine wpAnyT_take 7 (v := ?_) rfl (by kernel_rfl) (fun _ _ _ h => h) (Or.inl ⟨by kernel_rfl, ?_⟩) (by assumption) ?_; rotate_left; (intro wS hSw; (try dsimp only at hSw); go_simp; (try with_reducible rfl)); (try simp only [Act.put, List.setIfInBounds_toArray, List.set_cons_zero, List.set_cons_succ])); (refine wpAnyT_take 8 (v := ?_) rfl (by kernel_rfl) (fun _ _ _ h => h) (Or.inl ⟨by kernel_rfl, ?_⟩) (by assumption) ?_; rotate_left; (intro wS hSw; (try dsimp only at hSw); go_simp; (try with_reducible rfl)); (try simp only [Act.put, List.setIfInBounds_toArray, List.set_cons_zero, List.set_cons_succ])); (refine wpAnyT_take 9 (v := ?_) rfl (by kernel_rfl) (fun _ _ _ h => h) (Or.inl ⟨by kernel_rfl, ?_⟩) (by assumption) ?_; rotate_left; (intro wS hSw; (try dsimp only at hSw); go_simp; (try with_reducible rfl)); (try simp only [Act.put, List.setIfInBounds_toArray, List.set_cons_zero, List.set_cons_succ])); (refine wpAnyT_take 10 (v := ?_) rfl (by kernel_rfl) (fun _ _ _ h => h) (Or.inl ⟨by kernel_rfl, ?_⟩) (by assumption) ?_; rotate_left; (intro wS hSw; (try dsimp only at hSw); go_simp; (try with_reducible rfl)); (try simp only [Act.put, List.setIfInBounds_toArray, List.set_cons_zero, List.set_cons_succ])))
              (refine wpAnyT_do 11 (by kernel_rfl) rfl (fun K hK => ?_))
              go_simp
              refine (implDetects_c c p s v x _ ((hC.ext (hE.trans hE6)).ext (Ext.drew w7))).mono ?_
              rw [HDX.out]
              rintro e w8 ⟨rfl, hE8⟩
              have hS8 := held_mk ((Ext.drew w7).trans hE8)
              (refine hK _ _ hS8 ?_; clear hK K; (try simp only [Act.put, List.setIfInBounds_toArray, List.set_cons_zero, List.set_cons_succ]))
              ((refine wpAnyT_take 12 (v := ?_) rfl (by kernel_rfl) (fun _ _ _ h => h) (Or.inl ⟨by kernel_rfl, ?_⟩) (by assumption) ?_; rotate_left; (intro wS hSw; (try dsimp only at hSw); go_simp; (try with_reducible rfl)); (try simp only [Act.put, List.setIfInBounds_toArray, List.set_cons_zero, List.set_cons_succ])))
              (refine wpAnyT_last 13 (by kernel_rfl) rfl (by decide) (by kernel_rfl) (fun K hK => ?_))
              go_simp
              (refine hK _ _ ?_; clear hK K; (try simp only [Act.put, List.setIfInBounds_toArray, List.set_cons_zero, List.set_cons_succ]))
              go_wp2_with fail
              go_roundw
              case rel => exact ⟨j + 1, detV c s v x.toNat, by omega, by go_num, rfl, Lib.hid (by rw [HSN2.out]; rfl), hE6.trans (held_ext hS8)⟩
              case measure => simp [intOf]; omega
            · go_wp2_with fail
              (refine wp_regionT ((fun w' => (∀ b o, b < w7.heap.size → w'.cell? ⟨b, o, none⟩ = w7.cell? ⟨b, o, none⟩) ∧ Ext w7 w')) 13 (by kernel_rfl) ?_; have hS0 := held_mk (Ext.drew w7))
              ((refine wpAnyT_take 0 (v := ?_) rfl (by kernel_rfl) (fun _ _ _ h => h) (Or.inl ⟨by kernel_rfl, ?_⟩) (by assumption) ?_; rotate_left; (intro wS hSw; (try dsimp only at hSw); go_simp; (try with_reducible rfl)); (try simp only [Act.put, List.setIfInBounds_toArray, List.set_cons_zero, List.set_cons_succ])); (refine wpAnyT_take 1 (v := ?_) rfl (by kernel_rfl) (fun _ _ _ h => h) (Or.inl ⟨by kernel_rfl, ?_⟩) (by assumption) ?_; rotate_left; (intro wS hSw; (try dsimp only at hSw); go_simp; (try with_reducible rfl)); (try simp only [Act.put, List.setIfInBounds_toArray, List.set_cons_zero, List.set_cons_succ])))
              ((refine wpAnyT_take 2 (v := undef) rfl (by kernel_rfl) (fun _ _ _ h => h) (Or.inr ⟨by kernel_rfl, rfl⟩) (by assumption) ?_; (try simp only [Act.put, List.setIfInBounds_toArray, List.set_cons_zero, List.set_cons_succ])); (refine wpAnyT_take 3 (v := undef) rfl (by kernel_rfl) (fun _ _ _ h => h) (Or.inr ⟨by kernel_rfl, rfl⟩) (by assumption) ?_; (try simp only [Act.put, List.setIfInBounds_toArray, List.set_cons_zero, List.set_cons_succ])); (refine wpAnyT_take 4 (v := undef) rfl (by kernel_rfl) (fun _ _ _ h => h) (Or.inr ⟨by kernel_rfl, rfl⟩) (by assumption) ?_; (try simp only [Act.put, List.setIfInBounds_toArray, List.set_cons_zero, List.set_cons_succ])); (refine wpAnyT_take 5 (v := undef) rfl (by kernel_rfl) (fun _ _ _ h => h) (Or.inr ⟨by kernel_rfl, rfl⟩) (by assumption) ?_; (try simp only [Act.put, List.setIfInBounds_toArray, List.set_cons_zero, List.set_cons_succ])); (refine wpAnyT_take 6 (v := undef) rfl (by kernel_rfl) (fun _ _ _ h => h) (Or.inr ⟨by kernel_rfl, rfl⟩) (by assumption) ?_; (try simp only [Act.put, List.setIfInBounds_toArray, List.set_cons_zero, List.set_cons_succ])); (refine wpAnyT_take 7 (v := undef) rfl (by kernel_rfl) (fun _ _ _ h => h) (Or.inr ⟨by kernel_rfl, rfl⟩) (by assumption) ?_; (try simp only [Act.put, List.setIfInBounds_toArray, List.set_cons_zero, List.set_cons_succ])); (refine wpAnyT_take 8 (v := undef) rfl (by kernel_rfl) (fun _ _ _ h => h) (Or.inr ⟨by kernel_rfl, rfl⟩) (by assumption) ?_; (try simp only [Act.put, List.setIfInBounds_toArray, List.set_cons_zero, List.set_cons_succ])); (refine wpAnyT_take 9 (v := undef) rfl (by kernel_rfl) (fun _ _ _ h => h) (Or.inr ⟨by kernel_rfl, rfl⟩) (by assumption) ?_; (try simp only [Act.put, List.setIfInBounds_toArray, List.set_cons_zero, List.set_cons_succ])); (refine wpAnyT_take 10 (v := undef) rfl (by kernel_rfl) (fun _ _ _ h => h) (Or.inr ⟨by kernel_rfl, rfl⟩) (by assumption) ?_; (try simp only [Act.put, List.setIfInBounds_toArray, List.set_cons_zero, List.set_cons_succ])); (refine wpAnyT_take 11 (v := undef) rfl (by kernel_rfl) (fun _ _ _ h => h) (Or.inr ⟨by kernel_rfl, rfl⟩) (by assumption) ?_; (try simp only [Act.put, List.setIfInBounds_toArray, List.set_cons_zero, List.set_cons_succ])))
              ((refine wpAnyT_take 12 (v := ?_) rfl (by kernel_rfl) (fun _ _ _ h => h) (Or.inl ⟨by kernel_rfl, ?_⟩) (by assumption) ?_; rotate_left; (intro wS hSw; (try dsimp only at hSw); go_simp; (try with_reducible rfl)); (try simp only [Act.put, List.setIfInBounds_toArray, List.set_cons_zero, List.set_cons_succ])))
              (refine wpAnyT_last 13 (by kernel_rfl) rfl (by decide) (by kernel_rfl) (fun K hK => ?_))
              go_simp
              (refine hK _ _ ?_; clear hK K; (try simp only [Act.put, List.setIfInBounds_toArray, List.set_cons_zero, List.set_cons_succ]))
              go_wp2_with fail
              go_roundw
              case rel => exact ⟨j + 1, true, by omega, by go_num, rfl, Lib.hid (by rw [HSN2.out]; rfl), hE6.trans (Ext.drew w7)⟩
              case measure => simp [intOf]; omega
          · have hdS : dk = decide (0 ≤ D) := by
              have h := hdk.out
              rw [List.take_of_length_le (by omega)] at h
              rw [h]; exact HSN.out
            obtain ⟨w7, rfl⟩ : ∃ x : World, x = wr := ⟨_, rfl⟩
            clear hdk q1 q2
            subst hdS
            go_wp2_with fail
            go_region_held3 ((fun w' => (∀ b o, b < w7.heap.size → w'.cell? ⟨b, o, none⟩ = w7.cell? ⟨b, o, none⟩) ∧ Ext w7 w')) ((first | assumption | (with_reducible exact held_mk (Ext.drew w7)) | (with_reducible exact held_mk (((Ext.refl w7).alloc _).drew')) | (with_reducible exact held_mk ((Ext.drew w7).alloc _)))) (first | (go_simp; go_at_call 27; refine (implFindTest_c c p s v _ ((hC.ext (hE.trans hE6)).ext (Ext.drew w7))).mono ?_; rw [HFF.out]; rintro e w8 ⟨rfl, hE8⟩; have hK1 := held_mk ((Ext.drew w7).trans hE8)))
            have F8 := held_ext hK1
            clear hK1 p1 p2 y0 y1 y2 y3 ly
            have hbb : (decide (0 ≤ D) != decide (0 ≤ D)) = false := by simp
            go_wp2_with fail
            go_roundw
            case rel => exact ⟨i + 1, by omega, by go_num, (hE.trans hE6).trans F8⟩
            case measure => simp [intOf]; omega
      · obtain ⟨w6, rfl⟩ : ∃ x : World, x = wr := ⟨_, rfl⟩
        go_wp2_with fail
        go_loopw [9] (fun u wr => ∃ k : Nat, k ≤ S.length ∧ u = .int .i64 k ∧ Ext w6 wr) (fun i _ => S.length - (intOf i).toNat)
        case atStart => exact ⟨0, Nat.zero_le _, rfl, Ext.refl _⟩
        case round =>
          obtain ⟨k, hk, rfl, hE6⟩ := hrel
          by_cases hlt : k < S.length
          · have hnd := HOK.out.need k hlt
            obtain ⟨bk, ok, hsa, hbk, hcx⟩ := (hSA.ext (hE.trans hE6)).get (by omega)
            have qk := hcx k hlt
            obtain ⟨xk, hxk⟩ : ∃ x, x = S.getD k 0 := ⟨_, rfl⟩
            have HXK := Lib.hid hxk
            have hnd2 : ∃ i, i < F.length ∧ frV c (F.getD i (0, false)) S k k = true := by
              obtain ⟨i, h1, h2, h3⟩ := hnd
              exact ⟨i, h1, frV_true (by omega) h2 h3⟩
            have HND := Lib.hid hnd2
            rw [← hxk] at qk
            obtain ⟨w7, rfl⟩ : ∃ x : World, x = wr := ⟨_, rfl⟩
            clear hcx hxk hnd hnd2
            go_wp2_with fail
            go_loopw [10, 11] (fun u10 u11 wr => ∃ (i : Nat) (dk : Bool), i ≤ F.length ∧ u11 = .int .i64 i ∧ u10 = .bool dk ∧ Hid ((∃ m, m < i ∧ frV c (F.getD m (0, false)) S k k = true) → dk = true) ∧ Ext w7 wr) (fun _ i _ => F.length - (intOf i).toNat)
            case atStart => exact ⟨0, false, Nat.zero_le _, rfl, rfl, Lib.hid (fun ⟨m, hm, _⟩ => absurd hm (Nat.not_lt_zero m)), Ext.refl _⟩
            case round =>
              obtain ⟨i, dk, hi, rfl, rfl, hdk, hE7⟩ := hrel
              by_cases hlt3 : i < F.length
              · obtain ⟨V, h1s, hsv, hF1⟩ := HFV.out i hlt3
                have EE := (hE.trans hE6).trans hE7
                have hff := find_fst V h1s hsv
                have hdd : ∀ x ∈ S, detectsV c (F.getD i (0, false)).1 (F.getD i (0, false)).2 x = detV c (F.getD i (0, false)).1 (F.getD i (0, false)).2 x.toNat := fun x hx => detectsV_ok ⟨V, h1s, hsv, HOK.out.rng x hx⟩
                have hf0 := frV_zero c (F.getD i (0, false)) S k
                have hfs := fun j (hj : j < S.length) => frV_succ c (F.getD i (0, false)) S k j hj
                rw [← HXK.out] at hf0
                obtain ⟨b1, o1, hfa, hb1, hcc⟩ := FaultsAt.get (RowAt.ext hFA EE) (by omega)
                obtain ⟨q1, q2⟩ := hcc i hlt3
                obtain ⟨f, hf⟩ : ∃ f, f = F.getD i (0, false) := ⟨_, rfl⟩
                rw [← hf] at h1s hsv hff hdd q1 q2 hf0 hfs
                have HFI := Lib.hid hf
                obtain ⟨s, v⟩ := f
                dsimp only at q1 q2 hff hdd h1s hsv hfs
                obtain ⟨D, hD⟩ : ∃ D, D = fst_ c (s, v) := ⟨_, rfl⟩
                rw [← hD] at hff hf0
                have HFF := Lib.hid hff
                have HDD := Lib.hid hdd
                have HF0 := Lib.hid hf0
                have HFSS := Lib.hid hfs
                have qk7 := ((ecell hE7).1 bk (ok + k) hbk).trans qk
                have hbk7 := Nat.lt_of_lt_of_le hbk hE7.size
                have hy := y.ext EE
                (obtain ⟨ly, y0, y1, y2, y3⟩ := (id hy))
                subst hfa hsa
                obtain ⟨w8, rfl⟩ : ∃ x : World, x = wr := ⟨_, rfl⟩
                clear hcc hf hD hff hdd hf0 hfs
                go_wp2_with fail
                go_region_held3 ((fun w' => (∀ b o, b < w8.heap.size → w'.cell? ⟨b, o, none⟩ = w8.cell? ⟨b, o, none⟩) ∧ Ext w8 w')) ((first | assumption | (with_reducible exact held_mk (Ext.drew w8)) | (with_reducible exact held_mk (((Ext.refl w8).alloc _).drew')) | (with_reducible exact held_mk ((Ext.drew w8).alloc _)))) (first | (go_simp; go_at_call 27; refine (implFindTest_c c p s v _ ((hC.ext EE).ext (Ext.drew w8))).mono ?_; rw [HFF.out]; rintro e w9 ⟨rfl, hE9⟩; have hK1 := held_mk ((Ext.drew w8).trans hE9)))
                have F9 := held_ext hK1
                have p1 := ((ecell F9).1 b1 (o1 + i * 2) hb1).trans q1
                have p2 := ((ecell F9).1 b1 (o1 + i * 2 + 1) hb1).trans q2
                have hb19 := Nat.lt_of_lt_of_le hb1 F9.size
                clear hK1 y0 y1 y2 y3 ly q1 q2 qk7
                go_wp2_with fail
                go_loopw [12, 13] (fun u12 u13 wr => ∃ (j : Nat) (fr : Bool), j ≤ k ∧ u13 = .int .i64 j ∧ u12 = .bool fr ∧ Hid (fr = frV c (s, v) S k j) ∧ Ext w9 wr) (fun _ i _ => k - (intOf i).toNat)
                case atStart => exact ⟨0, _, Nat.zero_le _, rfl, rfl, Lib.hid (by rw [HF0.out]), Ext.refl _⟩
                case round =>
                  obtain ⟨j, fr, hj, rfl, rfl, hfr, hE9b⟩ := hrel
                  have EF := (EE.trans F9).trans hE9b
                  have hy := y.ext EF
                  have p3 := ((ecell hE9b).1 b1 (o1 + i * 2) hb19).trans p1
                  have p4 := ((ecell hE9b).1 b1 (o1 + i * 2 + 1) hb19).trans p2
                  have hb1a := Nat.lt_of_lt_of_le hb19 hE9b.size
                  by_cases hlt4 : j < k
                  · obtain ⟨b5, o5, hs5, hb5, hcx⟩ := (hSA.ext EF).get (by omega)
                    have hb5e : b5 = bk ∧ o5 = ok := by cases hs5; exact ⟨rfl, rfl⟩
                    obtain ⟨rfl, rfl⟩ := hb5e
                    have q5 := hcx j (by omega)
                    have hm : S.getD j 0 ∈ S := by rw [List.getD_eq_getElem?_getD, List.getElem?_eq_getElem (by omega)]; exact List.getElem_mem (by omega)
                    have hdx := HDD.out _ hm
                    have hsn := HFSS.out j (by omega)
                    obtain ⟨x, hxx⟩ : ∃ x, x = S.getD j 0 := ⟨_, rfl⟩
                    rw [← hxx] at q5 hsn hdx
                    rw [← hfr.out] at hsn
                    have HSN2 := Lib.hid hsn
                    have HDX := Lib.hid hdx
                    have hjS : j < S.length := by omega
                    (obtain ⟨ly, y0, y1, y2, y3⟩ := (id hy))
                    obtain ⟨wa, rfl⟩ : ∃ x : World, x = wr := ⟨_, rfl⟩
                    clear hcx hm hxx hsn hfr hdx p1 p2 hs5
                    cases fr
                    · go_wp2_with fail
                      (refine wp_regionT ((fun w' => (∀ b o, b < wa.heap.size → w'.cell? ⟨b, o, none⟩ = wa.cell? ⟨b, o, none⟩) ∧ Ext wa w')) 14 (by kernel_rfl) ?_; have hS0 := held_mk (Ext.drew wa))
                      ((refine wpAnyT_take 0 (v := ?_) rfl (by kernel_rfl) (fun _ _ _ h => h) (Or.inl ⟨by kernel_rfl, ?_⟩) (by assumption) ?_; rotate_left; (intro wS hSw; (try dsimp only at hSw); go_simp; (try with_reducible rfl)); (try simp only [Act.put, List.setIfInBounds_toArray, List.set_cons_zero, List.set_cons_succ])); (refine wpAnyT_take 1 (v := ?_) rfl (by kernel_rfl) (fun _ _ _ h => h) (Or.inl ⟨by kernel_rfl, ?_⟩) (by assumption) ?_; rotate_left; (intro wS hSw; (try dsimp only at hSw); go_simp; (try with_reducible rfl)); (try simp only [Act.put, List.setIfInBounds_toArray, List.set_cons_zero, List.set_cons_succ])))
                      ((refine wpAnyT_take 2 (v := undef) rfl (by kernel_rfl) (fun _ _ _ h => h) (Or.inr ⟨by kernel_rfl, rfl⟩) (by assumption) ?_; (try simp only [Act.put, List.setIfInBounds_toArray, List.set_cons_zero, List.set_cons_succ])); (refine wpAnyT_take 3 (v := undef) rfl (by kernel_rfl) (fun _ _ _ h => h) (Or.inr ⟨by kernel_rfl, rfl⟩) (by assumption) ?_; (try simp only [Act.put, List.setIfInBounds_toArray, List.set_cons_zero, List.set_cons_succ])); (refine wpAnyT_take 4 (v := undef) rfl (by kernel_rfl) (fun _ _ _ h => h) (Or.inr ⟨by kernel_rfl, rfl⟩) (by assumption) ?_; (try simp only [Act.put, List.setIfInBounds_toArray, List.set_cons_zero, List.set_cons_succ])); (refine wpAnyT_take 5 (v := undef) rfl (by kernel_rfl) (fun _ _ _ h => h) (Or.inr ⟨by kernel_rfl, rfl⟩) (by assumption) ?_; (try simp only [Act.put, List.setIfInBounds_toArray, List.set_cons_zero, List.set_cons_succ])); (refine wpAnyT_take 6 (v := undef) rfl (by kernel_rfl) (fun _ _ _ h => h) (Or.inr ⟨by kernel_rfl, rfl⟩) (by assumption) ?_; (try simp only [Act.put, List.setIfInBounds_toArray, List.set_cons_zero, List.set_cons_succ])); (refine wpAnyT_take 7 (v := undef) rfl (by kernel_rfl) (fun _ _ _ h => h) (Or.inr ⟨by kernel_rfl, rfl⟩) (by assumption) ?_; (try simp only [Act.put, List.setIfInBounds_toArray, List.set_cons_zero, List.set_cons_succ])); (refine wpAnyT_take 8 (v := undef) rfl (by kernel_rfl) (fun _ _ _ h => h) (Or.inr ⟨by kernel_rfl, rfl⟩) (by assumption) ?_; (try simp only [Act.put, List.setIfInBounds_toArray, List.set_cons_zero, List.set_cons_succ])); (refine wpAnyT_take 9 (v := undef) rfl (by kernel_rfl) (fun _ _ _ h => h) (Or.inr ⟨by kernel_rfl, rfl⟩) (by assumption) ?_; (try simp only [Act.put, List.setIfInBounds_toArray, List.set_cons_zero, List.set_cons_succ])); (refine wpAnyT_take 10 (v := undef) rfl (by kernel_rfl) (fun _ _ _ h => h) (Or.inr ⟨by kernel_rfl, rfl⟩) (by assumption) ?_; (try simp only [Act.put, List.setIfInBounds_toArray, List.set_cons_zero, List.set_cons_succ])); (refine wpAnyT_take 11 (v := undef) rfl (by kernel_rfl) (fun _ _ _ h => h) (Or.inr ⟨by kernel_rfl, rfl⟩) (by assumption) ?_; (try simp only [Act.put, List.setIfInBounds_toArray, List.set_cons_zero, List.set_cons_succ])); (refine wpAnyT_take 12 (v := undef) rfl (by kernel_rfl) (fun _ _ _ h => h) (Or.inr ⟨by kernel_rfl, rfl⟩) (by assumption) ?_; (try simp only [Act.put, List.setIfInBounds_toArray, List.set_cons_zero, List.set_cons_succ])))
                      ((refine wpAnyT_take 13 (v := ?_) rfl (by kernel_rfl) (fun _ _ _ h => h) (Or.inl ⟨by kernel_rfl, ?_⟩) (by assumption) ?_; rotate_left; (intro wS hSw; (try dsimp only at hSw); go_simp; (try with_reducible rfl)); (try simp only [Act.put, List.setIfInBounds_toArray, List.set_cons_zero, List.set_cons_succ])))
                      (refine wpAnyT_last 14 (by kernel_rfl) rfl (by decide) (by kernel_rfl) (fun K hK => ?_))
                      go_simp
                      (refine hK _ _ ?_; clear hK K; (try simp only [Act.put, List.setIfInBounds_toArray, List.set_cons_zero, List.set_cons_succ]))
                      go_wp2_with fail
                      go_roundw
                      case rel => exact ⟨j + 1, false, by omega, by go_num, rfl, Lib.hid (by rw [HSN2.out]; rfl), hE9b.trans (Ext.drew wa)⟩
                      case measure => simp [intOf]; omega
                    · go_wp2_with fail
                      (refine wp_regionT ((fun w' => (∀ b o, b < wa.heap.size → w'.cell? ⟨b, o, none⟩ = wa.cell? ⟨b, o, none⟩) ∧ Ext wa w')) 14 (by kernel_rfl) ?_; have hS0 := held_mk (Ext.drew wa))
                      ((refine wpAnyT_take 0 (v := ?_) rfl (by kernel_rfl) (fun _ _ _ h => h) (Or.inl ⟨by kernel_rfl, ?_⟩) (by assumption) ?_; rotate_left; (intro wS hSw; (try dsimp only at hSw); go_simp; (try with_reducible rfl)); (try simp only [Act.put, List.setIfInBounds_toArray, List.set_cons_zero, List.set_cons_succ])); (refine wpAnyT_take 1 (v := ?_) rfl (by kernel_rfl) (fun _ _ _ h => h) (Or.inl ⟨by kernel_rfl, ?_⟩) (by assumption) ?_; rotate_left; (intro wS hSw; (try dsimp only at hSw); go_simp; (try with_reducible rfl)); (try simp only [Act.put, List.setIfInBounds_toArray, List.set_cons_zero, List.set_cons_succ])); (refine wpAnyT_take 2 (v := ?_) rfl (by kernel_rfl) (fun _ _ _ h => h) (Or.inl ⟨by kernel_rfl, ?_⟩) (by assumption) ?_; rotate_left; (intro wS hSw; (try dsimp only at hSw); go_simp; (try with_reducible rfl)); (try simp only [Act.put, List.setIfInBounds_toArray, List.set_cons_zero, List.set_cons_succ])); (refine wpAnyT_take 3 (v := ?_) rfl (by kernel_rfl) (fun _ _ _ h => h) (Or.inl ⟨by kernel_rfl, ?_⟩) (by assumption) ?_; rotate_left; (intro wS hSw; (try dsimp only at hSw); go_simp; (try with_reducible rfl)); (try simp only [Act.put, List.setIfInBounds_toArray, List.set_cons_zero, List.set_cons_succ])); (refine wpAnyT_take 4 (v := ?_) rfl (by kernel_rfl) (fun _ _ _ h => h) (Or.inl ⟨by kernel_rfl, ?_⟩) (by assumption) ?_; rotate_left; (intro wS hSw; (try dsimp only at hSw); go_simp; (try with_reducible rfl)); (try simp only [Act.put, List.setIfInBounds_toArray, List.set_cons_zero, List.set_cons_succ])); (refine wpAnyT_take 5 (v := ?_) rfl (by kernel_rfl) (fun _ _ _ h => h) (Or.inl ⟨by kernel_rfl, ?_⟩) (by assumption) ?_; rotate_left; (intro wS hSw; (try dsimp only at hSw); go_simp; (try with_reducible rfl)); (try simp only [Act.put, List.setIfInBounds_toArray, List.set_cons_zero, List.set_cons_succ])); (refine wpAnyT_take 6 (v := ?_) rfl (by kernel_rfl) (fun _ _ _ h => h) (Or.inl ⟨by kernel_rfl, ?_⟩) (by assumption) ?_; rotate_left; (intro wS hSw; (try dsimp only at hSw); go_simp; (try with_reducible rfl)); (try simp only [Act.put, List.setIfInBounds_toArray, List.set_cons_zero, List.set_cons_succ])); (refine wpAnyT_take 7 (v := ?_) rfl (by kernel_rfl) (fun _ _ _ h => h) (Or.inl ⟨by kernel_rfl, ?_⟩) (by assumption) ?_; rotate_left; (intro wS hSw; (try dsimp only at hSw); go_simp; (try with_reducible rfl)); (try simp only [Act.put, List.setIfInBounds_toArray, List.set_cons_zero, List.set_cons_succ])); (refine wpAnyT_take 8 (v := ?_) rfl (by kernel_rfl) (fun _ _ _ h => h) (Or.inl ⟨by kernel_rfl, ?_⟩) (by assumption) ?_; rotate_left; (intro wS hSw; (try dsimp only at hSw); go_simp; (try with_reducible rfl)); (try simp only [Act.put, List.setIfInBounds_toArray, List.set_cons_zero, List.set_cons_succ])); (refine wpAnyT_take 9 (v := ?_) rfl (by kernel_rfl) (fun _ _ _ h => h) (Or.inl ⟨by kernel_rfl, ?_⟩) (by assumption) ?_; rotate_left; (intro wS hSw; (try dsimp only at hSw); go_simp; (try with_reducible rfl)); (try simp only [Act.put, List.setIfInBounds_toArray, List.set_cons_zero, List.set_cons_succ])); (refine wpAnyT_take 10 (v := ?_) rfl (by kernel_rfl) (fun _ _ _ h => h) (Or.inl ⟨by kernel_rfl, ?_⟩) (by assumption) ?_; rotate_left; (intro wS hSw; (try dsimp only at hSw); go_simp; (try with_reducible rfl)); (try simp only [Act.put, List.setIfInBounds_toArray, List.set_cons_zero, List.set_cons_succ])))
                      (refine wpAnyT_do 11 (by kernel_rfl) rfl (fun K hK => ?_))
                      go_simp
                      refine (implDetects_c c p s v x _ ((hC.ext EF).ext (Ext.drew wa))).mono ?_
                      rw [HDX.out]
                      rintro e wb ⟨rfl, hEb⟩
                      have hSb := held_mk ((Ext.drew wa).trans hEb)
                      (refine hK _ _ hSb ?_; clear hK K; (try simp only [Act.put, List.setIfInBounds_toArray, List.set_cons_zero, List.set_cons_succ]))
                      ((refine wpAnyT_take 12 (v := ?_) rfl (by kernel_rfl) (fun _ _ _ h => h) (Or.inl ⟨by kernel_rfl, ?_⟩) (by assumption) ?_; rotate_left; (intro wS hSw; (try dsimp only at hSw); go_simp; (try with_reducible rfl)); (try simp only [Act.put, List.setIfInBounds_toArray, List.set_cons_zero, List.set_cons_succ])); (refine wpAnyT_take 13 (v := ?_) rfl (by kernel_rfl) (fun _ _ _ h => h) (Or.inl ⟨by kernel_rfl, ?_⟩) (by assumption) ?_; rotate_left; (intro wS hSw; (try dsimp only at hSw); go_simp; (try with_reducible rfl)); (try simp only [Act.put, List.setIfInBounds_toArray, List.set_cons_zero, List.set_cons_succ])))
                      (refine wpAnyT_last 14 (by kernel_rfl) rfl (by decide) (by kernel_rfl) (fun K hK => ?_))
                      go_simp
                      (refine hK _ _ ?_; clear hK K; (try simp only [Act.put, List.setIfInBounds_toArray, List.set_cons_zero, List.set_cons_succ]))
                      go_wp2_with fail
                      go_roundw
                      case rel => exact ⟨j + 1, !detV c s v x.toNat, by omega, by go_num, rfl, Lib.hid (by rw [HSN2.out]; rfl), hE9b.trans (held_ext hSb)⟩
                      case measure => simp [intOf]; omega
                  · have hj2 : j = k := by omega
                    subst hj2
                    obtain ⟨wa, rfl⟩ : ∃ x : World, x = wr := ⟨_, rfl⟩
                    have HRL : Hid ((∃ m, m < i + 1 ∧ frV c (F.getD m (0, false)) S j j = true) → (dk || fr) = true) := Lib.hid (by
                      rintro ⟨m, hm, hmr⟩
                      rcases Nat.lt_or_ge m i with h | h
                      · rw [hdk.out ⟨m, h, hmr⟩]; rfl
                      · have : m = i := by omega
                        subst this
                        rw [← HFI.out, ← hfr.out] at hmr
                        rw [hmr]; simp)
                    clear hdk hfr
                    cases dk
                    · go_wp2_with fail
                      go_roundw
                      case rel => exact ⟨i + 1, fr, by omega, by go_num, rfl, Lib.hid (fun h => by simpa using HRL.out h), (hE7.trans F9).trans hE9b⟩
                      case measure => simp [intOf]; omega
                    · go_wp2_with fail
                      go_roundw
                      case rel => exact ⟨i + 1, true, by omega, by go_num, rfl, Lib.hid (fun _ => rfl), (hE7.trans F9).trans hE9b⟩
                      case measure => simp [intOf]; omega
              · have hd : dk = true := hdk.out (by obtain ⟨m, h1, h2⟩ := HND.out; exact ⟨m, by omega, h2⟩)
                subst hd
                obtain ⟨w8, rfl⟩ : ∃ x : World, x = wr := ⟨_, rfl⟩
                clear hdk
                go_wp2_with fail
                go_roundw
                case rel => exact ⟨k + 1, by omega, by go_num, hE6.trans hE7⟩
                case measure => simp [intOf]; omega
          · obtain ⟨w7, rfl⟩ : ∃ x : World, x = wr := ⟨_, rfl⟩
            go_wp2_with fail
            refine (alive_c _).mono ?_
            rintro e w8 ⟨rfl, hE8⟩
            go_wp2
            go_ret
            exact ⟨rfl, ((E5.trans hE).trans hE6).trans hE8⟩
  · go_enter Try.func5, Try.ntmps5
    go_wp2
    go_ret
    exact ⟨rfl, Below.refl _ _⟩
theorem fnTestSet_lifted (os : Os) (started : os.Started) (H : Type) (enc : TypeId × Value → H) :
    ReturnsInHanded {} Try.checked os 5 .any (Rows.fnTestSetSpec.pre6 enc Try.prog Try.f5 Rows.fnTestSetRow.domain false) (Rows.fnTestSetSpec.post enc Try.prog Try.f5 false true false false) := by
  refine returnsInHanded_of_change (C := Try.checked) own started (by kernel_rfl) Try.func5
    (ChangeSpec.witness6 (enc := enc) (C := Try.checked) false ⟨#[], #[.slice none 0 0], []⟩ 8 (by kernel_rfl) (by kernel_rfl) (by kernel_rfl) (by kernel_rfl)) ?_
  intro W base args ds gs before hval0 hW hcnd _
  have hval : ∀ (j : Nat) t v, Try.f5.params[j]? = some t → args[j]? = some v → Value.okWide Try.prog W .any base t v := hval0
  have hW' := hW
  obtain ⟨p, q, hA0, hV, rfl, hfz, hnd⟩ := hW
  have hA : DataW.TrodAll enc Try.prog W 0 (fun _ => true) true Try.f5.params.toList args.toList ds p := hA0
  rw [Try.params5] at hA hval
  obtain ⟨v0, vs0, d0, ds0, p0, q0, hargs, rfl, rfl, h0, r0⟩ := trodAll_cons hA
  obtain ⟨rfl, rfl, rfl⟩ := trodAll_nil r0
  obtain rfl : args = #[v0] := by cases args; simp_all
  obtain ⟨rfl, rfl⟩ := trodVars_none hV
  obtain ⟨a0, len0, cap0, rfl⟩ := okWide_slice Try.underlying38 (hval 0 38 v0 rfl rfl)
  have k0 := h0
  have lt0 : ∀ x ∈ p0, x.block < W.heap.size := by obtain ⟨m, hm⟩ := k0; exact DataW.trod_lt m _ _ _ hm
  obtain ⟨z0, w0⟩ : ∃ zs, IsRow .u8 W a0 len0 cap0 zs := by
    obtain ⟨fuel, hf⟩ := h0
    rcases open_ints Try.underlying38 Try.underlying5 (by kernel_rfl) hf with ⟨hcs, _⟩ | ⟨x, l, c, zs, hcs, _, hl, hm, hz, _, hcell, hwz⟩
    · simp [Value.cells] at hcs
      obtain ⟨rfl, rfl, rfl⟩ := hcs
      exact ⟨[], .inl ⟨rfl, rfl, rfl, rfl⟩⟩
    · simp [Value.cells] at hcs
      obtain ⟨rfl, rfl, rfl⟩ := hcs
      exact ⟨zs, .inr ⟨_, rfl, hl, hm, by simpa using hz, hcell, hwz⟩⟩
  clear hA0 hval0
  refine (fnTestSet_walk a0 len0 cap0 z0 W w0).mono fun e W' ⟨he, bel⟩ => ?_
  subst he
  exact ⟨_, rfl, _, _, _, [], _, [], hW', trodAll_mk1 (shut_bool Try.underlying4 _), (trodAll_cons_mk (Below.trod laidOut (by kernel_rfl) (of_decide_eq_true (by kernel_rfl)) k0 bel lt0) trodAll_mk0), rfl, bel.frame _, fun h => by cases h⟩
theorem fnTestSet_over : Rows.fnTestSetRow.holds Try.pinned (OpenSpec.ofChange Rows.fnTestSetSpec) :=
  OpenClaim.holds_of_wide 5 Try.f5 rfl rfl rfl rfl rfl rfl rfl ⟨rfl, rfl, rfl, rfl, rfl⟩ rfl rfl rfl rfl rfl (by kernel_rfl) Try.func5 (by kernel_rfl)
    (of_decide_eq_true (by kernel_rfl)) (by unfold Func.isWrapper; first | (rw [if_pos (by decide +kernel)]; kernel_rfl) | (rw [if_neg (by decide +kernel)]; exact ⟨rfl, rfl⟩))
    (fun os started H enc _ => fnTestSet_lifted os started H enc)
theorem fnTestSet_holds : Rows.FnTestSetSaid := fnTestSet_over
end Go.Proofs.Ytkdiniaddnhkdaa
