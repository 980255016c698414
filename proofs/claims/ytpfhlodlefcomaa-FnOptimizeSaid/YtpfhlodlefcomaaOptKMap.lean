/- Contract: a circuit with renamed literals. -/
import Derived.Test.YtpfhlodlefcomaaOptK0
namespace Go.Proofs.Ytpfhlodlefcomaa
open Go.RowKit
set_option maxRecDepth 100000
set_option linter.unusedVariables false
set_option linter.unusedSimpArgs false
def renMap (ms : List Int) (c : Circ) : Circ := ⟨c.inputs, c.next.map (mapL ms), c.gates.map (fun x => (mapL ms x.1, mapL ms x.2)), c.outs.map (mapL ms)⟩
set_option maxHeartbeats 8000000 in
theorem replacedMap_c (b : Nat) (c : Circ) (p : Where3) (w : World) (hb : CircBox w b c p) (hc : CircAt w c p) (hi0 : 0 ≤ c.inputs) (ln : c.next.length ≤ 1000) (lg : c.gates.length ≤ 1000) (lo : c.outs.length ≤ 1000)
    (B : Nat) (t : TypeId) (a : Option Addr) (cap n : Nat) (ms : List Int) (hn : ms.length = n) (hB : Blk w B t [.slice a n cap]) (hm : IntsAt w a ms) (hl : n ≤ 1000) (hx : ∀ x ∈ ms, 0 ≤ x ∧ x ≤ 1000000)
    (h1 : ∀ i, i < c.next.length → 0 ≤ c.next.getD i 0 ∧ c.next.getD i 0 < 2 * (n : Int)) (h2 : ∀ i, i < c.gates.length → (0 ≤ (c.gates.getD i (0, 0)).1 ∧ (c.gates.getD i (0, 0)).1 < 2 * (n : Int)) ∧ (0 ≤ (c.gates.getD i (0, 0)).2 ∧ (c.gates.getD i (0, 0)).2 < 2 * (n : Int)))
    (h3 : ∀ i, i < c.outs.length → 0 ≤ c.outs.getD i 0 ∧ c.outs.getD i 0 < 2 * (n : Int)) :
    Calls Try.prog 81 #[.pointer (some ⟨b, 0, none⟩), .func (.func 82) #[] #[.pointer (some ⟨B, 0, none⟩)]] w (GiveC w (renMap ms c)) := by
  have HN := Lib.hid hn
  have HX := Lib.hid hx
  have H1 := Lib.hid h1
  have H2 := Lib.hid h2
  have H3 := Lib.hid h3
  clear hn hx h1 h2 h3
  have lb := hb.lt
  have z := hb
  obtain ⟨_, b0, b1, b2, b3⟩ := z
  have hsz : (w.alloc (.cells #[.int .i64 0, .slice none 0 0, .slice none 0 0, .slice none 0 0] 26)).heap.size = w.heap.size + 1 := by simp
  have M0 := (CBuild.made (w.alloc (.cells #[.int .i64 0, .slice none 0 0, .slice none 0 0, .slice none 0 0] 26)) (w.heap.size + 1) c.inputs (by simp))
  rw [hsz] at M0
  have E0 : Ext w ((w.alloc (.cells #[.int .i64 0, .slice none 0 0, .slice none 0 0, .slice none 0 0] 26)).alloc (.cells #[.int .i64 c.inputs, .slice none 0 0, .slice none 0 0, .slice none 0 0] 26)) := ((Ext.refl w).alloc _).alloc _
  have R0 := (Blk.at w [.int .i64 0, .slice none 0 0, .slice none 0 0, .slice none 0 0] 26 rfl).ext ((Ext.refl _).alloc (.cells #[.int .i64 c.inputs, .slice none 0 0, .slice none 0 0, .slice none 0 0] 26))
  clear hsz
  go_enter Try.func81, Try.ntmps81
  go_wp2_with fail
  go_loopw [22] (fun i wr => ∃ (k : Nat) (xv : Value), k ≤ c.next.length ∧ i = .int .i64 k ∧ CBuild wr (w.heap.size + 1) (w.heap.size + 1) ⟨c.inputs, (c.next.take k).map (mapL ms), [], []⟩ xv (.slice none 0 0) (.slice none 0 0) ∧ Blk wr w.heap.size 26 [.int .i64 0, .slice none 0 0, .slice none 0 0, .slice none 0 0] ∧ Ext w wr) (fun i _ => c.next.length - (intOf i).toNat)
  case atStart => exact ⟨0, _, Nat.zero_le _, rfl, M0, R0, E0⟩
  case round =>
    clear M0 R0 E0 b0 b1 b2 b3
    obtain ⟨k, xv, hk, rfl, hM, hR, hE⟩ := hrel
    have y := hb.ext hE
    obtain ⟨_, b0, b1, b2, b3⟩ := y
    have hnr := hM.nx
    dsimp only at hnr
    rw [List.length_map, List.length_take, Nat.min_eq_left hk] at hnr
    obtain ⟨na, nc, rfl, _⟩ := ownsRow_row hnr
    have hMl := hM.lt
    by_cases hlt : k < c.next.length
    · obtain ⟨b9, o9, hag, hb9, hg1⟩ := (hc.ext hE).nx.get (by omega)
      have q1 := hg1 k hlt
      obtain ⟨lq1, lq2⟩ := H1.out k hlt
      have htk := take_snocG c.next k 0 hlt
      obtain ⟨lx, hlx⟩ : ∃ x, x = c.next.getD k 0 := ⟨_, rfl⟩
      rw [← hlx] at q1 lq1 lq2 htk
      have HTK := Lib.hid htk
      rw [hag]
      have HAG := Lib.hid hag
      obtain ⟨mx, hmx⟩ : ∃ x, x = mapL ms lx := ⟨_, rfl⟩
      have HMX := Lib.hid hmx
      have x1 := Blk.cell (show Blk wr (w.heap.size + 1) 26 [.int .i64 c.inputs, .slice na k nc, .slice none 0 0, .slice none 0 0] from hM.blk) (i := 1) rfl
      clear hg1 hag hmx hlx htk
      go_wp2_with fail
      refine wp_regionT (fun w' => w'.cell? ⟨w.heap.size + 1, 1, none⟩ = some (.slice na k nc)) 8 (by kernel_rfl) ?_
      have hS0 : wr.drew.cell? ⟨w.heap.size + 1, 1, none⟩ = some (.slice na k nc) := x1
      ((refine wpAnyT_take 0 (v := ?_) rfl (by kernel_rfl) (fun _ _ _ h => h) (Or.inl ⟨by kernel_rfl, ?_⟩) (by assumption) ?_; rotate_left; (intro wS hSw; (try dsimp only at hSw); go_simp; (try with_reducible rfl)); (try simp only [Act.put, List.setIfInBounds_toArray, List.set_cons_zero, List.set_cons_succ])); (refine wpAnyT_take 1 (v := ?_) rfl (by kernel_rfl) (fun _ _ _ h => h) (Or.inl ⟨by kernel_rfl, ?_⟩) (by assumption) ?_; rotate_left; (intro wS hSw; (try dsimp only at hSw); go_simp; (try with_reducible rfl)); (try simp only [Act.put, List.setIfInBounds_toArray, List.set_cons_zero, List.set_cons_succ])); (refine wpAnyT_take 2 (v := ?_) rfl (by kernel_rfl) (fun _ _ _ h => h) (Or.inl ⟨by kernel_rfl, ?_⟩) (by assumption) ?_; rotate_left; (intro wS hSw; (try dsimp only at hSw); go_simp; (try with_reducible rfl)); (try simp only [Act.put, List.setIfInBounds_toArray, List.set_cons_zero, List.set_cons_succ])); (refine wpAnyT_take 3 (v := ?_) rfl (by kernel_rfl) (fun _ _ _ h => h) (Or.inl ⟨by kernel_rfl, ?_⟩) (by assumption) ?_; rotate_left; (intro wS hSw; (try dsimp only at hSw); go_simp; (try with_reducible rfl)); (try simp only [Act.put, List.setIfInBounds_toArray, List.set_cons_zero, List.set_cons_succ])))
      (refine wpAnyT_doB 4 (by kernel_rfl) rfl (fun K hK => ?_))
      refine Bx.mk ?_
      go_simp
      refine (mapClo_c B t a cap n ms HN.out lx _ (hB.ext hE.drew') (hm.ext hE.drew') lq1 lq2 (by omega) HX.out).mono ?_
      rw [← HMX.out]
      rintro e w6 ⟨rfl, rfl⟩
      (refine hK _ _ hS0 ?_; clear hK K; (try simp only [Act.put, List.setIfInBounds_toArray, List.set_cons_zero, List.set_cons_succ]))
      (refine wpAnyT_doB 5 (by kernel_rfl) rfl (fun K hK => ?_))
      refine Bx.mk ?_
      go_simp
      have hM2 := hM.ext (((Ext.refl wr).alloc (.cells #[.int .i64 mx] 3)).drew')
      have hR2 := hR.ext (((Ext.refl wr).alloc (.cells #[.int .i64 mx] 3)).drew')
      have hS1 := Blk.cell (show Blk (wr.alloc (.cells #[.int .i64 mx] 3)).drew (w.heap.size + 1) 26 [.int .i64 c.inputs, .slice na k nc, .slice none 0 0, .slice none 0 0] from hM2.blk) (i := 1) rfl
      (refine hK _ _ hS1 ?_; clear hK K; (try simp only [Act.put, List.setIfInBounds_toArray, List.set_cons_zero, List.set_cons_succ]))
      have ho4 := ownsRow_ext hnr (((Ext.refl wr).alloc (.cells #[.int .i64 mx] 3)).drew')
      have hr4 : RowAt (wr.alloc (.cells #[.int .i64 mx] 3)).drew (some ⟨wr.heap.size, 0, none⟩) [.int .i64 mx] := (RowAt.new wr _ _).ext (Ext.drew _)
      have hs4 : w.heap.size + 1 ≤ (wr.alloc (.cells #[.int .i64 mx] 3)).drew.heap.size := by simp; omega
      have hn4 : k + 1 ≤ 1073741824 := by omega
      (refine wpAnyT_doB 6 (by kernel_rfl) rfl (fun K hK => ?_))
      refine step_appB (m := 1) (c := 1) tyInts ho4 hr4 rfl (oneCell_int1 _) hn4 hs4 rfl rfl (by kernel_rfl) (by kernel_rfl) ?_
      intro v9 w9 p9 g9 m9 k9
      clear k9
      obtain ⟨a9, c9, rfl, _⟩ := ownsRow_row p9
      have p9b : w9.ownsRow (w.heap.size + 1) 3 1 (.slice a9 (k + 1) c9) ((c.next.take (k + 1)).map (mapL ms)).length (((c.next.take (k + 1)).map (mapL ms)).map (Value.int .i64)) := by
        have e : ((c.next.take (k + 1)).map (mapL ms)).length = k + 1 := by rw [List.length_map, List.length_take]; omega
        rw [e, HTK.out, List.map_append, List.map_append, List.map_cons, List.map_nil, ← HMX.out]
        exact p9
      have hM3 := hM2.addNext g9 m9 p9b
      have hR3 := (hR2.gr g9 (by intro e; have := (ho4.lt _ e).1; omega)).setOther (p := ⟨w.heap.size + 1, 1, none⟩) (by simp) (.slice a9 (k + 1) c9)
      have bk9 : Blk w9 (w.heap.size + 1) 26 [.int .i64 c.inputs, .slice na k nc, .slice none 0 0, .slice none 0 0] := (show Blk (wr.alloc (.cells #[.int .i64 mx] 3)).drew (w.heap.size + 1) 26 [.int .i64 c.inputs, .slice na k nc, .slice none 0 0, .slice none 0 0] from hM2.blk).gr g9 hM2.n1
      have hE9 : Ext w w9 := ext_grown ((hE.alloc _).drew') g9 (by intro j hj; have := (ho4.lt _ hj).1; omega)
      have fz := bk9.frozen 1
      have hS4 := bk9.cell (i := 1) rfl
      clear hS0 hS1
      (refine hK _ _ hS4 ?_; clear hK K; (try simp only [Act.put, List.setIfInBounds_toArray, List.set_cons_zero, List.set_cons_succ]))
      ((refine wpAnyT_take 7 (v := ?_) rfl (by kernel_rfl) (fun _ _ _ h => h) (Or.inl ⟨by kernel_rfl, ?_⟩) (by assumption) ?_; rotate_left; (intro wS hSw; (try dsimp only at hSw); go_simp; (try with_reducible rfl)); (try simp only [Act.put, List.setIfInBounds_toArray, List.set_cons_zero, List.set_cons_succ])))
      (refine wpAnyT_lastB 8 (by kernel_rfl) rfl (by decide) (by kernel_rfl) (fun K hK => ?_))
      refine Bx.mk ?_
      go_simp
      (refine hK _ _ ?_; clear hK K; (try simp only [Act.put, List.setIfInBounds_toArray, List.set_cons_zero, List.set_cons_succ]))
      clear hS4 fz bk9 hr4 ho4 hs4 hn4 hM2 hR2 hM hR hnr x1 q1 p9 p9b g9 m9
      go_wp2
      go_roundw
      case rel => exact ⟨k + 1, _, by omega, by go_num, hM3, hR3, Ext.setNew (p := ⟨w.heap.size + 1, 1, none⟩) hE9 (Nat.le_succ _) _⟩
      case measure => simp [intOf]; omega
    · have hk2 : k = c.next.length := by omega
      subst hk2
      rw [List.take_length] at hM
      obtain ⟨xa, rfl⟩ : ∃ x, x = na := ⟨_, rfl⟩
      obtain ⟨xc, rfl⟩ : ∃ x, x = nc := ⟨_, rfl⟩
      clear hnr
      go_wp2_with fail
      go_loopw [40] (fun i wr => ∃ (k : Nat) (xv : Value), k ≤ c.gates.length ∧ i = .int .i64 k ∧ CBuild wr (w.heap.size + 1) (w.heap.size + 1) ⟨c.inputs, c.next.map (mapL ms), (c.gates.take k).map (fun x => (mapL ms x.1, mapL ms x.2)), []⟩ (.slice xa c.next.length xc) xv (.slice none 0 0) ∧ Blk wr w.heap.size 26 [.int .i64 0, .slice none 0 0, .slice none 0 0, .slice none 0 0] ∧ Ext w wr) (fun i _ => c.gates.length - (intOf i).toNat)
      case atStart => exact ⟨0, _, Nat.zero_le _, rfl, hM, hR, hE⟩
      case round =>
        clear hM hR hE b0 b1 b2 b3
        obtain ⟨k, xv, hk, rfl, hM, hR, hE⟩ := hrel
        have y := hb.ext hE
        obtain ⟨_, b0, b1, b2, b3⟩ := y
        have hnr := hM.gs
        dsimp only at hnr
        rw [List.length_map, List.length_take, Nat.min_eq_left hk] at hnr
        obtain ⟨na, nc, rfl, _⟩ := ownsRow_row hnr
        have hMl := hM.lt
        by_cases hlt : k < c.gates.length
        · obtain ⟨b9, o9, hag, hb9, hg1, hg2⟩ := (hc.ext hE).gs.get (by omega)
          have q1 := hg1 k hlt
          have q2 := hg2 k hlt
          obtain ⟨⟨lq1, lq2⟩, lq3, lq4⟩ := H2.out k hlt
          have htk := take_snocG c.gates k (0, 0) hlt
          obtain ⟨lx, hlx⟩ : ∃ x, x = (c.gates.getD k (0, 0)).1 := ⟨_, rfl⟩
          obtain ⟨ly, hly⟩ : ∃ x, x = (c.gates.getD k (0, 0)).2 := ⟨_, rfl⟩
          rw [← hlx] at q1 lq1 lq2
          rw [← hly] at q2 lq3 lq4
          have htk2 : (c.gates.take (k + 1)).map (fun x => (mapL ms x.1, mapL ms x.2)) = (c.gates.take k).map (fun x => (mapL ms x.1, mapL ms x.2)) ++ [(mapL ms lx, mapL ms ly)] := by rw [htk, List.map_append, hlx, hly]; rfl
          have HTK := Lib.hid htk2
          rw [hag]
          have HAG := Lib.hid hag
          obtain ⟨mx, hmx⟩ : ∃ x, x = mapL ms lx := ⟨_, rfl⟩
          obtain ⟨my, hmy⟩ : ∃ x, x = mapL ms ly := ⟨_, rfl⟩
          have HMX := Lib.hid hmx
          have HMY := Lib.hid hmy
          clear hg1 hg2 hag hmx hmy hlx hly htk htk2
          go_wp2_with fail
          have eW : Ext wr (wr.alloc (.cells #[.int .i64 lx, .int .i64 ly] 46)) := (Ext.refl wr).alloc _
          have gb := Blk.at wr [.int .i64 lx, .int .i64 ly] 46 rfl
          have sW : wr.heap.size < (wr.alloc (.cells #[.int .i64 lx, .int .i64 ly] 46)).heap.size := by simp
          obtain ⟨W1, hW1⟩ : ∃ W1, W1 = wr.alloc (.cells #[.int .i64 lx, .int .i64 ly] 46) := ⟨_, rfl⟩
          rw [← hW1] at eW gb sW ⊢
          have hM := hM.ext eW
          have hR := hR.ext eW
          have hE := hE.trans eW
          have hnr0 := hnr
          have hnr := ownsRow_ext hnr eW
          have hMl := hM.lt
          have x1 := Blk.cell (show Blk W1 (w.heap.size + 1) 26 [.int .i64 c.inputs, .slice xa c.next.length xc, .slice na k nc, .slice none 0 0] from hM.blk) (i := 2) rfl
          have t0 := gb.cell (i := 0) rfl
          have t1 := gb.cell (i := 1) rfl
          clear hW1 eW
          refine wp_regionT (fun w' => w'.cell? ⟨w.heap.size + 1, 2, none⟩ = some (.slice na k nc) ∧ w'.cell? ⟨wr.heap.size, 0, none⟩ = some (.int .i64 lx) ∧ w'.cell? ⟨wr.heap.size, 1, none⟩ = some (.int .i64 ly)) 14 (by kernel_rfl) ?_
          have hS0 : W1.drew.cell? ⟨w.heap.size + 1, 2, none⟩ = some (.slice na k nc) ∧ W1.drew.cell? ⟨wr.heap.size, 0, none⟩ = some (.int .i64 lx) ∧ W1.drew.cell? ⟨wr.heap.size, 1, none⟩ = some (.int .i64 ly) := ⟨x1, t0, t1⟩
          ((refine wpAnyT_take 0 (v := ?_) rfl (by kernel_rfl) (fun _ _ _ h => h) (Or.inl ⟨by kernel_rfl, ?_⟩) (by assumption) ?_; rotate_left; (intro wS hSw; (try dsimp only at hSw); go_simp; (try with_reducible rfl)); (try simp only [Act.put, List.setIfInBounds_toArray, List.set_cons_zero, List.set_cons_succ])); (refine wpAnyT_take 1 (v := ?_) rfl (by kernel_rfl) (fun _ _ _ h => h) (Or.inl ⟨by kernel_rfl, ?_⟩) (by assumption) ?_; rotate_left; (intro wS hSw; (try dsimp only at hSw); go_simp; (try with_reducible rfl)); (try simp only [Act.put, List.setIfInBounds_toArray, List.set_cons_zero, List.set_cons_succ])); (refine wpAnyT_take 2 (v := ?_) rfl (by kernel_rfl) (fun _ _ _ h => h) (Or.inl ⟨by kernel_rfl, ?_⟩) (by assumption) ?_; rotate_left; (intro wS hSw; (try dsimp only at hSw); go_simp; (try with_reducible rfl)); (try simp only [Act.put, List.setIfInBounds_toArray, List.set_cons_zero, List.set_cons_succ])); (refine wpAnyT_take 3 (v := ?_) rfl (by kernel_rfl) (fun _ _ _ h => h) (Or.inl ⟨by kernel_rfl, ?_⟩) (by assumption) ?_; rotate_left; (intro wS hSw; (try dsimp only at hSw); go_simp; (try with_reducible rfl)); (try simp only [Act.put, List.setIfInBounds_toArray, List.set_cons_zero, List.set_cons_succ])); (refine wpAnyT_take 4 (v := ?_) rfl (by kernel_rfl) (fun _ _ _ h => h) (Or.inl ⟨by kernel_rfl, ?_⟩) (by assumption) ?_; rotate_left; (intro wS hSw; (try dsimp only at hSw); go_simp; (try with_reducible rfl)); (try simp only [Act.put, List.setIfInBounds_toArray, List.set_cons_zero, List.set_cons_succ])); (refine wpAnyT_take 6 (v := ?_) rfl (by kernel_rfl) (fun _ _ _ h => h) (Or.inl ⟨by kernel_rfl, ?_⟩) (by assumption) ?_; rotate_left; (intro wS hSw; (try dsimp only at hSw); go_simp; (try with_reducible rfl)); (try simp only [Act.put, List.setIfInBounds_toArray, List.set_cons_zero, List.set_cons_succ])); (refine wpAnyT_take 7 (v := ?_) rfl (by kernel_rfl) (fun _ _ _ h => h) (Or.inl ⟨by kernel_rfl, ?_⟩) (by assumption) ?_; rotate_left; (intro wS hSw; (try dsimp only at hSw); go_simp; (try with_reducible rfl)); (try simp only [Act.put, List.setIfInBounds_toArray, List.set_cons_zero, List.set_cons_succ])); (refine wpAnyT_take 8 (v := ?_) rfl (by kernel_rfl) (fun _ _ _ h => h) (Or.inl ⟨by kernel_rfl, ?_⟩) (by assumption) ?_; rotate_left; (intro wS hSw; (try dsimp only at hSw); go_simp; (try with_reducible rfl)); (try simp only [Act.put, List.setIfInBounds_toArray, List.set_cons_zero, List.set_cons_succ])))
          (refine wpAnyT_doB 5 (by kernel_rfl) rfl (fun K hK => ?_))
          refine Bx.mk ?_
          go_simp
          refine (mapClo_c B t a cap n ms HN.out lx _ (hB.ext hE.drew') (hm.ext hE.drew') lq1 lq2 (by omega) HX.out).mono ?_
          rw [← HMX.out]
          rintro e w6 ⟨rfl, rfl⟩
          (refine hK _ _ hS0 ?_; clear hK K; (try simp only [Act.put, List.setIfInBounds_toArray, List.set_cons_zero, List.set_cons_succ]))
          (refine wpAnyT_doB 9 (by kernel_rfl) rfl (fun K hK => ?_))
          refine Bx.mk ?_
          go_simp
          refine (mapClo_c B t a cap n ms HN.out ly _ (hB.ext hE.drew') (hm.ext hE.drew') lq3 lq4 (by omega) HX.out).mono ?_
          rw [← HMY.out]
          rintro e w6 ⟨rfl, rfl⟩
          (refine hK _ _ hS0 ?_; clear hK K; (try simp only [Act.put, List.setIfInBounds_toArray, List.set_cons_zero, List.set_cons_succ]))
          ((refine wpAnyT_take 10 (v := ?_) rfl (by kernel_rfl) (fun _ _ _ h => h) (Or.inl ⟨by kernel_rfl, ?_⟩) (by assumption) ?_; rotate_left; (intro wS hSw; (try dsimp only at hSw); go_simp; (try with_reducible rfl)); (try simp only [Act.put, List.setIfInBounds_toArray, List.set_cons_zero, List.set_cons_succ])))
          (refine wpAnyT_doB 11 (by kernel_rfl) rfl (fun K hK => ?_))
          refine Bx.mk ?_
          go_simp
          have eA : Ext W1 (W1.alloc (.cells #[.int .i64 mx, .int .i64 my] 46)).drew := ((Ext.refl W1).alloc _).drew'
          have hM2 := hM.ext eA
          have hR2 := hR.ext eA
          have gb2 := gb.ext eA
          have hS1 := And.intro (Blk.cell (show Blk (W1.alloc (.cells #[.int .i64 mx, .int .i64 my] 46)).drew (w.heap.size + 1) 26 [.int .i64 c.inputs, .slice xa c.next.length xc, .slice na k nc, .slice none 0 0] from hM2.blk) (i := 2) rfl) (And.intro (gb2.cell (i := 0) rfl) (gb2.cell (i := 1) rfl))
          (refine hK _ _ hS1 ?_; clear hK K; (try simp only [Act.put, List.setIfInBounds_toArray, List.set_cons_zero, List.set_cons_succ]))
          have ho4 := ownsRow_ext hnr eA
          have hr4 : RowAt (W1.alloc (.cells #[.int .i64 mx, .int .i64 my] 46)).drew (some ⟨W1.heap.size, 0, none⟩) (flat [(mx, my)]) := (rowAt_pair W1 mx my).ext (Ext.drew _)
          have hs4 : w.heap.size + 1 ≤ (W1.alloc (.cells #[.int .i64 mx, .int .i64 my] 46)).drew.heap.size := by simp; omega
          have hn4 : k + 1 ≤ 1073741824 := by omega
          (refine wpAnyT_doB 12 (by kernel_rfl) rfl (fun K hK => ?_))
          refine step_appB (m := 1) (c := 1) tyGates ho4 hr4 rfl (oneCell_flat [(mx, my)]) hn4 hs4 rfl rfl (by kernel_rfl) (by kernel_rfl) ?_
          intro v9 w9 p9 g9 m9 k9
          clear k9
          obtain ⟨a9, c9, rfl, _⟩ := ownsRow_row p9
          have p9b : w9.ownsRow (w.heap.size + 1) 46 2 (.slice a9 (k + 1) c9) ((c.gates.take (k + 1)).map (fun x => (mapL ms x.1, mapL ms x.2))).length (flat ((c.gates.take (k + 1)).map (fun x => (mapL ms x.1, mapL ms x.2)))) := by
            have e : ((c.gates.take (k + 1)).map (fun x => (mapL ms x.1, mapL ms x.2))).length = k + 1 := by rw [List.length_map, List.length_take]; omega
            rw [e, HTK.out, flat_append, ← HMX.out, ← HMY.out]
            exact p9
          have hM3 := hM2.addGates g9 m9 p9b
          have hR3 := (hR2.gr g9 (by intro e; have := (ho4.lt _ e).1; omega)).setOther (p := ⟨w.heap.size + 1, 2, none⟩) (by simp) (.slice a9 (k + 1) c9)
          have bk9 : Blk w9 (w.heap.size + 1) 26 [.int .i64 c.inputs, .slice xa c.next.length xc, .slice na k nc, .slice none 0 0] := (show Blk (W1.alloc (.cells #[.int .i64 mx, .int .i64 my] 46)).drew (w.heap.size + 1) 26 [.int .i64 c.inputs, .slice xa c.next.length xc, .slice na k nc, .slice none 0 0] from hM2.blk).gr g9 hM2.g1
          have gb9 := gb2.gr g9 (by intro e; have := (hnr0.lt _ e).2; omega)
          have hE9 : Ext w w9 := ext_grown (hE.trans eA) g9 (by intro j hj; have := (ho4.lt _ hj).1; omega)
          have fz := bk9.frozen 2
          have hS4 := And.intro (bk9.cell (i := 2) rfl) (And.intro (gb9.cell (i := 0) rfl) (gb9.cell (i := 1) rfl))
          clear hS0 hS1
          (refine hK _ _ hS4 ?_; clear hK K; (try simp only [Act.put, List.setIfInBounds_toArray, List.set_cons_zero, List.set_cons_succ]))
          ((refine wpAnyT_take 13 (v := ?_) rfl (by kernel_rfl) (fun _ _ _ h => h) (Or.inl ⟨by kernel_rfl, ?_⟩) (by assumption) ?_; rotate_left; (intro wS hSw; (try dsimp only at hSw); go_simp; (try with_reducible rfl)); (try simp only [Act.put, List.setIfInBounds_toArray, List.set_cons_zero, List.set_cons_succ])))
          (refine wpAnyT_lastB 14 (by kernel_rfl) rfl (by decide) (by kernel_rfl) (fun K hK => ?_))
          refine Bx.mk ?_
          go_simp
          (refine hK _ _ ?_; clear hK K; (try simp only [Act.put, List.setIfInBounds_toArray, List.set_cons_zero, List.set_cons_succ]))
          clear hS4 fz bk9 gb9 gb2 gb hr4 ho4 hs4 hn4 hM2 hR2 hM hR hnr x1 t0 t1 q1 q2 p9 p9b g9 m9 eA
          go_wp2
          go_roundw
          case rel => exact ⟨k + 1, _, by omega, by go_num, hM3, hR3, Ext.setNew (p := ⟨w.heap.size + 1, 2, none⟩) hE9 (Nat.le_succ _) _⟩
          case measure => simp [intOf]; omega
        · have hk2 : k = c.gates.length := by omega
          subst hk2
          rw [List.take_length] at hM
          obtain ⟨ga, rfl⟩ : ∃ x, x = na := ⟨_, rfl⟩
          obtain ⟨gc, rfl⟩ : ∃ x, x = nc := ⟨_, rfl⟩
          clear hnr
          go_wp2_with fail
          go_loopw [64] (fun i wr => ∃ (k : Nat) (xv : Value), k ≤ c.outs.length ∧ i = .int .i64 k ∧ CBuild wr (w.heap.size + 1) (w.heap.size + 1) ⟨c.inputs, c.next.map (mapL ms), c.gates.map (fun x => (mapL ms x.1, mapL ms x.2)), (c.outs.take k).map (mapL ms)⟩ (.slice xa c.next.length xc) (.slice ga c.gates.length gc) xv ∧ Blk wr w.heap.size 26 [.int .i64 0, .slice none 0 0, .slice none 0 0, .slice none 0 0] ∧ Ext w wr) (fun i _ => c.outs.length - (intOf i).toNat)
          case atStart => exact ⟨0, _, Nat.zero_le _, rfl, hM, hR, hE⟩
          case round =>
            clear hM hR hE b0 b1 b2 b3
            obtain ⟨k, xv, hk, rfl, hM, hR, hE⟩ := hrel
            have y := hb.ext hE
            obtain ⟨_, b0, b1, b2, b3⟩ := y
            have hnr := hM.os
            dsimp only at hnr
            rw [List.length_map, List.length_take, Nat.min_eq_left hk] at hnr
            obtain ⟨na, nc, rfl, _⟩ := ownsRow_row hnr
            have hMl := hM.lt
            by_cases hlt : k < c.outs.length
            · obtain ⟨b9, o9, hag, hb9, hg1⟩ := (hc.ext hE).ou.get (by omega)
              have q1 := hg1 k hlt
              obtain ⟨lq1, lq2⟩ := H3.out k hlt
              have htk := take_snocG c.outs k 0 hlt
              obtain ⟨lx, hlx⟩ : ∃ x, x = c.outs.getD k 0 := ⟨_, rfl⟩
              rw [← hlx] at q1 lq1 lq2 htk
              have HTK := Lib.hid htk
              rw [hag]
              have HAG := Lib.hid hag
              obtain ⟨mx, hmx⟩ : ∃ x, x = mapL ms lx := ⟨_, rfl⟩
              have HMX := Lib.hid hmx
              have x1 := Blk.cell (show Blk wr (w.heap.size + 1) 26 [.int .i64 c.inputs, .slice xa c.next.length xc, .slice ga c.gates.length gc, .slice na k nc] from hM.blk) (i := 3) rfl
              clear hg1 hag hmx hlx htk
              go_wp2_with fail
              refine wp_regionT (fun w' => w'.cell? ⟨w.heap.size + 1, 3, none⟩ = some (.slice na k nc)) 8 (by kernel_rfl) ?_
              have hS0 : wr.drew.cell? ⟨w.heap.size + 1, 3, none⟩ = some (.slice na k nc) := x1
              ((refine wpAnyT_take 0 (v := ?_) rfl (by kernel_rfl) (fun _ _ _ h => h) (Or.inl ⟨by kernel_rfl, ?_⟩) (by assumption) ?_; rotate_left; (intro wS hSw; (try dsimp only at hSw); go_simp; (try with_reducible rfl)); (try simp only [Act.put, List.setIfInBounds_toArray, List.set_cons_zero, List.set_cons_succ])); (refine wpAnyT_take 1 (v := ?_) rfl (by kernel_rfl) (fun _ _ _ h => h) (Or.inl ⟨by kernel_rfl, ?_⟩) (by assumption) ?_; rotate_left; (intro wS hSw; (try dsimp only at hSw); go_simp; (try with_reducible rfl)); (try simp only [Act.put, List.setIfInBounds_toArray, List.set_cons_zero, List.set_cons_succ])); (refine wpAnyT_take 2 (v := ?_) rfl (by kernel_rfl) (fun _ _ _ h => h) (Or.inl ⟨by kernel_rfl, ?_⟩) (by assumption) ?_; rotate_left; (intro wS hSw; (try dsimp only at hSw); go_simp; (try with_reducible rfl)); (try simp only [Act.put, List.setIfInBounds_toArray, List.set_cons_zero, List.set_cons_succ])); (refine wpAnyT_take 3 (v := ?_) rfl (by kernel_rfl) (fun _ _ _ h => h) (Or.inl ⟨by kernel_rfl, ?_⟩) (by assumption) ?_; rotate_left; (intro wS hSw; (try dsimp only at hSw); go_simp; (try with_reducible rfl)); (try simp only [Act.put, List.setIfInBounds_toArray, List.set_cons_zero, List.set_cons_succ])))
              (refine wpAnyT_doB 4 (by kernel_rfl) rfl (fun K hK => ?_))
              refine Bx.mk ?_
              go_simp
              refine (mapClo_c B t a cap n ms HN.out lx _ (hB.ext hE.drew') (hm.ext hE.drew') lq1 lq2 (by omega) HX.out).mono ?_
              rw [← HMX.out]
              rintro e w6 ⟨rfl, rfl⟩
              (refine hK _ _ hS0 ?_; clear hK K; (try simp only [Act.put, List.setIfInBounds_toArray, List.set_cons_zero, List.set_cons_succ]))
              (refine wpAnyT_doB 5 (by kernel_rfl) rfl (fun K hK => ?_))
              refine Bx.mk ?_
              go_simp
              have hM2 := hM.ext (((Ext.refl wr).alloc (.cells #[.int .i64 mx] 3)).drew')
              have hR2 := hR.ext (((Ext.refl wr).alloc (.cells #[.int .i64 mx] 3)).drew')
              have hS1 := Blk.cell (show Blk (wr.alloc (.cells #[.int .i64 mx] 3)).drew (w.heap.size + 1) 26 [.int .i64 c.inputs, .slice xa c.next.length xc, .slice ga c.gates.length gc, .slice na k nc] from hM2.blk) (i := 3) rfl
              (refine hK _ _ hS1 ?_; clear hK K; (try simp only [Act.put, List.setIfInBounds_toArray, List.set_cons_zero, List.set_cons_succ]))
              have ho4 := ownsRow_ext hnr (((Ext.refl wr).alloc (.cells #[.int .i64 mx] 3)).drew')
              have hr4 : RowAt (wr.alloc (.cells #[.int .i64 mx] 3)).drew (some ⟨wr.heap.size, 0, none⟩) [.int .i64 mx] := (RowAt.new wr _ _).ext (Ext.drew _)
              have hs4 : w.heap.size + 1 ≤ (wr.alloc (.cells #[.int .i64 mx] 3)).drew.heap.size := by simp; omega
              have hn4 : k + 1 ≤ 1073741824 := by omega
              (refine wpAnyT_doB 6 (by kernel_rfl) rfl (fun K hK => ?_))
              refine step_appB (m := 1) (c := 1) tyInts ho4 hr4 rfl (oneCell_int1 _) hn4 hs4 rfl rfl (by kernel_rfl) (by kernel_rfl) ?_
              intro v9 w9 p9 g9 m9 k9
              clear k9
              obtain ⟨a9, c9, rfl, _⟩ := ownsRow_row p9
              have p9b : w9.ownsRow (w.heap.size + 1) 3 1 (.slice a9 (k + 1) c9) ((c.outs.take (k + 1)).map (mapL ms)).length (((c.outs.take (k + 1)).map (mapL ms)).map (Value.int .i64)) := by
                have e : ((c.outs.take (k + 1)).map (mapL ms)).length = k + 1 := by rw [List.length_map, List.length_take]; omega
                rw [e, HTK.out, List.map_append, List.map_append, List.map_cons, List.map_nil, ← HMX.out]
                exact p9
              have hM3 := hM2.addOuts g9 m9 p9b
              have hR3 := (hR2.gr g9 (by intro e; have := (ho4.lt _ e).1; omega)).setOther (p := ⟨w.heap.size + 1, 3, none⟩) (by simp) (.slice a9 (k + 1) c9)
              have bk9 : Blk w9 (w.heap.size + 1) 26 [.int .i64 c.inputs, .slice xa c.next.length xc, .slice ga c.gates.length gc, .slice na k nc] := (show Blk (wr.alloc (.cells #[.int .i64 mx] 3)).drew (w.heap.size + 1) 26 [.int .i64 c.inputs, .slice xa c.next.length xc, .slice ga c.gates.length gc, .slice na k nc] from hM2.blk).gr g9 hM2.o1
              have hE9 : Ext w w9 := ext_grown ((hE.alloc _).drew') g9 (by intro j hj; have := (ho4.lt _ hj).1; omega)
              have fz := bk9.frozen 3
              have hS4 := bk9.cell (i := 3) rfl
              clear hS0 hS1
              (refine hK _ _ hS4 ?_; clear hK K; (try simp only [Act.put, List.setIfInBounds_toArray, List.set_cons_zero, List.set_cons_succ]))
              ((refine wpAnyT_take 7 (v := ?_) rfl (by kernel_rfl) (fun _ _ _ h => h) (Or.inl ⟨by kernel_rfl, ?_⟩) (by assumption) ?_; rotate_left; (intro wS hSw; (try dsimp only at hSw); go_simp; (try with_reducible rfl)); (try simp only [Act.put, List.setIfInBounds_toArray, List.set_cons_zero, List.set_cons_succ])))
              (refine wpAnyT_lastB 8 (by kernel_rfl) rfl (by decide) (by kernel_rfl) (fun K hK => ?_))
              refine Bx.mk ?_
              go_simp
              (refine hK _ _ ?_; clear hK K; (try simp only [Act.put, List.setIfInBounds_toArray, List.set_cons_zero, List.set_cons_succ]))
              clear hS4 fz bk9 hr4 ho4 hs4 hn4 hM2 hR2 hM hR hnr x1 q1 p9 p9b g9 m9
              go_wp2
              go_roundw
              case rel => exact ⟨k + 1, _, by omega, by go_num, hM3, hR3, Ext.setNew (p := ⟨w.heap.size + 1, 3, none⟩) hE9 (Nat.le_succ _) _⟩
              case measure => simp [intOf]; omega
            · have hk2 : k = c.outs.length := by omega
              subst hk2
              rw [List.take_length] at hM
              have hbx : Blk wr (w.heap.size + 1) 26 [.int .i64 c.inputs, .slice xa c.next.length xc, .slice ga c.gates.length gc, .slice na c.outs.length nc] := hM.blk
              (have x0 := hbx.cell (i := 0) rfl; have x1 := hbx.cell (i := 1) rfl; have x2 := hbx.cell (i := 2) rfl; have x3 := hbx.cell (i := 3) rfl; have xf := (fun i => hbx.frozen i))
              (have e0 := hR.cell (i := 0) rfl; have e1 := hR.cell (i := 1) rfl; have e2 := hR.cell (i := 2) rfl; have e3 := hR.cell (i := 3) rfl; have ef := (fun i => hR.frozen i))
              have own : OwnC wr (w.heap.size + 1) (renMap ms c) (.slice xa c.next.length xc) (.slice ga c.gates.length gc) (.slice na c.outs.length nc) := ⟨hM.nx, hM.gs, hM.os, hM.ng, hM.no, hM.go⟩
              have hl1 : (renMap ms c).next.length = c.next.length := List.length_map _
              have hl2 : (renMap ms c).gates.length = c.gates.length := List.length_map _
              have hl3 : (renMap ms c).outs.length = c.outs.length := List.length_map _
              have HL := Lib.hid (And.intro hl1 (And.intro hl2 hl3))
              clear hl1 hl2 hl3 hM hR hnr hbx b0 b1 b2 b3
              go_wp2
              refine bodyPost_ret (v := .agg #[.int .i64 c.inputs, .slice xa c.next.length xc, .slice ga c.gates.length gc, .slice na c.outs.length nc]) (by simp [results, Try.results81, go_sem, e0, e1, e2, e3]) rfl ?_
              exact ⟨_, _, _, rfl, ((((own.set (by omega) 0 _).set (by omega) 1 _).set (by omega) 2 _).set (by omega) 3 _).le (by omega), Ext.setNew (p := ⟨w.heap.size, 3, none⟩) (Ext.setNew (p := ⟨w.heap.size, 2, none⟩) (Ext.setNew (p := ⟨w.heap.size, 1, none⟩) (Ext.setNew (p := ⟨w.heap.size, 0, none⟩) hE (Nat.le_refl _) _) (Nat.le_refl _) _) (Nat.le_refl _) _) (Nat.le_refl _) _⟩
end Go.Proofs.Ytpfhlodlefcomaa