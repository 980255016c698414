/- The law FnFindTest: the test that is found detects the fault, and no smaller one does. -/
import Derived.Test.YtlkfhcigpkfhnaaBytes
import Derived.Test.YtlkfhcigpkfhnaaDrawF2
import Derived.Test.YtlkfhcigpkfhnaaFindS
namespace Go.Proofs.Ytlkfhcigpkfhnaa
open Go.ChangeShapes Go.WideShapes Go.ChangeAt Go.RowKit
set_option maxRecDepth 100000
set_option linter.unusedVariables false
set_option linter.unusedSimpArgs false
theorem findV_lt (c : Circ) (s : Int) (v : Bool) : -1 ≤ findV c s v ∧ findV c s v < 128 := by
  unfold findV
  cases hf : faultB c s
  · simp
  · have := firstD_lt (detV c s v) (assigns c)
    have := assigns_le (faultB_iff.1 hf).1
    simp only [if_true]; omega
theorem find_before (c : Circ) (s : Int) (v : Bool) (k : Nat) (h : findV c s v < 0 ∨ (k : Int) < findV c s v) : detectsV c s v k = false := by
  unfold findV at h
  cases hf : faultB c s
  · unfold detectsV; rw [hf]; rfl
  · rw [hf] at h
    simp only [if_true] at h
    by_cases hk : k < assigns c
    · have := firstD_before (detV c s v) (assigns c) k hk h
      unfold detectsV
      rw [Int.toNat_natCast, this]; simp
    · exact detectsV_no (by rintro ⟨_, _, _, _, h5⟩; omega)
theorem find_at (c : Circ) (s : Int) (v : Bool) (h : 0 ≤ findV c s v) : detectsV c s v (findV c s v) = true := by
  have e := h
  unfold findV at e
  cases hf : faultB c s
  · rw [hf] at e; simp at e
  · obtain ⟨V, h1, h2⟩ := faultB_iff.1 hf
    have hfv : findV c s v = firstD (detV c s v) (assigns c) := by unfold findV; rw [hf]; rfl
    have hlt := firstD_lt (detV c s v) (assigns c)
    rw [hfv] at h ⊢
    rw [detectsV_ok ⟨V, h1, h2, h, hlt.1⟩]
    exact firstD_at _ _ h
set_option maxHeartbeats 2000000 in
theorem fnFindTest_walk (a0 : Option Addr) (len0 cap0 : Nat) (z0 : List Int) (w : World) (w0 : IsRow .u8 w a0 len0 cap0 z0) :
    Calls Try.prog 10 #[.slice a0 len0 cap0] w fun e w' => e = .returned (.bool true) ∧ Below w.heap.size w w' := by
  obtain ⟨bs, rfl, hB, hlc, hcm⟩ := bytes_of_row w0
  by_cases hl : bs.length ≤ 1048576
  · go_enter Try.func10, Try.ntmps10
    go_wp2_with fail
    refine (DrawFindTest_c a0 cap0 bs _ hB hl hlc hcm).mono ?_
    rintro e w1 ⟨c, p, x, b, rfl, hC, hx1, hx2, hE1⟩
    have HB1 := find_before c x b
    have HA1 := find_at c x b
    have HL1 := findV_lt c x b
    obtain ⟨n, hn⟩ : ∃ n, n = findV c x b := ⟨_, rfl⟩
    rw [← hn] at HB1 HA1 HL1
    have HN := Lib.hid hn
    have HB := Lib.hid HB1
    have HA := Lib.hid HA1
    obtain ⟨n0, n1⟩ := HL1
    clear hn HB1 HA1
    have y := (CircBox.made w1 c p 26).ext ((Ext.refl _).alloc (.cells #[.int .i64 x, .bool b] 59))
    have f := Blk.at (w1.alloc (.cells #[.int .i64 c.inputs, .slice p.an c.next.length p.cn, .slice p.ag c.gates.length p.cg, .slice p.ao c.outs.length p.co] 26)) [.int .i64 x, .bool b] 59 (B := w1.heap.size + 1) (by simp)
    go_wp2_with fail
    refine (implFindTest_c c p x b _ (hC.ext (by (repeat (first | with_reducible assumption | with_reducible exact Ext.refl _ | with_reducible refine Ext.drew' ?_ | with_reducible refine Ext.drewN' ?_ _ | with_reducible refine Ext.alloc ?_ _ | (with_reducible refine Ext.setNew ?_ (by first | exact Nat.le_refl _ | (simp; done) | (simp; omega) | omega) _)))))).mono ?_
    rw [← HN.out]
    rintro e w2 ⟨rfl, hE2⟩
    have E2 := Ext.trans (a := w1) (by (repeat (first | with_reducible assumption | with_reducible exact Ext.refl _ | with_reducible refine Ext.drew' ?_ | with_reducible refine Ext.drewN' ?_ _ | with_reducible refine Ext.alloc ?_ _ | (with_reducible refine Ext.setNew ?_ (by first | exact Nat.le_refl _ | (simp; done) | (simp; omega) | omega) _)))) hE2
    replace y := y.ext hE2
    replace f := f.ext hE2
    (obtain ⟨la, a0, a1, a2, a3⟩ := (id y))
    have f0 := f.cell (i := 0) rfl
    have f1 := f.cell (i := 1) rfl
    go_wp2_with fail
    refine (specFindTest_c c p x b _ (hC.ext E2)).mono ?_
    rw [← HN.out]
    rintro e w3 ⟨rfl, hE3⟩
    have E3 := E2.trans hE3
    replace y := y.ext hE3
    replace f := f.ext hE3
    clear a0 a1 a2 a3 la f0 f1 hE2 hE3 E2
    have hT : ∃ T : Nat, T ≤ 128 ∧ ((0 ≤ n ∧ n = (T : Int)) ∨ (n < 0 ∧ (128 : Int) = (T : Int))) := by
      rcases Int.lt_or_le n 0 with h | h
      · exact ⟨128, by omega, .inr ⟨h, rfl⟩⟩
      · exact ⟨n.toNat, by omega, .inl ⟨h, by omega⟩⟩
    obtain ⟨T, hT8, ⟨hpos, hTT⟩ | ⟨hpos, hTT⟩⟩ := hT
    · subst hTT
      have HBT : Hid (∀ k : Nat, k < T → detectsV c x b k = false) := Lib.hid (fun k hk => HB.out k (.inr (by omega)))
      go_wp2_with fail
      go_loopw [7] (fun u wr => ∃ k : Nat, k ≤ T ∧ u = .int .i64 k ∧ CircBox wr w1.heap.size c p ∧ Blk wr (w1.heap.size + 1) 59 [.int .i64 x, .bool b] ∧ Ext w1 wr) (fun i _ => T - (intOf i).toNat)
      case atStart => exact ⟨0, Nat.zero_le _, rfl, y, f, E3⟩
      case round =>
        obtain ⟨k, hk, rfl, hy, hf, hE⟩ := hrel
        clear y f E3
        (obtain ⟨la, a0, a1, a2, a3⟩ := (id hy))
        have f0 := hf.cell (i := 0) rfl
        have f1 := hf.cell (i := 1) rfl
        by_cases hlt : k < T
        · go_wp2_with fail
          refine (implDetects_c c p x b k _ (hC.ext hE)).mono ?_
          rw [HBT.out k hlt]
          rintro e w4 ⟨rfl, hE4⟩
          go_wp2
          go_roundw
          case rel => exact ⟨k + 1, by omega, by go_num, hy.ext hE4, hf.ext hE4, hE.trans hE4⟩
          case measure => simp [intOf]; omega
        · have hA := HA.out hpos
          go_wp2_with fail
          refine (implDetects_c c p x b T _ (hC.ext hE)).mono ?_
          rw [hA]
          rintro e w4 ⟨rfl, hE4⟩
          go_wp2_with fail
          refine (alive_c _).mono ?_
          rintro e w5 ⟨rfl, hE5⟩
          go_wp2
          go_ret
          exact ⟨rfl, (((hE1.trans hE).trans hE4).trans hE5)⟩
    · have HBT : Hid (∀ k : Nat, detectsV c x b k = false) := Lib.hid (fun k => HB.out k (.inl hpos))
      clear hTT hT8
      go_wp2_with fail
      go_loopw [7] (fun u wr => ∃ k : Nat, k ≤ 128 ∧ u = .int .i64 k ∧ CircBox wr w1.heap.size c p ∧ Blk wr (w1.heap.size + 1) 59 [.int .i64 x, .bool b] ∧ Ext w1 wr) (fun i _ => 128 - (intOf i).toNat)
      case atStart => exact ⟨0, Nat.zero_le _, rfl, y, f, E3⟩
      case round =>
        obtain ⟨k, hk, rfl, hy, hf, hE⟩ := hrel
        clear y f E3
        (obtain ⟨la, a0, a1, a2, a3⟩ := (id hy))
        have f0 := hf.cell (i := 0) rfl
        have f1 := hf.cell (i := 1) rfl
        by_cases hlt : k < 128
        · go_wp2_with fail
          refine (implDetects_c c p x b k _ (hC.ext hE)).mono ?_
          rw [HBT.out k]
          rintro e w4 ⟨rfl, hE4⟩
          go_wp2
          go_roundw
          case rel => exact ⟨k + 1, by omega, by go_num, hy.ext hE4, hf.ext hE4, hE.trans hE4⟩
          case measure => simp [intOf]; omega
        · go_wp2_with fail
          refine (alive_c _).mono ?_
          rintro e w5 ⟨rfl, hE5⟩
          go_wp2
          go_ret
          exact ⟨rfl, (hE1.trans hE).trans hE5⟩
  · go_enter Try.func10, Try.ntmps10
    go_wp2
    go_ret
    exact ⟨rfl, Ext.refl _⟩
theorem fnFindTest_lifted (os : Os) (started : os.Started) (H : Type) (enc : TypeId × Value → H) :
    ReturnsInHanded {} Try.checked os 10 .any (Rows.fnFindTestSpec.pre6 enc Try.prog Try.f10 Rows.fnFindTestRow.domain false) (Rows.fnFindTestSpec.post enc Try.prog Try.f10 false true false false) := by
  refine returnsInHanded_of_change (C := Try.checked) own started (by kernel_rfl) Try.func10
    (ChangeSpec.witness6 (enc := enc) (C := Try.checked) false ⟨#[], #[.slice none 0 0], []⟩ 8 (by kernel_rfl) (by kernel_rfl) (by kernel_rfl) (by kernel_rfl)) ?_
  intro W base args ds gs before hval0 hW hcnd _
  have hval : ∀ (j : Nat) t v, Try.f10.params[j]? = some t → args[j]? = some v → Value.okWide Try.prog W .any base t v := hval0
  have hW' := hW
  obtain ⟨p, q, hA0, hV, rfl, hfz, hnd⟩ := hW
  have hA : DataW.TrodAll enc Try.prog W 0 (fun _ => true) true Try.f10.params.toList args.toList ds p := hA0
  rw [Try.params10] at hA hval
  obtain ⟨v0, vs0, d0, ds0, p0, q0, hargs, rfl, rfl, h0, r0⟩ := trodAll_cons hA
  obtain ⟨rfl, rfl, rfl⟩ := trodAll_nil r0
  obtain rfl : args = #[v0] := by cases args; simp_all
  obtain ⟨rfl, rfl⟩ := trodVars_none hV
  obtain ⟨a0, len0, cap0, rfl⟩ := okWide_slice Try.underlying22 (hval 0 22 v0 rfl rfl)
  have k0 := h0
  have lt0 : ∀ x ∈ p0, x.block < W.heap.size := by obtain ⟨m, hm⟩ := k0; exact DataW.trod_lt m _ _ _ hm
  obtain ⟨z0, w0⟩ : ∃ zs, IsRow .u8 W a0 len0 cap0 zs := by
    obtain ⟨fuel, hf⟩ := h0
    rcases open_ints Try.underlying22 Try.underlying5 (by kernel_rfl) hf with ⟨hcs, _⟩ | ⟨x, l, c, zs, hcs, _, hl, hm, hz, _, hcell, hwz⟩
    · simp [Value.cells] at hcs
      obtain ⟨rfl, rfl, rfl⟩ := hcs
      exact ⟨[], .inl ⟨rfl, rfl, rfl, rfl⟩⟩
    · simp [Value.cells] at hcs
      obtain ⟨rfl, rfl, rfl⟩ := hcs
      exact ⟨zs, .inr ⟨_, rfl, hl, hm, by simpa using hz, hcell, hwz⟩⟩
  clear hA0 hval0
  refine (fnFindTest_walk a0 len0 cap0 z0 W w0).mono fun e W' ⟨he, bel⟩ => ?_
  subst he
  exact ⟨_, rfl, _, _, _, [], _, [], hW', trodAll_mk1 (shut_bool Try.underlying4 _), (trodAll_cons_mk (Below.trod laidOut (by kernel_rfl) (of_decide_eq_true (by kernel_rfl)) k0 bel lt0) trodAll_mk0), rfl, bel.frame _, fun h => by cases h⟩
theorem fnFindTest_over : Rows.fnFindTestRow.holds Try.pinned (OpenSpec.ofChange Rows.fnFindTestSpec) :=
  OpenClaim.holds_of_wide 10 Try.f10 rfl rfl rfl rfl rfl rfl rfl ⟨rfl, rfl, rfl, rfl, rfl⟩ rfl rfl rfl rfl rfl (by kernel_rfl) Try.func10 (by kernel_rfl)
    (of_decide_eq_true (by kernel_rfl)) (by unfold Func.isWrapper; first | (rw [if_pos (by decide +kernel)]; kernel_rfl) | (rw [if_neg (by decide +kernel)]; exact ⟨rfl, rfl⟩))
    (fun os started H enc _ => fnFindTest_lifted os started H enc)
theorem fnFindTest_holds : Rows.FnFindTestSaid := fnFindTest_over
end Go.Proofs.Ytlkfhcigpkfhnaa
