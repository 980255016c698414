/- Contracts: the program's reader of a bitstream. -/
import Derived.Test.YtkdiniaddnhkdaaDec0
import Derived.Test.YtkdiniaddnhkdaaMidB
import Derived.Test.YtkdiniaddnhkdaaConfR
import Derived.Laws.BytesArg
namespace Go.Proofs.Ytkdiniaddnhkdaa
open Go.RowKit
set_option maxRecDepth 100000
set_option linter.unusedVariables false
set_option linter.unusedSimpArgs false
/-- Block rb holds a reader of bs that has come to number p. -/
def RdS (w : World) (rb : Nat) (bs : List Int) (p : Nat) (bad : Bool) : Prop := ∃ a n c, Blk w rb 120 [.slice a n c, .bool bad] ∧ n = bs.length - p ∧ n ≤ c ∧ c ≤ maxLen ∧ BytAt w a (bs.drop p) ∧ ∀ x, a = some x → n ≠ 0 → x.block < rb
theorem drop_cons {bs : List Int} {p : Nat} (h : p < bs.length) : bs.drop p = bs.getD p 0 :: bs.drop (p + 1) := by
  rw [List.drop_eq_getElem_cons h, List.getD_eq_getElem?_getD, List.getElem?_eq_getElem h]; rfl
/-- s[l:] of a slice that starts anywhere: at the end of the capacity the address stays. -/
theorem run_fromO {P : Program} {t e : TypeId} {sz : Nat} (ht : P.underlying t = some (.slice e)) (hsz : (P.info? e).map (·.size) = some sz) (B O n cap : Nat) (l : Int) (h0 : 0 ≤ l) (h1 : l ≤ n) :
    ∃ o, (l < cap → o = O + l.toNat * sz) ∧ ∀ w, (Instr.sliceAt t (.slice (some ⟨B, O, none⟩) n cap) (some (.int .i64 l)) none none).run P w = .ok (.slice (some ⟨B, o, none⟩) (n - l.toNat) (cap - l.toNat)) w := by
  have he := elem_of ht
  have ht' : P.underlying t = some (.slice (P.elem t)) := by rw [he]; exact ht
  have hadd : (⟨B, O, none⟩ : Addr).add (l.toNat * sz) = ⟨B, O + l.toNat * sz, none⟩ := by unfold Addr.add; split <;> simp_all
  refine ⟨if cap = l.toNat then O else O + l.toNat * sz, fun h => by rw [if_neg (by omega)], fun w => ?_⟩
  rw [run_sliceAt_slice w t _ _ _ _ ht', run_slice_l w t _ n cap ht' .i64 l h0 h1, he, run_size hsz]
  simp only [Result.andThen_ok, sliced, Option.map_some, hadd]
  split <;> rfl
theorem next_c (w : World) (rb : Nat) (bs : List Int) (p : Nat) (bad : Bool) (hb : AllB bs) (hl : bs.length ≤ 1048576) (h : RdS w rb bs p bad) :
    Calls Try.prog 94 #[.pointer (some ⟨rb, 0, none⟩)] w fun e w' => e = .returned (.int .i64 (bs.getD p 0)) ∧ RdS w' rb bs (p + 1) (bad || decide (bs.length ≤ p)) ∧ w.grownBy w' (some rb) := by
  obtain ⟨a, n, c, y, hn, hnc, hcm, hB, hlt⟩ := h
  have y0 := y.cell (i := 0) rfl
  have y1 := y.cell (i := 1) rfl
  have yl := y.lt
  have fz := fun i => y.frozen i
  by_cases hp : p < bs.length
  · have hd := drop_cons hp
    have hn0 : 0 < n := by omega
    have hbd : (bad || decide (bs.length ≤ p)) = bad := by rw [decide_eq_false (by omega), Bool.or_false]
    rw [hbd]
    have hx := hb.get p hp
    obtain ⟨b, o, rfl, hbl, hc⟩ := hB.get (by rw [List.length_drop]; omega)
    have q := hc 0 (by rw [List.length_drop]; omega)
    have e0 : (bs.drop p).getD 0 0 = bs.getD p 0 := by rw [hd]; rfl
    rw [e0] at q
    have hbr := hlt _ rfl (by omega)
    obtain ⟨x, hxx⟩ : ∃ x, x = bs.getD p 0 := ⟨_, rfl⟩
    rw [← hxx] at q hx ⊢
    have hw : IntKind.i64.wrap x = x := by simp [IntKind.wrap, IntKind.bits, IntKind.signed, IntKind.min, IntKind.max]; omega
    have hni : ((n : Int) == 0) = false := by simp; omega
    have hn1 : (1 : Int) ≤ (n : Int) := by omega
    dsimp only at hbr
    have HC := Lib.hid hc
    have HY := Lib.hid y
    have HN := Lib.hid hn
    rw [Nat.add_zero] at q
    obtain ⟨o', ho', hsl⟩ := run_fromO (P := Try.prog) (t := 38) (e := 5) (sz := 1) Try.underlying38 (by kernel_rfl) b o n c 1 (by omega) hn1
    have HO := Lib.hid ho'
    have HXX := Lib.hid hd
    clear hc e0 hbd hxx y hn hB hlt ho' hd
    go_enter Try.func94, Try.ntmps94
    go_wp2
    go_ret
    refine ⟨rfl, ⟨some ⟨b, o', none⟩, n - 1, c - 1, HY.out.set 0 _, by have := HN.out; omega, by omega, by omega, ?_, fun x hx h0 => by cases hx; exact hbr⟩, gr_setOwn (Gr.refl _ _) _ _⟩
    by_cases hlast : bs.drop (p + 1) = []
    · exact .inl hlast
    · have hl2 : 0 < (bs.drop (p + 1)).length := by
        cases hq : bs.drop (p + 1) with
        | nil => exact absurd hq hlast
        | cons z zs => simp
      have e1 : o' = o + 1 := by
        have := HO.out (by have := HN.out; rw [List.length_drop] at hl2; omega)
        simpa using this
      refine .inr ⟨b, o', rfl, by simpa using hbl, fun j hj => ?_⟩
      have h1 := HC.out (j + 1) (by rw [HXX.out, List.length_cons]; omega)
      rw [HXX.out] at h1
      rw [World.cell?_of_block (a := ⟨b, o' + j, none⟩) (heap_setCell_other w ⟨rb, 0, none⟩ b _ (by simp; omega)), e1, show o + 1 + j = o + (j + 1) from by omega]
      simpa using h1
  · have hd : bs.getD p 0 = 0 := by rw [List.getD_eq_getElem?_getD, List.getElem?_eq_none (by omega)]; rfl
    have hn0 : n = 0 := by omega
    subst hn0
    have HN := Lib.hid hn
    clear hn
    have hbd : (bad || decide (bs.length ≤ p)) = true := by rw [decide_eq_true (by omega), Bool.or_true]
    rw [hd, hbd]
    clear hd hbd
    go_enter Try.func94, Try.ntmps94
    go_wp2
    go_ret
    refine ⟨rfl, ⟨a, 0, c, y.set 1 _, by have := HN.out; omega, hnc, hcm, ?_, fun x hx h0 => absurd rfl h0⟩, gr_setOwn (Gr.refl _ _) _ _⟩
    left
    exact List.drop_of_length_le (by omega)
end Go.Proofs.Ytkdiniaddnhkdaa
