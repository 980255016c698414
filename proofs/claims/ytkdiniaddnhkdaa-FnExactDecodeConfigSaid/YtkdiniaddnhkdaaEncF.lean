/- Contracts: the checksum and the byte of a flag, in both libraries; what the encoders keep while they append. -/
import Derived.Test.YtkdiniaddnhkdaaEnc
import Derived.Test.YtkdiniaddnhkdaaByt
namespace Go.Proofs.Ytkdiniaddnhkdaa
open Go.RowKit
set_option maxRecDepth 100000
set_option linter.unusedVariables false
set_option linter.unusedSimpArgs false
theorem flag_c (b : Bool) (w : World) : Calls Try.prog 92 #[.bool b] w fun e w' => e = .returned (.int .u8 (flagV b)) ∧ w = w' := by
  cases b
  · go_enter Try.func92, Try.ntmps92
    go_wp2
    go_ret
    exact ⟨rfl, rfl⟩
  · go_enter Try.func92, Try.ntmps92
    go_wp2
    go_ret
    exact ⟨rfl, rfl⟩
theorem l9Bit_c (b : Bool) (w : World) : Calls Try.prog 90 #[.bool b] w fun e w' => e = .returned (.int .i64 (flagV b)) ∧ w = w' := by
  cases b
  · go_enter Try.func90, Try.ntmps90
    go_wp2
    go_ret
    exact ⟨rfl, rfl⟩
  · go_enter Try.func90, Try.ntmps90
    go_wp2
    go_ret
    exact ⟨rfl, rfl⟩
theorem take_snocI {xs : List Int} {j : Nat} (h : j < xs.length) : xs.take (j + 1) = xs.take j ++ [xs.getD j 0] := by
  rw [List.take_add_one, List.getElem?_eq_getElem h, List.getD_eq_getElem?_getD, List.getElem?_eq_getElem h]; rfl
theorem sum_step {xs : List Int} {j : Nat} (h : j < xs.length) : sumV (xs.take (j + 1)) = (sumV (xs.take j) * 257 + xs.getD j 0 + 1) % 65521 := by
  rw [take_snocI h, sumV_app]
theorem checksum_c (a : Option Addr) (c : Nat) (xs : List Int) (w : World) (hx : BytAt w a xs) (hb : AllB xs) (hl : xs.length ≤ 1048576) :
    Calls Try.prog 93 #[.slice a xs.length c] w fun e w' => e = .returned (.int .i64 (sumV xs)) ∧ Ext w w' := by
  have HB := Lib.hid hb
  clear hb
  go_enter Try.func93, Try.ntmps93
  go_wp2_with fail
  go_loopw [3, 8] (fun u3 i wr => ∃ (k : Nat) (s : Int), k ≤ xs.length ∧ i = .int .i64 k ∧ u3 = .int .i64 s ∧ Hid (s = sumV (xs.take k)) ∧ Ext w wr) (fun _ i _ => xs.length - (intOf i).toNat)
  case atStart => exact ⟨0, 1, Nat.zero_le _, rfl, rfl, Lib.hid rfl, Ext.refl w⟩
  case round =>
    obtain ⟨k, s, hk, rfl, rfl, hS, hE⟩ := hrel
    by_cases hlt : k < xs.length
    · obtain ⟨b1, o1, rfl, hb1, hc1⟩ := (hx.ext hE).get (by omega)
      have q1 := hc1 k hlt
      have hbb := HB.out.get k hlt
      obtain ⟨h0, h1⟩ := hbb
      obtain ⟨s0, s1⟩ := sumV_lt (xs.take k)
      have hst := sum_step hlt
      rw [← hS.out] at s0 s1 hst
      obtain ⟨x, hxx⟩ : ∃ x, x = xs.getD k 0 := ⟨_, rfl⟩
      rw [← hxx] at q1 h0 h1 hst
      have em : (s * 257 + x + 1).tmod 65521 = (s * 257 + x + 1) % 65521 := Int.tmod_eq_emod_of_nonneg (by omega)
      have HST := Lib.hid hst
      have hw : IntKind.i64.wrap x = x := by simp [IntKind.wrap, IntKind.bits, IntKind.signed, IntKind.min, IntKind.max]; omega
      clear hc1 hxx hst
      go_wp2
      go_roundw
      case rel => exact ⟨k + 1, _, by omega, by go_num, rfl, Lib.hid HST.out.symm, hE⟩
      case measure => simp [intOf]; omega
    · have hk2 : k = xs.length := by omega
      subst hk2
      have h2 := hS.out
      rw [List.take_length] at h2
      have H2 := Lib.hid h2
      clear h2
      go_wp2
      go_ret
      exact ⟨by rw [H2.out]; rfl, hE⟩
theorem l9Sum_c (a : Option Addr) (c : Nat) (xs : List Int) (w : World) (hx : BytAt w a xs) (hb : AllB xs) (hl : xs.length ≤ 1048576) :
    Calls Try.prog 91 #[.slice a xs.length c] w fun e w' => e = .returned (.int .i64 (sumV xs)) ∧ Ext w w' := by
  have HB := Lib.hid hb
  clear hb
  go_enter Try.func91, Try.ntmps91
  go_wp2_with fail
  go_loopw [3, 4] (fun u3 i wr => ∃ (k : Nat) (s : Int), k ≤ xs.length ∧ i = .int .i64 k ∧ u3 = .int .i64 s ∧ Hid (s = sumV (xs.take k)) ∧ Ext w wr) (fun _ i _ => xs.length - (intOf i).toNat)
  case atStart => exact ⟨0, 1, Nat.zero_le _, rfl, rfl, Lib.hid rfl, Ext.refl w⟩
  case round =>
    obtain ⟨k, s, hk, rfl, rfl, hS, hE⟩ := hrel
    by_cases hlt : k < xs.length
    · obtain ⟨b1, o1, rfl, hb1, hc1⟩ := (hx.ext hE).get (by omega)
      have q1 := hc1 k hlt
      have hbb := HB.out.get k hlt
      obtain ⟨h0, h1⟩ := hbb
      obtain ⟨s0, s1⟩ := sumV_lt (xs.take k)
      have hst := sum_step hlt
      rw [← hS.out] at s0 s1 hst
      obtain ⟨x, hxx⟩ : ∃ x, x = xs.getD k 0 := ⟨_, rfl⟩
      rw [← hxx] at q1 h0 h1 hst
      have em : (s * 257 + x + 1).tmod 65521 = (s * 257 + x + 1) % 65521 := Int.tmod_eq_emod_of_nonneg (by omega)
      have HST := Lib.hid hst
      have hw : IntKind.i64.wrap x = x := by simp [IntKind.wrap, IntKind.bits, IntKind.signed, IntKind.min, IntKind.max]; omega
      clear hc1 hxx hst
      go_wp2
      go_roundw
      case rel => exact ⟨k + 1, _, by omega, by go_num, rfl, Lib.hid HST.out.symm, hE⟩
      case measure => simp [intOf]; omega
    · have hk2 : k = xs.length := by omega
      subst hk2
      have h2 := hS.out
      rw [List.take_length] at h2
      have H2 := Lib.hid h2
      clear h2
      go_wp2
      go_ret
      exact ⟨by rw [H2.out]; rfl, hE⟩
/-- What an encoder keeps: the bytes so far, its argument's box. -/
structure EncO (w : World) (kc : List Value) (v : Value) (xs : List Int) (wr : World) : Prop where
  own : OwnY wr (w.heap.size + 1) v xs
  box : Blk wr w.heap.size 25 kc
  ext : Ext w wr
/-- The same, and a box beside it. -/
structure EncP (w : World) (kc : List Value) (B : Nat) (t : TypeId) (cs : List Value) (v : Value) (xs : List Int) (wr : World) : Prop where
  o : EncO w kc v xs wr
  b : Blk wr B t cs
  off : v.ownBlock ≠ some B
section
variable {w w1 wr w8 : World} {kc cs : List Value} {v v' : Value} {xs ys : List Int} {B : Nat} {t : TypeId}
theorem EncO.app (h : EncO w kc v xs wr) (e : Ext wr w1) (o8 : w8.ownsRow (w.heap.size + 1) 5 1 v' (xs.length + ys.length) (xs.map (Value.int .u8) ++ ys.map (Value.int .u8))) (g8 : w1.grownBy w8 v.ownBlock) : EncO w kc v' (xs ++ ys) w8 := by
  refine ⟨OwnY.app rfl rfl o8, (h.box.ext e).gr g8 (fun q => by have := (h.own.lt _ q).1; omega), ext_grown (h.ext.trans e) g8 (fun k hk => by have := (h.own.lt k hk).1; omega)⟩
theorem EncP.app (h : EncP w kc B t cs v xs wr) (e : Ext wr w1) (o8 : w8.ownsRow (w.heap.size + 1) 5 1 v' (xs.length + ys.length) (xs.map (Value.int .u8) ++ ys.map (Value.int .u8))) (g8 : w1.grownBy w8 v.ownBlock) (m8 : RowMoved w1 v v') : EncP w kc B t cs v' (xs ++ ys) w8 := by
  refine ⟨h.o.app e o8 g8, (h.b.ext e).gr g8 h.off, fun q => ?_⟩
  rcases m8 with m | ⟨k, hk, hlt⟩
  · rw [m] at q; exact h.off q
  · rw [hk] at q
    have := h.b.lt; have := e.size
    have : k = B := Option.some.inj q
    omega
theorem EncO.ext' (h : EncO w kc v xs wr) (e : Ext wr w1) : EncO w kc v xs w1 := ⟨h.own.ext e, h.box.ext e, h.ext.trans e⟩
theorem EncO.put (h : EncO w kc v xs wr) (cs : List Value) (t : TypeId) : EncP w kc wr.heap.size t cs v xs (wr.alloc (.cells cs.toArray t)) :=
  ⟨h.ext' ((Ext.refl wr).alloc _), Blk.new wr cs t, fun q => by have := (h.own.lt _ q).2; omega⟩
theorem EncP.ext' (h : EncP w kc B t cs v xs wr) (e : Ext wr w1) : EncP w kc B t cs v xs w1 := ⟨h.o.ext' e, h.b.ext e, h.off⟩
end
end Go.Proofs.Ytkdiniaddnhkdaa
