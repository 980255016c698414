/- The drawing of numbers out of a code: the reader, and what it hands back. -/
import Derived.Test.YtgialedmbmfejaaBase
namespace Go.Proofs.Ytgialedmbmfejaa
open Go.RowKit
set_option maxRecDepth 100000
set_option linter.unusedVariables false
set_option linter.unusedSimpArgs false
/-- A row of bytes. -/
def BytesAt (w : World) (a : Option Addr) (xs : List Int) : Prop :=
 xs = [] ∨ ∃ b o, a = some ⟨b, o, none⟩ ∧ b < w.heap.size ∧ ∀ j, j < xs.length → w.cell? ⟨b, o + j, none⟩ = some (.int .u8 (xs.getD j 0)) ∧ 0 ≤ xs.getD j 0 ∧ xs.getD j 0 ≤ 255
theorem BytesAt.get {w : World} {a : Option Addr} {xs : List Int} (h : BytesAt w a xs) (hn : 0 < xs.length) : ∃ b o, a = some ⟨b, o, none⟩ ∧ b < w.heap.size ∧ ∀ j, j < xs.length → w.cell? ⟨b, o + j, none⟩ = some (.int .u8 (xs.getD j 0)) ∧ 0 ≤ xs.getD j 0 ∧ xs.getD j 0 ≤ 255 := by
 rcases h with rfl | h
 ·simp at hn
 ·exact h
theorem BytesAt.ext {w w' : World} {a : Option Addr} {xs : List Int} (h : BytesAt w a xs) (e : Ext w w') : BytesAt w' a xs := by
 rcases h with rfl | ⟨b, o, ha, hb, hc⟩
 ·exact .inl rfl
 ·exact .inr ⟨b, o, ha, Nat.lt_of_lt_of_le hb e.size, fun j hj => ⟨((ecell e).1 b _ hb).trans (hc j hj).1, (hc j hj).2⟩⟩
theorem BytesAt.keep {w w' : World} {a : Option Addr} {xs : List Int} {rb : Nat} (h : BytesAt w a xs) (e : w.grownBy w' (some rb)) (hne : xs ≠ [] → ∀ x, a = some x → x.block ≠ rb) : BytesAt w' a xs := by
 by_cases hxs : xs = []
 ·exact .inl hxs
 rcases h with rfl | ⟨b, o, ha, hb, hc⟩
 ·exact .inl rfl
 ·refine .inr ⟨b, o, ha, Nat.lt_of_lt_of_le hb e.size, fun j hj => ⟨?_, (hc j hj).2⟩⟩
  exact e.cell (hc j hj).1 (by intro h; exact hne hxs _ ha (by simpa using h))
/-- Block rb is a reader over the bytes bs; it has been read at most N times. -/
structure Rdr (w : World) (rb : Nat) (bs : List Int) (N : Nat) : Prop where
 ex : ∃ a c p, w.heap[rb]? = some (.cells #[.slice a bs.length c, .int .i64 (p : Nat)] 129 (0, 0)) ∧ p ≤ N ∧ BytesAt w a bs ∧ (bs ≠ [] → ∀ x, a = some x → x.block < rb)
 len : bs.length ≤ 2000
theorem xor64 (a b : Nat) (ha : a < 2 ^ 62) (hb : b < 2 ^ 62) : bits .xor .i64 (a : Int) (b : Int) = ((a ^^^ b : Nat) : Int) := by
 have ha' : a % 2 ^ IntKind.i64.bits = a := Nat.mod_eq_of_lt (Nat.lt_of_lt_of_le ha (by decide))
 have hb' : b % 2 ^ IntKind.i64.bits = b := Nat.mod_eq_of_lt (Nat.lt_of_lt_of_le hb (by decide))
 have hx := Nat.xor_lt_two_pow ha hb
 simp only [bits, BitVec.ofInt_natCast, BitVec.toNat_xor, BitVec.toNat_ofNat, ha', hb']
 generalize a ^^^ b = c at hx
 rw [IntKind.wrap_i64]
 omega
/-- x ^ (x / 64), for a number that is not great. -/
def mix (x : Int) : Int := ((x.toNat ^^^ (x / 64).toNat : Nat) : Int)
theorem mix_eq (x : Int) (h0 : 0 ≤ x) (h1 : x < 2 ^ 61) : bits .xor .i64 x (x / 64) = mix x ∧ 0 ≤ mix x ∧ mix x < 2 ^ 62 := by
 obtain ⟨n, rfl⟩ := Int.eq_ofNat_of_zero_le h0
 have e : ((n : Int) / 64) = ((n / 64 : Nat) : Int) := by omega
 have hx := Nat.xor_lt_two_pow (n := 62) (x := n) (y := n / 64) (by omega) (by omega)
 refine ⟨?_, Int.natCast_nonneg _, ?_⟩
 ·unfold mix
  rw [e, xor64 _ _ (by omega) (by omega)]
  simp only [Int.toNat_natCast]
 ·unfold mix
  rw [e]
  simp only [Int.toNat_natCast]
  omega
/-- What a draw leaves: a number below n; the reader, one further on; all else as it was. -/
def PickPost (w : World) (rb : Nat) (bs : List Int) (N : Nat) (n : Int) (e : Ending) (w' : World) : Prop :=
 ∃ k : Int, e = .returned (.int .i64 k) ∧ 0 ≤ k ∧ (k < n ∨ k = 0) ∧ Rdr w' rb bs (N + 1) ∧ w.grownBy w' (some rb)
theorem Rdr.mono {w : World} {rb : Nat} {bs : List Int} {N M : Nat} (h : Rdr w rb bs N) (hm : N ≤ M) : Rdr w rb bs M := by
 obtain ⟨⟨a, c, p, h1, h2, h3, h4⟩, hl⟩ := h
 exact ⟨⟨a, c, p, h1, by omega, h3, h4⟩, hl⟩
theorem Rdr.ext {w w' : World} {rb : Nat} {bs : List Int} {N : Nat} (h : Rdr w rb bs N) (e : Ext w w') : Rdr w' rb bs N := by
 obtain ⟨⟨a, c, p, h1, h2, h3, h4⟩, hl⟩ := h
 exact ⟨⟨a, c, p, (Below.block e rb (Array.getElem?_eq_some_iff.1 h1).1).trans h1, h2, h3.ext e, h4⟩, hl⟩
theorem BytesAt.below {w w' : World} {a : Option Addr} {xs : List Int} {B : Nat} (h : BytesAt w a xs) (e : Below B w w') (hB : xs ≠ [] → ∀ x, a = some x → x.block < B) : BytesAt w' a xs := by
 by_cases hxs : xs = []
 ·exact .inl hxs
 rcases h with rfl | ⟨b, o, ha, hb, hc⟩
 ·exact .inl rfl
 ·exact .inr ⟨b, o, ha, Nat.lt_of_lt_of_le hb e.size, fun j hj => ⟨((bcell e).1 b _ (hB hxs _ ha)).trans (hc j hj).1, (hc j hj).2⟩⟩
theorem Rdr.below {w w' : World} {rb : Nat} {bs : List Int} {N B : Nat} (h : Rdr w rb bs N) (e : Below B w w') (hB : rb < B) : Rdr w' rb bs N := by
 obtain ⟨⟨a, c, p, h1, h2, h3, h4⟩, hl⟩ := h
 exact ⟨⟨a, c, p, (e.block rb hB).trans h1, h2, h3.below e (fun hn x hx => by have := h4 hn x hx; omega), h4⟩, hl⟩
theorem Rdr.lt {w : World} {rb : Nat} {bs : List Int} {N : Nat} (h : Rdr w rb bs N) : rb < w.heap.size := by
 obtain ⟨⟨a, c, p, h1, h2, h3, h4⟩, hl⟩ := h
 exact (Array.getElem?_eq_some_iff.1 h1).1
theorem grown_setCell (w : World) (rb i : Nat) (v : Value) : w.grownBy (w.setCell ⟨rb, i, none⟩ v) (some rb) :=
 ⟨rfl, rfl, rfl, by simp, fun k _ hk => heap_setCell_other w _ k v (fun e => hk (by rw [e]))⟩
set_option maxHeartbeats 1000000 in
theorem pick_c (rb : Nat) (bs : List Int) (N : Nat) (n : Int) (w : World) (hr : Rdr w rb bs N) (hN : N ≤ 1000000000) (hn : n ≤ 1000000000) :
  Calls Try.prog 93 #[.pointer (some ⟨rb, 0, none⟩), .int .i64 n] w (PickPost w rb bs N n) := by
 obtain ⟨⟨a, c, p, hg, hp, hB, ha⟩, hl⟩ := hr
 have c0 : w.cell? ⟨rb, 0, none⟩ = some (.slice a bs.length c) := by rw [cell_of_row _ _ _ _ _ _ hg]; rfl
 have c1 : w.cell? ⟨rb, 1, none⟩ = some (.int .i64 p) := by rw [cell_of_row _ _ _ _ _ _ hg]; rfl
 have f1 : w.frozen? ⟨rb, 1, none⟩ = false := frozen_of_row _ _ _ _ _ hg
 have hpost : ∀ (k : Int) (m : Nat), 0 ≤ k → (k < n ∨ k = 0) → PickPost w rb bs N n (.returned (.int .i64 k)) ((w.setCell ⟨rb, 1, none⟩ (.int .i64 ((p : Int) + 1))).drewN m) := by
  intro k m h0 h1
  refine ⟨k, rfl, h0, h1, ⟨⟨a, c, p + 1, ?_, by omega, ?_, ha⟩, hl⟩, Gr.drewN (grown_setCell _ _ _ _) _⟩
  ·rw [World.heap_drewN, heap_setCell_same _ _ _ _ _ _ hg]; simp
  ·exact hB.keep (Gr.drewN (grown_setCell _ _ _ _) _) (fun hn x hx => by have := ha hn x hx; omega)
 have HP := Lib.hid hpost
 clear hpost hg
 by_cases hn1 : n < 1
 ·go_enter Try.func93, Try.ntmps93
  go_wp2
  go_ret
  exact HP.out 0 0 (Int.le_refl _) (.inr rfl)
 ·by_cases hl0 : bs.length = 0
  ·have hl0' : ((bs.length : Int) == 0) = true := by simp [hl0]
   clear hl0
   go_enter Try.func93, Try.ntmps93
   go_wp2
   go_ret
   exact HP.out 0 0 (Int.le_refl _) (.inr rfl)
  ·obtain ⟨b, o, rfl, hb, hc⟩ := hB.get (by omega)
   have hbr : b < rb := ha (by intro h; simp [h] at hl0) _ rfl
   have hl0' : ((bs.length : Int) == 0) = false := by simp; intro h; simp [h] at hl0
   have hlp : 0 < bs.length := by omega
   clear hl0 hB ha
   by_cases hk : p < bs.length
   ·obtain ⟨q1, q2, q3⟩ := hc p hk
    obtain ⟨x, hx⟩ : ∃ x, x = bs.getD p 0 := ⟨_, rfl⟩
    rw [← hx] at q1 q2 q3
    clear hx hc
    go_enter Try.func93, Try.ntmps93
    go_wp2
    go_ret
    exact HP.out (x % n) 0 (Int.emod_nonneg _ (by omega)) (.inl (Int.emod_lt_of_pos _ (by omega)))
   ·have m1 : p % bs.length < bs.length := Nat.mod_lt _ hlp
    have m2 : (p * 7 + 3) % bs.length < bs.length := Nat.mod_lt _ hlp
    obtain ⟨q1, q2, q3⟩ := hc _ m1
    obtain ⟨r1, r2, r3⟩ := hc _ m2
    obtain ⟨x, hx⟩ : ∃ x, x = bs.getD (p % bs.length) 0 := ⟨_, rfl⟩
    obtain ⟨y, hy⟩ : ∃ y, y = bs.getD ((p * 7 + 3) % bs.length) 0 := ⟨_, rfl⟩
    rw [← hx] at q1 q2 q3
    rw [← hy] at r1 r2 r3
    have hne : ¬ bs = [] := by intro h; simp [h] at hlp
    have e1 : (p : Int).tmod (bs.length : Int) = ((p % bs.length : Nat) : Int) := by rw [Int.tmod_eq_emod_of_nonneg (by omega)]; rfl
    have e2 : ((p : Int) * 7 + 3).tmod (bs.length : Int) = (((p * 7 + 3) % bs.length : Nat) : Int) := by rw [Int.tmod_eq_emod_of_nonneg (by omega)]; rfl
    have d1 : (0 : Int) ≤ (p : Int) % (bs.length : Int) ∧ (p : Int) % (bs.length : Int) < (bs.length : Int) := ⟨Int.emod_nonneg _ (by omega), Int.emod_lt_of_pos _ (by omega)⟩
    have d2 : (0 : Int) ≤ ((p : Int) * 7 + 3) % (bs.length : Int) ∧ ((p : Int) * 7 + 3) % (bs.length : Int) < (bs.length : Int) := ⟨Int.emod_nonneg _ (by omega), Int.emod_lt_of_pos _ (by omega)⟩
    have t1 : ((p : Int) % (bs.length : Int)).toNat = p % bs.length := by rw [← Int.natCast_emod]; rfl
    have t2 : (((p : Int) * 7 + 3) % (bs.length : Int)).toNat = (p * 7 + 3) % bs.length := by
     have : ((p : Int) * 7 + 3) = ((p * 7 + 3 : Nat) : Int) := by omega
     rw [this, ← Int.natCast_emod]; rfl
    have g1 : (0 : Int) ≤ (p : Int) / (bs.length : Int) := Int.ediv_nonneg (by omega) (by omega)
    have g2 : (p : Int) / (bs.length : Int) ≤ (p : Int) := Int.ediv_le_self _ (by omega)
    obtain ⟨d11, d12⟩ := d1
    obtain ⟨d21, d22⟩ := d2
    clear hx hy hc
    go_enter Try.func93, Try.ntmps93
    go_wp2_with fail
    go_quiet (fail)
    go_wp2
    obtain ⟨x0, hX⟩ : ∃ x0, x0 = x * 131 + y * 1117 + (p : Int) * 29 + (p : Int) / (bs.length : Int) * 53 := ⟨_, rfl⟩
    have hx0 : 0 ≤ x0 ∧ x0 < 2 ^ 61 := by omega
    obtain ⟨m0, m1, m2⟩ := mix_eq x0 hx0.1 hx0.2
    rw [← hX, m0]
    go_ret
    exact HP.out ((mix x0).tmod n) nq (Int.tmod_nonneg _ m1) (.inl (Int.tmod_lt_of_pos _ (by omega)))

def OddPost (w : World) (rb : Nat) (bs : List Int) (N : Nat) (n : Int) (e : Ending) (w' : World) : Prop :=
 ∃ k : Bool, e = .returned (.bool k) ∧ (n ≤ 0 → k = false) ∧ Rdr w' rb bs (N + 1) ∧ w.grownBy w' (some rb)
set_option maxHeartbeats 400000 in
theorem odd_c (rb : Nat) (bs : List Int) (N : Nat) (n : Int) (w : World) (hr : Rdr w rb bs N) (hN : N ≤ 1000000000) (hn : n ≤ 1000000000) (hn0 : -1000 ≤ n) :
  Calls Try.prog 95 #[.pointer (some ⟨rb, 0, none⟩), .int .i64 n] w (OddPost w rb bs N n) := by
 by_cases h : 0 < n
 ·go_enter Try.func95, Try.ntmps95
  go_wp2_with (go_at_call 93; refine (pick_c rb bs N n _ hr hN hn).mono ?_; rintro e w' ⟨k, rfl, h0, h1, hR, hG⟩)
  go_ret
  exact ⟨k == n - 1, rfl, fun h' => by omega, hR, hG⟩
 ·go_enter Try.func95, Try.ntmps95
  go_wp2
  go_ret
  exact ⟨false, rfl, fun h' => rfl, hr.mono (by omega), Gr.refl _ _⟩
/-- A reader over at most 2000 bytes, in a new block. -/
def OpenPost (w : World) (e : Ending) (w' : World) : Prop :=
 ∃ rb bs, e = .returned (.pointer (some ⟨rb, 0, none⟩)) ∧ Rdr w' rb bs 0 ∧ w.heap.size ≤ rb ∧ Ext w w'
theorem bytes_take {w : World} {a : Option Addr} {xs : List Int} (h : BytesAt w a xs) (n : Nat) : BytesAt w a (xs.take n) := by
 rcases h with rfl | ⟨b, o, ha, hb, hc⟩
 ·left; simp
 ·refine .inr ⟨b, o, ha, hb, fun j hj => ?_⟩
  have hj' : j < n ∧ j < xs.length := by simp at hj; omega
  have e : (xs.take n).getD j 0 = xs.getD j 0 := by simp [List.getD_eq_getElem?_getD, hj'.1]
  rw [e]
  exact hc j hj'.2
set_option maxHeartbeats 400000 in
theorem open_c (a : Option Addr) (c : Nat) (bs : List Int) (w : World) (hB : BytesAt w a bs) (hl : bs.length ≤ 1048576) (hc : bs.length ≤ c) (hcm : c ≤ maxLen) :
  Calls Try.prog 59 #[.slice a bs.length c] w (OpenPost w) := by
 have made : ∀ (a' : Option Addr) (c' : Nat) (ys : List Int), BytesAt w a' ys → ys.length ≤ 2000 → (ys ≠ [] → ∀ x, a' = some x → x.block < w.heap.size) → Rdr (w.alloc (.cells #[.slice a' ys.length c', .int .i64 0] 129)) w.heap.size ys 0 := by
  intro a' c' ys h1 h2 h3
  exact ⟨⟨a', c', 0, heap_alloc_new w _, Nat.le_refl _, h1.ext ((Ext.refl w).alloc _), h3⟩, h2⟩
 have HM := Lib.hid made
 clear made
 have ha : bs ≠ [] → ∀ x, a = some x → x.block < w.heap.size := by
  intro hn x hx
  rcases hB with h | ⟨b, o, h, hb, _⟩
  ·exact absurd h hn
  ·rw [hx] at h; cases h; exact hb
 have ha2 : bs.take 2000 ≠ [] → ∀ x, a = some x → x.block < w.heap.size := fun hn => ha (by intro h; simp [h] at hn)
 by_cases h : bs.length ≤ 2000
 ·go_enter Try.func59, Try.ntmps59
  go_wp2
  go_ret
  exact ⟨_, bs, rfl, HM.out a c bs hB h ha, Nat.le_refl _, (Ext.refl w).alloc _⟩
 ·go_enter Try.func59, Try.ntmps59
  go_wp2
  go_ret
  have hl2 : (bs.take 2000).length = 2000 := by simp; omega
  have hm := HM.out a c (bs.take 2000) (bytes_take hB _) (by omega) ha2
  rw [hl2] at hm
  exact ⟨_, bs.take 2000, rfl, hm, Nat.le_refl _, (Ext.refl w).alloc _⟩
end Go.Proofs.Ytgialedmbmfejaa
