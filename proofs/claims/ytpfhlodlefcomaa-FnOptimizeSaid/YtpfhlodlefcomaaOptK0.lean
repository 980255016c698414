/- Contracts: the two closures that rename literals. -/
import Derived.Test.YtpfhlodlefcomaaOptI0
import Derived.Outline
namespace Go.Proofs.Ytpfhlodlefcomaa
open Go.RowKit
set_option maxRecDepth 100000
set_option linter.unusedVariables false
set_option linter.unusedSimpArgs false
/-- 2*places[l/2] + l&1 -/
def plcL (ms : List Int) (l : Int) : Int := 2 * ms.getD (l / 2).toNat 0 + l % 2
theorem and64 (a b : Nat) (ha : a < 2 ^ 62) (hb : b < 2 ^ 62) : bits .and .i64 (a : Int) (b : Int) = ((a &&& b : Nat) : Int) := by
  have ha' : a % 2 ^ IntKind.i64.bits = a := Nat.mod_eq_of_lt (Nat.lt_of_lt_of_le ha (by decide))
  have hb' : b % 2 ^ IntKind.i64.bits = b := Nat.mod_eq_of_lt (Nat.lt_of_lt_of_le hb (by decide))
  have hx : a &&& b < 2 ^ 62 := Nat.lt_of_le_of_lt Nat.and_le_left ha
  simp only [bits, BitVec.ofInt_natCast, BitVec.toNat_and, BitVec.toNat_ofNat, ha', hb']
  generalize a &&& b = c at hx
  rw [IntKind.wrap_i64]
  omega
theorem band1 (l : Int) (h : 0 ≤ l) (h2 : l < 2 ^ 61) : bits .and .i64 l 1 = l % 2 := by
  obtain ⟨n, rfl⟩ := Int.eq_ofNat_of_zero_le h
  have e : bits .and .i64 (n : Int) 1 = ((n &&& 1 : Nat) : Int) := and64 n 1 (by omega) (by omega)
  rw [e, Nat.and_one_is_mod]; rfl
theorem mapClo_c (B : Nat) (t : TypeId) (a : Option Addr) (c n : Nat) (ms : List Int) (hn : ms.length = n) (l : Int) (w : World) (hB : Blk w B t [.slice a n c]) (hm : IntsAt w a ms) (h0 : 0 ≤ l) (h1 : l < 2 * (n : Int)) (hl : n ≤ 1048576) (hx : ∀ x ∈ ms, 0 ≤ x ∧ x ≤ 1000000) :
    Calls Try.prog 82 #[.int .i64 l, .pointer (some ⟨B, 0, none⟩)] w fun e w' => e = .returned (.int .i64 (mapL ms l)) ∧ w = w' := by
  subst hn
  obtain ⟨b, o, rfl, hb, hc⟩ := hm.get (by omega)
  have q := hc (l / 2).toNat (by omega)
  have hx2 := hx _ (getD_mem (d := 0) (show (l / 2).toNat < ms.length by omega))
  have E : Hid (mapL ms l = xorL (ms.getD (l / 2).toNat 0) l) := Lib.hid rfl
  obtain ⟨x, hxx⟩ : ∃ x, x = ms.getD (l / 2).toNat 0 := ⟨_, rfl⟩
  rw [← hxx] at q E hx2
  obtain ⟨hx3, hx4⟩ := hx2
  have ha := xor_bit x l hx3 (by omega)
  have hb1 := band1 l h0 (by omega)
  have c0 := hB.cell (i := 0) rfl
  clear hc hxx hx
  go_enter Try.func82, Try.ntmps82
  go_wp2
  go_ret
  exact ⟨by rw [E.out]; rfl, rfl⟩
theorem plcClo_c (B : Nat) (t : TypeId) (a : Option Addr) (c n : Nat) (ms : List Int) (hn : ms.length = n) (l : Int) (w : World) (hB : Blk w B t [.slice a n c]) (hm : IntsAt w a ms) (h0 : 0 ≤ l) (h1 : l < 2 * (n : Int)) (hl : n ≤ 1048576) (hx : ∀ x ∈ ms, 0 ≤ x ∧ x ≤ 1000000) :
    Calls Try.prog 83 #[.int .i64 l, .pointer (some ⟨B, 0, none⟩)] w fun e w' => e = .returned (.int .i64 (plcL ms l)) ∧ w = w' := by
  subst hn
  obtain ⟨b, o, rfl, hb, hc⟩ := hm.get (by omega)
  have q := hc (l / 2).toNat (by omega)
  have hx2 := hx _ (getD_mem (d := 0) (show (l / 2).toNat < ms.length by omega))
  have E : Hid (plcL ms l = 2 * ms.getD (l / 2).toNat 0 + l % 2) := Lib.hid rfl
  obtain ⟨x, hxx⟩ : ∃ x, x = ms.getD (l / 2).toNat 0 := ⟨_, rfl⟩
  rw [← hxx] at q E hx2
  obtain ⟨hx3, hx4⟩ := hx2
  have hb1 := band1 l h0 (by omega)
  have c0 := hB.cell (i := 0) rfl
  clear hc hxx hx
  go_enter Try.func83, Try.ntmps83
  go_wp2
  go_ret
  exact ⟨by rw [E.out]; rfl, rfl⟩
end Go.Proofs.Ytpfhlodlefcomaa
