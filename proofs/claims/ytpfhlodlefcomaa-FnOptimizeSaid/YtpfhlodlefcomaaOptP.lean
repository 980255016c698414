/- Plain lists: the program's way of leaving out unused gates is the reference's. -/
import Derived.Test.YtpfhlodlefcomaaOptN
import Derived.Test.YtpfhlodlefcomaaOwn
namespace Go.Proofs.Ytpfhlodlefcomaa
open Go.RowKit
set_option linter.unusedVariables false
set_option linter.unusedSimpArgs false
def cntG (c : Circ) (i : Nat) : Nat := (bState false c i).1.length
/-- The new place of variable v. -/
def plV (c : Circ) (F v : Nat) : Int := if v < F then v else if (usedV c).getD (v - F) false = true then F + cntG c (v - F) else 0
theorem cntG_zero (c : Circ) : cntG c 0 = 0 := rfl
theorem cntG_succ (c : Circ) (k : Nat) (hk : k < c.gates.length) : cntG c (k + 1) = cntG c k + (if (usedV c).getD k false = true then 1 else 0) := by
  unfold cntG
  rw [bState_succ false c k hk]
  unfold bStep
  cases (usedV c).getD k false <;> simp
theorem cntG_le (c : Circ) (V : c.Valid) (k : Nat) (hk : k ≤ c.gates.length) : cntG c k ≤ k := (bState_ok V false k hk).gl
theorem bF_ms (c : Circ) (F : Nat) (hF : c.first = F) : ∀ k, k ≤ c.gates.length → (bState false c k).2 = own0 F ++ (List.range k).map (fun i => 2 * plV c F (F + i))
  | 0, _ => by
    show own0 c.first.toNat = _
    rw [hF]; simp
  | k + 1, hk => by
    have ih := bF_ms c F hF k (by omega)
    rw [bState_succ false c k (by omega)]
    have hp : plV c F (F + k) = if (usedV c).getD k false = true then (F : Int) + cntG c k else 0 := by
      unfold plV
      rw [if_neg (by omega)]
      simp
    rw [List.range_succ, List.map_append, ← List.append_assoc, ← ih, List.map_cons, List.map_nil, hp]
    unfold bStep
    rw [hF]
    cases (usedV c).getD k false
    · simp
    · simp [cntG]
theorem bF_get (c : Circ) (F : Nat) (hF : c.first = F) (k : Nat) (hk : k ≤ c.gates.length) (v : Nat) (hv : v < F + k) : (bState false c k).2.getD v 0 = 2 * plV c F v := by
  rw [bF_ms c F hF k hk]
  rcases Nat.lt_or_ge v F with h | h
  · have e : (own0 F ++ (List.range k).map (fun i => 2 * plV c F (F + i))).getD v 0 = (own0 F).getD v 0 := getD_append_left _ _ _ _ (by rw [own0_length]; exact h)
    rw [e, own0_get _ _ h]
    unfold plV
    rw [if_pos h]
  · have e : v = F + (v - F) := by omega
    have hlen := own0_length F
    rw [List.getD_eq_getElem?_getD, List.getElem?_append_right (by omega), hlen, List.getElem?_map, List.getElem?_range (by omega)]
    simp only [Option.map_some, Option.getD_some]
    rw [← e]
theorem plV_nonneg (c : Circ) (F v : Nat) : 0 ≤ plV c F v := by unfold plV; split; omega; split <;> omega
theorem plV_le (c : Circ) (V : c.Valid) (F v : Nat) (hF : F ≤ 8) (hv : v < F + c.gates.length) : plV c F v ≤ 30 := by
  have lg := V.lg
  unfold plV
  split
  · omega
  · split
    · have := cntG_le c V (v - F) (by omega); omega
    · omega
/-- All places. -/
def plAll (c : Circ) (F N : Nat) : List Int := (List.range N).map (plV c F)
theorem plAll_length (c : Circ) (F N : Nat) : (plAll c F N).length = N := by simp [plAll]
theorem plAll_get (c : Circ) (F N v : Nat) (hv : v < N) : (plAll c F N).getD v 0 = plV c F v := by simp [plAll, List.getD_eq_getElem?_getD, hv]
theorem plc_map (c : Circ) (F : Nat) (hF : c.first = F) (k : Nat) (hk : k ≤ c.gates.length) (l : Int) (h0 : 0 ≤ l) (h1 : l < 2 * ((F + k : Nat) : Int)) :
    2 * (plAll c F (F + c.gates.length)).getD (l / 2).toNat 0 + l % 2 = mapL (bState false c k).2 l := by
  have e := bF_get c F hF k hk (l / 2).toNat (by omega)
  have hp := plV_nonneg c F (l / 2).toNat
  rw [plAll_get _ _ _ _ (by omega)]
  unfold mapL xorL
  rw [e]
  split <;> (try split) <;> omega
theorem bF_step (c : Circ) (V : c.Valid) (F : Nat) (hF : c.first = F) (k : Nat) (hk : k < c.gates.length) :
    (bState false c (k + 1)).1 = if (usedV c).getD k false = true then (bState false c k).1 ++ [(mapL (buildS false c).2 (c.gates.getD k (0, 0)).1, mapL (buildS false c).2 (c.gates.getD k (0, 0)).2)] else (bState false c k).1 := by
  have hv := V.gs k hk
  rw [hF, litB_ii, litB_ii] at hv
  have a1 := plc_map c F hF k (by omega) (c.gates.getD k (0, 0)).1 hv.1.1 (by omega)
  have a2 := plc_map c F hF k (by omega) (c.gates.getD k (0, 0)).2 hv.2.1 (by omega)
  have b1 := plc_map c F hF c.gates.length (Nat.le_refl _) (c.gates.getD k (0, 0)).1 hv.1.1 (by omega)
  have b2 := plc_map c F hF c.gates.length (Nat.le_refl _) (c.gates.getD k (0, 0)).2 hv.2.1 (by omega)
  rw [bState_all] at b1 b2
  rw [bState_succ false c k hk, ← b1, ← b2, a1, a2]
  unfold bStep
  cases (usedV c).getD k false <;> simp
theorem over_skip {α : Type} (f : Nat → α) (xs : List α) (j : Nat) (h : j < xs.length) (he : xs[j]? = some (f j)) : over f xs (j + 1) = over f xs j := by
  have := over_set f xs j h
  rw [← this]
  have hl : ((List.range j).map f).length = j := by simp
  apply List.ext_getElem?
  intro i
  rw [List.getElem?_set]
  split
  · next hji =>
    subst hji
    have hlt : j < (over f xs j).length := by rw [over_length f xs j (by omega)]; exact h
    rw [if_pos hlt]
    unfold over
    rw [List.getElem?_append_right (by omega), hl, Nat.sub_self, List.getElem?_drop, Nat.add_zero, he]
  · rfl
end Go.Proofs.Ytpfhlodlefcomaa
