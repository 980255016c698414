/- How the exact laws compare and mark a list of faults. -/
import Derived.Test.YtlkfhcigpkfhnaaFaults
namespace Go.Proofs.Ytlkfhcigpkfhnaa
open Go.RowKit
set_option maxRecDepth 100000
set_option linter.unusedVariables false
set_option linter.unusedSimpArgs false
structure RepFaults (w : World) (b N : Nat) (v : Value) (xs : List (Int × Bool)) : Prop where
  own : OwnF w b v xs
  up : ∀ k, v.ownBlock = some k → k < N
  small : xs.length ≤ 1048576
theorem faultsV_small (c : Circ) : (faultsV c).length ≤ 1048576 := by
  unfold faultsV
  cases hv : validB c
  · simp
  · have := vars_le (validB_iff.1 hv)
    simp only [if_true]
    rw [faultsN_length]; omega
def FaultsAt (w : World) (a : Option Addr) (xs : List (Int × Bool)) : Prop := RowAt w a (flatF xs)
theorem FaultsAt.get {w : World} {a : Option Addr} {xs : List (Int × Bool)} (h : FaultsAt w a xs) (hn : 0 < xs.length) : ∃ b o, a = some ⟨b, o, none⟩ ∧ b < w.heap.size ∧ ∀ j, j < xs.length → w.cell? ⟨b, o + j * 2, none⟩ = some (.int .i64 (xs.getD j (0, false)).1) ∧ w.cell? ⟨b, o + j * 2 + 1, none⟩ = some (.bool (xs.getD j (0, false)).2) := by
  rcases h with h | ⟨b, o, ha, hb, hc⟩
  · have := flatF_length xs
    rw [h] at this
    simp at this; omega
  · exact ⟨b, o, ha, hb, fun j hj => ⟨hc _ _ (flatF_get xs j hj).1, by rw [Nat.add_assoc]; exact hc _ _ (flatF_get xs j hj).2⟩⟩
section
variable {w w' : World} {b b2 N : Nat} {v v' : Value} {xs : List (Int × Bool)}
theorem OwnF.opened (h : OwnF w b v xs) : ∃ a c, v = .slice a xs.length c ∧ FaultsAt w a xs := by
  obtain ⟨a, c, hv, hr, _⟩ := ownsRow_row h
  exact ⟨a, c, hv, hr⟩
theorem RepFaults.ext (h : RepFaults w b N v xs) (e : Ext w w') : RepFaults w' b N v xs := ⟨h.own.ext e, h.up, h.small⟩
theorem RepFaults.le (h : RepFaults w b N v xs) (hb : b2 ≤ b) : RepFaults w b2 N v xs := ⟨h.own.le hb, h.up, h.small⟩
theorem RepFaults.hi {n m : Nat} (h : RepFaults w b N v xs) (g : Mid n m w w') (hb : m ≤ b) : RepFaults w' b N v xs := ⟨ownsRow_hi h.own g hb, h.up, h.small⟩
theorem GiveFaults.rep {e : Ending} (h : GiveF w xs e w') (hs : xs.length ≤ 1048576 := by assumption) : ∃ v, e = .returned v ∧ RepFaults w' w.heap.size w'.heap.size v xs ∧ Ext w w' := by
  obtain ⟨v, h1, h2, h3⟩ := h
  exact ⟨v, h1, ⟨h2, fun k hk => (h2.lt' k hk).2, hs⟩, h3⟩
theorem eqFault_c (a : Int) (f : Bool) (w : World) :
    Calls Try.prog 79 #[.agg #[.int .i64 a, .bool f], .agg #[.int .i64 a, .bool f]] w fun e w' => e = .returned (.bool true) ∧ Ext w w' := by
  go_enter Try.func79, Try.ntmps79
  go_wp2
  go_ret
  exact ⟨rfl, ((Ext.refl w).alloc _).alloc _⟩
theorem eqFaultS_c (a b : Option Addr) (c d : Nat) (xs : List (Int × Bool)) (w : World) (hx : FaultsAt w a xs) (hy : FaultsAt w b xs) (hl : xs.length ≤ 1048576) :
    Calls Try.prog 33 #[.slice a xs.length c, .slice b xs.length d] w fun e w' => e = .returned (.bool true) ∧ Ext w w' := by
  go_enter Try.func33, Try.ntmps33
  go_wp2_with fail
  go_loopw [5] (fun i wr => ∃ k : Nat, k ≤ xs.length ∧ i = .int .i64 k ∧ Ext w wr) (fun i _ => xs.length - (intOf i).toNat)
  case atStart => exact ⟨0, Nat.zero_le _, rfl, Ext.refl w⟩
  case round =>
    obtain ⟨k, hk, rfl, hE⟩ := hrel
    by_cases hlt : k < xs.length
    · obtain ⟨b1, o1, rfl, hb1, hc1⟩ := FaultsAt.get (RowAt.ext hx hE) (by omega)
      obtain ⟨b2, o2, rfl, hb2, hc2⟩ := FaultsAt.get (RowAt.ext hy hE) (by omega)
      obtain ⟨q1, q2⟩ := hc1 k hlt
      obtain ⟨q3, q4⟩ := hc2 k hlt
      obtain ⟨x, hxx⟩ : ∃ x, x = (xs.getD k (0, false)).1 := ⟨_, rfl⟩
      obtain ⟨y, hyy⟩ : ∃ x, x = (xs.getD k (0, false)).2 := ⟨_, rfl⟩
      rw [← hxx] at q1 q3
      rw [← hyy] at q2 q4
      clear hc1 hc2 hxx hyy
      go_wp2
      go_region_held3 ((fun w' => (∀ b o, b < wr.heap.size → w'.cell? ⟨b, o, none⟩ = wr.cell? ⟨b, o, none⟩) ∧ Ext wr w')) ((first | assumption | (with_reducible exact held_mk (Ext.drew wr)) | (with_reducible exact held_mk (((Ext.refl wr).alloc _).drew')) | (with_reducible exact held_mk ((Ext.drew wr).alloc _)))) (first | (go_simp; go_at_call 79; refine (eqFault_c _ _ _).mono ?_; rintro e w2 ⟨rfl, hE2⟩; have hK2 := held_mk ((Ext.drew wr).trans hE2)))
      go_wp2
      go_roundw
      case rel => exact ⟨k + 1, by omega, by go_num, hE.trans (held_ext (by assumption))⟩
      case measure => simp [intOf]; omega
    · go_wp2
      go_ret
      exact ⟨rfl, hE⟩
theorem eqFaults_R {b3 N3 : Nat} (h : RepFaults w b N v xs) (h' : RepFaults w b3 N3 v' xs) : Calls Try.prog 33 #[v, v'] w fun e w' => e = .returned (.bool true) ∧ Ext w w' := by
  obtain ⟨a, c, rfl, hA⟩ := h.own.opened
  obtain ⟨a', c', rfl, hA'⟩ := h'.own.opened
  exact eqFaultS_c _ _ _ _ xs w hA hA' h.small
def mkF (k : Int) (i : Nat) : Int × Bool := (k + i * 2, (k + i * 2 + 1) % 3 == 0)
def mksF (k : Int) (n : Nat) : List (Int × Bool) := (List.range n).map (mkF k)
theorem mksF_get (k : Int) (n j : Nat) (h : j < n) : (mksF k n).getD j (0, false) = mkF k j := by
  simp [mksF, List.getD_eq_getElem?_getD, h]
theorem mksF_length (k : Int) (n : Nat) : (mksF k n).length = n := by simp [mksF]
def MarkFRel (w : World) (base : Nat) (a : Option Addr) (c : Nat) (xs : List (Int × Bool)) (k : Int) (u1 u5 : Value) (wr : World) : Prop :=
  ∃ j : Nat, j ≤ xs.length ∧ u5 = .int .i64 j ∧ u1 = .int .i64 (k + j * 2) ∧ wr.ownsRow base 59 2 (.slice a xs.length c) xs.length (flatF (over (mkF k) xs j)) ∧ w.grownBy wr (Value.slice a xs.length c).ownBlock
theorem markFaultS_c (base : Nat) (a : Option Addr) (c : Nat) (xs : List (Int × Bool)) (k : Int) (w : World) (ho : w.ownsRow base 59 2 (.slice a xs.length c) xs.length (flatF xs)) (h0 : 0 ≤ k) (h1 : k ≤ 1000000000) (hl : xs.length ≤ 1048576) :
    Calls Try.prog 36 #[.slice a xs.length c, .int .i64 k] w fun e w' => e = .returned (.int .i64 (k + xs.length * 2)) ∧ w'.ownsRow base 59 2 (.slice a xs.length c) xs.length (flatF (mksF k xs.length)) ∧ w.grownBy w' (Value.slice a xs.length c).ownBlock := by
  go_enter Try.func36, Try.ntmps36
  go_wp2_with fail
  go_loopw [1, 5] (MarkFRel w base a c xs k) (fun _ i _ => xs.length - (intOf i).toNat)
  case atStart => exact ⟨0, Nat.zero_le _, rfl, by simp, by rw [over_zero]; exact ho, Gr.refl _ _⟩
  case round =>
    obtain ⟨j, hj, rfl, rfl, hO, hG⟩ := hrel
    by_cases hlt : j < xs.length
    · obtain ⟨g, rfl, hbg, hg⟩ := ownsRow_block hO (by omega)
      have hs := over_set (mkF k) xs j hlt
      have hlen := over_length (mkF k) xs j hj
      have hfl := flatF_length (over (mkF k) xs j)
      obtain ⟨u, q⟩ : ∃ u, wr.cell? ⟨g, j * 2, none⟩ = some u := ⟨_, ownsRow_cell hO (List.getElem?_eq_getElem (by omega))⟩
      obtain ⟨u2, q2⟩ : ∃ u, wr.cell? ⟨g, j * 2 + 1, none⟩ = some u := ⟨_, ownsRow_cell hO (List.getElem?_eq_getElem (by omega))⟩
      have fz := fun i => ownsRow_frozen hO i
      have HO := ownsRow_setAt (ownsRow_setAt hO (j * 2) (by omega) (.int .i64 (k + j * 2))) (j * 2 + 1) (by rw [List.length_set]; omega) (.bool ((k + j * 2 + 1) % 3 == 0))
      have em : (k + (j : Int) * 2 + 1).tmod 3 = (k + (j : Int) * 2 + 1) % 3 := Int.tmod_eq_emod_of_nonneg (by omega)
      have HS : Hid (((flatF (over (mkF k) xs j)).set (j * 2) (.int .i64 (k + j * 2))).set (j * 2 + 1) (.bool ((k + j * 2 + 1) % 3 == 0)) = flatF (over (mkF k) xs (j + 1))) := Lib.hid (by
        rw [← hs]; exact flatF_set (over (mkF k) xs j) j (mkF k j))
      clear hs hlen hfl
      go_wp2
      go_roundw
      case rel =>
        refine ⟨j + 1, by omega, by go_num, by go_num, ?_, ?_⟩
        · rw [← HS.out]
          exact HO
        · exact gr_setOwn (gr_setOwn hG _ _) _ _
      case measure => simp [intOf]; omega
    · obtain rfl : j = xs.length := by omega
      rw [over_all] at hO
      go_wp2
      go_ret
      exact ⟨rfl, hO, hG⟩
theorem heldFaultS_c (a : Option Addr) (c n : Nat) (k : Int) (w : World) (hx : FaultsAt w a (mksF k n)) (h0 : 0 ≤ k) (h1 : k ≤ 1000000000) (hl : n ≤ 1048576) :
    Calls Try.prog 37 #[.slice a n c, .int .i64 k] w fun e w' => e = .returned (.int .i64 (k + n * 2)) ∧ w = w' := by
  go_enter Try.func37, Try.ntmps37
  go_wp2_with fail
  go_loop [1, 5] (fun u1 i => ∃ j : Nat, j ≤ n ∧ i = .int .i64 j ∧ u1 = .int .i64 (k + j * 2)) (fun _ i => n - (intOf i).toNat)
  case atStart => exact ⟨0, Nat.zero_le _, rfl, by simp⟩
  case round =>
    obtain ⟨j, hj, rfl, rfl⟩ := hrel
    by_cases hlt : j < n
    · obtain ⟨b1, o1, rfl, hb1, hc1⟩ := hx.get (by rw [mksF_length]; omega)
      obtain ⟨q1, q2⟩ := hc1 j (by rw [mksF_length]; omega)
      rw [mksF_get _ _ _ hlt] at q1 q2
      have em : (k + (j : Int) * 2 + 1).tmod 3 = (k + (j : Int) * 2 + 1) % 3 := Int.tmod_eq_emod_of_nonneg (by omega)
      unfold mkF at q1 q2
      dsimp only at q1 q2
      clear hc1
      go_wp2
      go_round
      case rel => exact ⟨j + 1, by omega, by go_num, by go_num⟩
      case measure => simp [intOf]; omega
    · obtain rfl : j = n := by omega
      go_wp2
      go_ret
      exact ⟨rfl, rfl⟩
def MkFaults (w : World) (v : Value) (km : Int) : Prop := ∃ n : Nat, km = 1 + n * 2 ∧ (∃ a c, v = .slice a n c ∧ FaultsAt w a (mksF 1 n)) ∧ n ≤ 1048576
theorem MkFaults.ext {k : Int} (h : MkFaults w v k) (e : Ext w w') : MkFaults w' v k := by
  obtain ⟨n, h1, ⟨a, c, h2, h3⟩, h4⟩ := h
  exact ⟨n, h1, ⟨a, c, h2, RowAt.ext h3 e⟩, h4⟩
theorem MkFaults.kb {k : Int} (h : MkFaults w v k) : 0 ≤ k ∧ k ≤ 100000000 := by
  obtain ⟨n, rfl, _, h2⟩ := h
  omega
theorem markFaults_R (h : RepFaults w b N v xs) : Calls Try.prog 36 #[v, .int .i64 1] w fun e w' => ∃ km, e = .returned (.int .i64 km) ∧ MkFaults w' v km ∧ Mid b N w w' := by
  obtain ⟨a, c, rfl, hA⟩ := h.own.opened
  refine (markFaultS_c b a c xs 1 w h.own (by omega) (by omega) h.small).mono ?_
  rintro e w' ⟨rfl, h1, h2⟩
  obtain ⟨a', c', hv, hr, _⟩ := ownsRow_row h1
  exact ⟨_, rfl, ⟨_, rfl, ⟨a', c', hv, hr⟩, h.small⟩, Mid.ofOwn h2 (ownsRow_from h.own) h.up⟩
theorem heldFaults_R {km : Int} (h : MkFaults w v km) : Calls Try.prog 37 #[v, .int .i64 1] w fun e w' => e = .returned (.int .i64 km) ∧ Ext w w' := by
  obtain ⟨n, rfl, ⟨a, c, rfl, hA⟩, h4⟩ := h
  refine (heldFaultS_c a c n 1 w hA (by omega) (by omega) h4).mono ?_
  rintro e w' ⟨rfl, rfl⟩
  exact ⟨rfl, Ext.refl _⟩
end
end Go.Proofs.Ytlkfhcigpkfhnaa
