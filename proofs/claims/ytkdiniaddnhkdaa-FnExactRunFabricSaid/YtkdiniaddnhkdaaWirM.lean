/- The values that are known, as the program keeps them: a map from wires to truth values. -/
import Derived.Test.YtkdiniaddnhkdaaWir0
import Derived.Test.YtkdiniaddnhkdaaAcyM
namespace Go.Proofs.Ytkdiniaddnhkdaa
open Go.RowKit Go.Maps
set_option maxRecDepth 100000
set_option linter.unusedVariables false
set_option linter.unusedSimpArgs false
noncomputable abbrev bElem : Value → Option (DataW Unit × List MemPlace) := plainElem (H := Unit) Try.prog 4
theorem bMapTy : Try.prog.underlying 159 = some (.map 113 4) := Try.underlying159
theorem bZero (w : World) : (zeroValue 4).run Try.prog w = .ok (.bool false) w := by kernel_rfl
theorem bElem_of (x : Bool) : bElem (.bool x) = some (.lit (.bool x), []) := plainElem_bool Try.underlying4 x
theorem bElem_inv {v : Value} {z : DataW Unit × List MemPlace} (h : bElem v = some z) : ∃ c, v = .bool c ∧ z = (.lit (.bool c), []) := by
  unfold bElem plainElem at h
  rw [Try.underlying4] at h
  cases v <;> simp at h
  rename_i c
  exact ⟨c, rfl, h.symm⟩
/-- Block mb holds the values F of the wires that m marks. -/
def KnM (w : World) (mb : Nat) (F : Wire → Bool) (m : Marks) : Prop :=
  ∃ (n : Nat) (D : DataW Unit), w.ownsMap Try.prog 113 bElem mb n D ∧ n + zeros0 m 200 ≤ 200 ∧ (∀ x : Wire, x.Ok → Maps.has D (wKey x) = decide (m x.ix ≠ 0)) ∧ ∀ x : Wire, x.Ok → m x.ix ≠ 0 → D.atKey (wKey x) (.lit (.bool false)) = .lit (.bool (F x))
section
variable {w w' : World} {mb : Nat} {F : Wire → Bool} {m : Marks}
theorem KnM.lt (h : KnM w mb F m) : mb < w.heap.size := by obtain ⟨n, D, h, _⟩ := h; exact h.lt
theorem KnM.kept {r : Option Nat} (h : KnM w mb F m) (hg : w.grownBy w' r) (hne : some mb ≠ r) : KnM w' mb F m := by obtain ⟨n, D, h, r⟩ := h; exact ⟨n, D, h.kept hg hne, r⟩
theorem KnM.ext (h : KnM w mb F m) (e : Ext w w') : KnM w' mb F m := h.kept (Gr.ext e none) (by simp)
theorem KnM.made (w : World) (F : Wire → Bool) : KnM (w.alloc (.map #[] 0)) w.heap.size F mark0 :=
  ⟨0, .map [], World.ownsMap_made _ _ _ _, by have := zeros0_le mark0 200; omega, fun x _ => by simp [Maps.has, mark0], fun x _ h => absurd rfl h⟩
/-- 'v, ok := known[w]' -/
theorem KnM.look (h : KnM w mb F m) {x : Wire} (hx : x.Ok) : ∃ c, (∀ n, (Instr.lookup 159 (.map (some mb)) (.agg #[.int .i64 x.1, .int .i64 x.2]) true).run Try.prog (w.drewN n) = .ok (.tuple #[.bool c, .bool (decide (m x.ix ≠ 0))]) (w.drewN n)) ∧ (m x.ix ≠ 0 → c = F x) := by
  obtain ⟨n, D, h, _, hh, ha⟩ := h
  have hkey : keyOf Try.prog 113 (.agg #[.int .i64 x.1, .int .i64 x.2]) = some (wKey x) := wKeyOf x hx
  obtain ⟨v, ps, hr, hv⟩ := h.look_ok wLaw bMapTy (bZero w) (bElem_of false) hkey
  obtain ⟨c, rfl, e⟩ := bElem_inv hv
  refine ⟨c, fun n => ?_, fun hm => ?_⟩
  · have h' := h.kept (Gr.ext (Ext.drewN w n) none) (by simp)
    obtain ⟨v, ps, hr, hv⟩ := h'.look_ok wLaw bMapTy (bZero _) (bElem_of false) hkey
    obtain ⟨c', rfl, e'⟩ := bElem_inv hv
    simp at e e'
    rw [e.1] at e'
    simp at e'
    rw [hr, hh x hx, e'.1]
  · rw [ha x hx hm] at e
    simp at e
    exact e.1.symm
theorem KnM.put {n : Nat} {D : DataW Unit} (h : w.ownsMap Try.prog 113 bElem mb n D) (hn : n + zeros0 m 200 ≤ 200) (hh : ∀ x : Wire, x.Ok → Maps.has D (wKey x) = decide (m x.ix ≠ 0)) (ha : ∀ x : Wire, x.Ok → m x.ix ≠ 0 → D.atKey (wKey x) (.lit (.bool false)) = .lit (.bool (F x)))
    {x : Wire} (hx : x.Ok) (h0 : m x.ix = 0) (h1 : w'.ownsMap Try.prog 113 bElem mb (n + 1) (D.put (wKey x) (.lit (.bool (F x))))) : KnM w' mb F (upd m x.ix 1) := by
  have hz := zeros0_dec m x.ix 1 (by decide) h0 200 hx.ix
  refine ⟨_, _, h1, by omega, fun y hy => ?_, fun y hy hm => ?_⟩
  · by_cases e : y = x
    · subst e; rw [has_put_same h.isMap (wKey_is hx), upd_same]; simp
    · rw [has_put_other (wKey_ne hy hx e), hh y hy, upd_ne _ _ (fun e2 => e (Wire.ix_inj hy hx e2))]
  · by_cases e : y = x
    · subst e; rw [atKey_put_same h.isMap (wKey_is hx)]
    · rw [upd_ne _ _ (fun e2 => e (Wire.ix_inj hy hx e2))] at hm
      rw [atKey_put_other (wKey_ne hy hx e), ha y hy hm]
end
end Go.Proofs.Ytkdiniaddnhkdaa
