/- How slices of any element type read; and how such a slice is opened, as it comes in. -/
import Derived.Test.YtgialedmbmfejaaFrame
import Derived.Lib.SmallJoins
namespace Go.Proofs.Ytgialedmbmfejaa
set_option maxRecDepth 100000
open Go.ChangeShapes Go.WideShapes Go.ChangeAt Go.RowKit
/-- A slice whose elements, of sz cells each, read as xs. -/
def SlAt {α : Type} (sz : Nat) (E : World → List Value → α → Prop) (w : World) (a : Option Addr) (xs : List α) : Prop :=
 xs = [] ∨ ∃ b o, a = some ⟨b, o, none⟩ ∧ b < w.heap.size ∧ ∀ j x, xs[j]? = some x → ∃ cs, cs.length = sz ∧ E w cs x ∧ ∀ k, k < sz → w.cell? ⟨b, o + j * sz + k, none⟩ = cs[k]?
theorem SlAt.ext {α : Type} {sz : Nat} {E : World → List Value → α → Prop} {w w' : World} {a : Option Addr} {xs : List α} (hE : ∀ cs x, E w cs x → E w' cs x) (h : SlAt sz E w a xs) (e : Ext w w') : SlAt sz E w' a xs := by
 rcases h with rfl | ⟨b, o, ha, hb, hc⟩
 ·exact .inl rfl
 ·refine .inr ⟨b, o, ha, Nat.lt_of_lt_of_le hb e.size, fun j x hj => ?_⟩
  obtain ⟨cs, h1, h2, h3⟩ := hc j x hj
  exact ⟨cs, h1, hE _ _ h2, fun k hk => ((ecell e).1 b _ hb).trans (h3 k hk)⟩
theorem exists_list {α : Type} {p : Nat → α → Prop} : ∀ n, (∀ i, i < n → ∃ x, p i x) → ∃ xs : List α, xs.length = n ∧ ∀ i x, xs[i]? = some x → p i x
 | 0, _ => ⟨[], rfl, fun i x h => by simp at h⟩
 | n + 1, h => by
  obtain ⟨xs, h1, h2⟩ := exists_list n (fun i hi => h i (by omega))
  obtain ⟨x, hx⟩ := h n (by omega)
  refine ⟨xs ++ [x], by simp [h1], fun i y hy => ?_⟩
  rcases Nat.lt_or_ge i n with hi | hi
  ·rw [List.getElem?_append_left (by omega)] at hy
   exact h2 i y hy
  ·rw [List.getElem?_append_right (by omega)] at hy
   have : i - xs.length = 0 := by
    rcases Nat.eq_zero_or_pos (i - xs.length) with h | h
    ·exact h
    ·rw [List.getElem?_eq_none (by simp; omega)] at hy; cases hy
   rw [this] at hy
   simp at hy
   subst hy
   have : i = n := by omega
   subst this
   exact hx
section
variable {H : Type} {enc : TypeId × Value → H} {P : Program} {w : World} {base : Nat} {spare : Nat → Bool} {held : Bool}
theorem open_slice {α : Type} {E : World → List Value → α → Prop} {sz : Nat} {t e : TypeId} {fuel : Nat} {v : Value} {x : DataW H × List MemPlace} (ht : P.underlying t = some (.slice e)) (hsz : P.cellsOf e = sz) (h0 : 0 < sz)
  (dec : ∀ n cs y, DataW.trod enc P w base spare held n e cs = some y → ∃ x, E w cs x) (h : DataW.trod enc P w base spare held fuel t [v] = some x) :
  ∃ a c xs, v = .slice a xs.length c ∧ SlAt sz E w a xs ∧ xs.length ≤ c ∧ c ≤ maxLen := by
 rcases DataW.trod_slice ht h with ⟨h1, _⟩ | ⟨a, len, cap, elems, rest, n, _, h1, _, hb, hl, hm, hlen, hel, _, _⟩
 ·simp at h1; subst h1
  exact ⟨none, 0, [], rfl, .inl rfl, Nat.le_refl _, by decide⟩
 ·simp at h1; subst h1
  have each : ∀ i, i < len → ∃ x, ∃ cs, cs.length = sz ∧ E w cs x ∧ ∀ k, k < sz → w.cell? ((a.add (i * sz)).add k) = cs[k]? := by
   intro i hi
   have h2 := hel i hi
   rw [List.getElem?_eq_getElem (by omega), Option.bind_eq_some_iff, hsz] at h2
   obtain ⟨cs, h3, h4⟩ := h2
   obtain ⟨x, hx⟩ := dec _ _ _ h4
   obtain ⟨_, h5, h6⟩ := World.cells?_some h3
   exact ⟨x, cs, h5, hx, h6⟩
  obtain ⟨xs, hx1, hx2⟩ := exists_list len each
  refine ⟨some a, cap, xs, by rw [hx1], ?_, by omega, hm⟩
  rcases Nat.eq_zero_or_pos len with hz | hz
  ·left; exact List.eq_nil_of_length_eq_zero (by omega)
  right
  obtain ⟨b, o, k⟩ := a
  have hk : b < w.heap.size ∧ k = none := by
   obtain ⟨cs, q1, _, q3⟩ := hx2 0 (xs[0]'(by omega)) (List.getElem?_eq_getElem (by omega))
   have := q3 0 h0
   rw [Nat.zero_mul, List.getElem?_eq_getElem (by omega)] at this
   exact cell_in (w := w) (b := b) (o := o) (k := k) (by simpa [Addr.add] using this)
  obtain ⟨hlt, rfl⟩ := hk
  refine ⟨b, o, rfl, hlt, fun j x hj => ?_⟩
  obtain ⟨cs, q1, q2, q3⟩ := hx2 j x hj
  refine ⟨cs, q1, q2, fun k hk => ?_⟩
  have := q3 k hk
  rwa [add_plain, add_plain] at this
def EInt (k : IntKind) (_ : World) (cs : List Value) (x : Int) : Prop := cs = [.int k x] ∧ (Lit.int k x).wf = true
def EBool (_ : World) (cs : List Value) (x : Bool) : Prop := cs = [.bool x]
theorem dec_int {k : IntKind} {e : TypeId} (he : P.underlying e = some (.int k)) : ∀ n cs y, DataW.trod enc P w base spare held n e cs = some y → ∃ x, EInt k w cs x := by
 intro n cs y h
 obtain ⟨m, h1, _, h2⟩ := DataW.trod_int he h
 exact ⟨m, h1, h2⟩
theorem dec_bool {e : TypeId} (he : P.underlying e = some .bool) : ∀ n cs y, DataW.trod enc P w base spare held n e cs = some y → ∃ x, EBool w cs x := by
 intro n cs y h
 obtain ⟨m, h1, _⟩ := DataW.trod_bool he h
 exact ⟨m, h1⟩
end
theorem SlAt.ints {w : World} {a : Option Addr} {xs : List Int} (h : SlAt 1 (EInt .i64) w a xs) : IntsAt w a xs := by
 rcases h with rfl | ⟨b, o, ha, hb, hc⟩
 ·exact .inl rfl
 ·refine .inr ⟨b, o, ha, hb, fun j hj => ?_⟩
  obtain ⟨cs, _, ⟨rfl, _⟩, h3⟩ := hc j _ (List.getElem?_eq_getElem hj)
  have := h3 0 (by omega)
  simpa [List.getD_eq_getElem?_getD, hj] using this
theorem SlAt.bools {w : World} {a : Option Addr} {xs : List Bool} (h : SlAt 1 EBool w a xs) : BoolsAt w a xs := by
 rcases h with rfl | ⟨b, o, ha, hb, hc⟩
 ·exact .inl rfl
 ·refine .inr ⟨b, o, ha, hb, fun j hj => ?_⟩
  obtain ⟨cs, _, h2, h3⟩ := hc j _ (List.getElem?_eq_getElem hj)
  have h2' : cs = _ := h2
  subst h2'
  have := h3 0 (by omega)
  simpa [List.getD_eq_getElem?_getD, hj] using this
/-- A slice of truth values as it comes in. -/
structure BoolsIn (w : World) (a : Option Addr) (c : Nat) (xs : List Bool) : Prop where
 at_ : BoolsAt w a xs
 le : xs.length ≤ c
 cap : c ≤ maxLen
theorem open_bools {H : Type} {enc : TypeId × Value → H} {w : World} {base : Nat} {spare : Nat → Bool} {held : Bool} {r : Reach} {b0 : Nat} {v : Value} {d : DataW H} {p : List MemPlace} (hv : Value.okWide Try.prog w r b0 65 v) (h : DataW.Trod enc Try.prog w base spare held 65 v d p) :
  ∃ a c xs, v = .slice a xs.length c ∧ BoolsIn w a c xs := by
 obtain ⟨a', l', c', rfl⟩ := okWide_slice Try.underlying65 hv
 obtain ⟨fuel, hf⟩ := h
 obtain ⟨a, c, xs, e, s, l, m⟩ := open_slice (E := EBool) (sz := 1) Try.underlying65 (by kernel_rfl) (by decide) (dec_bool Try.underlying4) (v := .slice a' l' c') (by simpa [Value.cells] using hf)
 exact ⟨a, c, xs, e, s.bools, l, m⟩
end Go.Proofs.Ytgialedmbmfejaa
