/- A stuck variable, as plain lists. -/
import Derived.Test.YtlkfhcigpkfhnaaRes
namespace Go.Proofs.Ytlkfhcigpkfhnaa
open Go.RowKit
set_option linter.unusedVariables false
set_option linter.unusedSimpArgs false
theorem foldl_s_pre (s : Int) (b : Bool) (gs : List (Int × Int)) : ∀ (l : List Bool) (i : Nat), i < l.length → (gs.foldl (sStep s b) l).getD i false = l.getD i false := by
  induction gs with
  | nil => intro l i h; rfl
  | cons g gs ih =>
    intro l i h
    simp only [List.foldl_cons]
    rw [ih _ _ (by simp [sStep]; omega)]
    exact getD_append_left _ _ _ _ h
theorem foldl_same (s : Nat) (b : Bool) (gs : List (Int × Int)) : ∀ l : List Bool, (l.length ≤ s → s < l.length + gs.length → (gs.foldl (sStep (-1) false) l).getD s false = b) → gs.foldl (sStep (s : Int) b) l = gs.foldl (sStep (-1) false) l := by
  induction gs with
  | nil => intro l _; rfl
  | cons g gs ih =>
    intro l h
    simp only [List.foldl_cons, List.length_cons] at h ⊢
    have e : sStep (s : Int) b l g = sStep (-1) false l g := by
      unfold sStep
      rw [if_neg (by omega : ¬ ((l.length : Int) = -1))]
      by_cases he : (l.length : Int) = (s : Int)
      · rw [if_pos he]
        have hs : l.length = s := by omega
        have := h (by omega) (by omega)
        rw [foldl_s_pre _ _ _ _ _ (by simp [sStep]; omega)] at this
        unfold sStep at this
        rw [if_neg (by omega : ¬ ((l.length : Int) = -1)), ← hs] at this
        simp [List.getD_eq_getElem?_getD] at this
        rw [← this]
      · rw [if_neg he]
    rw [e]
    apply ih
    intro h1 h2
    have hl : (sStep (-1) false l g).length = l.length + 1 := by simp [sStep]
    exact h (by omega) (by omega)
theorem set_same {l : List Bool} {s : Nat} {b : Bool} (h : s < l.length → l.getD s false = b) : l.set s b = l := by
  apply List.ext_getElem?
  intro i
  rw [List.getElem?_set]
  by_cases hi : s = i
  · subst hi
    by_cases hl : s < l.length
    · have := h hl
      rw [List.getD_eq_getElem?_getD, List.getElem?_eq_getElem hl] at this
      simp at this
      simp [hl, this]
    · first | (simp [hl]; done) | (simp [hl]; omega)
  · simp [hi]
/-- A variable that has the stuck value anyhow. -/
theorem stuck_same (s : Nat) (b : Bool) (ins st : List Bool) (gs : List (Int × Int)) (hs : s < 1 + ins.length + st.length + gs.length) (h : (valsOf ins st gs).getD s false = b) : sVals s b ins st gs = valsOf ins st gs := by
  unfold valsOf sVals at *
  have h0 : base0 (-1) false ins st = vals0 ins st := by unfold base0; rw [if_neg (by omega)]
  have hl : (vals0 ins st).length = 1 + ins.length + st.length := by simp [vals0]; omega
  rw [h0] at h ⊢
  have e : base0 (s : Int) b ins st = vals0 ins st := by
    unfold base0
    rw [if_pos (by omega), Int.toNat_natCast]
    apply set_same
    intro hlt
    rw [foldl_s_pre _ _ _ _ _ hlt] at h
    exact h
  rw [e]
  exact foldl_same s b gs _ (fun _ _ => h)
theorem foldl_at (s : Nat) (b : Bool) (gs : List (Int × Int)) : ∀ l : List Bool, s < l.length + gs.length → (s < l.length → l.getD s false = b) → (gs.foldl (sStep (s : Int) b) l).getD s false = b := by
  induction gs with
  | nil => intro l h h2; exact h2 (by simpa using h)
  | cons g gs ih =>
    intro l h h2
    simp only [List.foldl_cons, List.length_cons] at h ⊢
    have hl : (sStep (s : Int) b l g).length = l.length + 1 := by simp [sStep]
    apply ih
    · omega
    · intro h3
      rcases Nat.lt_or_ge s l.length with h4 | h4
      · unfold sStep
        rw [getD_append_left _ _ _ _ h4]; exact h2 h4
      · have : l.length = s := by omega
        unfold sStep
        rw [if_pos (by omega), ← this]
        simp [List.getD_eq_getElem?_getD]
theorem stuck_at (s : Nat) (b : Bool) (ins st : List Bool) (gs : List (Int × Int)) (hs : s < 1 + ins.length + st.length + gs.length) : (sVals s b ins st gs).getD s false = b := by
  unfold sVals
  have hl : (base0 (s : Int) b ins st).length = 1 + ins.length + st.length := base0_length _ _ _ _
  apply foldl_at
  · omega
  · intro h
    have hl2 : (vals0 ins st).length = 1 + ins.length + st.length := by simp [vals0]; omega
    unfold base0
    rw [if_pos (by omega), Int.toNat_natCast, List.getD_eq_getElem?_getD, List.getElem?_set, if_pos rfl, if_pos (by omega)]
    rfl
theorem detV_stuck (c : Circ) (s : Nat) (b : Bool) (x : Nat) (hs : s < 1 + (inB c x).length + (stB c x).length + c.gates.length) (h : (valsOf (inB c x) (stB c x) c.gates).getD s false = b) : detV c s b x = false := by
  have e := stuck_same s b (inB c x) (stB c x) c.gates hs h
  unfold detV resV
  rw [e]
  unfold valsOf; simp
/-- An output that is the stuck variable shows it. -/
theorem detV_direct (c : Circ) (s : Nat) (b : Bool) (x : Nat) (hs : s < 1 + (inB c x).length + (stB c x).length + c.gates.length) (h : (valsOf (inB c x) (stB c x) c.gates).getD s false ≠ b) (i : Nat) (hi : i < c.outs.length) (hd : c.outs.getD i 0 / 2 = (s : Int)) : detV c s b x = true := by
  have e := stuck_at s b (inB c x) (stB c x) c.gates hs
  unfold detV
  rw [bne_iff_ne]
  intro heq
  unfold resV litsV at heq
  have h2 := congrArg (fun l => l[c.next.length + i]?) heq
  simp only [List.getElem?_map] at h2
  rw [List.getElem?_append_right (by omega)] at h2
  have hsub : c.next.length + i - c.next.length = i := by omega
  rw [hsub, List.getElem?_eq_getElem hi] at h2
  simp only [Option.map_some, Option.some.injEq] at h2
  have hg : c.outs.getD i 0 = c.outs[i] := by simp [List.getD_eq_getElem?_getD, hi]
  rw [hg] at hd
  unfold litV at h2
  rw [hd, Int.toNat_natCast] at h2
  rw [e] at h2
  have h' : (sVals (-1) false (inB c x) (stB c x) c.gates).getD s false ≠ b := h
  revert h2 h'
  cases (sVals (-1) false (inB c x) (stB c x) c.gates).getD s false <;> cases b <;> cases (c.outs[i] % 2 == 1) <;> simp
end Go.Proofs.Ytlkfhcigpkfhnaa
