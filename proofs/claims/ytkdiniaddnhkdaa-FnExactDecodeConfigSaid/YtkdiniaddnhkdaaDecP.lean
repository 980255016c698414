/- Bytes as they come in; a configuration with a flag, as the exact laws compare and mark it. -/
import Derived.Test.YtkdiniaddnhkdaaConfP
import Derived.Test.YtkdiniaddnhkdaaRepByt
import Derived.Test.YtkdiniaddnhkdaaRd
import Derived.Test.YtkdiniaddnhkdaaDecK
namespace Go.Proofs.Ytkdiniaddnhkdaa
open Go.ChangeShapes Go.WideShapes Go.ChangeAt Go.RowKit
set_option maxRecDepth 100000
set_option linter.unusedVariables false
set_option linter.unusedSimpArgs false
theorem RepByt.capOk {w : World} {b N n c : Nat} {a : Option Addr} {xs : List Int} (h : RepByt w b N (.slice a n c) xs) : xs.length ≤ c ∧ c ≤ maxLen := by
  obtain ⟨a', c', e, _, h2, h3, _⟩ := ownsRow_row h.own
  cases e
  exact ⟨by simpa using h2, h3⟩
/-- A slice of bytes as it comes in. -/
structure BytIn (w : World) (a : Option Addr) (c : Nat) (xs : List Int) : Prop where
  at_ : BytAt w a xs
  all : AllB xs
  le : xs.length ≤ c
  cap : c ≤ maxLen
theorem open_byt {H : Type} {enc : TypeId × Value → H} {w : World} {base : Nat} {spare : Nat → Bool} {held : Bool} {r : Reach} {b0 : Nat} {v : Value} {d : DataW H} {p : List MemPlace} (hv : Value.okWide Try.prog w r b0 38 v) (h : DataW.Trod enc Try.prog w base spare held 38 v d p) :
    ∃ a c xs, v = .slice a xs.length c ∧ BytIn w a c xs := by
  obtain ⟨a', l', c', rfl⟩ := okWide_slice Try.underlying38 hv
  obtain ⟨fuel, hf⟩ := h
  obtain ⟨a, c, xs, e, s, l, m⟩ := open_slice (E := EInt .u8) (sz := 1) Try.underlying38 (by kernel_rfl) (by decide) (dec_int Try.underlying5) (v := .slice a' l' c') (by simpa [Value.cells] using hf)
  refine ⟨a, c, xs, e, ?_, ?_, l, m⟩
  · rcases s with rfl | ⟨b, o, ha, hb, hc⟩
    · exact .inl rfl
    · refine .inr ⟨b, o, ha, hb, fun j hj => ?_⟩
      obtain ⟨cs, _, ⟨rfl, _⟩, h3⟩ := hc j _ (List.getElem?_eq_getElem hj)
      have := h3 0 (by omega)
      simpa [List.getD_eq_getElem?_getD, hj] using this
  · rcases s with rfl | ⟨b, o, ha, hb, hc⟩
    · exact .nil
    · intro x hx
      obtain ⟨j, hj, rfl⟩ := List.mem_iff_getElem.1 hx
      obtain ⟨cs, _, ⟨rfl, hw⟩, _⟩ := hc j _ (List.getElem?_eq_getElem hj)
      simp [Lit.wf, IntKind.min, IntKind.max, IntKind.bits, IntKind.signed] at hw
      refine ⟨by omega, ?_⟩
      have := hw.2
      omega
theorem decV_small (bs : List Int) : SmallK (decV bs) := by
  unfold decV
  split
  · refine ⟨by rw [show (pK bs).ts = pTs bs 25 from rfl, pTs_len]; omega, by rw [show (pK bs).ps = pPs bs 3 from rfl, pPs_len]; omega, confAt_pK_lens bs, ?_⟩
    show totM (pTs bs 25) ≤ _
    have h : ∀ n, totM (pTs bs n) ≤ 1000 * n := by
      intro n
      induction n with
      | zero => simp [pTs, totM]
      | succ n ih =>
        rw [pTs_succ, totM_append]
        have : totM [pT bs (13 * n)] ≤ 1000 := by simp [totM, szM, pT, getN_len]
        omega
    have := h 25
    omega
  · exact ⟨by simp [conf0], by simp [conf0], fun j hj => by simp [conf0] at hj, by simp [conf0, totM]⟩
theorem GiveConfB.rep' {w w' : World} {K : Conf} {fl : Bool} {e : Ending} (h : GiveKB w K fl e w') (hs : SmallK K := by assumption) : ∃ ta n tc pa m pc, e = .returned (.tuple #[.agg #[.slice ta n tc, .slice pa m pc], .bool fl]) ∧ RepConf w' w.heap.size w'.heap.size (.slice ta n tc) (.slice pa m pc) K ∧ Ext w w' := by
  obtain ⟨tv, pv, us, h1, h2, h3⟩ := h
  obtain ⟨ta, tc, pa, pc, rfl, rfl⟩ := h2.sl
  exact ⟨ta, _, tc, pa, _, pc, h1, ⟨⟨us, h2, fun q hq => (h2.blk hq).2⟩, hs⟩, h3⟩
end Go.Proofs.Ytkdiniaddnhkdaa
