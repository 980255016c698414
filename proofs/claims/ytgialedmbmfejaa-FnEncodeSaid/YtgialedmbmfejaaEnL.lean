/- Plain: what is decoded is what was encoded; a changed byte is not decoded. -/
import Derived.Test.YtgialedmbmfejaaBDec
namespace Go.Proofs.Ytgialedmbmfejaa
open Go.RowKit
set_option maxRecDepth 100000
set_option linter.unusedVariables false
set_option linter.unusedSimpArgs false
theorem encV_ok {K : Conf} (h : K.Ok) : encV K = bodyV K ++ [sumV (bodyV K) / 256, sumV (bodyV K) % 256] := by unfold encV; rw [if_pos (confB_true h)]
theorem encV_no {K : Conf} (h : confB K = false) : encV K = [] := by unfold encV; rw [if_neg (by rw [h]; decide)]
theorem encV_lenOk {K : Conf} (h : K.Ok) : (encV K).length = 333 := by
 have := h.body.2
 rw [encV_ok h, List.length_append, this]; rfl
theorem decB_iff {bs : List Int} : decB bs = true ↔ (pK bs).Ok ∧ encV (pK bs) = bs ∧ bs.length = 333 := by
 unfold decB
 constructor
 ·intro h
  simp only [Bool.and_eq_true, beq_iff_eq] at h
  refine ⟨?_, h.1, h.2⟩
  cases hc : confB (pK bs) with
  | true => exact confB_iff.1 hc
  | false =>
   have h1 := h.1
   rw [encV_no hc] at h1
   have h2 := h.2
   rw [← h1] at h2
   simp at h2
 ·intro h
  simp only [Bool.and_eq_true, beq_iff_eq]
  exact ⟨h.2.1, h.2.2⟩
/-! ### one byte changed -/
def stepS (s b : Int) : Int := (s * 257 + b + 1) % 65521
theorem stepS_lt (s b : Int) : 0 ≤ stepS s b ∧ stepS s b < 65521 := by unfold stepS; omega
theorem sum_inj : ∀ (ds : List Int) (s t : Int), 0 ≤ s → s < 65521 → 0 ≤ t → t < 65521 → ds.foldl stepS s = ds.foldl stepS t → s = t
 | [], s, t, _, _, _, _, h => h
 | d :: ds, s, t, s0, s1, t0, t1, h => by
  have := sum_inj ds _ _ (stepS_lt s d).1 (stepS_lt s d).2 (stepS_lt t d).1 (stepS_lt t d).2 h
  unfold stepS at this
  omega
theorem sum_set : ∀ (bs : List Int) (i : Nat) (z s : Int), 0 ≤ s → s < 65521 → AllB bs → 0 ≤ z → z < 256 → i < bs.length → (bs.set i z).foldl stepS s = bs.foldl stepS s → z = bs.getD i 0
 | [], i, z, s, _, _, _, _, _, hi, _ => by simp at hi
 | b :: bs, 0, z, s, s0, s1, hb, z0, z1, hi, h => by
  have h2 := sum_inj bs _ _ (stepS_lt s z).1 (stepS_lt s z).2 (stepS_lt s b).1 (stepS_lt s b).2 h
  obtain ⟨b0, b1⟩ := hb b (by simp)
  unfold stepS at h2
  show z = b
  omega
 | b :: bs, i + 1, z, s, s0, s1, hb, z0, z1, hi, h => by
  have := sum_set bs i z (stepS s b) (stepS_lt s b).1 (stepS_lt s b).2 (fun x hx => hb x (by simp [hx])) z0 z1 (by simpa using hi) h
  simpa using this
theorem dec_bent {K : Conf} (h : K.Ok) {i : Nat} {z : Int} (hi : i < 333) (z0 : 0 ≤ z) (z1 : z < 256) (hz : z ≠ (encV K).getD i 0) : decB ((encV K).set i z) = false := by
 cases hd : decB ((encV K).set i z) with
 | false => rfl
 | true =>
  exfalso
  obtain ⟨h1, h2, h3⟩ := decB_iff.1 hd
  obtain ⟨K', hK'⟩ : ∃ k, k = pK ((encV K).set i z) := ⟨_, rfl⟩
  rw [← hK'] at h1 h2
  clear hK' h3 hd
  rw [encV_ok h1, encV_ok h] at h2
  rw [encV_ok h] at hz
  obtain ⟨B, hB⟩ : ∃ b, b = bodyV K := ⟨_, rfl⟩
  obtain ⟨B', hB'⟩ : ∃ b, b = bodyV K' := ⟨_, rfl⟩
  have l1 := h.body
  have l2 := h1.body
  rw [← hB] at l1 h2 hz
  rw [← hB'] at l2 h2
  have s1 := sumV_lt B
  have s2 := sumV_lt B'
  by_cases hlt : i < 331
  ·rw [List.set_append_left _ _ (by omega)] at h2
   obtain ⟨e1, e2⟩ := List.append_inj h2 (by rw [List.length_set]; omega)
   simp only [List.cons.injEq, and_true] at e2
   have e3 : sumV B' = sumV B := by omega
   rw [e1] at e3
   have := sum_set B i z 1 (by decide) (by decide) l1.1 z0 z1 (by omega) e3
   rw [List.getD_eq_getElem?_getD, List.getElem?_append_left (by omega), ← List.getD_eq_getElem?_getD] at hz
   exact hz this
  ·rw [List.set_append_right _ _ (by omega)] at h2
   obtain ⟨e1, e2⟩ := List.append_inj h2 (by omega)
   rw [e1] at e2
   rw [List.getD_eq_getElem?_getD, List.getElem?_append_right (by omega)] at hz
   rw [l1.2] at e2 hz
   have hc : i - 331 = 0 ∨ i - 331 = 1 := by omega
   rcases hc with e | e
   ·rw [e] at e2 hz
    simp at e2 hz
    omega
   ·rw [e] at e2 hz
    simp at e2 hz
    omega
/-! ### decoding what was encoded -/
theorem encTs_get : ∀ (ts : List Tile) (R : List Int), (∀ x ∈ ts, (encT x).length = 13) → ∀ (i k : Nat), i < ts.length → k < 13 → (encTs ts ++ R).getD (13 * i + k) 0 = (encT (ts.getD i tile0)).getD k 0
 | [], R, _, i, k, hi, _ => by simp at hi
 | x :: ts, R, h, 0, k, hi, hk => by
  have h0 := h x (by simp)
  show (encT x ++ encTs ts ++ R).getD (13 * 0 + k) 0 = (encT x).getD k 0
  rw [List.append_assoc, Nat.mul_zero, Nat.zero_add, List.getD_eq_getElem?_getD, List.getElem?_append_left (by omega), ← List.getD_eq_getElem?_getD]
 | x :: ts, R, h, i + 1, k, hi, hk => by
  have h0 := h x (by simp)
  have ih := encTs_get ts R (fun y hy => h y (by simp [hy])) i k (by simpa using hi) hk
  show (encT x ++ encTs ts ++ R).getD (13 * (i + 1) + k) 0 = (encT (ts.getD i tile0)).getD k 0
  rw [List.append_assoc, List.getD_eq_getElem?_getD, List.getElem?_append_right (by omega), h0, show 13 * (i + 1) + k - 13 = 13 * i + k by omega, ← List.getD_eq_getElem?_getD]
  exact ih
theorem encPs_get : ∀ (ps : List (Int × Bool)) (R : List Int) (i : Nat), i < ps.length → (encPs ps ++ R).getD (2 * i) 0 = (ps.getD i (0, false)).1 ∧ (encPs ps ++ R).getD (2 * i + 1) 0 = flagV (ps.getD i (0, false)).2
 | [], R, i, hi => by simp at hi
 | x :: ps, R, 0, hi => ⟨rfl, rfl⟩
 | x :: ps, R, i + 1, hi => by
  have ih := encPs_get ps R i (by simpa using hi)
  have e1 : 2 * (i + 1) = 2 * i + 1 + 1 := by omega
  rw [e1]
  exact ih
theorem flagV_one (b : Bool) : (flagV b == 1) = b := by cases b <;> rfl
theorem three {xs : List Int} (h : xs.length = 3) : ∃ a b c, xs = [a, b, c] := by
 match xs, h with
 | [a, b, c], _ => exact ⟨a, b, c, rfl⟩
theorem eight {xs : List Int} (h : xs.length = 8) : ∃ a b c d e f g k, xs = [a, b, c, d, e, f, g, k] := by
 match xs, h with
 | [a, b, c, d, e, f, g, k], _ => exact ⟨a, b, c, d, e, f, g, k, rfl⟩
theorem pT_of {bs : List Int} {p : Nat} {x : Tile} (l1 : x.sl.length = 3) (l2 : x.dr.length = 8) (h : ∀ k, k < 13 → bs.getD (p + k) 0 = (encT x).getD k 0) : pT bs p = x := by
 obtain ⟨tb, sl, rg, dr⟩ := x
 obtain ⟨a, b, c, rfl⟩ := three l1
 obtain ⟨d0, d1, d2, d3, d4, d5, d6, d7, rfl⟩ := eight l2
 have h0 := h 0 (by omega)
 have h1 := h 1 (by omega)
 have h2 := h 2 (by omega)
 have h3 := h 3 (by omega)
 have h4 := h 4 (by omega)
 have h5 := h 5 (by omega)
 have h6 := h 6 (by omega)
 have h7 := h 7 (by omega)
 have h8 := h 8 (by omega)
 have h9 := h 9 (by omega)
 have h10 := h 10 (by omega)
 have h11 := h 11 (by omega)
 have h12 := h 12 (by omega)
 simp only [encT, List.cons_append, List.nil_append, List.getD_cons_zero, List.getD_cons_succ] at h0 h1 h2 h3 h4 h5 h6 h7 h8 h9 h10 h11 h12
 have r3 : List.range 3 = [0, 1, 2] := rfl
 have r8 : List.range 8 = [0, 1, 2, 3, 4, 5, 6, 7] := rfl
 simp only [pT, getN, r3, r8, List.map_cons, List.map_nil, Nat.add_zero, Nat.add_assoc, Nat.reduceAdd] at *
 rw [h0, h1, h2, h3, h4, h5, h6, h7, h8, h9, h10, h11, h12, flagV_one]
theorem pK_enc {K : Conf} (h : K.Ok) : pK (encV K) = K := by
 have hts : ∀ x ∈ K.ts, (encT x).length = 13 := fun x hx => by
  obtain ⟨j, hj, rfl⟩ := List.mem_iff_getElem.1 hx
  have := (h.tile (j := j) (by rw [h.lt] at hj; exact hj)).encT.2
  rwa [List.getD_eq_getElem?_getD, List.getElem?_eq_getElem hj] at this
 have lt := h.lt
 have lp := h.lp
 have hl : (encTs K.ts).length = 325 := by
  have := (h.encTs 25 (Nat.le_refl _)).2
  rwa [List.take_of_length_le (by rw [h.lt]; exact Nat.le_refl _)] at this
 have e : encV K = encTs K.ts ++ (encPs K.ps ++ [sumV (bodyV K) / 256, sumV (bodyV K) % 256]) := by rw [encV_ok h]; unfold bodyV; rw [List.append_assoc]
 have e1 : pTs (encV K) 25 = K.ts := by
  apply List.ext_getElem (by rw [pTs_len, lt])
  intro i h1 h2
  have hi : i < 25 := by rw [pTs_len] at h1; exact h1
  have ht := h.tile hi
  have e2 : (pTs (encV K) 25)[i]'h1 = pT (encV K) (13 * i) := by simp [pTs]
  have e3 : K.ts[i]'h2 = K.ts.getD i tile0 := by rw [List.getD_eq_getElem?_getD, List.getElem?_eq_getElem h2]; rfl
  rw [e2, e3]
  refine pT_of ht.ls ht.ld (fun k hk => ?_)
  rw [e]
  exact encTs_get K.ts _ hts i k h2 hk
 have e4 : pPs (encV K) 3 = K.ps := by
  apply List.ext_getElem (by rw [pPs_len, lp])
  intro i h1 h2
  have e2 : (pPs (encV K) 3)[i]'h1 = pP (encV K) (325 + 2 * i) := by simp [pPs]
  have e3 : K.ps[i]'h2 = K.ps.getD i (0, false) := by rw [List.getD_eq_getElem?_getD, List.getElem?_eq_getElem h2]; rfl
  obtain ⟨g1, g2⟩ := encPs_get K.ps [sumV (bodyV K) / 256, sumV (bodyV K) % 256] i h2
  have sh : ∀ k, (encV K).getD (325 + k) 0 = (encPs K.ps ++ [sumV (bodyV K) / 256, sumV (bodyV K) % 256]).getD k 0 := fun k => by
   rw [e, List.getD_eq_getElem?_getD, List.getElem?_append_right (by omega), hl, show 325 + k - 325 = k by omega, ← List.getD_eq_getElem?_getD]
  rw [e2, e3]
  unfold pP
  rw [sh, Nat.add_assoc, sh, g1, g2, flagV_one]
 obtain ⟨ts, ps⟩ := K
 show Conf.mk _ _ = _
 rw [e1, e4]
theorem dec_enc {K : Conf} (h : K.Ok) : decB (encV K) = true ∧ decV (encV K) = K := by
 have e := pK_enc h
 have hb : decB (encV K) = true := decB_iff.2 ⟨by rw [e]; exact h, by rw [e], encV_lenOk h⟩
 exact ⟨hb, by unfold decV; rw [hb, e]; rfl⟩
theorem decV_yes {bs : List Int} (h : decB bs = true) : decV bs = pK bs := by unfold decV; rw [h]; rfl
theorem decV_no {bs : List Int} (h : decB bs = false) : decV bs = conf0 := by unfold decV; rw [h]; rfl
end Go.Proofs.Ytgialedmbmfejaa
