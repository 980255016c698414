/- The exact law of RunBitstream. No condition. -/
import Derived.Test.YtkdiniaddnhkdaaBitI
import Derived.Test.YtkdiniaddnhkdaaFrame
import Derived.Test.YtkdiniaddnhkdaaConfQ
import Derived.Test.YtkdiniaddnhkdaaConfS
import Derived.Test.YtkdiniaddnhkdaaConfU
import Derived.Test.YtkdiniaddnhkdaaRowB
import Derived.Test.YtkdiniaddnhkdaaRepB
import Derived.Test.YtkdiniaddnhkdaaExInt
import Derived.Test.YtkdiniaddnhkdaaRd
import Derived.Test.YtkdiniaddnhkdaaRegion
import Derived.Test.YtkdiniaddnhkdaaByt
import Derived.Test.YtkdiniaddnhkdaaBDec
namespace Go.Proofs.Ytkdiniaddnhkdaa
open Go.RowKit
set_option maxRecDepth 100000
set_option linter.unusedVariables false
set_option linter.unusedSimpArgs false
theorem OwnK.blk {w : World} {base : Nat} {tv pv : Value} {us : List Value} {K : Conf} (h : OwnK w base tv pv us K) {q : Nat} (hq : BlkK tv pv us K.ts.length q) : base ≤ q ∧ q < w.heap.size := by
  rcases hq with h1 | h1
  · exact h.ts.blk h1
  · exact World.ownsRow.lt h.ps q h1
theorem OwnK.only {S : Nat → Prop} {w w' : World} {base : Nat} {tv pv : Value} {us : List Value} {K : Conf} (h : OwnK w base tv pv us K) (m : OnlyIn S w w') (hs : ∀ q, BlkK tv pv us K.ts.length q → ¬ S q) : OwnK w' base tv pv us K :=
  { h with
    ts := { h.ts with
      row := ownsRow_only h.ts.row m (fun q hq => hs q (.inl (.inl hq)))
      els := { h.ts.els with el := fun j hj => ownsRow_only (h.ts.els.el j hj) m (fun q hq => hs q (.inl (.inr ⟨j, by rw [flT_length] at hj; exact hj, hq⟩))) } }
    ps := ownsRow_only h.ps m (fun q hq => hs q (.inr hq)) }
theorem OnlyIn.ofMid {b N : Nat} {w w' : World} (h : Mid b N w w') : OnlyIn (fun q => b ≤ q ∧ q < N) w w' :=
  ⟨h.os, h.tape, h.output, h.size, fun k hk hn => h.block k hk (by omega)⟩
theorem ConfIn.ext {w w' : World} {k : Conf} {ta pa : Option Addr} {tc pc : Nat} (h : ConfIn w k ta tc pa pc) (e : Ext w w') : ConfIn w' k ta tc pa pc := { h with ts := h.ts.ext e, ps := h.ps.ext e }
structure SmallK (K : Conf) : Prop where
  lt : K.ts.length ≤ 1048576
  lp : K.ps.length ≤ 1048576
  ls : ∀ j, j < K.ts.length → (K.ts.getD j tile0).sl.length ≤ 1048576 ∧ (K.ts.getD j tile0).dr.length ≤ 1048576
  tm : totM K.ts ≤ 10000000
theorem szTl_tot : ∀ (ts : List Tile) (l : Int), ¬ szTl ts l < 0 → (totM ts : Int) ≤ 2 * ts.length + (l - szTl ts l)
  | [], l, _ => by simp [totM, szTl]
  | x :: xs, l, h => by
    unfold szTl at *
    split at h <;> rename_i h1
    · omega
    · rw [if_neg h1]
      have h2 := szT_ok h1
      have h3 := szTl_tot xs (szT x l) h
      have e : totM (x :: xs) = szM x + totM xs := rfl
      rw [e]; unfold szM
      simp only [List.length_cons]
      omega
theorem szK_small {k : Conf} {l : Int} (h : ¬ szK k l < 0) (hl : l ≤ 1048576) : SmallK k ∧ 0 ≤ szK k l ∧ szK k l ≤ l := by
  obtain ⟨a, b, c, d, e⟩ := szK_ok h hl
  refine ⟨⟨c, d, e, ?_⟩, a, b⟩
  unfold szK at h
  split at h <;> rename_i h1
  · omega
  · unfold szTs at h1 h
    split at h1 <;> rename_i h3
    · omega
    · have h4 := szTl_ok k.ts _ (by omega) h1
      have h5 := szTl_tot k.ts _ h1
      omega
structure RepConf (w : World) (b N : Nat) (tv pv : Value) (K : Conf) : Prop where
  ex : ∃ us, OwnK w b tv pv us K ∧ ∀ q, BlkK tv pv us K.ts.length q → q < N
  s : SmallK K
section
variable {w w' : World} {b b2 N : Nat} {tv pv : Value} {K : Conf}
theorem RepConf.ext (h : RepConf w b N tv pv K) (e : Ext w w') : RepConf w' b N tv pv K := by
  obtain ⟨⟨us, h1, h2⟩, h3⟩ := h
  exact ⟨⟨us, h1.ext e, h2⟩, h3⟩
theorem RepConf.le (h : RepConf w b N tv pv K) (hb : b2 ≤ b) : RepConf w b2 N tv pv K := by
  obtain ⟨⟨us, h1, h2⟩, h3⟩ := h
  exact ⟨⟨us, h1.le hb, h2⟩, h3⟩
theorem RepConf.hi {n m : Nat} (h : RepConf w b N tv pv K) (g : Mid n m w w') (hb : m ≤ b) : RepConf w' b N tv pv K := by
  obtain ⟨⟨us, h1, h2⟩, h3⟩ := h
  exact ⟨⟨us, h1.only (OnlyIn.ofMid g) (fun q hq e => by have := (h1.blk hq).1; omega), h2⟩, h3⟩
theorem RepConf.mid {n m : Nat} (h : RepConf w b N tv pv K) (g : Mid n m w w') (hb : b < n ∨ m ≤ b) (hx : m ≤ b := by omega) : RepConf w' b N tv pv K := h.hi g hx
theorem RepConf.sl (h : RepConf w b N tv pv K) : ∃ ta tc pa pc, tv = .slice ta K.ts.length tc ∧ pv = .slice pa K.ps.length pc := by
  obtain ⟨⟨us, h1, h2⟩, h3⟩ := h
  exact h1.sl
theorem RepConf.at_ {ta pa : Option Addr} {n m tc pc : Nat} (h : RepConf w b N (.slice ta n tc) (.slice pa m pc) K) : ConfAt w K ta pa := by
  obtain ⟨⟨us, h1, h2⟩, h3⟩ := h
  exact h1.at_ h3.lt h3.lp h3.ls
theorem GiveConf.rep {e : Ending} (h : GiveK w K e w') (hs : SmallK K := by assumption) : ∃ ta n tc pa m pc, e = .returned (.agg #[.slice ta n tc, .slice pa m pc]) ∧ RepConf w' w.heap.size w'.heap.size (.slice ta n tc) (.slice pa m pc) K ∧ Ext w w' := by
  obtain ⟨tv, pv, us, h1, h2, h3⟩ := h
  obtain ⟨ta, tc, pa, pc, rfl, rfl⟩ := h2.sl
  exact ⟨ta, _, tc, pa, _, pc, h1, ⟨⟨us, h2, fun q hq => (h2.blk hq).2⟩, hs⟩, h3⟩
theorem toConfig_r (K : Conf) (ta pa : Option Addr) (tc pc : Nat) (w : World) (hk : ConfAt w K ta pa) (hs : SmallK K) :
    Calls Try.prog 19 #[.agg #[.slice ta K.ts.length tc, .slice pa K.ps.length pc]] w fun e w' => ∃ ta' tc' pa' pc', e = .returned (.agg #[.slice ta' K.ts.length tc', .slice pa' K.ps.length pc']) ∧ RepConf w' w.heap.size w'.heap.size (.slice ta' K.ts.length tc') (.slice pa' K.ps.length pc') K ∧ Ext w w' := by
  refine (toConfig_c K ta pa tc pc w hk).mono ?_
  rintro e w' ⟨tv, pv, us, rfl, h2, h3⟩
  obtain ⟨ta', tc', pa', pc', rfl, rfl⟩ := h2.sl
  exact ⟨ta', tc', pa', pc', rfl, ⟨⟨us, h2, fun q hq => (h2.blk hq).2⟩, hs⟩, h3⟩
theorem eqConfig_R {b3 N3 : Nat} {ta pa ta' pa' : Option Addr} {n m tc pc n' m' tc' pc' : Nat} (h : RepConf w b N (.slice ta n tc) (.slice pa m pc) K) (h' : RepConf w b3 N3 (.slice ta' n' tc') (.slice pa' m' pc') K) :
    Calls Try.prog 14 #[.agg #[.slice ta n tc, .slice pa m pc], .agg #[.slice ta' n' tc', .slice pa' m' pc']] w fun e w' => e = .returned (.bool true) ∧ Ext w w' := by
  obtain ⟨_, _, _, _, e1, e2⟩ := h.sl
  obtain ⟨_, _, _, _, e3, e4⟩ := h'.sl
  cases e1; cases e2; cases e3; cases e4
  exact eqConfig_c K _ _ _ _ _ _ _ _ w h.at_ h'.at_
theorem markConfig_k {ta pa : Option Addr} {n m tc pc : Nat} (h : RepConf w b N (.slice ta n tc) (.slice pa m pc) K) (k : Int) (h0 : 0 ≤ k) (h1 : k ≤ 50000000) :
    Calls Try.prog 15 #[.agg #[.slice ta n tc, .slice pa m pc], .int .i64 k] w fun e w' => (∃ k', e = .returned (.int .i64 k') ∧ k ≤ k' ∧ k' ≤ k + 20000000) ∧ Mid b N w w' := by
  obtain ⟨_, _, _, _, e1, e2⟩ := h.sl
  cases e1; cases e2
  obtain ⟨⟨us, g1, g2⟩, g3⟩ := h
  have := g3.tm; have := g3.lp
  refine (markConfig_c b ta pa tc pc us K k w g1 h0 (by omega) g3.lt g3.lp g3.ls).mono ?_
  rintro e w' ⟨rfl, o, m⟩
  exact ⟨⟨_, rfl, by omega, by omega⟩, m.mid (fun q hq => ⟨(g1.blk hq).1, g2 q hq⟩)⟩
def MkConf (w : World) (tv pv : Value) (km : Int) : Prop := ∃ K, km = 1 + totM K.ts + 2 * K.ps.length ∧ (∃ ta tc pa pc, tv = .slice ta K.ts.length tc ∧ pv = .slice pa K.ps.length pc ∧ TilesAt w ta (mkTs 1 K.ts) ∧ PadsAt w pa (mksP (1 + totM K.ts) K.ps.length)) ∧ SmallK K
theorem MkConf.ext {k : Int} (h : MkConf w tv pv k) (e : Ext w w') : MkConf w' tv pv k := by
  obtain ⟨K, h1, ⟨ta, tc, pa, pc, e1, e2, h2, h3⟩, h4⟩ := h
  exact ⟨K, h1, ⟨ta, tc, pa, pc, e1, e2, h2.ext e, h3.ext e⟩, h4⟩
theorem MkConf.kb {k : Int} (h : MkConf w tv pv k) : 0 ≤ k ∧ k ≤ 100000000 := by
  obtain ⟨K, rfl, _, h4⟩ := h
  have := h4.tm; have := h4.lp
  omega
theorem markConf_R {ta pa : Option Addr} {n m tc pc : Nat} (h : RepConf w b N (.slice ta n tc) (.slice pa m pc) K) : Calls Try.prog 15 #[.agg #[.slice ta n tc, .slice pa m pc], .int .i64 1] w fun e w' => ∃ km, e = .returned (.int .i64 km) ∧ MkConf w' (.slice ta n tc) (.slice pa m pc) km ∧ Mid b N w w' := by
  obtain ⟨_, _, _, _, e1, e2⟩ := h.sl
  cases e1; cases e2
  obtain ⟨⟨us, g1, g2⟩, g3⟩ := h
  have := g3.tm; have := g3.lp
  refine (markConfig_c b ta pa tc pc us K 1 w g1 (by omega) (by omega) g3.lt g3.lp g3.ls).mono ?_
  rintro e w' ⟨rfl, o, m⟩
  refine ⟨_, rfl, ⟨K, rfl, ⟨_, _, _, _, rfl, rfl, o.ts.tiles, ?_⟩, g3⟩, m.mid (fun q hq => ⟨(g1.blk hq).1, g2 q hq⟩)⟩
  have hps := o.ps
  rw [show (mkK 1 K).ps.length = K.ps.length from mksP_length _ _] at hps
  exact padsAt_of_row (ownsRow_at hps)
theorem heldConf_R {ta pa : Option Addr} {n m tc pc : Nat} {km : Int} (h : MkConf w (.slice ta n tc) (.slice pa m pc) km) : Calls Try.prog 16 #[.agg #[.slice ta n tc, .slice pa m pc], .int .i64 1] w fun e w' => e = .returned (.int .i64 km) ∧ Ext w w' := by
  obtain ⟨K, rfl, ⟨_, _, _, _, e1, e2, h2, h3⟩, h4⟩ := h
  cases e1; cases e2
  have := h4.tm; have := h4.lp
  exact heldConfig_c ta pa tc pc K 1 w h2 h3 (by omega) (by omega) h4.lt h4.lp h4.ls
end
end Go.Proofs.Ytkdiniaddnhkdaa

namespace Go.Proofs.Ytkdiniaddnhkdaa
open Go.ChangeShapes Go.WideShapes Go.ChangeAt Go.RowKit
set_option maxRecDepth 100000
set_option linter.unusedVariables false
set_option linter.unusedSimpArgs false
/-! ### As it comes in -/
structure RowsIn (w : World) (a : Option Addr) (c : Nat) (xss : List (List Bool)) : Prop where
  at_ : RowsAt w a xss
  le : xss.length ≤ c
  cap : c ≤ maxLen
  rl : ∀ j, j < xss.length → (xss.getD j []).length ≤ maxLen
def ERow (w : World) (cs : List Value) (x : List Bool) : Prop := ∃ a c, cs = [.slice a x.length c] ∧ BoolsAt w a x ∧ x.length ≤ maxLen
theorem dec_row {H : Type} {enc : TypeId × Value → H} {w : World} {base : Nat} {spare : Nat → Bool} {held : Bool} : ∀ n cs y, DataW.trod enc Try.prog w base spare held n 59 cs = some y → ∃ x, ERow w cs x := by
  intro n cs y h
  obtain ⟨v, rfl⟩ : ∃ v, cs = [v] := by
    rcases DataW.trod_slice Try.underlying59 h with ⟨h1, _⟩ | ⟨a, len, cap, elems, rest, n, _, h1, _⟩
    · exact ⟨_, h1⟩
    · exact ⟨_, h1⟩
  obtain ⟨a, c, xs, e, s, l, m⟩ := open_slice (E := EBool) (sz := 1) Try.underlying59 (by kernel_rfl) (by decide) (dec_bool Try.underlying4) h
  exact ⟨xs, a, c, by rw [e], s.bools, by omega⟩
theorem open_grid {H : Type} {enc : TypeId × Value → H} {w : World} {base : Nat} {spare : Nat → Bool} {held : Bool} {r : Reach} {b0 : Nat} {v : Value} {d : DataW H} {p : List MemPlace} (hv : Value.okWide Try.prog w r b0 76 v) (h : DataW.Trod enc Try.prog w base spare held 76 v d p) :
    ∃ a c xss, v = .slice a xss.length c ∧ RowsIn w a c xss := by
  obtain ⟨a', l', c', rfl⟩ := okWide_slice Try.underlying76 hv
  obtain ⟨fuel, hf⟩ := h
  obtain ⟨a, c, xss, e, s, l, m⟩ := open_slice (E := ERow) (sz := 1) Try.underlying76 (by kernel_rfl) (by decide) dec_row (v := .slice a' l' c') (by simpa [Value.cells] using hf)
  refine ⟨a, c, xss, e, ?_, l, m, ?_⟩
  · rcases s with rfl | ⟨b, o, ha, hb, hc⟩
    · exact .inl rfl
    · refine .inr ⟨b, o, ha, hb, fun j hj => ?_⟩
      obtain ⟨cs, _, ⟨aj, cj, rfl, hA, _⟩, h3⟩ := hc j _ (List.getElem?_eq_getElem hj)
      have := h3 0 (by omega)
      have hx : xss.getD j [] = xss[j] := by rw [List.getD_eq_getElem?_getD, List.getElem?_eq_getElem hj]; rfl
      rw [hx]
      exact ⟨aj, cj, by simpa using this, hA⟩
  · intro j hj
    rcases s with rfl | ⟨b, o, ha, hb, hc⟩
    · simp at hj
    · obtain ⟨cs, _, ⟨aj, cj, _, _, hl⟩, _⟩ := hc j _ (List.getElem?_eq_getElem hj)
      have hx : xss.getD j [] = xss[j] := by rw [List.getD_eq_getElem?_getD, List.getElem?_eq_getElem hj]; rfl
      rw [hx]; exact hl
theorem drop_getDR {α : Type} (xs : List α) (k : Nat) (d : α) (h : k < xs.length) : xs.drop k = xs.getD k d :: xs.drop (k + 1) := by
  rw [List.drop_eq_getElem_cons h, List.getD_eq_getElem?_getD, List.getElem?_eq_getElem h]; rfl
/-! ### Sizes -/
def szRs : List (List Bool) → Int → Int
  | [], l => l
  | r :: rs, l => if l - (r.length : Int) < 0 then -1 else szRs rs (l - r.length)
def szR (xss : List (List Bool)) (l : Int) : Int := if l - (xss.length : Int) < 0 then -1 else szRs xss (l - xss.length)
def tot (xss : List (List Bool)) : Nat := xss.foldr (fun r n => r.length + n) 0
theorem szRs_ok : ∀ (xss : List (List Bool)) (l : Int), 0 ≤ l → ¬ szRs xss l < 0 → (tot xss : Int) ≤ l
  | [], l, h0, _ => by simpa [tot] using h0
  | r :: rs, l, h0, h => by
    unfold szRs at h
    split at h
    · omega
    · have := szRs_ok rs (l - r.length) (by omega) h
      have e : tot (r :: rs) = r.length + tot rs := rfl
      rw [e]; omega
theorem tot_row (xss : List (List Bool)) : ∀ j, j < xss.length → (xss.getD j []).length ≤ tot xss := by
  induction xss with
  | nil => intro j hj; simp at hj
  | cons r rs ih =>
    intro j hj
    have e : tot (r :: rs) = r.length + tot rs := rfl
    cases j with
    | zero => simp [e]
    | succ j => have := ih j (by simpa using hj); simp only [List.getD_cons_succ]; omega
theorem szR_ok {xss : List (List Bool)} {l : Int} (h : ¬ szR xss l < 0) (hl : l ≤ 1048576) : xss.length ≤ 1048576 ∧ tot xss ≤ 1048576 ∧ ∀ j, j < xss.length → (xss.getD j []).length ≤ 1048576 := by
  unfold szR at h
  split at h
  · omega
  · have h1 := szRs_ok xss _ (by omega) h
    refine ⟨by omega, by omega, fun j hj => ?_⟩
    have := tot_row xss j hj; omega
theorem szRs_le (xss : List (List Bool)) : ∀ l, szRs xss l ≤ max l (-1) := by
  induction xss with
  | nil => intro l; simp [szRs]; omega
  | cons r rs ih =>
    intro l
    unfold szRs
    split
    · omega
    · have := ih (l - r.length); omega
set_option maxHeartbeats 1000000 in
theorem szBoolSS_c (a : Option Addr) (c : Nat) (xss : List (List Bool)) (l : Int) (w : World) (hr : RowsAt w a xss) (hn : xss.length ≤ maxLen) (hrl : ∀ j, j < xss.length → (xss.getD j []).length ≤ maxLen) (h0 : 0 ≤ l) (h1 : l ≤ 1048576) :
    Calls Try.prog 51 #[.slice a xss.length c, .int .i64 l] w fun e w' => e = .returned (.int .i64 (szR xss l)) ∧ Ext w w' := by
  unfold maxLen at hn
  have HL := Lib.hid hrl
  obtain ⟨R, hR⟩ : ∃ R, R = szR xss l := ⟨_, rfl⟩
  rw [← hR]
  have HR := Lib.hid hR
  clear hR hrl
  by_cases h : l - (xss.length : Int) < 0
  · have hRR : R = -1 := by rw [HR.out]; unfold szR; rw [if_pos h]
    subst hRR
    go_enter Try.func51, Try.ntmps51
    go_wp2
    go_ret
    exact ⟨rfl, by (repeat (first | with_reducible assumption | with_reducible exact Ext.refl _ | with_reducible refine Ext.drew' ?_ | with_reducible refine Ext.drewN' ?_ _ | with_reducible refine Ext.alloc ?_ _ | (with_reducible refine Ext.setNew ?_ (by first | exact Nat.le_refl _ | (simp; done) | (simp; omega) | omega) _)))⟩
  · have hRR : R = szRs xss (l - xss.length) := by rw [HR.out]; unfold szR; rw [if_neg h]
    have HRR := Lib.hid hRR
    clear hRR
    go_enter Try.func51, Try.ntmps51
    go_wp2_with fail
    go_loopw [1, 5] (fun u1 u5 wr => ∃ (k : Nat) (m : Int), k ≤ xss.length ∧ u5 = .int .i64 k ∧ u1 = .int .i64 m ∧ 0 ≤ m ∧ m ≤ 1048576 ∧ Hid (R = szRs (xss.drop k) m) ∧ Ext w wr) (fun _ i _ => xss.length - (intOf i).toNat)
    case atStart => exact ⟨0, l - xss.length, Nat.zero_le _, rfl, rfl, by omega, by omega, HRR, Ext.refl w⟩
    case round =>
      obtain ⟨k, m, hk, rfl, rfl, hm0, hm1, hp, hE⟩ := hrel
      by_cases hlt : k < xss.length
      · obtain ⟨gb, go, rfl, hgb, hg⟩ := (hr.ext hE).get (by omega)
        obtain ⟨aj, cj, q, hA⟩ := hg k hlt
        have hn1 := HL.out k hlt
        have hdr := hp.out
        rw [drop_getDR xss k [] hlt] at hdr
        unfold szRs at hdr
        obtain ⟨n, hnn⟩ : ∃ n, n = (xss.getD k []).length := ⟨_, rfl⟩
        rw [← hnn] at q hn1 hdr
        have HD := Lib.hid hdr
        clear hg hA hnn hdr
        go_wp2_with fail
        refine (szBoolS_c aj cj n m _ hn1 hm0 hm1).mono ?_
        rintro e w2 ⟨rfl, rfl⟩
        by_cases hneg : m - (n : Int) < 0
        · rw [szL_neg hneg]
          have hRR : R = -1 := by rw [HD.out, if_pos hneg]
          subst hRR
          go_wp2
          go_ret
          exact ⟨rfl, by (repeat (first | with_reducible assumption | with_reducible exact Ext.refl _ | with_reducible refine Ext.drew' ?_ | with_reducible refine Ext.drewN' ?_ _ | with_reducible refine Ext.alloc ?_ _ | (with_reducible refine Ext.setNew ?_ (by first | exact Nat.le_refl _ | (simp; done) | (simp; omega) | omega) _)))⟩
        · rw [szL_pos hneg]
          unfold maxLen at hn1
          go_wp2
          go_roundw
          case rel => exact ⟨k + 1, m - n, by omega, by go_num, rfl, by omega, by omega, Lib.hid (by rw [HD.out, if_neg (by omega)]), by (repeat (first | with_reducible assumption | with_reducible exact Ext.refl _ | with_reducible refine Ext.drew' ?_ | with_reducible refine Ext.drewN' ?_ _ | with_reducible refine Ext.alloc ?_ _ | (with_reducible refine Ext.setNew ?_ (by first | exact Nat.le_refl _ | (simp; done) | (simp; omega) | omega) _)))⟩
          case measure => simp [intOf]; omega
      · have hk2 : k = xss.length := by omega
        subst hk2
        have hRR : R = m := by rw [hp.out, List.drop_length]; rfl
        subst hRR
        go_wp2
        go_ret
        exact ⟨rfl, by (repeat (first | with_reducible assumption | with_reducible exact Ext.refl _ | with_reducible refine Ext.drew' ?_ | with_reducible refine Ext.drewN' ?_ _ | with_reducible refine Ext.alloc ?_ _ | (with_reducible refine Ext.setNew ?_ (by first | exact Nat.le_refl _ | (simp; done) | (simp; omega) | omega) _)))⟩
/-! ### What a call has given back -/
structure RepRows (w : World) (b N : Nat) (v : Value) (xss : List (List Bool)) : Prop where
  ex : ∃ vals, OwnR w b v vals xss ∧ (∀ j q, j < xss.length → (vals.getD j (.slice none 0 0)).ownBlock = some q → q < N)
  n : xss.length ≤ 1048576
  t : tot xss ≤ 1048576
def SmallR (xss : List (List Bool)) : Prop := xss.length ≤ 1048576 ∧ tot xss ≤ 1048576
section
variable {w w' : World} {b b2 N : Nat} {v v' : Value} {xss : List (List Bool)}
theorem RepRows.ext (h : RepRows w b N v xss) (e : Ext w w') : RepRows w' b N v xss := by
  obtain ⟨⟨vals, h1, h2⟩, h3, h4⟩ := h
  exact ⟨⟨vals, h1.ext e, h2⟩, h3, h4⟩
theorem RepRows.le (h : RepRows w b N v xss) (hb : b2 ≤ b) : RepRows w b2 N v xss := by
  obtain ⟨⟨vals, h1, h2⟩, h3, h4⟩ := h
  exact ⟨⟨vals, h1.le hb, h2⟩, h3, h4⟩
theorem RepRows.hi {n m : Nat} (h : RepRows w b N v xss) (g : Mid n m w w') (hb : m ≤ b) : RepRows w' b N v xss := by
  obtain ⟨⟨vals, h1, h2⟩, h3, h4⟩ := h
  exact ⟨⟨vals, { h1 with row := ownsRow_hi h1.row g hb, el := fun j hj => ownsRow_hi (h1.el j hj) g hb }, h2⟩, h3, h4⟩
theorem RepRows.mid {n m : Nat} (h : RepRows w b N v xss) (g : Mid n m w w') (hb : b < n ∨ m ≤ b) (hx : m ≤ b := by omega) : RepRows w' b N v xss := h.hi g hx
theorem RepRows.rows {a : Option Addr} {n c : Nat} (h : RepRows w b N (.slice a n c) xss) : RowsAt w a xss := by
  obtain ⟨⟨vals, h1, _⟩, _⟩ := h; exact h1.at_
theorem RepRows.len {a : Option Addr} {n c : Nat} (h : RepRows w b N (.slice a n c) xss) : n = xss.length := by
  obtain ⟨⟨vals, h1, _⟩, _⟩ := h
  obtain ⟨a', c', e, _⟩ := ownsRow_row h1.row
  cases e; rfl
theorem RepRows.sl (h : RepRows w b N v xss) : ∃ a c, v = .slice a xss.length c := by
  obtain ⟨⟨vals, h1, _⟩, _⟩ := h
  obtain ⟨a', c', e, _⟩ := ownsRow_row h1.row
  exact ⟨a', c', e⟩
theorem GiveRows.rep {e : Ending} (h : GiveRows w xss e w') (hs : SmallR xss := by assumption) : ∃ v, e = .returned v ∧ RepRows w' w.heap.size w'.heap.size v xss ∧ Ext w w' := by
  obtain ⟨v, vals, h1, h2, h3⟩ := h
  exact ⟨v, h1, ⟨⟨vals, h2, fun j q hj hq => ((h2.el j hj).lt2 q hq).2⟩, hs.1, hs.2⟩, h3⟩
end
/-! ### Copies -/
def MadeRows (w : World) (xss : List (List Bool)) (e : Ending) (w' : World) : Prop := ∃ B, e = .returned (.slice (some ⟨B, 0, none⟩) xss.length xss.length) ∧ RepRows w' w.heap.size w'.heap.size (.slice (some ⟨B, 0, none⟩) xss.length xss.length) xss ∧ Ext w w'
theorem rowInfo : (Try.prog.info? 59).map (fun i => (i.zero, i.size, i.bytes)) = some (some (.slice none 0 0), 1, 24) := by kernel_rfl
theorem set_app_rep {α : Type} (xs : List α) (d u : α) (n : Nat) (h : xs.length < n) : (xs ++ List.replicate (n - xs.length) d).set xs.length u = (xs ++ [u]) ++ List.replicate (n - (xs.length + 1)) d := by
  obtain ⟨m, hm⟩ : ∃ m, n - xs.length = m + 1 := ⟨n - xs.length - 1, by omega⟩
  have hm2 : n - (xs.length + 1) = m := by omega
  rw [hm, hm2, List.set_append_right _ _ (by omega), Nat.sub_self, List.replicate_succ, List.set_cons_zero, List.append_assoc]; rfl
structure ToRow (w : World) (base B n : Nat) (vals : List Value) (xss : List (List Bool)) (k : Nat) : Prop where
  len : vals.length = k
  blk : Blk w B 59 (vals ++ List.replicate (n - k) (.slice none 0 0))
  el : ∀ j, j < k → OwnB w base (vals.getD j (.slice none 0 0)) (xss.getD j [])
  off : ∀ j q, j < k → (vals.getD j (.slice none 0 0)).ownBlock = some q → B ≠ q
  dis : ∀ i j q, i < j → j < k → (vals.getD i (.slice none 0 0)).ownBlock = some q → (vals.getD j (.slice none 0 0)).ownBlock ≠ some q
theorem ToRow.snoc {w0 w : World} {base B n k : Nat} {vals : List Value} {xss : List (List Bool)} {u : Value} (h : ToRow w0 base B n vals xss k) (e : Ext w0 w) (hk : k < n) (hu : OwnB w base u (xss.getD k [])) (hN : ∀ q, u.ownBlock = some q → w0.heap.size ≤ q) :
    ToRow (w.setCell ⟨B, k, none⟩ u) base B n (vals ++ [u]) xss (k + 1) := by
  have hl := h.len
  have hB := h.blk.lt
  have old : ∀ j, j < k → (vals ++ [u]).getD j (.slice none 0 0) = vals.getD j (.slice none 0 0) := fun j hj => getD_append_left _ _ _ _ (by omega)
  have new : (vals ++ [u]).getD k (.slice none 0 0) = u := by rw [← hl]; simp [List.getD_eq_getElem?_getD]
  refine ⟨by simp [hl], ?_, fun j hj => ?_, fun j q hj hq => ?_, fun i j q hij hj hq => ?_⟩
  · have := (h.blk.ext e).set k u
    have e2 := set_app_rep vals (.slice none 0 0) u n (by omega)
    rw [hl] at e2
    rw [e2] at this
    exact this
  · by_cases hlt : j < k
    · rw [old j hlt]
      exact ownsRow_set ((h.el j hlt).ext e) (p := ⟨B, k, none⟩) (fun e2 => h.off j B hlt e2 rfl) _
    · have : j = k := by omega
      subst this
      rw [new]
      exact ownsRow_set hu (p := ⟨B, j, none⟩) (fun e2 => by have := hN _ e2; dsimp only at this; omega) _
  · by_cases hlt : j < k
    · rw [old j hlt] at hq; exact h.off j q hlt hq
    · have : j = k := by omega
      subst this
      rw [new] at hq
      have := hN q hq; omega
  · rw [old i (by omega)] at hq
    by_cases hlt : j < k
    · rw [old j hlt]; exact h.dis i j q hij hlt hq
    · have : j = k := by omega
      subst this
      rw [new]
      intro e2
      have := hN q e2
      have := ((h.el i hij).lt2 q hq).2
      omega
set_option maxHeartbeats 1000000 in
theorem toBoolSS_c (a : Option Addr) (c : Nat) (xss : List (List Bool)) (w : World) (hr : RowsAt w a xss) (hl : xss.length ≤ 1048576) (ht : tot xss ≤ 1048576) :
    Calls Try.prog 53 #[.slice a xss.length c] w (MadeRows w xss) := by
  have hm := run_zeros' (P := Try.prog) 76 59 (.slice none 0 0) [.slice none 0 0] 24 Try.underlying76 rowInfo rfl (by decide) (by decide) xss.length (by omega) w
  have T0 : ToRow (w.alloc (.cells (zeros [Value.slice none 0 0] xss.length).toArray 59)) w.heap.size w.heap.size xss.length [] xss 0 := by
    refine ⟨rfl, ?_, fun j hj => by omega, fun j q hj => by omega, fun i j q _ hj => by omega⟩
    have := Blk.at w (zeros [Value.slice none 0 0] xss.length) 59 rfl
    rw [zeros_one] at this ⊢
    simpa using this
  have E0 : Ext w (w.alloc (.cells (zeros [Value.slice none 0 0] xss.length).toArray 59)) := (Ext.refl w).alloc _
  have HT := Lib.hid (fun j hj => Nat.le_trans (tot_row xss j hj) ht)
  go_enter Try.func53, Try.ntmps53
  go_wp2_with fail
  go_loopw [4] (fun i wr => ∃ (k : Nat) (vals : List Value), k ≤ xss.length ∧ i = .int .i64 k ∧ ToRow wr w.heap.size w.heap.size xss.length vals xss k ∧ Ext w wr) (fun i _ => xss.length - (intOf i).toNat)
  case atStart => exact ⟨0, [], Nat.zero_le _, rfl, T0, E0⟩
  case round =>
    clear T0 E0 hm
    obtain ⟨k, vals, hk, rfl, hT, hE⟩ := hrel
    by_cases hlt : k < xss.length
    · obtain ⟨gb, go, rfl, hgb, hg⟩ := (hr.ext hE).get (by omega)
      obtain ⟨aj, cj, q, hA⟩ := hg k hlt
      have hrl := HT.out k hlt
      obtain ⟨row, hrow⟩ : ∃ r, r = xss.getD k [] := ⟨_, rfl⟩
      rw [← hrow] at q hA hrl
      have HROW := Lib.hid hrow
      have HTL := Lib.hid hT.len
      clear hg hrow
      go_wp2_with fail
      refine (toBoolS_c aj cj row wr hA hrl).mono ?_
      rintro e w2 ⟨B2, rfl, hB2, hblk, hE2⟩
      have hBlt := hT.blk.lt
      have hT2 := hT.blk.ext hE2
      obtain ⟨uu, zz⟩ : ∃ u, w2.cell? ⟨w.heap.size, k, none⟩ = some u := ⟨_, hT2.cell (List.getElem?_eq_getElem (by rw [List.length_append, List.length_replicate, HTL.out]; omega))⟩
      have fz := hT2.frozen k
      have hu : OwnB w2 w.heap.size (.slice (some ⟨B2, 0, none⟩) row.length row.length) (xss.getD k []) := by
        rw [← HROW.out]
        exact hblk.owns (n := row.length) (size := 1) (by simp) (by have := hE.size; omega) (by unfold maxLen; omega)
      have hS := hT.snoc hE2 hlt hu (fun q hq => by have e2 : B2 = q := Option.some.inj hq; omega)
      have HS := Lib.hid hS
      clear hT2 hu hS hT
      go_wp2
      go_roundw
      case rel => exact ⟨k + 1, vals ++ [.slice (some ⟨B2, 0, none⟩) row.length row.length], by omega, by go_num, HS.out, Ext.setNew (p := ⟨w.heap.size, k, none⟩) (hE.trans hE2) (Nat.le_refl _) _⟩
      case measure => simp [intOf]; omega
    · have hk2 : k = xss.length := by omega
      subst hk2
      have hb := hT.blk
      rw [Nat.sub_self, List.replicate_zero, List.append_nil] at hb
      have ho := hb.owns (n := xss.length) (size := 1) (base := w.heap.size) (by rw [hT.len]; simp) (Nat.le_refl _) (by unfold maxLen; omega)
      have hR : OwnR wr w.heap.size (.slice (some ⟨w.heap.size, 0, none⟩) xss.length xss.length) vals xss := ⟨hT.len, ho, hT.el, fun j q hj hq e => hT.off j q hj hq (Option.some.inj e), hT.dis⟩
      have HRR := Lib.hid hR
      clear hb ho hR hT
      go_wp2
      go_ret
      exact ⟨w.heap.size, rfl, ⟨⟨vals, HRR.out, fun j q hj hq => ((HRR.out.el j hj).lt2 q hq).2⟩, hl, by omega⟩, hE⟩
/-! ### Comparing -/
set_option maxHeartbeats 1000000 in
theorem eqBoolSS_c (a b : Option Addr) (c d : Nat) (xss : List (List Bool)) (w : World) (hx : RowsAt w a xss) (hy : RowsAt w b xss) (hl : xss.length ≤ 1048576) (hrl : ∀ j, j < xss.length → (xss.getD j []).length ≤ 1048576) :
    Calls Try.prog 55 #[.slice a xss.length c, .slice b xss.length d] w fun e w' => e = .returned (.bool true) ∧ Ext w w' := by
  have HL := Lib.hid hrl
  clear hrl
  go_enter Try.func55, Try.ntmps55
  go_wp2_with fail
  go_loopw [5] (fun i wr => ∃ k : Nat, k ≤ xss.length ∧ i = .int .i64 k ∧ Ext w wr) (fun i _ => xss.length - (intOf i).toNat)
  case atStart => exact ⟨0, Nat.zero_le _, rfl, Ext.refl w⟩
  case round =>
    obtain ⟨k, hk, rfl, hE⟩ := hrel
    by_cases hlt : k < xss.length
    · obtain ⟨b1, o1, rfl, hb1, hc1⟩ := (hx.ext hE).get (by omega)
      obtain ⟨b2, o2, rfl, hb2, hc2⟩ := (hy.ext hE).get (by omega)
      obtain ⟨a1, d1, q1, hA1⟩ := hc1 k hlt
      obtain ⟨a2, d2, q2, hA2⟩ := hc2 k hlt
      have hrl := HL.out k hlt
      obtain ⟨row, hrow⟩ : ∃ r, r = xss.getD k [] := ⟨_, rfl⟩
      rw [← hrow] at q1 q2 hA1 hA2 hrl
      obtain ⟨w1, rfl⟩ : ∃ x : World, x = wr := ⟨_, rfl⟩
      clear hc1 hc2 hrow
      go_wp2_with fail
      go_region_held3 ((fun w' => (∀ b o, b < w1.heap.size → w'.cell? ⟨b, o, none⟩ = w1.cell? ⟨b, o, none⟩) ∧ Ext w1 w')) ((first | assumption | (with_reducible exact held_mk (Ext.drew w1)) | (with_reducible exact held_mk (((Ext.refl w1).alloc _).drew')) | (with_reducible exact held_mk ((Ext.drew w1).alloc _)))) ((go_simp; go_at_call 46; refine (eqBoolS_c a1 a2 d1 d2 row _ (hA1.ext (Ext.drew w1)) (hA2.ext (Ext.drew w1)) hrl).mono ?_; rintro e w2 ⟨rfl, hE2⟩; have hK1 := held_mk ((Ext.drew w1).trans hE2)))
      have hE3 := held_ext hK1
      go_wp2
      go_roundw
      case rel => exact ⟨k + 1, by omega, by go_num, hE.trans hE3⟩
      case measure => simp [intOf]; omega
    · go_wp2
      go_ret
      exact ⟨rfl, hE⟩
theorem eqRows_R {w : World} {b N b3 N3 : Nat} {v v' : Value} {xss : List (List Bool)} (h : RepRows w b N v xss) (h' : RepRows w b3 N3 v' xss) : Calls Try.prog 55 #[v, v'] w fun e w' => e = .returned (.bool true) ∧ Ext w w' := by
  obtain ⟨a, c, rfl⟩ := h.sl
  obtain ⟨a', c', rfl⟩ := h'.sl
  exact eqBoolSS_c a a' c c' xss w h.rows h'.rows h.n (fun j hj => Nat.le_trans (tot_row xss j hj) h.t)
/-! ### Marking -/
def mkRows : Int → List (List Bool) → List (List Bool)
  | _, [] => []
  | k, r :: rs => mksB k r.length :: mkRows (k + r.length) rs
theorem mkRows_length : ∀ (xss : List (List Bool)) (k : Int), (mkRows k xss).length = xss.length
  | [], _ => rfl
  | r :: rs, k => by simp [mkRows, mkRows_length rs]
theorem tot_append (xs ys : List (List Bool)) : tot (xs ++ ys) = tot xs + tot ys := by
  induction xs with
  | nil => simp [tot]
  | cons x xs ih =>
    have e : tot (x :: xs ++ ys) = x.length + tot (xs ++ ys) := rfl
    have e2 : tot (x :: xs) = x.length + tot xs := rfl
    rw [e, e2, ih]; omega
theorem mkRows_snoc (r : List Bool) : ∀ (rs : List (List Bool)) (k : Int), mkRows k (rs ++ [r]) = mkRows k rs ++ [mksB (k + tot rs) r.length]
  | [], k => by simp [mkRows, tot]
  | x :: rs, k => by
    have e : tot (x :: rs) = x.length + tot rs := rfl
    rw [List.cons_append, mkRows, mkRows_snoc r rs, mkRows, e]
    have e3 : k + (x.length : Int) + (tot rs : Int) = k + ((x.length + tot rs : Nat) : Int) := by omega
    rw [e3]; rfl
theorem tot_take_succ (xss : List (List Bool)) (k : Nat) (hk : k < xss.length) : tot (xss.take (k + 1)) = tot (xss.take k) + (xss.getD k []).length := by
  rw [take_snocG xss k [] hk, tot_append]; simp [tot]
theorem tot_take_le (xss : List (List Bool)) (k : Nat) : tot (xss.take k) ≤ tot xss := by
  have := tot_append (xss.take k) (xss.drop k)
  rw [List.take_append_drop] at this; omega
/-- What the rows hold when k of them are marked. -/
def midRows (k0 : Int) (xss : List (List Bool)) (k : Nat) : List (List Bool) := mkRows k0 (xss.take k) ++ xss.drop k
theorem midRows_length (k0 : Int) (xss : List (List Bool)) (k : Nat) (hk : k ≤ xss.length) : (midRows k0 xss k).length = xss.length := by
  unfold midRows; rw [List.length_append, mkRows_length, List.length_take, List.length_drop]; omega
theorem midRows_at (k0 : Int) (xss : List (List Bool)) (k : Nat) (hk : k < xss.length) : (midRows k0 xss k).getD k [] = xss.getD k [] := by
  unfold midRows
  have hl : (mkRows k0 (xss.take k)).length = k := by rw [mkRows_length, List.length_take]; omega
  rw [List.getD_eq_getElem?_getD, List.getElem?_append_right (by omega), hl, Nat.sub_self, List.getElem?_drop, Nat.add_zero, ← List.getD_eq_getElem?_getD]
theorem midRows_set (k0 : Int) (xss : List (List Bool)) (k : Nat) (hk : k < xss.length) : (midRows k0 xss k).set k (mksB (k0 + tot (xss.take k)) (xss.getD k []).length) = midRows k0 xss (k + 1) := by
  unfold midRows
  have hl : (mkRows k0 (xss.take k)).length = k := by rw [mkRows_length, List.length_take]; omega
  rw [List.set_append_right _ _ (by omega), hl, Nat.sub_self, drop_getDR xss k [] hk, List.set_cons_zero, take_snocG xss k [] hk, mkRows_snoc]
  simp
theorem OwnR.setRow {w w' : World} {base : Nat} {v : Value} {vals : List Value} {xss : List (List Bool)} (h : OwnR w base v vals xss) {j : Nat} (hj : j < xss.length) {y : List Bool} (hg : w.grownBy w' (vals.getD j (.slice none 0 0)).ownBlock) (hy : OwnB w' base (vals.getD j (.slice none 0 0)) y) : OwnR w' base v vals (xss.set j y) := by
  refine ⟨by rw [List.length_set]; exact h.len, ?_, fun i hi => ?_, fun i k hi hk => h.off i k (by simpa using hi) hk, fun i i2 k hii hi hk => h.dis i i2 k hii (by simpa using hi) hk⟩
  · rw [List.length_set]
    exact ownsRow_gr h.row hg (off_row (off_swap (fun k hk => h.off j k hj hk)))
  · rw [List.length_set] at hi
    by_cases e : i = j
    · subst e
      have : (xss.set i y).getD i [] = y := by simp [List.getD_eq_getElem?_getD, hi]
      rw [this]; exact hy
    · have : (xss.set j y).getD i [] = xss.getD i [] := by simp [List.getD_eq_getElem?_getD, List.getElem?_set, Ne.symm e]
      rw [this]
      refine ownsRow_gr (h.el i hi) hg (off_row (fun k hk => ?_))
      rcases Nat.lt_or_ge i j with h1 | h1
      · exact h.dis i j k h1 hj hk
      · intro e2; exact h.dis j i k (by omega) hi e2 hk
set_option maxHeartbeats 1000000 in
theorem markBoolSS_c (b N : Nat) (a : Option Addr) (c : Nat) (vals : List Value) (xss : List (List Bool)) (k : Int) (w : World) (ho : OwnR w b (.slice a xss.length c) vals xss) (hN : ∀ j q, j < xss.length → (vals.getD j (.slice none 0 0)).ownBlock = some q → q < N) (h0 : 0 ≤ k) (h1 : k ≤ 100000000) (hl : xss.length ≤ 1048576) (ht : tot xss ≤ 1048576) :
    Calls Try.prog 56 #[.slice a xss.length c, .int .i64 k] w fun e w' => e = .returned (.int .i64 (k + tot xss)) ∧ OwnR w' b (.slice a xss.length c) vals (mkRows k xss) ∧ Mid b N w w' := by
  have HT := Lib.hid (tot_take_le xss)
  have HNN := Lib.hid hN
  clear hN
  go_enter Try.func56, Try.ntmps56
  go_wp2_with fail
  go_loopw [1, 5] (fun u1 u5 wr => ∃ j : Nat, j ≤ xss.length ∧ u5 = .int .i64 j ∧ u1 = .int .i64 (k + tot (xss.take j)) ∧ OwnR wr b (.slice a xss.length c) vals (midRows k xss j) ∧ Mid b N w wr) (fun _ i _ => xss.length - (intOf i).toNat)
  case atStart => exact ⟨0, Nat.zero_le _, rfl, by simp [tot], by simpa [midRows, mkRows] using ho, Mid.refl _⟩
  case round =>
    clear ho
    obtain ⟨j, hj, rfl, rfl, hO, hM⟩ := hrel
    have hml := midRows_length k xss j hj
    have htl := HT.out j
    by_cases hlt : j < xss.length
    · have hel := hO.el j (by omega)
      rw [midRows_at k xss j hlt] at hel
      have hrl := tot_row xss j hlt
      have hs := midRows_set k xss j hlt
      have hts := tot_take_succ xss j hlt
      obtain ⟨row, hrow⟩ : ∃ r, r = xss.getD j [] := ⟨_, rfl⟩
      rw [← hrow] at hel hrl hs hts
      obtain ⟨T, hT⟩ : ∃ T, T = tot (xss.take j) := ⟨_, rfl⟩
      rw [← hT] at hs hts htl ⊢
      obtain ⟨ra, rc, hv, hA⟩ := hel.opened
      have hO2 := hO
      have hrw := hO.row
      rw [hml] at hrw
      obtain ⟨g, hga, _, hg⟩ := ownsRow_block hrw (by omega)
      subst hga
      have q := ownsRow_cell hrw (j := j) (u := .slice ra row.length rc) (by rw [← hv, List.getD_eq_getElem?_getD, List.getElem?_eq_getElem (by rw [hO.len]; omega)]; rfl)
      rw [hv] at hel
      have HV := Lib.hid hv
      have HS := Lib.hid hs
      have HTS := Lib.hid hts
      have HML := Lib.hid hml
      have HO2 := Lib.hid hO2
      clear hv hs hts hml hrow hT hrw hO hO2
      go_wp2_with fail
      refine (markBoolS_c b ra rc row (k + T) _ hel (by omega) (by omega) (by omega)).mono ?_
      rintro e w2 ⟨rfl, o2, g2⟩
      go_wp2
      go_roundw
      case rel =>
        refine ⟨j + 1, by omega, by go_num, by rw [HTS.out]; simp; omega, ?_, ?_⟩
        · rw [← HS.out]
          refine HO2.out.setRow (by rw [HML.out]; exact hlt) (by rw [HV.out]; exact g2) ?_
          rw [HV.out]
          unfold OwnB
          rw [mksB_length]
          exact o2
        · refine hM.trans (Mid.ofOwn (v := .slice ra row.length rc) g2 (fun q hq => (hel.lt2 q hq).1) (fun q hq => HNN.out j q hlt (by rw [HV.out]; exact hq)))
      case measure => simp [intOf]; omega
    · have hk2 : j = xss.length := by omega
      subst hk2
      have e : midRows k xss xss.length = mkRows k xss := by unfold midRows; rw [List.take_length, List.drop_length, List.append_nil]
      rw [e] at hO
      rw [List.take_length]
      go_wp2
      go_ret
      exact ⟨rfl, hO, hM⟩
set_option maxHeartbeats 1000000 in
theorem heldBoolSS_c (a : Option Addr) (c : Nat) (xss : List (List Bool)) (k : Int) (w : World) (hx : RowsAt w a (mkRows k xss)) (h0 : 0 ≤ k) (h1 : k ≤ 100000000) (hl : xss.length ≤ 1048576) (ht : tot xss ≤ 1048576) :
    Calls Try.prog 57 #[.slice a xss.length c, .int .i64 k] w fun e w' => e = .returned (.int .i64 (k + tot xss)) ∧ Ext w w' := by
  have HT := Lib.hid (tot_take_le xss)
  have hml := mkRows_length xss k
  have hat : ∀ j, j < xss.length → (mkRows k xss).getD j [] = mksB (k + tot (xss.take j)) (xss.getD j []).length := by
    intro j hj
    have e : xss = xss.take (j + 1) ++ xss.drop (j + 1) := (List.take_append_drop _ _).symm
    have pre : ∀ (ys zs : List (List Bool)) (m : Int) (i : Nat), i < ys.length → (mkRows m (ys ++ zs)).getD i [] = (mkRows m ys).getD i [] := by
      intro ys
      induction ys with
      | nil => intro zs m i hi; simp at hi
      | cons y ys ih =>
        intro zs m i hi
        rw [List.cons_append, mkRows, mkRows]
        cases i with
        | zero => rfl
        | succ i => simpa using ih zs (m + y.length) i (by simpa using hi)
    have hl2 : (xss.take j).length = j := by rw [List.length_take]; omega
    rw [e, pre _ _ _ _ (by rw [List.length_take]; omega), take_snocG xss j [] hj, mkRows_snoc, ← take_snocG xss j [] hj, ← e]
    have hm2 : (mkRows k (xss.take j)).length = j := by rw [mkRows_length, hl2]
    rw [List.getD_eq_getElem?_getD, List.getElem?_append_right (by omega), hm2, Nat.sub_self]; rfl
  have HAT := Lib.hid hat
  have HML := Lib.hid hml
  clear hat hml
  go_enter Try.func57, Try.ntmps57
  go_wp2_with fail
  go_loopw [1, 5] (fun u1 u5 wr => ∃ j : Nat, j ≤ xss.length ∧ u5 = .int .i64 j ∧ u1 = .int .i64 (k + tot (xss.take j)) ∧ Ext w wr) (fun _ i _ => xss.length - (intOf i).toNat)
  case atStart => exact ⟨0, Nat.zero_le _, rfl, by simp [tot], Ext.refl w⟩
  case round =>
    obtain ⟨j, hj, rfl, rfl, hE⟩ := hrel
    have htl := HT.out j
    by_cases hlt : j < xss.length
    · obtain ⟨g, o, rfl, hg, hc⟩ := (hx.ext hE).get (by rw [HML.out]; omega)
      obtain ⟨ra, rc, q, hA⟩ := hc j (by rw [HML.out]; exact hlt)
      rw [HAT.out j hlt] at q hA
      rw [mksB_length] at q
      have hrl := tot_row xss j hlt
      have hts := tot_take_succ xss j hlt
      obtain ⟨n, hn⟩ : ∃ n, n = (xss.getD j []).length := ⟨_, rfl⟩
      rw [← hn] at q hA hrl hts
      obtain ⟨T, hT⟩ : ∃ T, T = tot (xss.take j) := ⟨_, rfl⟩
      rw [← hT] at hA hts htl ⊢
      have HTS := Lib.hid hts
      clear hc hn hT hts
      go_wp2_with fail
      refine (heldBoolS_c ra rc n (k + T) _ hA (by omega) (by omega) (by omega)).mono ?_
      rintro e w2 ⟨rfl, rfl⟩
      go_wp2
      go_roundw
      case rel => exact ⟨j + 1, by omega, by go_num, by rw [HTS.out]; simp; omega, by (repeat (first | with_reducible assumption | with_reducible exact Ext.refl _ | with_reducible refine Ext.drew' ?_ | with_reducible refine Ext.drewN' ?_ _ | with_reducible refine Ext.alloc ?_ _ | (with_reducible refine Ext.setNew ?_ (by first | exact Nat.le_refl _ | (simp; done) | (simp; omega) | omega) _)))⟩
      case measure => simp [intOf]; omega
    · have hk2 : j = xss.length := by omega
      subst hk2
      rw [List.take_length]
      go_wp2
      go_ret
      exact ⟨rfl, hE⟩
def MkRows (w : World) (v : Value) (km : Int) : Prop := ∃ xss : List (List Bool), km = 1 + tot xss ∧ (∃ a c, v = .slice a xss.length c ∧ RowsAt w a (mkRows 1 xss)) ∧ xss.length ≤ 1048576 ∧ tot xss ≤ 1048576
section
variable {w w' : World} {b N : Nat} {v : Value} {xss : List (List Bool)}
theorem MkRows.ext {k : Int} (h : MkRows w v k) (e : Ext w w') : MkRows w' v k := by
  obtain ⟨n, h1, ⟨a, c, h2, h3⟩, h4⟩ := h
  exact ⟨n, h1, ⟨a, c, h2, h3.ext e⟩, h4⟩
theorem MkRows.kb {k : Int} (h : MkRows w v k) : 0 ≤ k ∧ k ≤ 100000000 := by
  obtain ⟨n, rfl, _, h1, h2⟩ := h
  omega
theorem markRows_k (h : RepRows w b N v xss) (k : Int) (h0 : 0 ≤ k) (h1 : k ≤ 100000000) : Calls Try.prog 56 #[v, .int .i64 k] w fun e w' => e = .returned (.int .i64 (k + tot xss)) ∧ Mid b N w w' := by
  obtain ⟨a, c, rfl⟩ := h.sl
  obtain ⟨⟨vals, g1, g2⟩, h3, h4⟩ := h
  refine (markBoolSS_c b N a c vals xss k w g1 g2 h0 h1 h3 h4).mono ?_
  rintro e w' ⟨rfl, o, m⟩
  exact ⟨rfl, m⟩
theorem markRows_R (h : RepRows w b N v xss) : Calls Try.prog 56 #[v, .int .i64 1] w fun e w' => ∃ km, e = .returned (.int .i64 km) ∧ MkRows w' v km ∧ Mid b N w w' := by
  obtain ⟨a, c, rfl⟩ := h.sl
  obtain ⟨⟨vals, h1, h2⟩, h3, h4⟩ := h
  refine (markBoolSS_c b N a c vals xss 1 w h1 h2 (by omega) (by omega) h3 h4).mono ?_
  rintro e w' ⟨rfl, o, m⟩
  exact ⟨_, rfl, ⟨xss, rfl, ⟨a, c, rfl, o.at_⟩, h3, h4⟩, m⟩
theorem heldRows_R {km : Int} (h : MkRows w v km) : Calls Try.prog 57 #[v, .int .i64 1] w fun e w' => e = .returned (.int .i64 km) ∧ Ext w w' := by
  obtain ⟨xss, rfl, ⟨a, c, rfl, hA⟩, h3, h4⟩ := h
  exact heldBoolSS_c a c xss 1 w hA (by omega) (by omega) h3 h4
end
end Go.Proofs.Ytkdiniaddnhkdaa

namespace Go.Proofs.Ytkdiniaddnhkdaa
open Go.RowKit
set_option maxRecDepth 100000
set_option linter.unusedVariables false
set_option linter.unusedSimpArgs false
structure RepByt (w : World) (b N : Nat) (v : Value) (xs : List Int) : Prop where
  own : OwnY w b v xs
  up : ∀ k, v.ownBlock = some k → k < N
  small : xs.length ≤ 1048576
section
variable {w w' : World} {b b2 N : Nat} {v v' : Value} {xs : List Int}
theorem RepByt.ext (h : RepByt w b N v xs) (e : Ext w w') : RepByt w' b N v xs := ⟨h.own.ext e, h.up, h.small⟩
theorem RepByt.le (h : RepByt w b N v xs) (hb : b2 ≤ b) : RepByt w b2 N v xs := ⟨h.own.le hb, h.up, h.small⟩
theorem RepByt.hi {n m : Nat} (h : RepByt w b N v xs) (g : Mid n m w w') (hb : m ≤ b) : RepByt w' b N v xs := ⟨ownsRow_hi h.own g hb, h.up, h.small⟩
theorem RepByt.mid {n m : Nat} (h : RepByt w b N v xs) (g : Mid n m w w') (hb : b < n ∨ m ≤ b) (hx : m ≤ b := by omega) : RepByt w' b N v xs := h.hi g hx
theorem RepByt.byt {a : Option Addr} {n c : Nat} (h : RepByt w b N (.slice a n c) xs) : BytAt w a xs := h.own.byt
theorem GiveByt.rep {e : Ending} (h : GiveY w xs e w') (hs : xs.length ≤ 1048576 := by assumption) : ∃ v, e = .returned v ∧ RepByt w' w.heap.size w'.heap.size v xs ∧ Ext w w' := by
  obtain ⟨v, h1, h2, h3⟩ := h
  exact ⟨v, h1, ⟨h2, fun k hk => (h2.lt k hk).2, hs⟩, h3⟩
theorem toByteS_r (a : Option Addr) (c : Nat) (xs : List Int) (w : World) (hx : BytAt w a xs) (hl : xs.length ≤ 1048576) :
    Calls Try.prog 37 #[.slice a xs.length c] w fun e w' => ∃ a' c', e = .returned (.slice a' xs.length c') ∧ RepByt w' w.heap.size w'.heap.size (.slice a' xs.length c') xs ∧ Ext w w' := by
  refine (toByteS_c a c xs w hx hl).mono ?_
  rintro e w' ⟨v, rfl, h2, h3⟩
  obtain ⟨a', c', rfl, _⟩ := h2.opened
  exact ⟨a', c', rfl, ⟨h2, fun k hk => (h2.lt k hk).2, hl⟩, h3⟩
theorem eqByt_R {b3 N3 : Nat} (h : RepByt w b N v xs) (h' : RepByt w b3 N3 v' xs) : Calls Try.prog 33 #[v, v'] w fun e w' => e = .returned (.bool true) ∧ Ext w w' := by
  obtain ⟨a, c, rfl, hA⟩ := h.own.opened
  obtain ⟨a', c', rfl, hA'⟩ := h'.own.opened
  exact eqByteS_c _ _ _ _ xs w hA hA' h.small
theorem markByt_k {a : Option Addr} {n c : Nat} (h : RepByt w b N (.slice a n c) xs) (k : Int) (h0 : 0 ≤ k) (h1 : k ≤ 1000000000) : Calls Try.prog 34 #[.slice a n c, .int .i64 k] w fun e w' => e = .returned (.int .i64 (k + xs.length)) ∧ Mid b N w w' := by
  obtain ⟨a', c', e1, hA⟩ := h.own.opened
  cases e1
  refine (markByteS_o b a c xs k w h.own h0 h1 h.small).mono ?_
  rintro e w' ⟨rfl, h1, h2⟩
  exact ⟨rfl, Mid.ofOwn h2 (ownsRow_from h.own) h.up⟩
def MkByt (w : World) (v : Value) (km : Int) : Prop := ∃ n : Nat, km = 1 + n ∧ (∃ a c, v = .slice a n c ∧ BytAt w a (mksY 1 n)) ∧ n ≤ 1048576
theorem MkByt.ext {k : Int} (h : MkByt w v k) (e : Ext w w') : MkByt w' v k := by
  obtain ⟨n, h1, ⟨a, c, h2, h3⟩, h4⟩ := h
  exact ⟨n, h1, ⟨a, c, h2, h3.ext e⟩, h4⟩
theorem MkByt.kb {k : Int} (h : MkByt w v k) : 0 ≤ k ∧ k ≤ 100000000 := by
  obtain ⟨n, rfl, _, h4⟩ := h
  omega
theorem markByt_R (h : RepByt w b N v xs) : Calls Try.prog 34 #[v, .int .i64 1] w fun e w' => ∃ km, e = .returned (.int .i64 km) ∧ MkByt w' v km ∧ Mid b N w w' := by
  obtain ⟨a, c, rfl, hA⟩ := h.own.opened
  refine (markByteS_o b a c xs 1 w h.own (by omega) (by omega) h.small).mono ?_
  rintro e w' ⟨rfl, h1, h2⟩
  exact ⟨_, rfl, ⟨_, rfl, ⟨a, c, rfl, bytAt_of_row (ownsRow_at h1)⟩, h.small⟩, Mid.ofOwn h2 (ownsRow_from h.own) h.up⟩
theorem heldByt_R {km : Int} (h : MkByt w v km) : Calls Try.prog 35 #[v, .int .i64 1] w fun e w' => e = .returned (.int .i64 km) ∧ Ext w w' := by
  obtain ⟨n, rfl, ⟨a, c, rfl, hA⟩, h4⟩ := h
  refine (heldByteS_c a c n 1 w hA (by omega) (by omega) h4).mono ?_
  rintro e w' ⟨rfl, rfl⟩
  exact ⟨rfl, Ext.refl _⟩
end
end Go.Proofs.Ytkdiniaddnhkdaa

namespace Go.Proofs.Ytkdiniaddnhkdaa
open Go.ChangeShapes Go.WideShapes Go.ChangeAt Go.RowKit
set_option maxRecDepth 100000
set_option linter.unusedVariables false
set_option linter.unusedSimpArgs false
theorem RepByt.capOk {w : World} {b N n c : Nat} {a : Option Addr} {xs : List Int} (h : RepByt w b N (.slice a n c) xs) : xs.length ≤ c ∧ c ≤ maxLen := by
  obtain ⟨a', c', e, _, h2, h3, _⟩ := ownsRow_row h.own
  cases e
  exact ⟨by simpa using h2, h3⟩
/-- A slice of bytes as it comes in. -/
structure BytIn (w : World) (a : Option Addr) (c : Nat) (xs : List Int) : Prop where
  at_ : BytAt w a xs
  all : AllB xs
  le : xs.length ≤ c
  cap : c ≤ maxLen
theorem open_byt {H : Type} {enc : TypeId × Value → H} {w : World} {base : Nat} {spare : Nat → Bool} {held : Bool} {r : Reach} {b0 : Nat} {v : Value} {d : DataW H} {p : List MemPlace} (hv : Value.okWide Try.prog w r b0 38 v) (h : DataW.Trod enc Try.prog w base spare held 38 v d p) :
    ∃ a c xs, v = .slice a xs.length c ∧ BytIn w a c xs := by
  obtain ⟨a', l', c', rfl⟩ := okWide_slice Try.underlying38 hv
  obtain ⟨fuel, hf⟩ := h
  obtain ⟨a, c, xs, e, s, l, m⟩ := open_slice (E := EInt .u8) (sz := 1) Try.underlying38 (by kernel_rfl) (by decide) (dec_int Try.underlying5) (v := .slice a' l' c') (by simpa [Value.cells] using hf)
  refine ⟨a, c, xs, e, ?_, ?_, l, m⟩
  · rcases s with rfl | ⟨b, o, ha, hb, hc⟩
    · exact .inl rfl
    · refine .inr ⟨b, o, ha, hb, fun j hj => ?_⟩
      obtain ⟨cs, _, ⟨rfl, _⟩, h3⟩ := hc j _ (List.getElem?_eq_getElem hj)
      have := h3 0 (by omega)
      simpa [List.getD_eq_getElem?_getD, hj] using this
  · rcases s with rfl | ⟨b, o, ha, hb, hc⟩
    · exact .nil
    · intro x hx
      obtain ⟨j, hj, rfl⟩ := List.mem_iff_getElem.1 hx
      obtain ⟨cs, _, ⟨rfl, hw⟩, _⟩ := hc j _ (List.getElem?_eq_getElem hj)
      simp [Lit.wf, IntKind.min, IntKind.max, IntKind.bits, IntKind.signed] at hw
      refine ⟨by omega, ?_⟩
      have := hw.2
      omega
theorem decV_small (bs : List Int) : SmallK (decV bs) := by
  unfold decV
  split
  · refine ⟨by rw [show (pK bs).ts = pTs bs 25 from rfl, pTs_len]; omega, by rw [show (pK bs).ps = pPs bs 3 from rfl, pPs_len]; omega, confAt_pK_lens bs, ?_⟩
    show totM (pTs bs 25) ≤ _
    have h : ∀ n, totM (pTs bs n) ≤ 1000 * n := by
      intro n
      induction n with
      | zero => simp [pTs, totM]
      | succ n ih =>
        rw [pTs_succ, totM_append]
        have : totM [pT bs (13 * n)] ≤ 1000 := by simp [totM, szM, pT, getN_len]
        omega
    have := h 25
    omega
  · exact ⟨by simp [conf0], by simp [conf0], fun j hj => by simp [conf0] at hj, by simp [conf0, totM]⟩
theorem GiveConfB.rep' {w w' : World} {K : Conf} {fl : Bool} {e : Ending} (h : GiveKB w K fl e w') (hs : SmallK K := by assumption) : ∃ ta n tc pa m pc, e = .returned (.tuple #[.agg #[.slice ta n tc, .slice pa m pc], .bool fl]) ∧ RepConf w' w.heap.size w'.heap.size (.slice ta n tc) (.slice pa m pc) K ∧ Ext w w' := by
  obtain ⟨tv, pv, us, h1, h2, h3⟩ := h
  obtain ⟨ta, tc, pa, pc, rfl, rfl⟩ := h2.sl
  exact ⟨ta, _, tc, pa, _, pc, h1, ⟨⟨us, h2, fun q hq => (h2.blk hq).2⟩, hs⟩, h3⟩
end Go.Proofs.Ytkdiniaddnhkdaa

namespace Go.Proofs.Ytkdiniaddnhkdaa
open Go.ChangeShapes Go.WideShapes Go.ChangeAt Go.RowKit
set_option maxRecDepth 100000
set_option linter.unusedVariables false
set_option linter.unusedSimpArgs false
theorem tot_three : ∀ (xss : List (List Bool)), (∀ r ∈ xss, r.length = 3) → tot xss = 3 * xss.length
  | [], _ => rfl
  | x :: xs, h => by
    have e : tot (x :: xs) = x.length + tot xs := rfl
    rw [e, tot_three xs (fun r hr => h r (by simp [hr])), h x (by simp)]
    simp only [List.length_cons]; omega
theorem runFV_small (k : Conf) (xss : List (List Bool)) : SmallR (runFV k xss) := by
  by_cases h : FitF k xss
  · rw [runFV_pos h]
    have hl := runF_length k xss reset25
    have := h.n
    refine ⟨by omega, ?_⟩
    rw [tot_three _ (runF_rl k xss reset25)]; omega
  · rw [runFV_neg h]; exact ⟨by simp, by simp [tot]⟩
theorem bitV_small (bs : List Int) (xss : List (List Bool)) : SmallR (bitV bs xss) := by
  unfold bitV
  split
  · exact runFV_small _ _
  · exact ⟨by simp, by simp [tot]⟩
set_option maxHeartbeats 8000000 in
theorem fnExactRunBitstream_walk (a0 : Option Addr) (cap0 : Nat) (z0 : List Int) (a1 : Option Addr) (cap1 : Nat) (z1 : List (List Bool)) (w : World) (w0 : BytIn w a0 cap0 z0) (w1 : RowsIn w a1 cap1 z1) :
    Calls Try.prog 10 #[.slice a0 z0.length cap0, .slice a1 z1.length cap1] w fun e w' => e = .returned (.bool true) ∧ Below w.heap.size w w' := by
  have hc0 := w0.le
  have hd0 := w0.cap
  unfold maxLen at hd0
  by_cases hb0 : (1048576 : Int) < (z0.length : Int)
  · go_enter Try.func10, Try.ntmps10
    go_wp2
    go_ret
    exact ⟨rfl, (show Ext w _ by (repeat (first | with_reducible assumption | with_reducible exact Ext.refl _ | with_reducible refine Ext.drew' ?_ | with_reducible refine Ext.drewN' ?_ _ | with_reducible refine Ext.alloc ?_ _ | (with_reducible refine Ext.setNew ?_ (by first | exact Nat.le_refl _ | (simp; done) | (simp; omega) | omega) _))))⟩
  replace hb0 : z0.length ≤ 1048576 := by omega
  have E := Ext.refl w
  by_cases hz1 : szR z1 (1048576) < 0
  · go_enter Try.func10, Try.ntmps10
    go_wp2_with fail
    refine (szBoolSS_c _ _ z1 _ _ (w1.at_.ext (Ext.trans E (by (repeat (first | with_reducible assumption | with_reducible exact Ext.refl _ | with_reducible refine Ext.drew' ?_ | with_reducible refine Ext.drewN' ?_ _ | with_reducible refine Ext.alloc ?_ _ | (with_reducible refine Ext.setNew ?_ (by first | exact Nat.le_refl _ | (simp; done) | (simp; omega) | omega) _)))))) (Nat.le_trans w1.le w1.cap) w1.rl (by omega) (by omega)).mono ?_
    rintro e s1 ⟨rfl, hE⟩
    replace E := Ext.trans E (Ext.trans (by (repeat (first | with_reducible assumption | with_reducible exact Ext.refl _ | with_reducible refine Ext.drew' ?_ | with_reducible refine Ext.drewN' ?_ _ | with_reducible refine Ext.alloc ?_ _ | (with_reducible refine Ext.setNew ?_ (by first | exact Nat.le_refl _ | (simp; done) | (simp; omega) | omega) _)))) hE)
    clear hE
    go_wp2
    go_ret
    exact ⟨rfl, E⟩
  obtain ⟨hl1, ht1, hr1⟩ := szR_ok hz1 (by omega)
  have hsm := bitV_small z0 z1
  obtain ⟨V, HV⟩ : ∃ V, Hid (V = (bitV z0 z1)) := ⟨_, Lib.hid rfl⟩
  rw [← HV.out] at hsm
  go_enter Try.func10, Try.ntmps10
  go_wp2_with fail
  refine (szBoolSS_c _ _ z1 _ _ (w1.at_.ext (Ext.trans E (by (repeat (first | with_reducible assumption | with_reducible exact Ext.refl _ | with_reducible refine Ext.drew' ?_ | with_reducible refine Ext.drewN' ?_ _ | with_reducible refine Ext.alloc ?_ _ | (with_reducible refine Ext.setNew ?_ (by first | exact Nat.le_refl _ | (simp; done) | (simp; omega) | omega) _)))))) (Nat.le_trans w1.le w1.cap) w1.rl (by omega) (by omega)).mono ?_
  rintro e s1 ⟨rfl, hE⟩
  replace E := Ext.trans E (Ext.trans (by (repeat (first | with_reducible assumption | with_reducible exact Ext.refl _ | with_reducible refine Ext.drew' ?_ | with_reducible refine Ext.drewN' ?_ _ | with_reducible refine Ext.alloc ?_ _ | (with_reducible refine Ext.setNew ?_ (by first | exact Nat.le_refl _ | (simp; done) | (simp; omega) | omega) _)))) hE)
  clear hE
  skip
  go_wp2_with fail
  refine (toByteS_r a0 cap0 z0 _ (w0.at_.ext (Ext.trans E (by (repeat (first | with_reducible assumption | with_reducible exact Ext.refl _ | with_reducible refine Ext.drew' ?_ | with_reducible refine Ext.drewN' ?_ _ | with_reducible refine Ext.alloc ?_ _ | (with_reducible refine Ext.setNew ?_ (by first | exact Nat.le_refl _ | (simp; done) | (simp; omega) | omega) _)))))) hb0).mono ?_
  rintro e s2 ⟨at0, ct0, rfl, t0, hE⟩
  replace E := Ext.trans E (Ext.trans (by (repeat (first | with_reducible assumption | with_reducible exact Ext.refl _ | with_reducible refine Ext.drew' ?_ | with_reducible refine Ext.drewN' ?_ _ | with_reducible refine Ext.alloc ?_ _ | (with_reducible refine Ext.setNew ?_ (by first | exact Nat.le_refl _ | (simp; done) | (simp; omega) | omega) _)))) hE)
  clear hE
  go_wp2_with fail
  refine (toBoolSS_c _ _ z1 _ (w1.at_.ext (Ext.trans E (by (repeat (first | with_reducible assumption | with_reducible exact Ext.refl _ | with_reducible refine Ext.drew' ?_ | with_reducible refine Ext.drewN' ?_ _ | with_reducible refine Ext.alloc ?_ _ | (with_reducible refine Ext.setNew ?_ (by first | exact Nat.le_refl _ | (simp; done) | (simp; omega) | omega) _)))))) hl1 ht1).mono ?_
  rintro e s3 ⟨Bt1, rfl, t1, hE⟩
  replace E := Ext.trans E (Ext.trans (by (repeat (first | with_reducible assumption | with_reducible exact Ext.refl _ | with_reducible refine Ext.drew' ?_ | with_reducible refine Ext.drewN' ?_ _ | with_reducible refine Ext.alloc ?_ _ | (with_reducible refine Ext.setNew ?_ (by first | exact Nat.le_refl _ | (simp; done) | (simp; omega) | omega) _)))) hE)
  replace t0 := t0.ext (Ext.trans (by (repeat (first | with_reducible assumption | with_reducible exact Ext.refl _ | with_reducible refine Ext.drew' ?_ | with_reducible refine Ext.drewN' ?_ _ | with_reducible refine Ext.alloc ?_ _ | (with_reducible refine Ext.setNew ?_ (by first | exact Nat.le_refl _ | (simp; done) | (simp; omega) | omega) _)))) hE)
  clear hE
  go_wp2_with fail
  refine (specRunBitstream_c z0 z1 _ _ _ _ _ (t0.ext (by (repeat (first | with_reducible assumption | with_reducible exact Ext.refl _ | with_reducible refine Ext.drew' ?_ | with_reducible refine Ext.drewN' ?_ _ | with_reducible refine Ext.alloc ?_ _ | (with_reducible refine Ext.setNew ?_ (by first | exact Nat.le_refl _ | (simp; done) | (simp; omega) | omega) _))))).byt w0.all hb0 (t1.ext (by (repeat (first | with_reducible assumption | with_reducible exact Ext.refl _ | with_reducible refine Ext.drew' ?_ | with_reducible refine Ext.drewN' ?_ _ | with_reducible refine Ext.alloc ?_ _ | (with_reducible refine Ext.setNew ?_ (by first | exact Nat.le_refl _ | (simp; done) | (simp; omega) | omega) _))))).rows hl1 hr1).mono ?_
  rw [← HV.out]
  rintro e s4 hh
  obtain ⟨vr0, rfl, r, hE⟩ := GiveRows.rep hh
  replace E := Ext.trans E (Ext.trans (by (repeat (first | with_reducible assumption | with_reducible exact Ext.refl _ | with_reducible refine Ext.drew' ?_ | with_reducible refine Ext.drewN' ?_ _ | with_reducible refine Ext.alloc ?_ _ | (with_reducible refine Ext.setNew ?_ (by first | exact Nat.le_refl _ | (simp; done) | (simp; omega) | omega) _)))) hE)
  replace t0 := t0.ext (Ext.trans (by (repeat (first | with_reducible assumption | with_reducible exact Ext.refl _ | with_reducible refine Ext.drew' ?_ | with_reducible refine Ext.drewN' ?_ _ | with_reducible refine Ext.alloc ?_ _ | (with_reducible refine Ext.setNew ?_ (by first | exact Nat.le_refl _ | (simp; done) | (simp; omega) | omega) _)))) hE)
  replace t1 := t1.ext (Ext.trans (by (repeat (first | with_reducible assumption | with_reducible exact Ext.refl _ | with_reducible refine Ext.drew' ?_ | with_reducible refine Ext.drewN' ?_ _ | with_reducible refine Ext.alloc ?_ _ | (with_reducible refine Ext.setNew ?_ (by first | exact Nat.le_refl _ | (simp; done) | (simp; omega) | omega) _)))) hE)
  clear hE
  have E4 := Ext.refl s4
  have lE := E.size
  go_wp2_with fail
  refine (toByteS_r a0 cap0 z0 _ (w0.at_.ext (Ext.trans E (by (repeat (first | with_reducible assumption | with_reducible exact Ext.refl _ | with_reducible refine Ext.drew' ?_ | with_reducible refine Ext.drewN' ?_ _ | with_reducible refine Ext.alloc ?_ _ | (with_reducible refine Ext.setNew ?_ (by first | exact Nat.le_refl _ | (simp; done) | (simp; omega) | omega) _)))))) hb0).mono ?_
  rintro e s5 ⟨ax0, cx0, rfl, x0, hE⟩
  replace x0 := x0.le (b2 := s4.heap.size) (Ext.size (w := s4) (by (repeat (first | with_reducible assumption | with_reducible exact Ext.refl _ | with_reducible refine Ext.drew' ?_ | with_reducible refine Ext.drewN' ?_ _ | with_reducible refine Ext.alloc ?_ _ | (with_reducible refine Ext.setNew ?_ (by first | exact Nat.le_refl _ | (simp; done) | (simp; omega) | omega) _)))))
  replace E := Ext.trans E (Ext.trans (by (repeat (first | with_reducible assumption | with_reducible exact Ext.refl _ | with_reducible refine Ext.drew' ?_ | with_reducible refine Ext.drewN' ?_ _ | with_reducible refine Ext.alloc ?_ _ | (with_reducible refine Ext.setNew ?_ (by first | exact Nat.le_refl _ | (simp; done) | (simp; omega) | omega) _)))) hE)
  replace E4 := Ext.trans E4 (Ext.trans (by (repeat (first | with_reducible assumption | with_reducible exact Ext.refl _ | with_reducible refine Ext.drew' ?_ | with_reducible refine Ext.drewN' ?_ _ | with_reducible refine Ext.alloc ?_ _ | (with_reducible refine Ext.setNew ?_ (by first | exact Nat.le_refl _ | (simp; done) | (simp; omega) | omega) _)))) hE)
  clear hE
  have lEx0 := E4.size
  have Ex0 := Ext.refl s5
  go_wp2_with fail
  refine (toBoolSS_c _ _ z1 _ (w1.at_.ext (Ext.trans E (by (repeat (first | with_reducible assumption | with_reducible exact Ext.refl _ | with_reducible refine Ext.drew' ?_ | with_reducible refine Ext.drewN' ?_ _ | with_reducible refine Ext.alloc ?_ _ | (with_reducible refine Ext.setNew ?_ (by first | exact Nat.le_refl _ | (simp; done) | (simp; omega) | omega) _)))))) hl1 ht1).mono ?_
  rintro e s6 ⟨Bx1, rfl, x1, hE⟩
  replace x1 := x1.le (b2 := s5.heap.size) (Ext.size (w := s5) (by (repeat (first | with_reducible assumption | with_reducible exact Ext.refl _ | with_reducible refine Ext.drew' ?_ | with_reducible refine Ext.drewN' ?_ _ | with_reducible refine Ext.alloc ?_ _ | (with_reducible refine Ext.setNew ?_ (by first | exact Nat.le_refl _ | (simp; done) | (simp; omega) | omega) _)))))
  replace E := Ext.trans E (Ext.trans (by (repeat (first | with_reducible assumption | with_reducible exact Ext.refl _ | with_reducible refine Ext.drew' ?_ | with_reducible refine Ext.drewN' ?_ _ | with_reducible refine Ext.alloc ?_ _ | (with_reducible refine Ext.setNew ?_ (by first | exact Nat.le_refl _ | (simp; done) | (simp; omega) | omega) _)))) hE)
  replace E4 := Ext.trans E4 (Ext.trans (by (repeat (first | with_reducible assumption | with_reducible exact Ext.refl _ | with_reducible refine Ext.drew' ?_ | with_reducible refine Ext.drewN' ?_ _ | with_reducible refine Ext.alloc ?_ _ | (with_reducible refine Ext.setNew ?_ (by first | exact Nat.le_refl _ | (simp; done) | (simp; omega) | omega) _)))) hE)
  replace x0 := x0.ext (Ext.trans (by (repeat (first | with_reducible assumption | with_reducible exact Ext.refl _ | with_reducible refine Ext.drew' ?_ | with_reducible refine Ext.drewN' ?_ _ | with_reducible refine Ext.alloc ?_ _ | (with_reducible refine Ext.setNew ?_ (by first | exact Nat.le_refl _ | (simp; done) | (simp; omega) | omega) _)))) hE)
  replace Ex0 := Ext.trans Ex0 (Ext.trans (by (repeat (first | with_reducible assumption | with_reducible exact Ext.refl _ | with_reducible refine Ext.drew' ?_ | with_reducible refine Ext.drewN' ?_ _ | with_reducible refine Ext.alloc ?_ _ | (with_reducible refine Ext.setNew ?_ (by first | exact Nat.le_refl _ | (simp; done) | (simp; omega) | omega) _)))) hE)
  clear hE
  have lEx1 := Ex0.size
  have Ex1 := Ext.refl s6
  have lEg := Ex1.size
  have Eg := Ext.refl s6
  go_wp2_with fail
  refine (implRunBitstream_c z0 z1 _ _ _ _ _ (x0.ext (by (repeat (first | with_reducible assumption | with_reducible exact Ext.refl _ | with_reducible refine Ext.drew' ?_ | with_reducible refine Ext.drewN' ?_ _ | with_reducible refine Ext.alloc ?_ _ | (with_reducible refine Ext.setNew ?_ (by first | exact Nat.le_refl _ | (simp; done) | (simp; omega) | omega) _))))).byt w0.all hb0 x0.capOk.1 x0.capOk.2 (x1.ext (by (repeat (first | with_reducible assumption | with_reducible exact Ext.refl _ | with_reducible refine Ext.drew' ?_ | with_reducible refine Ext.drewN' ?_ _ | with_reducible refine Ext.alloc ?_ _ | (with_reducible refine Ext.setNew ?_ (by first | exact Nat.le_refl _ | (simp; done) | (simp; omega) | omega) _))))).rows hl1 hr1).mono ?_
  rw [← HV.out]
  rintro e s7 hh
  obtain ⟨vg0, rfl, g, hE⟩ := GiveRows.rep hh
  replace g := g.le (b2 := s6.heap.size) (Ext.size (w := s6) (by (repeat (first | with_reducible assumption | with_reducible exact Ext.refl _ | with_reducible refine Ext.drew' ?_ | with_reducible refine Ext.drewN' ?_ _ | with_reducible refine Ext.alloc ?_ _ | (with_reducible refine Ext.setNew ?_ (by first | exact Nat.le_refl _ | (simp; done) | (simp; omega) | omega) _)))))
  replace E := Ext.trans E (Ext.trans (by (repeat (first | with_reducible assumption | with_reducible exact Ext.refl _ | with_reducible refine Ext.drew' ?_ | with_reducible refine Ext.drewN' ?_ _ | with_reducible refine Ext.alloc ?_ _ | (with_reducible refine Ext.setNew ?_ (by first | exact Nat.le_refl _ | (simp; done) | (simp; omega) | omega) _)))) hE)
  replace E4 := Ext.trans E4 (Ext.trans (by (repeat (first | with_reducible assumption | with_reducible exact Ext.refl _ | with_reducible refine Ext.drew' ?_ | with_reducible refine Ext.drewN' ?_ _ | with_reducible refine Ext.alloc ?_ _ | (with_reducible refine Ext.setNew ?_ (by first | exact Nat.le_refl _ | (simp; done) | (simp; omega) | omega) _)))) hE)
  replace x0 := x0.ext (Ext.trans (by (repeat (first | with_reducible assumption | with_reducible exact Ext.refl _ | with_reducible refine Ext.drew' ?_ | with_reducible refine Ext.drewN' ?_ _ | with_reducible refine Ext.alloc ?_ _ | (with_reducible refine Ext.setNew ?_ (by first | exact Nat.le_refl _ | (simp; done) | (simp; omega) | omega) _)))) hE)
  replace Ex0 := Ext.trans Ex0 (Ext.trans (by (repeat (first | with_reducible assumption | with_reducible exact Ext.refl _ | with_reducible refine Ext.drew' ?_ | with_reducible refine Ext.drewN' ?_ _ | with_reducible refine Ext.alloc ?_ _ | (with_reducible refine Ext.setNew ?_ (by first | exact Nat.le_refl _ | (simp; done) | (simp; omega) | omega) _)))) hE)
  replace x1 := x1.ext (Ext.trans (by (repeat (first | with_reducible assumption | with_reducible exact Ext.refl _ | with_reducible refine Ext.drew' ?_ | with_reducible refine Ext.drewN' ?_ _ | with_reducible refine Ext.alloc ?_ _ | (with_reducible refine Ext.setNew ?_ (by first | exact Nat.le_refl _ | (simp; done) | (simp; omega) | omega) _)))) hE)
  replace Ex1 := Ext.trans Ex1 (Ext.trans (by (repeat (first | with_reducible assumption | with_reducible exact Ext.refl _ | with_reducible refine Ext.drew' ?_ | with_reducible refine Ext.drewN' ?_ _ | with_reducible refine Ext.alloc ?_ _ | (with_reducible refine Ext.setNew ?_ (by first | exact Nat.le_refl _ | (simp; done) | (simp; omega) | omega) _)))) hE)
  replace Eg := Ext.trans Eg (Ext.trans (by (repeat (first | with_reducible assumption | with_reducible exact Ext.refl _ | with_reducible refine Ext.drew' ?_ | with_reducible refine Ext.drewN' ?_ _ | with_reducible refine Ext.alloc ?_ _ | (with_reducible refine Ext.setNew ?_ (by first | exact Nat.le_refl _ | (simp; done) | (simp; omega) | omega) _)))) hE)
  clear hE
  have lEh := Eg.size
  go_wp2_with fail
  refine (eqRows_R (g.ext (by (repeat (first | with_reducible assumption | with_reducible exact Ext.refl _ | with_reducible refine Ext.drew' ?_ | with_reducible refine Ext.drewN' ?_ _ | with_reducible refine Ext.alloc ?_ _ | (with_reducible refine Ext.setNew ?_ (by first | exact Nat.le_refl _ | (simp; done) | (simp; omega) | omega) _))))) (r.ext (Ext.trans E4 (by (repeat (first | with_reducible assumption | with_reducible exact Ext.refl _ | with_reducible refine Ext.drew' ?_ | with_reducible refine Ext.drewN' ?_ _ | with_reducible refine Ext.alloc ?_ _ | (with_reducible refine Ext.setNew ?_ (by first | exact Nat.le_refl _ | (simp; done) | (simp; omega) | omega) _))))))).mono ?_
  rintro e s8 ⟨rfl, hE⟩
  replace E := Ext.trans E (Ext.trans (by (repeat (first | with_reducible assumption | with_reducible exact Ext.refl _ | with_reducible refine Ext.drew' ?_ | with_reducible refine Ext.drewN' ?_ _ | with_reducible refine Ext.alloc ?_ _ | (with_reducible refine Ext.setNew ?_ (by first | exact Nat.le_refl _ | (simp; done) | (simp; omega) | omega) _)))) hE)
  replace E4 := Ext.trans E4 (Ext.trans (by (repeat (first | with_reducible assumption | with_reducible exact Ext.refl _ | with_reducible refine Ext.drew' ?_ | with_reducible refine Ext.drewN' ?_ _ | with_reducible refine Ext.alloc ?_ _ | (with_reducible refine Ext.setNew ?_ (by first | exact Nat.le_refl _ | (simp; done) | (simp; omega) | omega) _)))) hE)
  replace x0 := x0.ext (Ext.trans (by (repeat (first | with_reducible assumption | with_reducible exact Ext.refl _ | with_reducible refine Ext.drew' ?_ | with_reducible refine Ext.drewN' ?_ _ | with_reducible refine Ext.alloc ?_ _ | (with_reducible refine Ext.setNew ?_ (by first | exact Nat.le_refl _ | (simp; done) | (simp; omega) | omega) _)))) hE)
  replace Ex0 := Ext.trans Ex0 (Ext.trans (by (repeat (first | with_reducible assumption | with_reducible exact Ext.refl _ | with_reducible refine Ext.drew' ?_ | with_reducible refine Ext.drewN' ?_ _ | with_reducible refine Ext.alloc ?_ _ | (with_reducible refine Ext.setNew ?_ (by first | exact Nat.le_refl _ | (simp; done) | (simp; omega) | omega) _)))) hE)
  replace x1 := x1.ext (Ext.trans (by (repeat (first | with_reducible assumption | with_reducible exact Ext.refl _ | with_reducible refine Ext.drew' ?_ | with_reducible refine Ext.drewN' ?_ _ | with_reducible refine Ext.alloc ?_ _ | (with_reducible refine Ext.setNew ?_ (by first | exact Nat.le_refl _ | (simp; done) | (simp; omega) | omega) _)))) hE)
  replace Ex1 := Ext.trans Ex1 (Ext.trans (by (repeat (first | with_reducible assumption | with_reducible exact Ext.refl _ | with_reducible refine Ext.drew' ?_ | with_reducible refine Ext.drewN' ?_ _ | with_reducible refine Ext.alloc ?_ _ | (with_reducible refine Ext.setNew ?_ (by first | exact Nat.le_refl _ | (simp; done) | (simp; omega) | omega) _)))) hE)
  replace Eg := Ext.trans Eg (Ext.trans (by (repeat (first | with_reducible assumption | with_reducible exact Ext.refl _ | with_reducible refine Ext.drew' ?_ | with_reducible refine Ext.drewN' ?_ _ | with_reducible refine Ext.alloc ?_ _ | (with_reducible refine Ext.setNew ?_ (by first | exact Nat.le_refl _ | (simp; done) | (simp; omega) | omega) _)))) hE)
  replace g := g.ext (Ext.trans (by (repeat (first | with_reducible assumption | with_reducible exact Ext.refl _ | with_reducible refine Ext.drew' ?_ | with_reducible refine Ext.drewN' ?_ _ | with_reducible refine Ext.alloc ?_ _ | (with_reducible refine Ext.setNew ?_ (by first | exact Nat.le_refl _ | (simp; done) | (simp; omega) | omega) _)))) hE)
  clear hE
  go_wp2_with fail
  refine (toByteS_r a0 cap0 z0 _ (w0.at_.ext (Ext.trans E (by (repeat (first | with_reducible assumption | with_reducible exact Ext.refl _ | with_reducible refine Ext.drew' ?_ | with_reducible refine Ext.drewN' ?_ _ | with_reducible refine Ext.alloc ?_ _ | (with_reducible refine Ext.setNew ?_ (by first | exact Nat.le_refl _ | (simp; done) | (simp; omega) | omega) _)))))) hb0).mono ?_
  rintro e s9 ⟨aq0, cq0, rfl, qq0, hE⟩
  replace E := Ext.trans E (Ext.trans (by (repeat (first | with_reducible assumption | with_reducible exact Ext.refl _ | with_reducible refine Ext.drew' ?_ | with_reducible refine Ext.drewN' ?_ _ | with_reducible refine Ext.alloc ?_ _ | (with_reducible refine Ext.setNew ?_ (by first | exact Nat.le_refl _ | (simp; done) | (simp; omega) | omega) _)))) hE)
  replace E4 := Ext.trans E4 (Ext.trans (by (repeat (first | with_reducible assumption | with_reducible exact Ext.refl _ | with_reducible refine Ext.drew' ?_ | with_reducible refine Ext.drewN' ?_ _ | with_reducible refine Ext.alloc ?_ _ | (with_reducible refine Ext.setNew ?_ (by first | exact Nat.le_refl _ | (simp; done) | (simp; omega) | omega) _)))) hE)
  replace x0 := x0.ext (Ext.trans (by (repeat (first | with_reducible assumption | with_reducible exact Ext.refl _ | with_reducible refine Ext.drew' ?_ | with_reducible refine Ext.drewN' ?_ _ | with_reducible refine Ext.alloc ?_ _ | (with_reducible refine Ext.setNew ?_ (by first | exact Nat.le_refl _ | (simp; done) | (simp; omega) | omega) _)))) hE)
  replace Ex0 := Ext.trans Ex0 (Ext.trans (by (repeat (first | with_reducible assumption | with_reducible exact Ext.refl _ | with_reducible refine Ext.drew' ?_ | with_reducible refine Ext.drewN' ?_ _ | with_reducible refine Ext.alloc ?_ _ | (with_reducible refine Ext.setNew ?_ (by first | exact Nat.le_refl _ | (simp; done) | (simp; omega) | omega) _)))) hE)
  replace x1 := x1.ext (Ext.trans (by (repeat (first | with_reducible assumption | with_reducible exact Ext.refl _ | with_reducible refine Ext.drew' ?_ | with_reducible refine Ext.drewN' ?_ _ | with_reducible refine Ext.alloc ?_ _ | (with_reducible refine Ext.setNew ?_ (by first | exact Nat.le_refl _ | (simp; done) | (simp; omega) | omega) _)))) hE)
  replace Ex1 := Ext.trans Ex1 (Ext.trans (by (repeat (first | with_reducible assumption | with_reducible exact Ext.refl _ | with_reducible refine Ext.drew' ?_ | with_reducible refine Ext.drewN' ?_ _ | with_reducible refine Ext.alloc ?_ _ | (with_reducible refine Ext.setNew ?_ (by first | exact Nat.le_refl _ | (simp; done) | (simp; omega) | omega) _)))) hE)
  replace Eg := Ext.trans Eg (Ext.trans (by (repeat (first | with_reducible assumption | with_reducible exact Ext.refl _ | with_reducible refine Ext.drew' ?_ | with_reducible refine Ext.drewN' ?_ _ | with_reducible refine Ext.alloc ?_ _ | (with_reducible refine Ext.setNew ?_ (by first | exact Nat.le_refl _ | (simp; done) | (simp; omega) | omega) _)))) hE)
  replace g := g.ext (Ext.trans (by (repeat (first | with_reducible assumption | with_reducible exact Ext.refl _ | with_reducible refine Ext.drew' ?_ | with_reducible refine Ext.drewN' ?_ _ | with_reducible refine Ext.alloc ?_ _ | (with_reducible refine Ext.setNew ?_ (by first | exact Nat.le_refl _ | (simp; done) | (simp; omega) | omega) _)))) hE)
  clear hE
  go_wp2_with fail
  refine (eqByt_R (x0.ext (by (repeat (first | with_reducible assumption | with_reducible exact Ext.refl _ | with_reducible refine Ext.drew' ?_ | with_reducible refine Ext.drewN' ?_ _ | with_reducible refine Ext.alloc ?_ _ | (with_reducible refine Ext.setNew ?_ (by first | exact Nat.le_refl _ | (simp; done) | (simp; omega) | omega) _))))) (qq0.ext (by (repeat (first | with_reducible assumption | with_reducible exact Ext.refl _ | with_reducible refine Ext.drew' ?_ | with_reducible refine Ext.drewN' ?_ _ | with_reducible refine Ext.alloc ?_ _ | (with_reducible refine Ext.setNew ?_ (by first | exact Nat.le_refl _ | (simp; done) | (simp; omega) | omega) _)))))).mono ?_
  rintro e s10 ⟨rfl, hE⟩
  replace E := Ext.trans E (Ext.trans (by (repeat (first | with_reducible assumption | with_reducible exact Ext.refl _ | with_reducible refine Ext.drew' ?_ | with_reducible refine Ext.drewN' ?_ _ | with_reducible refine Ext.alloc ?_ _ | (with_reducible refine Ext.setNew ?_ (by first | exact Nat.le_refl _ | (simp; done) | (simp; omega) | omega) _)))) hE)
  replace E4 := Ext.trans E4 (Ext.trans (by (repeat (first | with_reducible assumption | with_reducible exact Ext.refl _ | with_reducible refine Ext.drew' ?_ | with_reducible refine Ext.drewN' ?_ _ | with_reducible refine Ext.alloc ?_ _ | (with_reducible refine Ext.setNew ?_ (by first | exact Nat.le_refl _ | (simp; done) | (simp; omega) | omega) _)))) hE)
  replace x0 := x0.ext (Ext.trans (by (repeat (first | with_reducible assumption | with_reducible exact Ext.refl _ | with_reducible refine Ext.drew' ?_ | with_reducible refine Ext.drewN' ?_ _ | with_reducible refine Ext.alloc ?_ _ | (with_reducible refine Ext.setNew ?_ (by first | exact Nat.le_refl _ | (simp; done) | (simp; omega) | omega) _)))) hE)
  replace Ex0 := Ext.trans Ex0 (Ext.trans (by (repeat (first | with_reducible assumption | with_reducible exact Ext.refl _ | with_reducible refine Ext.drew' ?_ | with_reducible refine Ext.drewN' ?_ _ | with_reducible refine Ext.alloc ?_ _ | (with_reducible refine Ext.setNew ?_ (by first | exact Nat.le_refl _ | (simp; done) | (simp; omega) | omega) _)))) hE)
  replace x1 := x1.ext (Ext.trans (by (repeat (first | with_reducible assumption | with_reducible exact Ext.refl _ | with_reducible refine Ext.drew' ?_ | with_reducible refine Ext.drewN' ?_ _ | with_reducible refine Ext.alloc ?_ _ | (with_reducible refine Ext.setNew ?_ (by first | exact Nat.le_refl _ | (simp; done) | (simp; omega) | omega) _)))) hE)
  replace Ex1 := Ext.trans Ex1 (Ext.trans (by (repeat (first | with_reducible assumption | with_reducible exact Ext.refl _ | with_reducible refine Ext.drew' ?_ | with_reducible refine Ext.drewN' ?_ _ | with_reducible refine Ext.alloc ?_ _ | (with_reducible refine Ext.setNew ?_ (by first | exact Nat.le_refl _ | (simp; done) | (simp; omega) | omega) _)))) hE)
  replace Eg := Ext.trans Eg (Ext.trans (by (repeat (first | with_reducible assumption | with_reducible exact Ext.refl _ | with_reducible refine Ext.drew' ?_ | with_reducible refine Ext.drewN' ?_ _ | with_reducible refine Ext.alloc ?_ _ | (with_reducible refine Ext.setNew ?_ (by first | exact Nat.le_refl _ | (simp; done) | (simp; omega) | omega) _)))) hE)
  replace g := g.ext (Ext.trans (by (repeat (first | with_reducible assumption | with_reducible exact Ext.refl _ | with_reducible refine Ext.drew' ?_ | with_reducible refine Ext.drewN' ?_ _ | with_reducible refine Ext.alloc ?_ _ | (with_reducible refine Ext.setNew ?_ (by first | exact Nat.le_refl _ | (simp; done) | (simp; omega) | omega) _)))) hE)
  clear hE
  go_wp2_with fail
  refine (toBoolSS_c _ _ z1 _ (w1.at_.ext (Ext.trans E (by (repeat (first | with_reducible assumption | with_reducible exact Ext.refl _ | with_reducible refine Ext.drew' ?_ | with_reducible refine Ext.drewN' ?_ _ | with_reducible refine Ext.alloc ?_ _ | (with_reducible refine Ext.setNew ?_ (by first | exact Nat.le_refl _ | (simp; done) | (simp; omega) | omega) _)))))) hl1 ht1).mono ?_
  rintro e s11 ⟨Bq1, rfl, qq1, hE⟩
  replace E := Ext.trans E (Ext.trans (by (repeat (first | with_reducible assumption | with_reducible exact Ext.refl _ | with_reducible refine Ext.drew' ?_ | with_reducible refine Ext.drewN' ?_ _ | with_reducible refine Ext.alloc ?_ _ | (with_reducible refine Ext.setNew ?_ (by first | exact Nat.le_refl _ | (simp; done) | (simp; omega) | omega) _)))) hE)
  replace E4 := Ext.trans E4 (Ext.trans (by (repeat (first | with_reducible assumption | with_reducible exact Ext.refl _ | with_reducible refine Ext.drew' ?_ | with_reducible refine Ext.drewN' ?_ _ | with_reducible refine Ext.alloc ?_ _ | (with_reducible refine Ext.setNew ?_ (by first | exact Nat.le_refl _ | (simp; done) | (simp; omega) | omega) _)))) hE)
  replace x0 := x0.ext (Ext.trans (by (repeat (first | with_reducible assumption | with_reducible exact Ext.refl _ | with_reducible refine Ext.drew' ?_ | with_reducible refine Ext.drewN' ?_ _ | with_reducible refine Ext.alloc ?_ _ | (with_reducible refine Ext.setNew ?_ (by first | exact Nat.le_refl _ | (simp; done) | (simp; omega) | omega) _)))) hE)
  replace Ex0 := Ext.trans Ex0 (Ext.trans (by (repeat (first | with_reducible assumption | with_reducible exact Ext.refl _ | with_reducible refine Ext.drew' ?_ | with_reducible refine Ext.drewN' ?_ _ | with_reducible refine Ext.alloc ?_ _ | (with_reducible refine Ext.setNew ?_ (by first | exact Nat.le_refl _ | (simp; done) | (simp; omega) | omega) _)))) hE)
  replace x1 := x1.ext (Ext.trans (by (repeat (first | with_reducible assumption | with_reducible exact Ext.refl _ | with_reducible refine Ext.drew' ?_ | with_reducible refine Ext.drewN' ?_ _ | with_reducible refine Ext.alloc ?_ _ | (with_reducible refine Ext.setNew ?_ (by first | exact Nat.le_refl _ | (simp; done) | (simp; omega) | omega) _)))) hE)
  replace Ex1 := Ext.trans Ex1 (Ext.trans (by (repeat (first | with_reducible assumption | with_reducible exact Ext.refl _ | with_reducible refine Ext.drew' ?_ | with_reducible refine Ext.drewN' ?_ _ | with_reducible refine Ext.alloc ?_ _ | (with_reducible refine Ext.setNew ?_ (by first | exact Nat.le_refl _ | (simp; done) | (simp; omega) | omega) _)))) hE)
  replace Eg := Ext.trans Eg (Ext.trans (by (repeat (first | with_reducible assumption | with_reducible exact Ext.refl _ | with_reducible refine Ext.drew' ?_ | with_reducible refine Ext.drewN' ?_ _ | with_reducible refine Ext.alloc ?_ _ | (with_reducible refine Ext.setNew ?_ (by first | exact Nat.le_refl _ | (simp; done) | (simp; omega) | omega) _)))) hE)
  replace g := g.ext (Ext.trans (by (repeat (first | with_reducible assumption | with_reducible exact Ext.refl _ | with_reducible refine Ext.drew' ?_ | with_reducible refine Ext.drewN' ?_ _ | with_reducible refine Ext.alloc ?_ _ | (with_reducible refine Ext.setNew ?_ (by first | exact Nat.le_refl _ | (simp; done) | (simp; omega) | omega) _)))) hE)
  clear hE
  go_wp2_with fail
  refine (eqBoolSS_c _ _ _ _ z1 _ (x1.ext (by (repeat (first | with_reducible assumption | with_reducible exact Ext.refl _ | with_reducible refine Ext.drew' ?_ | with_reducible refine Ext.drewN' ?_ _ | with_reducible refine Ext.alloc ?_ _ | (with_reducible refine Ext.setNew ?_ (by first | exact Nat.le_refl _ | (simp; done) | (simp; omega) | omega) _))))).rows (qq1.ext (by (repeat (first | with_reducible assumption | with_reducible exact Ext.refl _ | with_reducible refine Ext.drew' ?_ | with_reducible refine Ext.drewN' ?_ _ | with_reducible refine Ext.alloc ?_ _ | (with_reducible refine Ext.setNew ?_ (by first | exact Nat.le_refl _ | (simp; done) | (simp; omega) | omega) _))))).rows hl1 hr1).mono ?_
  rintro e s12 ⟨rfl, hE⟩
  replace E := Ext.trans E (Ext.trans (by (repeat (first | with_reducible assumption | with_reducible exact Ext.refl _ | with_reducible refine Ext.drew' ?_ | with_reducible refine Ext.drewN' ?_ _ | with_reducible refine Ext.alloc ?_ _ | (with_reducible refine Ext.setNew ?_ (by first | exact Nat.le_refl _ | (simp; done) | (simp; omega) | omega) _)))) hE)
  replace E4 := Ext.trans E4 (Ext.trans (by (repeat (first | with_reducible assumption | with_reducible exact Ext.refl _ | with_reducible refine Ext.drew' ?_ | with_reducible refine Ext.drewN' ?_ _ | with_reducible refine Ext.alloc ?_ _ | (with_reducible refine Ext.setNew ?_ (by first | exact Nat.le_refl _ | (simp; done) | (simp; omega) | omega) _)))) hE)
  replace x0 := x0.ext (Ext.trans (by (repeat (first | with_reducible assumption | with_reducible exact Ext.refl _ | with_reducible refine Ext.drew' ?_ | with_reducible refine Ext.drewN' ?_ _ | with_reducible refine Ext.alloc ?_ _ | (with_reducible refine Ext.setNew ?_ (by first | exact Nat.le_refl _ | (simp; done) | (simp; omega) | omega) _)))) hE)
  replace Ex0 := Ext.trans Ex0 (Ext.trans (by (repeat (first | with_reducible assumption | with_reducible exact Ext.refl _ | with_reducible refine Ext.drew' ?_ | with_reducible refine Ext.drewN' ?_ _ | with_reducible refine Ext.alloc ?_ _ | (with_reducible refine Ext.setNew ?_ (by first | exact Nat.le_refl _ | (simp; done) | (simp; omega) | omega) _)))) hE)
  replace x1 := x1.ext (Ext.trans (by (repeat (first | with_reducible assumption | with_reducible exact Ext.refl _ | with_reducible refine Ext.drew' ?_ | with_reducible refine Ext.drewN' ?_ _ | with_reducible refine Ext.alloc ?_ _ | (with_reducible refine Ext.setNew ?_ (by first | exact Nat.le_refl _ | (simp; done) | (simp; omega) | omega) _)))) hE)
  replace Ex1 := Ext.trans Ex1 (Ext.trans (by (repeat (first | with_reducible assumption | with_reducible exact Ext.refl _ | with_reducible refine Ext.drew' ?_ | with_reducible refine Ext.drewN' ?_ _ | with_reducible refine Ext.alloc ?_ _ | (with_reducible refine Ext.setNew ?_ (by first | exact Nat.le_refl _ | (simp; done) | (simp; omega) | omega) _)))) hE)
  replace Eg := Ext.trans Eg (Ext.trans (by (repeat (first | with_reducible assumption | with_reducible exact Ext.refl _ | with_reducible refine Ext.drew' ?_ | with_reducible refine Ext.drewN' ?_ _ | with_reducible refine Ext.alloc ?_ _ | (with_reducible refine Ext.setNew ?_ (by first | exact Nat.le_refl _ | (simp; done) | (simp; omega) | omega) _)))) hE)
  replace g := g.ext (Ext.trans (by (repeat (first | with_reducible assumption | with_reducible exact Ext.refl _ | with_reducible refine Ext.drew' ?_ | with_reducible refine Ext.drewN' ?_ _ | with_reducible refine Ext.alloc ?_ _ | (with_reducible refine Ext.setNew ?_ (by first | exact Nat.le_refl _ | (simp; done) | (simp; omega) | omega) _)))) hE)
  clear hE
  go_wp2_with fail
  refine (markByt_k (x0.ext (by (repeat (first | with_reducible assumption | with_reducible exact Ext.refl _ | with_reducible refine Ext.drew' ?_ | with_reducible refine Ext.drewN' ?_ _ | with_reducible refine Ext.alloc ?_ _ | (with_reducible refine Ext.setNew ?_ (by first | exact Nat.le_refl _ | (simp; done) | (simp; omega) | omega) _))))) _ (by omega) (by omega)).mono ?_
  rintro e s13 ⟨rfl, hM⟩
  clear x0
  replace hM := Mid.trans (Mid.ofExt (w := s12) (by (repeat (first | with_reducible assumption | with_reducible exact Ext.refl _ | with_reducible refine Ext.drew' ?_ | with_reducible refine Ext.drewN' ?_ _ | with_reducible refine Ext.alloc ?_ _ | (with_reducible refine Ext.setNew ?_ (by first | exact Nat.le_refl _ | (simp; done) | (simp; omega) | omega) _))))) hM
  replace E := E.mid hM (by omega)
  replace E4 := E4.mid hM (by omega)
  replace g := g.hi hM (by omega)
  replace x1 := x1.mid hM (.inr (by omega))
  clear hM
  go_wp2_with fail
  refine (markRows_k (x1.ext (by (repeat (first | with_reducible assumption | with_reducible exact Ext.refl _ | with_reducible refine Ext.drew' ?_ | with_reducible refine Ext.drewN' ?_ _ | with_reducible refine Ext.alloc ?_ _ | (with_reducible refine Ext.setNew ?_ (by first | exact Nat.le_refl _ | (simp; done) | (simp; omega) | omega) _))))) _ (by omega) (by omega)).mono ?_
  rintro e s14 ⟨rfl, hM⟩
  clear x1
  replace hM := Mid.trans (Mid.ofExt (w := s13) (by (repeat (first | with_reducible assumption | with_reducible exact Ext.refl _ | with_reducible refine Ext.drew' ?_ | with_reducible refine Ext.drewN' ?_ _ | with_reducible refine Ext.alloc ?_ _ | (with_reducible refine Ext.setNew ?_ (by first | exact Nat.le_refl _ | (simp; done) | (simp; omega) | omega) _))))) hM
  replace E := E.mid hM (by omega)
  replace E4 := E4.mid hM (by omega)
  replace g := g.hi hM (by omega)
  clear hM
  go_wp2_with fail
  refine (eqRows_R (g.ext (by (repeat (first | with_reducible assumption | with_reducible exact Ext.refl _ | with_reducible refine Ext.drew' ?_ | with_reducible refine Ext.drewN' ?_ _ | with_reducible refine Ext.alloc ?_ _ | (with_reducible refine Ext.setNew ?_ (by first | exact Nat.le_refl _ | (simp; done) | (simp; omega) | omega) _))))) (r.ext (Ext.trans E4 (by (repeat (first | with_reducible assumption | with_reducible exact Ext.refl _ | with_reducible refine Ext.drew' ?_ | with_reducible refine Ext.drewN' ?_ _ | with_reducible refine Ext.alloc ?_ _ | (with_reducible refine Ext.setNew ?_ (by first | exact Nat.le_refl _ | (simp; done) | (simp; omega) | omega) _))))))).mono ?_
  rintro e s15 ⟨rfl, hE⟩
  replace E := Ext.trans E (Ext.trans (by (repeat (first | with_reducible assumption | with_reducible exact Ext.refl _ | with_reducible refine Ext.drew' ?_ | with_reducible refine Ext.drewN' ?_ _ | with_reducible refine Ext.alloc ?_ _ | (with_reducible refine Ext.setNew ?_ (by first | exact Nat.le_refl _ | (simp; done) | (simp; omega) | omega) _)))) hE)
  replace E4 := Ext.trans E4 (Ext.trans (by (repeat (first | with_reducible assumption | with_reducible exact Ext.refl _ | with_reducible refine Ext.drew' ?_ | with_reducible refine Ext.drewN' ?_ _ | with_reducible refine Ext.alloc ?_ _ | (with_reducible refine Ext.setNew ?_ (by first | exact Nat.le_refl _ | (simp; done) | (simp; omega) | omega) _)))) hE)
  replace g := g.ext (Ext.trans (by (repeat (first | with_reducible assumption | with_reducible exact Ext.refl _ | with_reducible refine Ext.drew' ?_ | with_reducible refine Ext.drewN' ?_ _ | with_reducible refine Ext.alloc ?_ _ | (with_reducible refine Ext.setNew ?_ (by first | exact Nat.le_refl _ | (simp; done) | (simp; omega) | omega) _)))) hE)
  clear hE
  go_wp2_with fail
  refine (markRows_R (g.ext (by (repeat (first | with_reducible assumption | with_reducible exact Ext.refl _ | with_reducible refine Ext.drew' ?_ | with_reducible refine Ext.drewN' ?_ _ | with_reducible refine Ext.alloc ?_ _ | (with_reducible refine Ext.setNew ?_ (by first | exact Nat.le_refl _ | (simp; done) | (simp; omega) | omega) _)))))).mono ?_
  rintro e s16 ⟨km, rfl, mk, hM⟩
  obtain ⟨km0, km1⟩ := mk.kb
  clear g
  skip
  replace hM := Mid.trans (Mid.ofExt (w := s15) (by (repeat (first | with_reducible assumption | with_reducible exact Ext.refl _ | with_reducible refine Ext.drew' ?_ | with_reducible refine Ext.drewN' ?_ _ | with_reducible refine Ext.alloc ?_ _ | (with_reducible refine Ext.setNew ?_ (by first | exact Nat.le_refl _ | (simp; done) | (simp; omega) | omega) _))))) hM
  replace E := E.mid hM (by omega)
  replace E4 := E4.mid hM (by omega)
  clear hM
  go_wp2_with fail
  refine (heldRows_R (mk.ext (by (repeat (first | with_reducible assumption | with_reducible exact Ext.refl _ | with_reducible refine Ext.drew' ?_ | with_reducible refine Ext.drewN' ?_ _ | with_reducible refine Ext.alloc ?_ _ | (with_reducible refine Ext.setNew ?_ (by first | exact Nat.le_refl _ | (simp; done) | (simp; omega) | omega) _)))))).mono ?_
  rintro e s17 ⟨rfl, hE⟩
  replace E := Ext.trans E (Ext.trans (by (repeat (first | with_reducible assumption | with_reducible exact Ext.refl _ | with_reducible refine Ext.drew' ?_ | with_reducible refine Ext.drewN' ?_ _ | with_reducible refine Ext.alloc ?_ _ | (with_reducible refine Ext.setNew ?_ (by first | exact Nat.le_refl _ | (simp; done) | (simp; omega) | omega) _)))) hE)
  replace E4 := Ext.trans E4 (Ext.trans (by (repeat (first | with_reducible assumption | with_reducible exact Ext.refl _ | with_reducible refine Ext.drew' ?_ | with_reducible refine Ext.drewN' ?_ _ | with_reducible refine Ext.alloc ?_ _ | (with_reducible refine Ext.setNew ?_ (by first | exact Nat.le_refl _ | (simp; done) | (simp; omega) | omega) _)))) hE)
  replace mk := mk.ext (Ext.trans (by (repeat (first | with_reducible assumption | with_reducible exact Ext.refl _ | with_reducible refine Ext.drew' ?_ | with_reducible refine Ext.drewN' ?_ _ | with_reducible refine Ext.alloc ?_ _ | (with_reducible refine Ext.setNew ?_ (by first | exact Nat.le_refl _ | (simp; done) | (simp; omega) | omega) _)))) hE)
  clear hE
  go_wp2_with fail
  refine (toByteS_r a0 cap0 z0 _ (w0.at_.ext (Ext.trans E (by (repeat (first | with_reducible assumption | with_reducible exact Ext.refl _ | with_reducible refine Ext.drew' ?_ | with_reducible refine Ext.drewN' ?_ _ | with_reducible refine Ext.alloc ?_ _ | (with_reducible refine Ext.setNew ?_ (by first | exact Nat.le_refl _ | (simp; done) | (simp; omega) | omega) _)))))) hb0).mono ?_
  rintro e s18 ⟨au0, cu0, rfl, u0, hE⟩
  replace E := Ext.trans E (Ext.trans (by (repeat (first | with_reducible assumption | with_reducible exact Ext.refl _ | with_reducible refine Ext.drew' ?_ | with_reducible refine Ext.drewN' ?_ _ | with_reducible refine Ext.alloc ?_ _ | (with_reducible refine Ext.setNew ?_ (by first | exact Nat.le_refl _ | (simp; done) | (simp; omega) | omega) _)))) hE)
  replace E4 := Ext.trans E4 (Ext.trans (by (repeat (first | with_reducible assumption | with_reducible exact Ext.refl _ | with_reducible refine Ext.drew' ?_ | with_reducible refine Ext.drewN' ?_ _ | with_reducible refine Ext.alloc ?_ _ | (with_reducible refine Ext.setNew ?_ (by first | exact Nat.le_refl _ | (simp; done) | (simp; omega) | omega) _)))) hE)
  replace mk := mk.ext (Ext.trans (by (repeat (first | with_reducible assumption | with_reducible exact Ext.refl _ | with_reducible refine Ext.drew' ?_ | with_reducible refine Ext.drewN' ?_ _ | with_reducible refine Ext.alloc ?_ _ | (with_reducible refine Ext.setNew ?_ (by first | exact Nat.le_refl _ | (simp; done) | (simp; omega) | omega) _)))) hE)
  clear hE
  go_wp2_with fail
  refine (toBoolSS_c _ _ z1 _ (w1.at_.ext (Ext.trans E (by (repeat (first | with_reducible assumption | with_reducible exact Ext.refl _ | with_reducible refine Ext.drew' ?_ | with_reducible refine Ext.drewN' ?_ _ | with_reducible refine Ext.alloc ?_ _ | (with_reducible refine Ext.setNew ?_ (by first | exact Nat.le_refl _ | (simp; done) | (simp; omega) | omega) _)))))) hl1 ht1).mono ?_
  rintro e s19 ⟨Bu1, rfl, u1, hE⟩
  replace E := Ext.trans E (Ext.trans (by (repeat (first | with_reducible assumption | with_reducible exact Ext.refl _ | with_reducible refine Ext.drew' ?_ | with_reducible refine Ext.drewN' ?_ _ | with_reducible refine Ext.alloc ?_ _ | (with_reducible refine Ext.setNew ?_ (by first | exact Nat.le_refl _ | (simp; done) | (simp; omega) | omega) _)))) hE)
  replace E4 := Ext.trans E4 (Ext.trans (by (repeat (first | with_reducible assumption | with_reducible exact Ext.refl _ | with_reducible refine Ext.drew' ?_ | with_reducible refine Ext.drewN' ?_ _ | with_reducible refine Ext.alloc ?_ _ | (with_reducible refine Ext.setNew ?_ (by first | exact Nat.le_refl _ | (simp; done) | (simp; omega) | omega) _)))) hE)
  replace mk := mk.ext (Ext.trans (by (repeat (first | with_reducible assumption | with_reducible exact Ext.refl _ | with_reducible refine Ext.drew' ?_ | with_reducible refine Ext.drewN' ?_ _ | with_reducible refine Ext.alloc ?_ _ | (with_reducible refine Ext.setNew ?_ (by first | exact Nat.le_refl _ | (simp; done) | (simp; omega) | omega) _)))) hE)
  replace u0 := u0.ext (Ext.trans (by (repeat (first | with_reducible assumption | with_reducible exact Ext.refl _ | with_reducible refine Ext.drew' ?_ | with_reducible refine Ext.drewN' ?_ _ | with_reducible refine Ext.alloc ?_ _ | (with_reducible refine Ext.setNew ?_ (by first | exact Nat.le_refl _ | (simp; done) | (simp; omega) | omega) _)))) hE)
  clear hE
  go_wp2_with fail
  refine (implRunBitstream_c z0 z1 _ _ _ _ _ (u0.ext (by (repeat (first | with_reducible assumption | with_reducible exact Ext.refl _ | with_reducible refine Ext.drew' ?_ | with_reducible refine Ext.drewN' ?_ _ | with_reducible refine Ext.alloc ?_ _ | (with_reducible refine Ext.setNew ?_ (by first | exact Nat.le_refl _ | (simp; done) | (simp; omega) | omega) _))))).byt w0.all hb0 u0.capOk.1 u0.capOk.2 (u1.ext (by (repeat (first | with_reducible assumption | with_reducible exact Ext.refl _ | with_reducible refine Ext.drew' ?_ | with_reducible refine Ext.drewN' ?_ _ | with_reducible refine Ext.alloc ?_ _ | (with_reducible refine Ext.setNew ?_ (by first | exact Nat.le_refl _ | (simp; done) | (simp; omega) | omega) _))))).rows hl1 hr1).mono ?_
  rw [← HV.out]
  rintro e s20 hh
  obtain ⟨vh0, rfl, h, hE⟩ := GiveRows.rep hh
  replace E := Ext.trans E (Ext.trans (by (repeat (first | with_reducible assumption | with_reducible exact Ext.refl _ | with_reducible refine Ext.drew' ?_ | with_reducible refine Ext.drewN' ?_ _ | with_reducible refine Ext.alloc ?_ _ | (with_reducible refine Ext.setNew ?_ (by first | exact Nat.le_refl _ | (simp; done) | (simp; omega) | omega) _)))) hE)
  replace E4 := Ext.trans E4 (Ext.trans (by (repeat (first | with_reducible assumption | with_reducible exact Ext.refl _ | with_reducible refine Ext.drew' ?_ | with_reducible refine Ext.drewN' ?_ _ | with_reducible refine Ext.alloc ?_ _ | (with_reducible refine Ext.setNew ?_ (by first | exact Nat.le_refl _ | (simp; done) | (simp; omega) | omega) _)))) hE)
  replace mk := mk.ext (Ext.trans (by (repeat (first | with_reducible assumption | with_reducible exact Ext.refl _ | with_reducible refine Ext.drew' ?_ | with_reducible refine Ext.drewN' ?_ _ | with_reducible refine Ext.alloc ?_ _ | (with_reducible refine Ext.setNew ?_ (by first | exact Nat.le_refl _ | (simp; done) | (simp; omega) | omega) _)))) hE)
  replace u0 := u0.ext (Ext.trans (by (repeat (first | with_reducible assumption | with_reducible exact Ext.refl _ | with_reducible refine Ext.drew' ?_ | with_reducible refine Ext.drewN' ?_ _ | with_reducible refine Ext.alloc ?_ _ | (with_reducible refine Ext.setNew ?_ (by first | exact Nat.le_refl _ | (simp; done) | (simp; omega) | omega) _)))) hE)
  replace u1 := u1.ext (Ext.trans (by (repeat (first | with_reducible assumption | with_reducible exact Ext.refl _ | with_reducible refine Ext.drew' ?_ | with_reducible refine Ext.drewN' ?_ _ | with_reducible refine Ext.alloc ?_ _ | (with_reducible refine Ext.setNew ?_ (by first | exact Nat.le_refl _ | (simp; done) | (simp; omega) | omega) _)))) hE)
  clear hE
  go_wp2_with fail
  refine (eqRows_R (h.ext (by (repeat (first | with_reducible assumption | with_reducible exact Ext.refl _ | with_reducible refine Ext.drew' ?_ | with_reducible refine Ext.drewN' ?_ _ | with_reducible refine Ext.alloc ?_ _ | (with_reducible refine Ext.setNew ?_ (by first | exact Nat.le_refl _ | (simp; done) | (simp; omega) | omega) _))))) (r.ext (Ext.trans E4 (by (repeat (first | with_reducible assumption | with_reducible exact Ext.refl _ | with_reducible refine Ext.drew' ?_ | with_reducible refine Ext.drewN' ?_ _ | with_reducible refine Ext.alloc ?_ _ | (with_reducible refine Ext.setNew ?_ (by first | exact Nat.le_refl _ | (simp; done) | (simp; omega) | omega) _))))))).mono ?_
  rintro e s21 ⟨rfl, hE⟩
  replace E := Ext.trans E (Ext.trans (by (repeat (first | with_reducible assumption | with_reducible exact Ext.refl _ | with_reducible refine Ext.drew' ?_ | with_reducible refine Ext.drewN' ?_ _ | with_reducible refine Ext.alloc ?_ _ | (with_reducible refine Ext.setNew ?_ (by first | exact Nat.le_refl _ | (simp; done) | (simp; omega) | omega) _)))) hE)
  replace E4 := Ext.trans E4 (Ext.trans (by (repeat (first | with_reducible assumption | with_reducible exact Ext.refl _ | with_reducible refine Ext.drew' ?_ | with_reducible refine Ext.drewN' ?_ _ | with_reducible refine Ext.alloc ?_ _ | (with_reducible refine Ext.setNew ?_ (by first | exact Nat.le_refl _ | (simp; done) | (simp; omega) | omega) _)))) hE)
  replace mk := mk.ext (Ext.trans (by (repeat (first | with_reducible assumption | with_reducible exact Ext.refl _ | with_reducible refine Ext.drew' ?_ | with_reducible refine Ext.drewN' ?_ _ | with_reducible refine Ext.alloc ?_ _ | (with_reducible refine Ext.setNew ?_ (by first | exact Nat.le_refl _ | (simp; done) | (simp; omega) | omega) _)))) hE)
  replace h := h.ext (Ext.trans (by (repeat (first | with_reducible assumption | with_reducible exact Ext.refl _ | with_reducible refine Ext.drew' ?_ | with_reducible refine Ext.drewN' ?_ _ | with_reducible refine Ext.alloc ?_ _ | (with_reducible refine Ext.setNew ?_ (by first | exact Nat.le_refl _ | (simp; done) | (simp; omega) | omega) _)))) hE)
  clear hE
  go_wp2_with fail
  refine (heldRows_R (mk.ext (by (repeat (first | with_reducible assumption | with_reducible exact Ext.refl _ | with_reducible refine Ext.drew' ?_ | with_reducible refine Ext.drewN' ?_ _ | with_reducible refine Ext.alloc ?_ _ | (with_reducible refine Ext.setNew ?_ (by first | exact Nat.le_refl _ | (simp; done) | (simp; omega) | omega) _)))))).mono ?_
  rintro e s22 ⟨rfl, hE⟩
  replace E := Ext.trans E (Ext.trans (by (repeat (first | with_reducible assumption | with_reducible exact Ext.refl _ | with_reducible refine Ext.drew' ?_ | with_reducible refine Ext.drewN' ?_ _ | with_reducible refine Ext.alloc ?_ _ | (with_reducible refine Ext.setNew ?_ (by first | exact Nat.le_refl _ | (simp; done) | (simp; omega) | omega) _)))) hE)
  replace E4 := Ext.trans E4 (Ext.trans (by (repeat (first | with_reducible assumption | with_reducible exact Ext.refl _ | with_reducible refine Ext.drew' ?_ | with_reducible refine Ext.drewN' ?_ _ | with_reducible refine Ext.alloc ?_ _ | (with_reducible refine Ext.setNew ?_ (by first | exact Nat.le_refl _ | (simp; done) | (simp; omega) | omega) _)))) hE)
  replace mk := mk.ext (Ext.trans (by (repeat (first | with_reducible assumption | with_reducible exact Ext.refl _ | with_reducible refine Ext.drew' ?_ | with_reducible refine Ext.drewN' ?_ _ | with_reducible refine Ext.alloc ?_ _ | (with_reducible refine Ext.setNew ?_ (by first | exact Nat.le_refl _ | (simp; done) | (simp; omega) | omega) _)))) hE)
  replace h := h.ext (Ext.trans (by (repeat (first | with_reducible assumption | with_reducible exact Ext.refl _ | with_reducible refine Ext.drew' ?_ | with_reducible refine Ext.drewN' ?_ _ | with_reducible refine Ext.alloc ?_ _ | (with_reducible refine Ext.setNew ?_ (by first | exact Nat.le_refl _ | (simp; done) | (simp; omega) | omega) _)))) hE)
  clear hE
  go_wp2
  go_ret
  exact ⟨rfl, E⟩
theorem fnExactRunBitstream_lifted (os : Os) (started : os.Started) (H : Type) (enc : TypeId × Value → H) :
    ReturnsInHanded {} Try.checked os 10 .any (Rows.fnExactRunBitstreamSpec.pre6 enc Try.prog Try.f10 Rows.fnExactRunBitstreamRow.domain false) (Rows.fnExactRunBitstreamSpec.post enc Try.prog Try.f10 false true false false) := by
  refine returnsInHanded_of_change (C := Try.checked) own started (by kernel_rfl) Try.func10
    (ChangeSpec.witness6 (enc := enc) (C := Try.checked) false ⟨#[], #[.slice none 0 0, .slice none 0 0], []⟩ 8 (by kernel_rfl) (by kernel_rfl) (by kernel_rfl) (by kernel_rfl)) ?_
  intro W base args ds gs before hval0 hW hcnd _
  have hval : ∀ (j : Nat) t v, Try.f10.params[j]? = some t → args[j]? = some v → Value.okWide Try.prog W .any base t v := hval0
  have hW' := hW
  obtain ⟨p, q, hA0, hV, rfl, hfz, hnd⟩ := hW
  have hA : DataW.TrodAll enc Try.prog W 0 (fun _ => true) true Try.f10.params.toList args.toList ds p := hA0
  rw [Try.params10] at hA hval
  obtain ⟨v0, vs0, d0, ds0, p0, q0, hargs, rfl, rfl, h0, r0⟩ := trodAll_cons hA
  obtain ⟨v1, vs1, d1, ds1, p1, q1, rfl, rfl, rfl, h1, r1⟩ := trodAll_cons r0
  obtain ⟨rfl, rfl, rfl⟩ := trodAll_nil r1
  obtain rfl : args = #[v0, v1] := by cases args; simp_all
  obtain ⟨rfl, rfl⟩ := trodVars_none hV
  have k0 := h0
  have lt0 : ∀ x ∈ p0, x.block < W.heap.size := by obtain ⟨m, hm⟩ := k0; exact DataW.trod_lt m _ _ _ hm
  obtain ⟨a0, cap0, z0, rfl, w0⟩ := open_byt (hval 0 38 v0 rfl rfl) h0
  have k1 := h1
  have lt1 : ∀ x ∈ p1, x.block < W.heap.size := by obtain ⟨m, hm⟩ := k1; exact DataW.trod_lt m _ _ _ hm
  obtain ⟨a1, cap1, z1, rfl, w1⟩ := open_grid (hval 1 76 v1 rfl rfl) h1
  clear hA0 hval0
  refine (fnExactRunBitstream_walk a0 cap0 z0 a1 cap1 z1 W w0 w1).mono fun e W' ⟨he, bel⟩ => ?_
  subst he
  exact ⟨_, rfl, _, _, _, [], _, [], hW', trodAll_mk1 (shut_bool Try.underlying4 _), (trodAll_cons_mk (Below.trod laidOut (by kernel_rfl) (of_decide_eq_true (by kernel_rfl)) k0 bel lt0) (trodAll_cons_mk (Below.trod laidOut (by kernel_rfl) (of_decide_eq_true (by kernel_rfl)) k1 bel lt1) trodAll_mk0)), rfl, bel.frame _, fun h => by cases h⟩
theorem fnExactRunBitstream_over : Rows.fnExactRunBitstreamRow.holds Try.pinned (OpenSpec.ofChange Rows.fnExactRunBitstreamSpec) :=
  OpenClaim.holds_of_wide 10 Try.f10 rfl rfl rfl rfl rfl rfl rfl ⟨rfl, rfl, rfl, rfl, rfl⟩ rfl rfl rfl rfl rfl (by kernel_rfl) Try.func10 (by kernel_rfl)
    (of_decide_eq_true (by kernel_rfl)) (by unfold Func.isWrapper; first | (rw [if_pos (by decide +kernel)]; kernel_rfl) | (rw [if_neg (by decide +kernel)]; exact ⟨rfl, rfl⟩))
    (fun os started H enc _ => fnExactRunBitstream_lifted os started H enc)
theorem fnExactRunBitstream_holds : Rows.FnExactRunBitstreamSaid := fnExactRunBitstream_over
end Go.Proofs.Ytkdiniaddnhkdaa
