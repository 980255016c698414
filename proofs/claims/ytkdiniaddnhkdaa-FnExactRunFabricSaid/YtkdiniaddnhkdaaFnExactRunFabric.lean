/- The exact law of RunFabric. No condition. -/
import Derived.Test.YtkdiniaddnhkdaaFrame
import Derived.Test.YtkdiniaddnhkdaaConfQ
import Derived.Test.YtkdiniaddnhkdaaConfS
import Derived.Test.YtkdiniaddnhkdaaConfU
import Derived.Test.YtkdiniaddnhkdaaRowB
import Derived.Test.YtkdiniaddnhkdaaRepB
import Derived.Test.YtkdiniaddnhkdaaExInt
import Derived.Test.YtkdiniaddnhkdaaRd
import Derived.Test.YtkdiniaddnhkdaaRegion
import Derived.Test.YtkdiniaddnhkdaaStp0
import Derived.Test.YtkdiniaddnhkdaaStpS
import Derived.Test.YtkdiniaddnhkdaaFabR
import Derived.Test.YtkdiniaddnhkdaaAcyT
import Derived.Test.YtkdiniaddnhkdaaRegion2
import Derived.Deep.DeepCutAuto
import Derived.Test.YtkdiniaddnhkdaaStpI
import Derived.Test.YtkdiniaddnhkdaaAcyI
namespace Go.Proofs.Ytkdiniaddnhkdaa
open Go.RowKit
set_option maxRecDepth 100000
set_option linter.unusedVariables false
set_option linter.unusedSimpArgs false
theorem OwnK.blk {w : World} {base : Nat} {tv pv : Value} {us : List Value} {K : Conf} (h : OwnK w base tv pv us K) {q : Nat} (hq : BlkK tv pv us K.ts.length q) : base ≤ q ∧ q < w.heap.size := by
  rcases hq with h1 | h1
  · exact h.ts.blk h1
  · exact World.ownsRow.lt h.ps q h1
theorem OwnK.only {S : Nat → Prop} {w w' : World} {base : Nat} {tv pv : Value} {us : List Value} {K : Conf} (h : OwnK w base tv pv us K) (m : OnlyIn S w w') (hs : ∀ q, BlkK tv pv us K.ts.length q → ¬ S q) : OwnK w' base tv pv us K :=
  { h with
    ts := { h.ts with
      row := ownsRow_only h.ts.row m (fun q hq => hs q (.inl (.inl hq)))
      els := { h.ts.els with el := fun j hj => ownsRow_only (h.ts.els.el j hj) m (fun q hq => hs q (.inl (.inr ⟨j, by rw [flT_length] at hj; exact hj, hq⟩))) } }
    ps := ownsRow_only h.ps m (fun q hq => hs q (.inr hq)) }
theorem OnlyIn.ofMid {b N : Nat} {w w' : World} (h : Mid b N w w') : OnlyIn (fun q => b ≤ q ∧ q < N) w w' :=
  ⟨h.os, h.tape, h.output, h.size, fun k hk hn => h.block k hk (by omega)⟩
theorem ConfIn.ext {w w' : World} {k : Conf} {ta pa : Option Addr} {tc pc : Nat} (h : ConfIn w k ta tc pa pc) (e : Ext w w') : ConfIn w' k ta tc pa pc := { h with ts := h.ts.ext e, ps := h.ps.ext e }
structure SmallK (K : Conf) : Prop where
  lt : K.ts.length ≤ 1048576
  lp : K.ps.length ≤ 1048576
  ls : ∀ j, j < K.ts.length → (K.ts.getD j tile0).sl.length ≤ 1048576 ∧ (K.ts.getD j tile0).dr.length ≤ 1048576
  tm : totM K.ts ≤ 10000000
theorem szTl_tot : ∀ (ts : List Tile) (l : Int), ¬ szTl ts l < 0 → (totM ts : Int) ≤ 2 * ts.length + (l - szTl ts l)
  | [], l, _ => by simp [totM, szTl]
  | x :: xs, l, h => by
    unfold szTl at *
    split at h <;> rename_i h1
    · omega
    · rw [if_neg h1]
      have h2 := szT_ok h1
      have h3 := szTl_tot xs (szT x l) h
      have e : totM (x :: xs) = szM x + totM xs := rfl
      rw [e]; unfold szM
      simp only [List.length_cons]
      omega
theorem szK_small {k : Conf} {l : Int} (h : ¬ szK k l < 0) (hl : l ≤ 1048576) : SmallK k ∧ 0 ≤ szK k l ∧ szK k l ≤ l := by
  obtain ⟨a, b, c, d, e⟩ := szK_ok h hl
  refine ⟨⟨c, d, e, ?_⟩, a, b⟩
  unfold szK at h
  split at h <;> rename_i h1
  · omega
  · unfold szTs at h1 h
    split at h1 <;> rename_i h3
    · omega
    · have h4 := szTl_ok k.ts _ (by omega) h1
      have h5 := szTl_tot k.ts _ h1
      omega
structure RepConf (w : World) (b N : Nat) (tv pv : Value) (K : Conf) : Prop where
  ex : ∃ us, OwnK w b tv pv us K ∧ ∀ q, BlkK tv pv us K.ts.length q → q < N
  s : SmallK K
section
variable {w w' : World} {b b2 N : Nat} {tv pv : Value} {K : Conf}
theorem RepConf.ext (h : RepConf w b N tv pv K) (e : Ext w w') : RepConf w' b N tv pv K := by
  obtain ⟨⟨us, h1, h2⟩, h3⟩ := h
  exact ⟨⟨us, h1.ext e, h2⟩, h3⟩
theorem RepConf.le (h : RepConf w b N tv pv K) (hb : b2 ≤ b) : RepConf w b2 N tv pv K := by
  obtain ⟨⟨us, h1, h2⟩, h3⟩ := h
  exact ⟨⟨us, h1.le hb, h2⟩, h3⟩
theorem RepConf.hi {n m : Nat} (h : RepConf w b N tv pv K) (g : Mid n m w w') (hb : m ≤ b) : RepConf w' b N tv pv K := by
  obtain ⟨⟨us, h1, h2⟩, h3⟩ := h
  exact ⟨⟨us, h1.only (OnlyIn.ofMid g) (fun q hq e => by have := (h1.blk hq).1; omega), h2⟩, h3⟩
theorem RepConf.mid {n m : Nat} (h : RepConf w b N tv pv K) (g : Mid n m w w') (hb : b < n ∨ m ≤ b) (hx : m ≤ b := by omega) : RepConf w' b N tv pv K := h.hi g hx
theorem RepConf.sl (h : RepConf w b N tv pv K) : ∃ ta tc pa pc, tv = .slice ta K.ts.length tc ∧ pv = .slice pa K.ps.length pc := by
  obtain ⟨⟨us, h1, h2⟩, h3⟩ := h
  exact h1.sl
theorem RepConf.at_ {ta pa : Option Addr} {n m tc pc : Nat} (h : RepConf w b N (.slice ta n tc) (.slice pa m pc) K) : ConfAt w K ta pa := by
  obtain ⟨⟨us, h1, h2⟩, h3⟩ := h
  exact h1.at_ h3.lt h3.lp h3.ls
theorem GiveConf.rep {e : Ending} (h : GiveK w K e w') (hs : SmallK K := by assumption) : ∃ ta n tc pa m pc, e = .returned (.agg #[.slice ta n tc, .slice pa m pc]) ∧ RepConf w' w.heap.size w'.heap.size (.slice ta n tc) (.slice pa m pc) K ∧ Ext w w' := by
  obtain ⟨tv, pv, us, h1, h2, h3⟩ := h
  obtain ⟨ta, tc, pa, pc, rfl, rfl⟩ := h2.sl
  exact ⟨ta, _, tc, pa, _, pc, h1, ⟨⟨us, h2, fun q hq => (h2.blk hq).2⟩, hs⟩, h3⟩
theorem toConfig_r (K : Conf) (ta pa : Option Addr) (tc pc : Nat) (w : World) (hk : ConfAt w K ta pa) (hs : SmallK K) :
    Calls Try.prog 19 #[.agg #[.slice ta K.ts.length tc, .slice pa K.ps.length pc]] w fun e w' => ∃ ta' tc' pa' pc', e = .returned (.agg #[.slice ta' K.ts.length tc', .slice pa' K.ps.length pc']) ∧ RepConf w' w.heap.size w'.heap.size (.slice ta' K.ts.length tc') (.slice pa' K.ps.length pc') K ∧ Ext w w' := by
  refine (toConfig_c K ta pa tc pc w hk).mono ?_
  rintro e w' ⟨tv, pv, us, rfl, h2, h3⟩
  obtain ⟨ta', tc', pa', pc', rfl, rfl⟩ := h2.sl
  exact ⟨ta', tc', pa', pc', rfl, ⟨⟨us, h2, fun q hq => (h2.blk hq).2⟩, hs⟩, h3⟩
theorem eqConfig_R {b3 N3 : Nat} {ta pa ta' pa' : Option Addr} {n m tc pc n' m' tc' pc' : Nat} (h : RepConf w b N (.slice ta n tc) (.slice pa m pc) K) (h' : RepConf w b3 N3 (.slice ta' n' tc') (.slice pa' m' pc') K) :
    Calls Try.prog 14 #[.agg #[.slice ta n tc, .slice pa m pc], .agg #[.slice ta' n' tc', .slice pa' m' pc']] w fun e w' => e = .returned (.bool true) ∧ Ext w w' := by
  obtain ⟨_, _, _, _, e1, e2⟩ := h.sl
  obtain ⟨_, _, _, _, e3, e4⟩ := h'.sl
  cases e1; cases e2; cases e3; cases e4
  exact eqConfig_c K _ _ _ _ _ _ _ _ w h.at_ h'.at_
theorem markConfig_k {ta pa : Option Addr} {n m tc pc : Nat} (h : RepConf w b N (.slice ta n tc) (.slice pa m pc) K) (k : Int) (h0 : 0 ≤ k) (h1 : k ≤ 50000000) :
    Calls Try.prog 15 #[.agg #[.slice ta n tc, .slice pa m pc], .int .i64 k] w fun e w' => (∃ k', e = .returned (.int .i64 k') ∧ k ≤ k' ∧ k' ≤ k + 20000000) ∧ Mid b N w w' := by
  obtain ⟨_, _, _, _, e1, e2⟩ := h.sl
  cases e1; cases e2
  obtain ⟨⟨us, g1, g2⟩, g3⟩ := h
  have := g3.tm; have := g3.lp
  refine (markConfig_c b ta pa tc pc us K k w g1 h0 (by omega) g3.lt g3.lp g3.ls).mono ?_
  rintro e w' ⟨rfl, o, m⟩
  exact ⟨⟨_, rfl, by omega, by omega⟩, m.mid (fun q hq => ⟨(g1.blk hq).1, g2 q hq⟩)⟩
def MkConf (w : World) (tv pv : Value) (km : Int) : Prop := ∃ K, km = 1 + totM K.ts + 2 * K.ps.length ∧ (∃ ta tc pa pc, tv = .slice ta K.ts.length tc ∧ pv = .slice pa K.ps.length pc ∧ TilesAt w ta (mkTs 1 K.ts) ∧ PadsAt w pa (mksP (1 + totM K.ts) K.ps.length)) ∧ SmallK K
theorem MkConf.ext {k : Int} (h : MkConf w tv pv k) (e : Ext w w') : MkConf w' tv pv k := by
  obtain ⟨K, h1, ⟨ta, tc, pa, pc, e1, e2, h2, h3⟩, h4⟩ := h
  exact ⟨K, h1, ⟨ta, tc, pa, pc, e1, e2, h2.ext e, h3.ext e⟩, h4⟩
theorem MkConf.kb {k : Int} (h : MkConf w tv pv k) : 0 ≤ k ∧ k ≤ 100000000 := by
  obtain ⟨K, rfl, _, h4⟩ := h
  have := h4.tm; have := h4.lp
  omega
theorem markConf_R {ta pa : Option Addr} {n m tc pc : Nat} (h : RepConf w b N (.slice ta n tc) (.slice pa m pc) K) : Calls Try.prog 15 #[.agg #[.slice ta n tc, .slice pa m pc], .int .i64 1] w fun e w' => ∃ km, e = .returned (.int .i64 km) ∧ MkConf w' (.slice ta n tc) (.slice pa m pc) km ∧ Mid b N w w' := by
  obtain ⟨_, _, _, _, e1, e2⟩ := h.sl
  cases e1; cases e2
  obtain ⟨⟨us, g1, g2⟩, g3⟩ := h
  have := g3.tm; have := g3.lp
  refine (markConfig_c b ta pa tc pc us K 1 w g1 (by omega) (by omega) g3.lt g3.lp g3.ls).mono ?_
  rintro e w' ⟨rfl, o, m⟩
  refine ⟨_, rfl, ⟨K, rfl, ⟨_, _, _, _, rfl, rfl, o.ts.tiles, ?_⟩, g3⟩, m.mid (fun q hq => ⟨(g1.blk hq).1, g2 q hq⟩)⟩
  have hps := o.ps
  rw [show (mkK 1 K).ps.length = K.ps.length from mksP_length _ _] at hps
  exact padsAt_of_row (ownsRow_at hps)
theorem heldConf_R {ta pa : Option Addr} {n m tc pc : Nat} {km : Int} (h : MkConf w (.slice ta n tc) (.slice pa m pc) km) : Calls Try.prog 16 #[.agg #[.slice ta n tc, .slice pa m pc], .int .i64 1] w fun e w' => e = .returned (.int .i64 km) ∧ Ext w w' := by
  obtain ⟨K, rfl, ⟨_, _, _, _, e1, e2, h2, h3⟩, h4⟩ := h
  cases e1; cases e2
  have := h4.tm; have := h4.lp
  exact heldConfig_c ta pa tc pc K 1 w h2 h3 (by omega) (by omega) h4.lt h4.lp h4.ls
end
end Go.Proofs.Ytkdiniaddnhkdaa

namespace Go.Proofs.Ytkdiniaddnhkdaa
open Go.ChangeShapes Go.WideShapes Go.ChangeAt Go.RowKit
set_option maxRecDepth 100000
set_option linter.unusedVariables false
set_option linter.unusedSimpArgs false
/-! ### As it comes in -/
structure RowsIn (w : World) (a : Option Addr) (c : Nat) (xss : List (List Bool)) : Prop where
  at_ : RowsAt w a xss
  le : xss.length ≤ c
  cap : c ≤ maxLen
  rl : ∀ j, j < xss.length → (xss.getD j []).length ≤ maxLen
def ERow (w : World) (cs : List Value) (x : List Bool) : Prop := ∃ a c, cs = [.slice a x.length c] ∧ BoolsAt w a x ∧ x.length ≤ maxLen
theorem dec_row {H : Type} {enc : TypeId × Value → H} {w : World} {base : Nat} {spare : Nat → Bool} {held : Bool} : ∀ n cs y, DataW.trod enc Try.prog w base spare held n 59 cs = some y → ∃ x, ERow w cs x := by
  intro n cs y h
  obtain ⟨v, rfl⟩ : ∃ v, cs = [v] := by
    rcases DataW.trod_slice Try.underlying59 h with ⟨h1, _⟩ | ⟨a, len, cap, elems, rest, n, _, h1, _⟩
    · exact ⟨_, h1⟩
    · exact ⟨_, h1⟩
  obtain ⟨a, c, xs, e, s, l, m⟩ := open_slice (E := EBool) (sz := 1) Try.underlying59 (by kernel_rfl) (by decide) (dec_bool Try.underlying4) h
  exact ⟨xs, a, c, by rw [e], s.bools, by omega⟩
theorem open_grid {H : Type} {enc : TypeId × Value → H} {w : World} {base : Nat} {spare : Nat → Bool} {held : Bool} {r : Reach} {b0 : Nat} {v : Value} {d : DataW H} {p : List MemPlace} (hv : Value.okWide Try.prog w r b0 76 v) (h : DataW.Trod enc Try.prog w base spare held 76 v d p) :
    ∃ a c xss, v = .slice a xss.length c ∧ RowsIn w a c xss := by
  obtain ⟨a', l', c', rfl⟩ := okWide_slice Try.underlying76 hv
  obtain ⟨fuel, hf⟩ := h
  obtain ⟨a, c, xss, e, s, l, m⟩ := open_slice (E := ERow) (sz := 1) Try.underlying76 (by kernel_rfl) (by decide) dec_row (v := .slice a' l' c') (by simpa [Value.cells] using hf)
  refine ⟨a, c, xss, e, ?_, l, m, ?_⟩
  · rcases s with rfl | ⟨b, o, ha, hb, hc⟩
    · exact .inl rfl
    · refine .inr ⟨b, o, ha, hb, fun j hj => ?_⟩
      obtain ⟨cs, _, ⟨aj, cj, rfl, hA, _⟩, h3⟩ := hc j _ (List.getElem?_eq_getElem hj)
      have := h3 0 (by omega)
      have hx : xss.getD j [] = xss[j] := by rw [List.getD_eq_getElem?_getD, List.getElem?_eq_getElem hj]; rfl
      rw [hx]
      exact ⟨aj, cj, by simpa using this, hA⟩
  · intro j hj
    rcases s with rfl | ⟨b, o, ha, hb, hc⟩
    · simp at hj
    · obtain ⟨cs, _, ⟨aj, cj, _, _, hl⟩, _⟩ := hc j _ (List.getElem?_eq_getElem hj)
      have hx : xss.getD j [] = xss[j] := by rw [List.getD_eq_getElem?_getD, List.getElem?_eq_getElem hj]; rfl
      rw [hx]; exact hl
theorem drop_getDR {α : Type} (xs : List α) (k : Nat) (d : α) (h : k < xs.length) : xs.drop k = xs.getD k d :: xs.drop (k + 1) := by
  rw [List.drop_eq_getElem_cons h, List.getD_eq_getElem?_getD, List.getElem?_eq_getElem h]; rfl
/-! ### Sizes -/
def szRs : List (List Bool) → Int → Int
  | [], l => l
  | r :: rs, l => if l - (r.length : Int) < 0 then -1 else szRs rs (l - r.length)
def szR (xss : List (List Bool)) (l : Int) : Int := if l - (xss.length : Int) < 0 then -1 else szRs xss (l - xss.length)
def tot (xss : List (List Bool)) : Nat := xss.foldr (fun r n => r.length + n) 0
theorem szRs_ok : ∀ (xss : List (List Bool)) (l : Int), 0 ≤ l → ¬ szRs xss l < 0 → (tot xss : Int) ≤ l
  | [], l, h0, _ => by simpa [tot] using h0
  | r :: rs, l, h0, h => by
    unfold szRs at h
    split at h
    · omega
    · have := szRs_ok rs (l - r.length) (by omega) h
      have e : tot (r :: rs) = r.length + tot rs := rfl
      rw [e]; omega
theorem tot_row (xss : List (List Bool)) : ∀ j, j < xss.length → (xss.getD j []).length ≤ tot xss := by
  induction xss with
  | nil => intro j hj; simp at hj
  | cons r rs ih =>
    intro j hj
    have e : tot (r :: rs) = r.length + tot rs := rfl
    cases j with
    | zero => simp [e]
    | succ j => have := ih j (by simpa using hj); simp only [List.getD_cons_succ]; omega
theorem szR_ok {xss : List (List Bool)} {l : Int} (h : ¬ szR xss l < 0) (hl : l ≤ 1048576) : xss.length ≤ 1048576 ∧ tot xss ≤ 1048576 ∧ ∀ j, j < xss.length → (xss.getD j []).length ≤ 1048576 := by
  unfold szR at h
  split at h
  · omega
  · have h1 := szRs_ok xss _ (by omega) h
    refine ⟨by omega, by omega, fun j hj => ?_⟩
    have := tot_row xss j hj; omega
theorem szRs_le (xss : List (List Bool)) : ∀ l, szRs xss l ≤ max l (-1) := by
  induction xss with
  | nil => intro l; simp [szRs]; omega
  | cons r rs ih =>
    intro l
    unfold szRs
    split
    · omega
    · have := ih (l - r.length); omega
set_option maxHeartbeats 1000000 in
theorem szBoolSS_c (a : Option Addr) (c : Nat) (xss : List (List Bool)) (l : Int) (w : World) (hr : RowsAt w a xss) (hn : xss.length ≤ maxLen) (hrl : ∀ j, j < xss.length → (xss.getD j []).length ≤ maxLen) (h0 : 0 ≤ l) (h1 : l ≤ 1048576) :
    Calls Try.prog 51 #[.slice a xss.length c, .int .i64 l] w fun e w' => e = .returned (.int .i64 (szR xss l)) ∧ Ext w w' := by
  unfold maxLen at hn
  have HL := Lib.hid hrl
  obtain ⟨R, hR⟩ : ∃ R, R = szR xss l := ⟨_, rfl⟩
  rw [← hR]
  have HR := Lib.hid hR
  clear hR hrl
  by_cases h : l - (xss.length : Int) < 0
  · have hRR : R = -1 := by rw [HR.out]; unfold szR; rw [if_pos h]
    subst hRR
    go_enter Try.func51, Try.ntmps51
    go_wp2
    go_ret
    exact ⟨rfl, by (repeat (first | with_reducible assumption | with_reducible exact Ext.refl _ | with_reducible refine Ext.drew' ?_ | with_reducible refine Ext.drewN' ?_ _ | with_reducible refine Ext.alloc ?_ _ | (with_reducible refine Ext.setNew ?_ (by first | exact Nat.le_refl _ | (simp; done) | (simp; omega) | omega) _)))⟩
  · have hRR : R = szRs xss (l - xss.length) := by rw [HR.out]; unfold szR; rw [if_neg h]
    have HRR := Lib.hid hRR
    clear hRR
    go_enter Try.func51, Try.ntmps51
    go_wp2_with fail
    go_loopw [1, 5] (fun u1 u5 wr => ∃ (k : Nat) (m : Int), k ≤ xss.length ∧ u5 = .int .i64 k ∧ u1 = .int .i64 m ∧ 0 ≤ m ∧ m ≤ 1048576 ∧ Hid (R = szRs (xss.drop k) m) ∧ Ext w wr) (fun _ i _ => xss.length - (intOf i).toNat)
    case atStart => exact ⟨0, l - xss.length, Nat.zero_le _, rfl, rfl, by omega, by omega, HRR, Ext.refl w⟩
    case round =>
      obtain ⟨k, m, hk, rfl, rfl, hm0, hm1, hp, hE⟩ := hrel
      by_cases hlt : k < xss.length
      · obtain ⟨gb, go, rfl, hgb, hg⟩ := (hr.ext hE).get (by omega)
        obtain ⟨aj, cj, q, hA⟩ := hg k hlt
        have hn1 := HL.out k hlt
        have hdr := hp.out
        rw [drop_getDR xss k [] hlt] at hdr
        unfold szRs at hdr
        obtain ⟨n, hnn⟩ : ∃ n, n = (xss.getD k []).length := ⟨_, rfl⟩
        rw [← hnn] at q hn1 hdr
        have HD := Lib.hid hdr
        clear hg hA hnn hdr
        go_wp2_with fail
        refine (szBoolS_c aj cj n m _ hn1 hm0 hm1).mono ?_
        rintro e w2 ⟨rfl, rfl⟩
        by_cases hneg : m - (n : Int) < 0
        · rw [szL_neg hneg]
          have hRR : R = -1 := by rw [HD.out, if_pos hneg]
          subst hRR
          go_wp2
          go_ret
          exact ⟨rfl, by (repeat (first | with_reducible assumption | with_reducible exact Ext.refl _ | with_reducible refine Ext.drew' ?_ | with_reducible refine Ext.drewN' ?_ _ | with_reducible refine Ext.alloc ?_ _ | (with_reducible refine Ext.setNew ?_ (by first | exact Nat.le_refl _ | (simp; done) | (simp; omega) | omega) _)))⟩
        · rw [szL_pos hneg]
          unfold maxLen at hn1
          go_wp2
          go_roundw
          case rel => exact ⟨k + 1, m - n, by omega, by go_num, rfl, by omega, by omega, Lib.hid (by rw [HD.out, if_neg (by omega)]), by (repeat (first | with_reducible assumption | with_reducible exact Ext.refl _ | with_reducible refine Ext.drew' ?_ | with_reducible refine Ext.drewN' ?_ _ | with_reducible refine Ext.alloc ?_ _ | (with_reducible refine Ext.setNew ?_ (by first | exact Nat.le_refl _ | (simp; done) | (simp; omega) | omega) _)))⟩
          case measure => simp [intOf]; omega
      · have hk2 : k = xss.length := by omega
        subst hk2
        have hRR : R = m := by rw [hp.out, List.drop_length]; rfl
        subst hRR
        go_wp2
        go_ret
        exact ⟨rfl, by (repeat (first | with_reducible assumption | with_reducible exact Ext.refl _ | with_reducible refine Ext.drew' ?_ | with_reducible refine Ext.drewN' ?_ _ | with_reducible refine Ext.alloc ?_ _ | (with_reducible refine Ext.setNew ?_ (by first | exact Nat.le_refl _ | (simp; done) | (simp; omega) | omega) _)))⟩
/-! ### What a call has given back -/
structure RepRows (w : World) (b N : Nat) (v : Value) (xss : List (List Bool)) : Prop where
  ex : ∃ vals, OwnR w b v vals xss ∧ (∀ j q, j < xss.length → (vals.getD j (.slice none 0 0)).ownBlock = some q → q < N)
  n : xss.length ≤ 1048576
  t : tot xss ≤ 1048576
def SmallR (xss : List (List Bool)) : Prop := xss.length ≤ 1048576 ∧ tot xss ≤ 1048576
section
variable {w w' : World} {b b2 N : Nat} {v v' : Value} {xss : List (List Bool)}
theorem RepRows.ext (h : RepRows w b N v xss) (e : Ext w w') : RepRows w' b N v xss := by
  obtain ⟨⟨vals, h1, h2⟩, h3, h4⟩ := h
  exact ⟨⟨vals, h1.ext e, h2⟩, h3, h4⟩
theorem RepRows.le (h : RepRows w b N v xss) (hb : b2 ≤ b) : RepRows w b2 N v xss := by
  obtain ⟨⟨vals, h1, h2⟩, h3, h4⟩ := h
  exact ⟨⟨vals, h1.le hb, h2⟩, h3, h4⟩
theorem RepRows.hi {n m : Nat} (h : RepRows w b N v xss) (g : Mid n m w w') (hb : m ≤ b) : RepRows w' b N v xss := by
  obtain ⟨⟨vals, h1, h2⟩, h3, h4⟩ := h
  exact ⟨⟨vals, { h1 with row := ownsRow_hi h1.row g hb, el := fun j hj => ownsRow_hi (h1.el j hj) g hb }, h2⟩, h3, h4⟩
theorem RepRows.mid {n m : Nat} (h : RepRows w b N v xss) (g : Mid n m w w') (hb : b < n ∨ m ≤ b) (hx : m ≤ b := by omega) : RepRows w' b N v xss := h.hi g hx
theorem RepRows.rows {a : Option Addr} {n c : Nat} (h : RepRows w b N (.slice a n c) xss) : RowsAt w a xss := by
  obtain ⟨⟨vals, h1, _⟩, _⟩ := h; exact h1.at_
theorem RepRows.len {a : Option Addr} {n c : Nat} (h : RepRows w b N (.slice a n c) xss) : n = xss.length := by
  obtain ⟨⟨vals, h1, _⟩, _⟩ := h
  obtain ⟨a', c', e, _⟩ := ownsRow_row h1.row
  cases e; rfl
theorem RepRows.sl (h : RepRows w b N v xss) : ∃ a c, v = .slice a xss.length c := by
  obtain ⟨⟨vals, h1, _⟩, _⟩ := h
  obtain ⟨a', c', e, _⟩ := ownsRow_row h1.row
  exact ⟨a', c', e⟩
theorem GiveRows.rep {e : Ending} (h : GiveRows w xss e w') (hs : SmallR xss := by assumption) : ∃ v, e = .returned v ∧ RepRows w' w.heap.size w'.heap.size v xss ∧ Ext w w' := by
  obtain ⟨v, vals, h1, h2, h3⟩ := h
  exact ⟨v, h1, ⟨⟨vals, h2, fun j q hj hq => ((h2.el j hj).lt2 q hq).2⟩, hs.1, hs.2⟩, h3⟩
end
/-! ### Copies -/
def MadeRows (w : World) (xss : List (List Bool)) (e : Ending) (w' : World) : Prop := ∃ B, e = .returned (.slice (some ⟨B, 0, none⟩) xss.length xss.length) ∧ RepRows w' w.heap.size w'.heap.size (.slice (some ⟨B, 0, none⟩) xss.length xss.length) xss ∧ Ext w w'
theorem rowInfo : (Try.prog.info? 59).map (fun i => (i.zero, i.size, i.bytes)) = some (some (.slice none 0 0), 1, 24) := by kernel_rfl
theorem set_app_rep {α : Type} (xs : List α) (d u : α) (n : Nat) (h : xs.length < n) : (xs ++ List.replicate (n - xs.length) d).set xs.length u = (xs ++ [u]) ++ List.replicate (n - (xs.length + 1)) d := by
  obtain ⟨m, hm⟩ : ∃ m, n - xs.length = m + 1 := ⟨n - xs.length - 1, by omega⟩
  have hm2 : n - (xs.length + 1) = m := by omega
  rw [hm, hm2, List.set_append_right _ _ (by omega), Nat.sub_self, List.replicate_succ, List.set_cons_zero, List.append_assoc]; rfl
structure ToRow (w : World) (base B n : Nat) (vals : List Value) (xss : List (List Bool)) (k : Nat) : Prop where
  len : vals.length = k
  blk : Blk w B 59 (vals ++ List.replicate (n - k) (.slice none 0 0))
  el : ∀ j, j < k → OwnB w base (vals.getD j (.slice none 0 0)) (xss.getD j [])
  off : ∀ j q, j < k → (vals.getD j (.slice none 0 0)).ownBlock = some q → B ≠ q
  dis : ∀ i j q, i < j → j < k → (vals.getD i (.slice none 0 0)).ownBlock = some q → (vals.getD j (.slice none 0 0)).ownBlock ≠ some q
theorem ToRow.snoc {w0 w : World} {base B n k : Nat} {vals : List Value} {xss : List (List Bool)} {u : Value} (h : ToRow w0 base B n vals xss k) (e : Ext w0 w) (hk : k < n) (hu : OwnB w base u (xss.getD k [])) (hN : ∀ q, u.ownBlock = some q → w0.heap.size ≤ q) :
    ToRow (w.setCell ⟨B, k, none⟩ u) base B n (vals ++ [u]) xss (k + 1) := by
  have hl := h.len
  have hB := h.blk.lt
  have old : ∀ j, j < k → (vals ++ [u]).getD j (.slice none 0 0) = vals.getD j (.slice none 0 0) := fun j hj => getD_append_left _ _ _ _ (by omega)
  have new : (vals ++ [u]).getD k (.slice none 0 0) = u := by rw [← hl]; simp [List.getD_eq_getElem?_getD]
  refine ⟨by simp [hl], ?_, fun j hj => ?_, fun j q hj hq => ?_, fun i j q hij hj hq => ?_⟩
  · have := (h.blk.ext e).set k u
    have e2 := set_app_rep vals (.slice none 0 0) u n (by omega)
    rw [hl] at e2
    rw [e2] at this
    exact this
  · by_cases hlt : j < k
    · rw [old j hlt]
      exact ownsRow_set ((h.el j hlt).ext e) (p := ⟨B, k, none⟩) (fun e2 => h.off j B hlt e2 rfl) _
    · have : j = k := by omega
      subst this
      rw [new]
      exact ownsRow_set hu (p := ⟨B, j, none⟩) (fun e2 => by have := hN _ e2; dsimp only at this; omega) _
  · by_cases hlt : j < k
    · rw [old j hlt] at hq; exact h.off j q hlt hq
    · have : j = k := by omega
      subst this
      rw [new] at hq
      have := hN q hq; omega
  · rw [old i (by omega)] at hq
    by_cases hlt : j < k
    · rw [old j hlt]; exact h.dis i j q hij hlt hq
    · have : j = k := by omega
      subst this
      rw [new]
      intro e2
      have := hN q e2
      have := ((h.el i hij).lt2 q hq).2
      omega
set_option maxHeartbeats 1000000 in
theorem toBoolSS_c (a : Option Addr) (c : Nat) (xss : List (List Bool)) (w : World) (hr : RowsAt w a xss) (hl : xss.length ≤ 1048576) (ht : tot xss ≤ 1048576) :
    Calls Try.prog 53 #[.slice a xss.length c] w (MadeRows w xss) := by
  have hm := run_zeros' (P := Try.prog) 76 59 (.slice none 0 0) [.slice none 0 0] 24 Try.underlying76 rowInfo rfl (by decide) (by decide) xss.length (by omega) w
  have T0 : ToRow (w.alloc (.cells (zeros [Value.slice none 0 0] xss.length).toArray 59)) w.heap.size w.heap.size xss.length [] xss 0 := by
    refine ⟨rfl, ?_, fun j hj => by omega, fun j q hj => by omega, fun i j q _ hj => by omega⟩
    have := Blk.at w (zeros [Value.slice none 0 0] xss.length) 59 rfl
    rw [zeros_one] at this ⊢
    simpa using this
  have E0 : Ext w (w.alloc (.cells (zeros [Value.slice none 0 0] xss.length).toArray 59)) := (Ext.refl w).alloc _
  have HT := Lib.hid (fun j hj => Nat.le_trans (tot_row xss j hj) ht)
  go_enter Try.func53, Try.ntmps53
  go_wp2_with fail
  go_loopw [4] (fun i wr => ∃ (k : Nat) (vals : List Value), k ≤ xss.length ∧ i = .int .i64 k ∧ ToRow wr w.heap.size w.heap.size xss.length vals xss k ∧ Ext w wr) (fun i _ => xss.length - (intOf i).toNat)
  case atStart => exact ⟨0, [], Nat.zero_le _, rfl, T0, E0⟩
  case round =>
    clear T0 E0 hm
    obtain ⟨k, vals, hk, rfl, hT, hE⟩ := hrel
    by_cases hlt : k < xss.length
    · obtain ⟨gb, go, rfl, hgb, hg⟩ := (hr.ext hE).get (by omega)
      obtain ⟨aj, cj, q, hA⟩ := hg k hlt
      have hrl := HT.out k hlt
      obtain ⟨row, hrow⟩ : ∃ r, r = xss.getD k [] := ⟨_, rfl⟩
      rw [← hrow] at q hA hrl
      have HROW := Lib.hid hrow
      have HTL := Lib.hid hT.len
      clear hg hrow
      go_wp2_with fail
      refine (toBoolS_c aj cj row wr hA hrl).mono ?_
      rintro e w2 ⟨B2, rfl, hB2, hblk, hE2⟩
      have hBlt := hT.blk.lt
      have hT2 := hT.blk.ext hE2
      obtain ⟨uu, zz⟩ : ∃ u, w2.cell? ⟨w.heap.size, k, none⟩ = some u := ⟨_, hT2.cell (List.getElem?_eq_getElem (by rw [List.length_append, List.length_replicate, HTL.out]; omega))⟩
      have fz := hT2.frozen k
      have hu : OwnB w2 w.heap.size (.slice (some ⟨B2, 0, none⟩) row.length row.length) (xss.getD k []) := by
        rw [← HROW.out]
        exact hblk.owns (n := row.length) (size := 1) (by simp) (by have := hE.size; omega) (by unfold maxLen; omega)
      have hS := hT.snoc hE2 hlt hu (fun q hq => by have e2 : B2 = q := Option.some.inj hq; omega)
      have HS := Lib.hid hS
      clear hT2 hu hS hT
      go_wp2
      go_roundw
      case rel => exact ⟨k + 1, vals ++ [.slice (some ⟨B2, 0, none⟩) row.length row.length], by omega, by go_num, HS.out, Ext.setNew (p := ⟨w.heap.size, k, none⟩) (hE.trans hE2) (Nat.le_refl _) _⟩
      case measure => simp [intOf]; omega
    · have hk2 : k = xss.length := by omega
      subst hk2
      have hb := hT.blk
      rw [Nat.sub_self, List.replicate_zero, List.append_nil] at hb
      have ho := hb.owns (n := xss.length) (size := 1) (base := w.heap.size) (by rw [hT.len]; simp) (Nat.le_refl _) (by unfold maxLen; omega)
      have hR : OwnR wr w.heap.size (.slice (some ⟨w.heap.size, 0, none⟩) xss.length xss.length) vals xss := ⟨hT.len, ho, hT.el, fun j q hj hq e => hT.off j q hj hq (Option.some.inj e), hT.dis⟩
      have HRR := Lib.hid hR
      clear hb ho hR hT
      go_wp2
      go_ret
      exact ⟨w.heap.size, rfl, ⟨⟨vals, HRR.out, fun j q hj hq => ((HRR.out.el j hj).lt2 q hq).2⟩, hl, by omega⟩, hE⟩
/-! ### Comparing -/
set_option maxHeartbeats 1000000 in
theorem eqBoolSS_c (a b : Option Addr) (c d : Nat) (xss : List (List Bool)) (w : World) (hx : RowsAt w a xss) (hy : RowsAt w b xss) (hl : xss.length ≤ 1048576) (hrl : ∀ j, j < xss.length → (xss.getD j []).length ≤ 1048576) :
    Calls Try.prog 55 #[.slice a xss.length c, .slice b xss.length d] w fun e w' => e = .returned (.bool true) ∧ Ext w w' := by
  have HL := Lib.hid hrl
  clear hrl
  go_enter Try.func55, Try.ntmps55
  go_wp2_with fail
  go_loopw [5] (fun i wr => ∃ k : Nat, k ≤ xss.length ∧ i = .int .i64 k ∧ Ext w wr) (fun i _ => xss.length - (intOf i).toNat)
  case atStart => exact ⟨0, Nat.zero_le _, rfl, Ext.refl w⟩
  case round =>
    obtain ⟨k, hk, rfl, hE⟩ := hrel
    by_cases hlt : k < xss.length
    · obtain ⟨b1, o1, rfl, hb1, hc1⟩ := (hx.ext hE).get (by omega)
      obtain ⟨b2, o2, rfl, hb2, hc2⟩ := (hy.ext hE).get (by omega)
      obtain ⟨a1, d1, q1, hA1⟩ := hc1 k hlt
      obtain ⟨a2, d2, q2, hA2⟩ := hc2 k hlt
      have hrl := HL.out k hlt
      obtain ⟨row, hrow⟩ : ∃ r, r = xss.getD k [] := ⟨_, rfl⟩
      rw [← hrow] at q1 q2 hA1 hA2 hrl
      obtain ⟨w1, rfl⟩ : ∃ x : World, x = wr := ⟨_, rfl⟩
      clear hc1 hc2 hrow
      go_wp2_with fail
      go_region_held3 ((fun w' => (∀ b o, b < w1.heap.size → w'.cell? ⟨b, o, none⟩ = w1.cell? ⟨b, o, none⟩) ∧ Ext w1 w')) ((first | assumption | (with_reducible exact held_mk (Ext.drew w1)) | (with_reducible exact held_mk (((Ext.refl w1).alloc _).drew')) | (with_reducible exact held_mk ((Ext.drew w1).alloc _)))) ((go_simp; go_at_call 46; refine (eqBoolS_c a1 a2 d1 d2 row _ (hA1.ext (Ext.drew w1)) (hA2.ext (Ext.drew w1)) hrl).mono ?_; rintro e w2 ⟨rfl, hE2⟩; have hK1 := held_mk ((Ext.drew w1).trans hE2)))
      have hE3 := held_ext hK1
      go_wp2
      go_roundw
      case rel => exact ⟨k + 1, by omega, by go_num, hE.trans hE3⟩
      case measure => simp [intOf]; omega
    · go_wp2
      go_ret
      exact ⟨rfl, hE⟩
theorem eqRows_R {w : World} {b N b3 N3 : Nat} {v v' : Value} {xss : List (List Bool)} (h : RepRows w b N v xss) (h' : RepRows w b3 N3 v' xss) : Calls Try.prog 55 #[v, v'] w fun e w' => e = .returned (.bool true) ∧ Ext w w' := by
  obtain ⟨a, c, rfl⟩ := h.sl
  obtain ⟨a', c', rfl⟩ := h'.sl
  exact eqBoolSS_c a a' c c' xss w h.rows h'.rows h.n (fun j hj => Nat.le_trans (tot_row xss j hj) h.t)
/-! ### Marking -/
def mkRows : Int → List (List Bool) → List (List Bool)
  | _, [] => []
  | k, r :: rs => mksB k r.length :: mkRows (k + r.length) rs
theorem mkRows_length : ∀ (xss : List (List Bool)) (k : Int), (mkRows k xss).length = xss.length
  | [], _ => rfl
  | r :: rs, k => by simp [mkRows, mkRows_length rs]
theorem tot_append (xs ys : List (List Bool)) : tot (xs ++ ys) = tot xs + tot ys := by
  induction xs with
  | nil => simp [tot]
  | cons x xs ih =>
    have e : tot (x :: xs ++ ys) = x.length + tot (xs ++ ys) := rfl
    have e2 : tot (x :: xs) = x.length + tot xs := rfl
    rw [e, e2, ih]; omega
theorem mkRows_snoc (r : List Bool) : ∀ (rs : List (List Bool)) (k : Int), mkRows k (rs ++ [r]) = mkRows k rs ++ [mksB (k + tot rs) r.length]
  | [], k => by simp [mkRows, tot]
  | x :: rs, k => by
    have e : tot (x :: rs) = x.length + tot rs := rfl
    rw [List.cons_append, mkRows, mkRows_snoc r rs, mkRows, e]
    have e3 : k + (x.length : Int) + (tot rs : Int) = k + ((x.length + tot rs : Nat) : Int) := by omega
    rw [e3]; rfl
theorem tot_take_succ (xss : List (List Bool)) (k : Nat) (hk : k < xss.length) : tot (xss.take (k + 1)) = tot (xss.take k) + (xss.getD k []).length := by
  rw [take_snocG xss k [] hk, tot_append]; simp [tot]
theorem tot_take_le (xss : List (List Bool)) (k : Nat) : tot (xss.take k) ≤ tot xss := by
  have := tot_append (xss.take k) (xss.drop k)
  rw [List.take_append_drop] at this; omega
/-- What the rows hold when k of them are marked. -/
def midRows (k0 : Int) (xss : List (List Bool)) (k : Nat) : List (List Bool) := mkRows k0 (xss.take k) ++ xss.drop k
theorem midRows_length (k0 : Int) (xss : List (List Bool)) (k : Nat) (hk : k ≤ xss.length) : (midRows k0 xss k).length = xss.length := by
  unfold midRows; rw [List.length_append, mkRows_length, List.length_take, List.length_drop]; omega
theorem midRows_at (k0 : Int) (xss : List (List Bool)) (k : Nat) (hk : k < xss.length) : (midRows k0 xss k).getD k [] = xss.getD k [] := by
  unfold midRows
  have hl : (mkRows k0 (xss.take k)).length = k := by rw [mkRows_length, List.length_take]; omega
  rw [List.getD_eq_getElem?_getD, List.getElem?_append_right (by omega), hl, Nat.sub_self, List.getElem?_drop, Nat.add_zero, ← List.getD_eq_getElem?_getD]
theorem midRows_set (k0 : Int) (xss : List (List Bool)) (k : Nat) (hk : k < xss.length) : (midRows k0 xss k).set k (mksB (k0 + tot (xss.take k)) (xss.getD k []).length) = midRows k0 xss (k + 1) := by
  unfold midRows
  have hl : (mkRows k0 (xss.take k)).length = k := by rw [mkRows_length, List.length_take]; omega
  rw [List.set_append_right _ _ (by omega), hl, Nat.sub_self, drop_getDR xss k [] hk, List.set_cons_zero, take_snocG xss k [] hk, mkRows_snoc]
  simp
theorem OwnR.setRow {w w' : World} {base : Nat} {v : Value} {vals : List Value} {xss : List (List Bool)} (h : OwnR w base v vals xss) {j : Nat} (hj : j < xss.length) {y : List Bool} (hg : w.grownBy w' (vals.getD j (.slice none 0 0)).ownBlock) (hy : OwnB w' base (vals.getD j (.slice none 0 0)) y) : OwnR w' base v vals (xss.set j y) := by
  refine ⟨by rw [List.length_set]; exact h.len, ?_, fun i hi => ?_, fun i k hi hk => h.off i k (by simpa using hi) hk, fun i i2 k hii hi hk => h.dis i i2 k hii (by simpa using hi) hk⟩
  · rw [List.length_set]
    exact ownsRow_gr h.row hg (off_row (off_swap (fun k hk => h.off j k hj hk)))
  · rw [List.length_set] at hi
    by_cases e : i = j
    · subst e
      have : (xss.set i y).getD i [] = y := by simp [List.getD_eq_getElem?_getD, hi]
      rw [this]; exact hy
    · have : (xss.set j y).getD i [] = xss.getD i [] := by simp [List.getD_eq_getElem?_getD, List.getElem?_set, Ne.symm e]
      rw [this]
      refine ownsRow_gr (h.el i hi) hg (off_row (fun k hk => ?_))
      rcases Nat.lt_or_ge i j with h1 | h1
      · exact h.dis i j k h1 hj hk
      · intro e2; exact h.dis j i k (by omega) hi e2 hk
set_option maxHeartbeats 1000000 in
theorem markBoolSS_c (b N : Nat) (a : Option Addr) (c : Nat) (vals : List Value) (xss : List (List Bool)) (k : Int) (w : World) (ho : OwnR w b (.slice a xss.length c) vals xss) (hN : ∀ j q, j < xss.length → (vals.getD j (.slice none 0 0)).ownBlock = some q → q < N) (h0 : 0 ≤ k) (h1 : k ≤ 100000000) (hl : xss.length ≤ 1048576) (ht : tot xss ≤ 1048576) :
    Calls Try.prog 56 #[.slice a xss.length c, .int .i64 k] w fun e w' => e = .returned (.int .i64 (k + tot xss)) ∧ OwnR w' b (.slice a xss.length c) vals (mkRows k xss) ∧ Mid b N w w' := by
  have HT := Lib.hid (tot_take_le xss)
  have HNN := Lib.hid hN
  clear hN
  go_enter Try.func56, Try.ntmps56
  go_wp2_with fail
  go_loopw [1, 5] (fun u1 u5 wr => ∃ j : Nat, j ≤ xss.length ∧ u5 = .int .i64 j ∧ u1 = .int .i64 (k + tot (xss.take j)) ∧ OwnR wr b (.slice a xss.length c) vals (midRows k xss j) ∧ Mid b N w wr) (fun _ i _ => xss.length - (intOf i).toNat)
  case atStart => exact ⟨0, Nat.zero_le _, rfl, by simp [tot], by simpa [midRows, mkRows] using ho, Mid.refl _⟩
  case round =>
    clear ho
    obtain ⟨j, hj, rfl, rfl, hO, hM⟩ := hrel
    have hml := midRows_length k xss j hj
    have htl := HT.out j
    by_cases hlt : j < xss.length
    · have hel := hO.el j (by omega)
      rw [midRows_at k xss j hlt] at hel
      have hrl := tot_row xss j hlt
      have hs := midRows_set k xss j hlt
      have hts := tot_take_succ xss j hlt
      obtain ⟨row, hrow⟩ : ∃ r, r = xss.getD j [] := ⟨_, rfl⟩
      rw [← hrow] at hel hrl hs hts
      obtain ⟨T, hT⟩ : ∃ T, T = tot (xss.take j) := ⟨_, rfl⟩
      rw [← hT] at hs hts htl ⊢
      obtain ⟨ra, rc, hv, hA⟩ := hel.opened
      have hO2 := hO
      have hrw := hO.row
      rw [hml] at hrw
      obtain ⟨g, hga, _, hg⟩ := ownsRow_block hrw (by omega)
      subst hga
      have q := ownsRow_cell hrw (j := j) (u := .slice ra row.length rc) (by rw [← hv, List.getD_eq_getElem?_getD, List.getElem?_eq_getElem (by rw [hO.len]; omega)]; rfl)
      rw [hv] at hel
      have HV := Lib.hid hv
      have HS := Lib.hid hs
      have HTS := Lib.hid hts
      have HML := Lib.hid hml
      have HO2 := Lib.hid hO2
      clear hv hs hts hml hrow hT hrw hO hO2
      go_wp2_with fail
      refine (markBoolS_c b ra rc row (k + T) _ hel (by omega) (by omega) (by omega)).mono ?_
      rintro e w2 ⟨rfl, o2, g2⟩
      go_wp2
      go_roundw
      case rel =>
        refine ⟨j + 1, by omega, by go_num, by rw [HTS.out]; simp; omega, ?_, ?_⟩
        · rw [← HS.out]
          refine HO2.out.setRow (by rw [HML.out]; exact hlt) (by rw [HV.out]; exact g2) ?_
          rw [HV.out]
          unfold OwnB
          rw [mksB_length]
          exact o2
        · refine hM.trans (Mid.ofOwn (v := .slice ra row.length rc) g2 (fun q hq => (hel.lt2 q hq).1) (fun q hq => HNN.out j q hlt (by rw [HV.out]; exact hq)))
      case measure => simp [intOf]; omega
    · have hk2 : j = xss.length := by omega
      subst hk2
      have e : midRows k xss xss.length = mkRows k xss := by unfold midRows; rw [List.take_length, List.drop_length, List.append_nil]
      rw [e] at hO
      rw [List.take_length]
      go_wp2
      go_ret
      exact ⟨rfl, hO, hM⟩
set_option maxHeartbeats 1000000 in
theorem heldBoolSS_c (a : Option Addr) (c : Nat) (xss : List (List Bool)) (k : Int) (w : World) (hx : RowsAt w a (mkRows k xss)) (h0 : 0 ≤ k) (h1 : k ≤ 100000000) (hl : xss.length ≤ 1048576) (ht : tot xss ≤ 1048576) :
    Calls Try.prog 57 #[.slice a xss.length c, .int .i64 k] w fun e w' => e = .returned (.int .i64 (k + tot xss)) ∧ Ext w w' := by
  have HT := Lib.hid (tot_take_le xss)
  have hml := mkRows_length xss k
  have hat : ∀ j, j < xss.length → (mkRows k xss).getD j [] = mksB (k + tot (xss.take j)) (xss.getD j []).length := by
    intro j hj
    have e : xss = xss.take (j + 1) ++ xss.drop (j + 1) := (List.take_append_drop _ _).symm
    have pre : ∀ (ys zs : List (List Bool)) (m : Int) (i : Nat), i < ys.length → (mkRows m (ys ++ zs)).getD i [] = (mkRows m ys).getD i [] := by
      intro ys
      induction ys with
      | nil => intro zs m i hi; simp at hi
      | cons y ys ih =>
        intro zs m i hi
        rw [List.cons_append, mkRows, mkRows]
        cases i with
        | zero => rfl
        | succ i => simpa using ih zs (m + y.length) i (by simpa using hi)
    have hl2 : (xss.take j).length = j := by rw [List.length_take]; omega
    rw [e, pre _ _ _ _ (by rw [List.length_take]; omega), take_snocG xss j [] hj, mkRows_snoc, ← take_snocG xss j [] hj, ← e]
    have hm2 : (mkRows k (xss.take j)).length = j := by rw [mkRows_length, hl2]
    rw [List.getD_eq_getElem?_getD, List.getElem?_append_right (by omega), hm2, Nat.sub_self]; rfl
  have HAT := Lib.hid hat
  have HML := Lib.hid hml
  clear hat hml
  go_enter Try.func57, Try.ntmps57
  go_wp2_with fail
  go_loopw [1, 5] (fun u1 u5 wr => ∃ j : Nat, j ≤ xss.length ∧ u5 = .int .i64 j ∧ u1 = .int .i64 (k + tot (xss.take j)) ∧ Ext w wr) (fun _ i _ => xss.length - (intOf i).toNat)
  case atStart => exact ⟨0, Nat.zero_le _, rfl, by simp [tot], Ext.refl w⟩
  case round =>
    obtain ⟨j, hj, rfl, rfl, hE⟩ := hrel
    have htl := HT.out j
    by_cases hlt : j < xss.length
    · obtain ⟨g, o, rfl, hg, hc⟩ := (hx.ext hE).get (by rw [HML.out]; omega)
      obtain ⟨ra, rc, q, hA⟩ := hc j (by rw [HML.out]; exact hlt)
      rw [HAT.out j hlt] at q hA
      rw [mksB_length] at q
      have hrl := tot_row xss j hlt
      have hts := tot_take_succ xss j hlt
      obtain ⟨n, hn⟩ : ∃ n, n = (xss.getD j []).length := ⟨_, rfl⟩
      rw [← hn] at q hA hrl hts
      obtain ⟨T, hT⟩ : ∃ T, T = tot (xss.take j) := ⟨_, rfl⟩
      rw [← hT] at hA hts htl ⊢
      have HTS := Lib.hid hts
      clear hc hn hT hts
      go_wp2_with fail
      refine (heldBoolS_c ra rc n (k + T) _ hA (by omega) (by omega) (by omega)).mono ?_
      rintro e w2 ⟨rfl, rfl⟩
      go_wp2
      go_roundw
      case rel => exact ⟨j + 1, by omega, by go_num, by rw [HTS.out]; simp; omega, by (repeat (first | with_reducible assumption | with_reducible exact Ext.refl _ | with_reducible refine Ext.drew' ?_ | with_reducible refine Ext.drewN' ?_ _ | with_reducible refine Ext.alloc ?_ _ | (with_reducible refine Ext.setNew ?_ (by first | exact Nat.le_refl _ | (simp; done) | (simp; omega) | omega) _)))⟩
      case measure => simp [intOf]; omega
    · have hk2 : j = xss.length := by omega
      subst hk2
      rw [List.take_length]
      go_wp2
      go_ret
      exact ⟨rfl, hE⟩
def MkRows (w : World) (v : Value) (km : Int) : Prop := ∃ xss : List (List Bool), km = 1 + tot xss ∧ (∃ a c, v = .slice a xss.length c ∧ RowsAt w a (mkRows 1 xss)) ∧ xss.length ≤ 1048576 ∧ tot xss ≤ 1048576
section
variable {w w' : World} {b N : Nat} {v : Value} {xss : List (List Bool)}
theorem MkRows.ext {k : Int} (h : MkRows w v k) (e : Ext w w') : MkRows w' v k := by
  obtain ⟨n, h1, ⟨a, c, h2, h3⟩, h4⟩ := h
  exact ⟨n, h1, ⟨a, c, h2, h3.ext e⟩, h4⟩
theorem MkRows.kb {k : Int} (h : MkRows w v k) : 0 ≤ k ∧ k ≤ 100000000 := by
  obtain ⟨n, rfl, _, h1, h2⟩ := h
  omega
theorem markRows_k (h : RepRows w b N v xss) (k : Int) (h0 : 0 ≤ k) (h1 : k ≤ 100000000) : Calls Try.prog 56 #[v, .int .i64 k] w fun e w' => e = .returned (.int .i64 (k + tot xss)) ∧ Mid b N w w' := by
  obtain ⟨a, c, rfl⟩ := h.sl
  obtain ⟨⟨vals, g1, g2⟩, h3, h4⟩ := h
  refine (markBoolSS_c b N a c vals xss k w g1 g2 h0 h1 h3 h4).mono ?_
  rintro e w' ⟨rfl, o, m⟩
  exact ⟨rfl, m⟩
theorem markRows_R (h : RepRows w b N v xss) : Calls Try.prog 56 #[v, .int .i64 1] w fun e w' => ∃ km, e = .returned (.int .i64 km) ∧ MkRows w' v km ∧ Mid b N w w' := by
  obtain ⟨a, c, rfl⟩ := h.sl
  obtain ⟨⟨vals, h1, h2⟩, h3, h4⟩ := h
  refine (markBoolSS_c b N a c vals xss 1 w h1 h2 (by omega) (by omega) h3 h4).mono ?_
  rintro e w' ⟨rfl, o, m⟩
  exact ⟨_, rfl, ⟨xss, rfl, ⟨a, c, rfl, o.at_⟩, h3, h4⟩, m⟩
theorem heldRows_R {km : Int} (h : MkRows w v km) : Calls Try.prog 57 #[v, .int .i64 1] w fun e w' => e = .returned (.int .i64 km) ∧ Ext w w' := by
  obtain ⟨xss, rfl, ⟨a, c, rfl, hA⟩, h3, h4⟩ := h
  exact heldBoolSS_c a c xss 1 w hA (by omega) (by omega) h3 h4
end
end Go.Proofs.Ytkdiniaddnhkdaa

namespace Go.Proofs.Ytkdiniaddnhkdaa
open Go.RowKit
set_option maxRecDepth 100000
set_option linter.unusedVariables false
set_option linter.unusedSimpArgs false
def reset25 : List Bool := List.replicate 25 false
noncomputable def stF (k : Conf) (st : List Bool) (xss : List (List Bool)) : List Bool := xss.foldl (fun st r => nextV k st r 25) st
noncomputable def runF (k : Conf) : List Bool → List (List Bool) → List (List Bool)
  | _, [] => []
  | st, r :: rs => outsV k st r 3 :: runF k (nextV k st r 25) rs
theorem runF_snoc (k : Conf) (r : List Bool) : ∀ (rs : List (List Bool)) (st : List Bool), runF k st (rs ++ [r]) = runF k st rs ++ [outsV k (stF k st rs) r 3]
  | [], st => rfl
  | x :: rs, st => by
    rw [List.cons_append, runF, runF_snoc k r rs]
    rfl
theorem stF_snoc (k : Conf) (r : List Bool) (rs : List (List Bool)) (st : List Bool) : stF k st (rs ++ [r]) = nextV k (stF k st rs) r 25 := by
  unfold stF; rw [List.foldl_append]; rfl
theorem runF_length (k : Conf) : ∀ (rs : List (List Bool)) (st : List Bool), (runF k st rs).length = rs.length
  | [], _ => rfl
  | x :: rs, st => by rw [runF, List.length_cons, List.length_cons, runF_length k rs]
theorem stF_len (k : Conf) (rs : List (List Bool)) : (stF k reset25 rs).length = 25 := by
  rcases List.eq_nil_or_concat rs with rfl | ⟨cs, b, rfl⟩
  · simp [stF, reset25]
  · rw [List.concat_eq_append, stF_snoc, nextV_len]
structure FitF (k : Conf) (xss : List (List Bool)) : Prop where
  a : acyV k = true
  n : xss.length ≤ 40
  r : ∀ j, j < xss.length → (xss.getD j []).length ≤ 4
open Classical in
noncomputable def runFV (k : Conf) (xss : List (List Bool)) : List (List Bool) := if FitF k xss then runF k reset25 xss else []
theorem runFV_pos {k : Conf} {xss : List (List Bool)} (h : FitF k xss) : runFV k xss = runF k reset25 xss := by unfold runFV; exact if_pos h
theorem runFV_neg {k : Conf} {xss : List (List Bool)} (h : ¬ FitF k xss) : runFV k xss = [] := by unfold runFV; exact if_neg h
theorem OwnR.setCell {w : World} {base : Nat} {v : Value} {vals : List Value} {xss : List (List Bool)} (h : OwnR w base v vals xss) {p : Addr} (hp : p.block < base) (u : Value) : OwnR (w.setCell p u) base v vals xss :=
  { h with row := ownsRow_set h.row (fun q => by have := (World.ownsRow.lt h.row _ q).1; omega) u, el := fun j hj => OwnB.setOther (h.el j hj) (fun q => by have := ((h.el j hj).lt' _ q).1; omega) u }
theorem runF_rl (k : Conf) : ∀ (rs : List (List Bool)) (st : List Bool), ∀ r ∈ runF k st rs, r.length = 3
  | [], _, r, h => by cases h
  | x :: rs, st, r, h => by
    rcases List.mem_cons.1 h with rfl | h
    · exact outsV_len _ _ _ _
    · exact runF_rl k rs _ r h
end Go.Proofs.Ytkdiniaddnhkdaa

namespace Go.Proofs.Ytkdiniaddnhkdaa
open Go.RowKit
set_option maxRecDepth 100000
set_option linter.unusedVariables false
set_option linter.unusedSimpArgs false
/-- What the cycle of a round leaves: its result in a box. -/
def CutFab (w : World) (x1 x2 : List Bool) (v : Value) (wx : World) : Prop := ∃ D a1 c1 a2 c2, v = .pointer (some ⟨D, 0, none⟩) ∧ Blk wx D 65 [.slice a1 x1.length c1, .slice a2 x2.length c2] ∧ w.heap.size ≤ D ∧
  OwnB wx w.heap.size (.slice a1 x1.length c1) x1 ∧ OwnB wx w.heap.size (.slice a2 x2.length c2) x2 ∧ Hid (∀ q, (Value.slice a1 x1.length c1).ownBlock = some q → (Value.slice a2 x2.length c2).ownBlock ≠ some q) ∧ Ext w wx
theorem OwnB.set2' {W : World} {base D : Nat} {v : Value} {xs : List Bool} {a b : Value} (h : OwnB W base v xs) (hD : v.ownBlock ≠ some D) : OwnB ((W.setCell ⟨D, 0, none⟩ a).setCell ⟨D, 1, none⟩ b) base v xs :=
  ownsRow_set (ownsRow_set h (p := ⟨D, 0, none⟩) hD _) (p := ⟨D, 1, none⟩) hD _
theorem OwnR.setCell' {w : World} {base : Nat} {v : Value} {vals : List Value} {xss : List (List Bool)} (h : OwnR w base v vals xss) {p : Addr} (h1 : v.ownBlock ≠ some p.block) (h2 : ∀ i, (vals.getD i (.slice none 0 0)).ownBlock ≠ some p.block) (u : Value) : OwnR (w.setCell p u) base v vals xss :=
  { h with row := ownsRow_set h.row h1 u, el := fun j hj => OwnB.setOther (h.el j hj) (h2 j) u }
set_option maxHeartbeats 8000000 in
theorem specRunFabric_c (k : Conf) (ta pa : Option Addr) (tc pc : Nat) (a : Option Addr) (cap : Nat) (xss : List (List Bool)) (w : World) (hk : ConfAt w k ta pa) (hr : RowsAt w a xss) (hl : xss.length ≤ 1048576) (hlr : ∀ j, j < xss.length → (xss.getD j []).length ≤ 1048576) :
    Calls Try.prog 58 #[.agg #[.slice ta k.ts.length tc, .slice pa k.ps.length pc], .slice a xss.length cap] w (GiveRows w (runFV k xss)) := by
  have T1 := Lib.hid (specConfigAcyclic_c k ta pa tc pc)
  have y := (Blk.at w [.slice ta k.ts.length tc, .slice pa k.ps.length pc] 25 rfl).alloc (.cells #[] 59)
  have E0 : Ext w ((w.alloc (.cells #[.slice ta k.ts.length tc, .slice pa k.ps.length pc] 25)).alloc (.cells #[] 59)) := ((Ext.refl w).alloc _).alloc _
  have X0 := Blk.at (w.alloc (.cells #[.slice ta k.ts.length tc, .slice pa k.ps.length pc] 25)) [] 59 (B := w.heap.size + 1) (by simp)
  have OWN := Lib.hid (fun (W : World) (base B : Nat) (hB : Blk W B 59 []) (hb : base ≤ B) => (⟨rfl, hB.owns (n := 0) (size := 1) rfl hb (by decide), fun j hj => by simp at hj, fun j k hj => by simp at hj, fun i j k _ hj => by simp at hj⟩ : OwnR W base (.slice (some ⟨B, 0, none⟩) 0 0) [] []))
  have HL := Lib.hid hlr
  clear hlr
  cases ha : acyV k
  · have hV := runFV_neg (k := k) (xss := xss) (fun h => by have := h.a; rw [ha] at this; cases this)
    rw [hV]
    rw [ha] at T1
    clear hV ha
    go_enter Try.func58, Try.ntmps58
    go_wp2_with fail
    refine (T1.out _ (hk.ext E0)).mono ?_
    rintro e w1 ⟨rfl, hE1⟩
    have X1 := X0.ext hE1
    go_wp2
    go_ret
    exact ⟨_, [], rfl, OWN.out _ _ _ X1 (by omega), E0.trans hE1⟩
  rw [ha] at T1
  by_cases h40 : xss.length ≤ 40
  · have hgt : ¬ (40 : Int) < (xss.length : Int) := by omega
    obtain ⟨V, HV⟩ : ∃ V, Hid (V = runFV k xss) := ⟨_, Lib.hid rfl⟩
    rw [← HV.out]
    have HA := Lib.hid ha
    clear ha
    go_enter Try.func58, Try.ntmps58
    go_wp2_with fail
    refine (T1.out _ (hk.ext E0)).mono ?_
    rintro e w1 ⟨rfl, hE1⟩
    have y1 := y.ext hE1
    have X1 := X0.ext hE1
    have E1 := E0.trans hE1
    clear y E0 hE1 T1 X0
    go_wp2_with fail
    go_loopw [6] (fun u22 wr => ∃ j : Nat, j ≤ xss.length ∧ u22 = .int .i64 j ∧ Hid (∀ i, i < j → (xss.getD i []).length ≤ 4) ∧ Ext w1 wr) (fun i _ => xss.length - (intOf i).toNat)
    case atStart => exact ⟨0, Nat.zero_le _, rfl, Lib.hid (fun i hi => absurd hi (Nat.not_lt_zero i)), Ext.refl _⟩
    case round =>
      obtain ⟨j, hj, rfl, hP, hE⟩ := hrel
      by_cases hlt : j < xss.length
      · obtain ⟨gb, go, rfl, hgb, hg⟩ := (hr.ext (E1.trans hE)).get (by omega)
        obtain ⟨aj, cj, q, hA⟩ := hg j hlt
        have hrl := HL.out j hlt
        obtain ⟨row, hrow⟩ : ∃ r, r = xss.getD j [] := ⟨_, rfl⟩
        rw [← hrow] at q hA hrl
        have HROW := Lib.hid hrow
        clear hg hrow
        by_cases h4 : row.length ≤ 4
        · have h4i : ¬ (4 : Int) < (row.length : Int) := by omega
          go_wp2
          go_roundw
          case rel =>
            refine ⟨j + 1, by omega, by go_num, Lib.hid (fun i hi => ?_), hE⟩
            rcases Nat.lt_or_ge i j with h | h
            · exact hP.out i h
            · have : i = j := by omega
              subst this; rw [← HROW.out]; exact h4
          case measure => simp [intOf]; omega
        · have h4i : (4 : Int) < (row.length : Int) := by omega
          have hV : V = [] := by
            rw [HV.out]
            refine runFV_neg (fun h => ?_)
            have := h.r j hlt
            rw [← HROW.out] at this; omega
          subst hV
          have XN := Blk.at wr [] 59 rfl
          have zn := (E1.trans hE).size
          go_wp2
          go_ret
          exact ⟨_, [], rfl, OWN.out _ _ _ XN zn, (E1.trans hE).alloc _⟩
      · have hj2 : j = xss.length := by omega
        have hP : Hid (∀ i, i < xss.length → (xss.getD i []).length ≤ 4) := Lib.hid (by rw [← hj2]; exact hP.out)
        have HVV : Hid (V = runF k reset25 xss) := Lib.hid (by rw [HV.out]; exact runFV_pos ⟨HA.out, h40, hP.out⟩)
        have hok := acy_ok HA.out
        have hf : ∀ x : Wire, x.Ok → ∃ n, FinN k n x := fun x hx => acy_fin HA.out hx
        have y2 := y1.ext hE
        have X2 := X1.ext hE
        have E2 := E1.trans hE
        obtain ⟨w2, rfl⟩ : ∃ z : World, z = wr := ⟨_, rfl⟩
        clear hj2 y1 E1 hE X1
        go_wp2_with fail
        refine (specReset_c _).mono ?_
        rintro e w3 ⟨B, rfl, hB, hI, hE3⟩
        have y3 := y2.ext hE3
        have E3 := E2.trans hE3
        have zz := y2.lt
        have Bl := hI.lt
        have A3 : Ext w3 (w3.alloc (.cells #[.slice (some ⟨B, 0, none⟩) 25 25] 63)) := (Ext.refl w3).alloc _
        have S0 : OwnB (w3.alloc (.cells #[.slice (some ⟨B, 0, none⟩) 25 25] 63)) w2.heap.size (.slice (some ⟨B, 0, none⟩) 25 25) reset25 := (hI.ext A3).owns (n := 25) (size := 1) (by simp) hB (by decide)
        have q0 := Blk.at w3 [.slice (some ⟨B, 0, none⟩) 25 25] 63 rfl
        have y4 := y3.ext A3
        have X4 := (X2.ext hE3).ext A3
        have xl := X2.lt
        have E4 := E3.trans A3
        have zs : w3.heap.size + 1 ≤ (w3.alloc (.cells #[.slice (some ⟨B, 0, none⟩) 25 25] 63)).heap.size := by simp
        have hz3 := hE3.size
        clear y2 y3 hI E3 hE3 A3 X2
        go_upto_region 10 with fail
        generalize w3.alloc (.cells #[.slice (some ⟨B, 0, none⟩) 25 25] 63) = W4 at *
        go_wp2_with fail
        go_loopw [5, 8] (fun u8 u33 wr => ∃ (j : Nat) (vals : List Value) (rv : Value), j ≤ xss.length ∧ u33 = .int .i64 j ∧ OwnR wr (w.heap.size + 1) u8 vals (runF k reset25 (xss.take j)) ∧ Hid (∀ q, u8.ownBlock = some q → q ≠ w3.heap.size) ∧ Hid (∀ i q, (vals.getD i (.slice none 0 0)).ownBlock = some q → q ≠ w3.heap.size) ∧ Blk wr w3.heap.size 63 [rv] ∧ OwnB wr w2.heap.size rv (stF k reset25 (xss.take j)) ∧ Hid (∀ q, rv.ownBlock = some q → q ≠ w3.heap.size ∧ u8.ownBlock ≠ some q) ∧ Blk wr w.heap.size 25 [.slice ta k.ts.length tc, .slice pa k.ps.length pc] ∧ Ext w wr) (fun _ i _ => xss.length - (intOf i).toNat)
        case atStart => exact ⟨0, [], _, Nat.zero_le _, rfl, OWN.out _ _ _ X4 (Nat.le_refl _), Lib.hid (fun q hq => by have : w.heap.size + 1 = q := Option.some.inj hq; omega), Lib.hid (fun i q hq => by simp [Value.ownBlock] at hq), q0, S0, Lib.hid (fun q hq => ⟨by have : B = q := Option.some.inj hq; omega, fun e => by have : B = q := Option.some.inj hq; have : w.heap.size + 1 = q := Option.some.inj e; omega⟩), y4, E4⟩
        case round =>
          clear S0 q0 y4 E4 zs X4
          obtain ⟨j, vals, rv, hj, rfl, hO, hUB, hVB, q0, hS, hD, y4, hE⟩ := hrel
          by_cases hlt : j < xss.length
          · obtain ⟨gb, go, rfl, hgb, hg⟩ := (hr.ext hE).get (by omega)
            obtain ⟨aj, cj, q, hA⟩ := hg j hlt
            have h4 := hP.out j hlt
            have hrl := runF_length k (xss.take j) reset25
            rw [List.length_take, Nat.min_eq_left hj] at hrl
            have hsl := stF_len k (xss.take j)
            have hr1 := runF_snoc k (xss.getD j []) (xss.take j) reset25
            have hs1 := stF_snoc k (xss.getD j []) (xss.take j) reset25
            rw [← take_snocG xss j [] hlt] at hr1 hs1
            obtain ⟨st, hst⟩ : ∃ st, st = stF k reset25 (xss.take j) := ⟨_, rfl⟩
            obtain ⟨row, hrow⟩ : ∃ r, r = xss.getD j [] := ⟨_, rfl⟩
            obtain ⟨outs, hou⟩ : ∃ r, r = runF k reset25 (xss.take j) := ⟨_, rfl⟩
            rw [← hst] at hS hr1 hs1 hsl
            rw [← hrow] at q hA hr1 hs1 h4
            rw [← hou] at hO hr1 hrl
            obtain ⟨sa, sc, rfl, hSA⟩ := hS.opened
            have hor := hO.row
            rw [hrl] at hor
            obtain ⟨oa, oc, rfl, _⟩ := ownsRow_row hor
            obtain ⟨w5, rfl⟩ : ∃ z : World, z = wr := ⟨_, rfl⟩
            obtain ⟨O2, hO2⟩ : ∃ r, r = outsV k st row 3 := ⟨_, rfl⟩
            obtain ⟨N2, hN2⟩ : ∃ r, r = nextV k st row 25 := ⟨_, rfl⟩
            have hc := fun (W : World) (e : Ext w5 W) => l10Step_c k ta pa sa _ tc pc sc cj st row hok hf (by omega) h4 W ⟨(hk.ext hE).ext e, hSA.ext e, hA.ext e⟩
            rw [← hO2] at hr1 hc
            rw [← hN2] at hs1 hc
            have HC := Lib.hid hc
            have HRL := Lib.hid hrl
            have HR1 := Lib.hid hr1
            have HS1 := Lib.hid hs1
            have HOO := Lib.hid hO
            have s0 := q0.cell (i := 0) rfl
            have sl := q0.lt
            have yl := y4.lt
            have k0 := y4.cell (i := 0) rfl
            have k1 := y4.cell (i := 1) rfl
            clear hg hst hrow hou hr1 hs1 hrl hsl hc hO2 hN2 hO
            go_upto_region 13 with fail
            go_cut [9] (CutFab w5 O2 N2)
            case first =>
              (refine wp_regionT ((fun w' => (∀ b o, b < w5.heap.size → w'.cell? ⟨b, o, none⟩ = w5.cell? ⟨b, o, none⟩) ∧ Ext w5 w')) 8 (by kernel_rfl) ?_; have hS0 := held_mk (Ext.drew w5))
              ((refine wpAnyT_take 0 (v := ?_) rfl (by kernel_rfl) (fun _ _ _ h => h) (Or.inl ⟨by kernel_rfl, ?_⟩) (by assumption) ?_; rotate_left; (intro wS hSw; (try dsimp only at hSw); go_simp; (try with_reducible rfl)); (try simp only [Act.put, List.setIfInBounds_toArray, List.set_cons_zero, List.set_cons_succ])); (refine wpAnyT_take 1 (v := ?_) rfl (by kernel_rfl) (fun _ _ _ h => h) (Or.inl ⟨by kernel_rfl, ?_⟩) (by assumption) ?_; rotate_left; (intro wS hSw; (try dsimp only at hSw); go_simp; (try with_reducible rfl)); (try simp only [Act.put, List.setIfInBounds_toArray, List.set_cons_zero, List.set_cons_succ])); (refine wpAnyT_take 2 (v := ?_) rfl (by kernel_rfl) (fun _ _ _ h => h) (Or.inl ⟨by kernel_rfl, ?_⟩) (by assumption) ?_; rotate_left; (intro wS hSw; (try dsimp only at hSw); go_simp; (try with_reducible rfl)); (try simp only [Act.put, List.setIfInBounds_toArray, List.set_cons_zero, List.set_cons_succ])); (refine wpAnyT_take 3 (v := ?_) rfl (by kernel_rfl) (fun _ _ _ h => h) (Or.inl ⟨by kernel_rfl, ?_⟩) (by assumption) ?_; rotate_left; (intro wS hSw; (try dsimp only at hSw); go_simp; (try with_reducible rfl)); (try simp only [Act.put, List.setIfInBounds_toArray, List.set_cons_zero, List.set_cons_succ])); (refine wpAnyT_take 4 (v := ?_) rfl (by kernel_rfl) (fun _ _ _ h => h) (Or.inl ⟨by kernel_rfl, ?_⟩) (by assumption) ?_; rotate_left; (intro wS hSw; (try dsimp only at hSw); go_simp; (try with_reducible rfl)); (try simp only [Act.put, List.setIfInBounds_toArray, List.set_cons_zero, List.set_cons_succ])); (refine wpAnyT_take 5 (v := ?_) rfl (by kernel_rfl) (fun _ _ _ h => h) (Or.inl ⟨by kernel_rfl, ?_⟩) (by assumption) ?_; rotate_left; (intro wS hSw; (try dsimp only at hSw); go_simp; (try with_reducible rfl)); (try simp only [Act.put, List.setIfInBounds_toArray, List.set_cons_zero, List.set_cons_succ])))
              (refine wpAnyT_do2 6 7 (by kernel_rfl) rfl rfl (fun K hK => ?_) (fun K hK => ?_))
              · go_simp
                refine (HC.out _ (Ext.drew w5)).mono ?_
                rintro e w6 ⟨ov, nv, rfl, hov, hnv, hdis, hE6⟩
                obtain ⟨oa2, oc2, rfl, _⟩ := hov.len
                obtain ⟨na2, nc2, rfl, _⟩ := hnv.len
                have hE7 := (Ext.drew w5).trans hE6
                have hS1 := held_mk hE7
                (refine hK _ _ hS1 ?_; clear hK K; (try simp only [Act.put, List.setIfInBounds_toArray, List.set_cons_zero, List.set_cons_succ]))
                (refine wpAnyT_doB 7 (by kernel_rfl) rfl (fun K hK => ?_))
                refine Bx.mk ?_
                go_simp
                have hS2 := held_mk (hE7.alloc (.cells #[.slice none 0 0, .slice none 0 0] 65))
                have bk := Blk.at w6 [.slice none 0 0, .slice none 0 0] 65 rfl
                have z0 := bk.cell (i := 0) rfl
                have z1 := bk.cell (i := 1) rfl
                have zf := fun i => bk.frozen i
                (refine hK _ _ hS2 ?_; clear hK K; (try simp only [Act.put, List.setIfInBounds_toArray, List.set_cons_zero, List.set_cons_succ]))
                (refine wpAnyT_lastB 8 (by kernel_rfl) rfl (by decide) (by kernel_rfl) (fun K hK => ?_))
                refine Bx.mk ?_
                go_simp
                (refine hK _ _ ?_; clear hK K; (try simp only [Act.put, List.setIfInBounds_toArray, List.set_cons_zero, List.set_cons_succ]))
                go_wp2_with fail
                go_meet
                have eB : Ext w6 (w6.alloc (.cells #[.slice oa2 O2.length oc2, .slice na2 N2.length nc2] 65)) := (Ext.refl w6).alloc _
                exact ⟨w6.heap.size, _, _, _, _, rfl, Blk.at w6 _ _ rfl, hE7.size, hov.ext eB, hnv.ext eB, Lib.hid hdis, hE7.trans eB⟩
              · go_simp
                have eZ : Ext w5 (w5.alloc (.cells #[.slice none 0 0, .slice none 0 0] 65)).drew := ((Ext.refl w5).alloc _).drew'
                have bk0 := (Blk.at w5 [.slice none 0 0, .slice none 0 0] 65 rfl).ext (Ext.drew _)
                have hS1 := held_mk eZ
                (refine hK _ _ hS1 ?_; clear hK K; (try simp only [Act.put, List.setIfInBounds_toArray, List.set_cons_zero, List.set_cons_succ]))
                (refine wpAnyT_doB 6 (by kernel_rfl) rfl (fun K hK => ?_))
                refine Bx.mk ?_
                go_simp
                refine (HC.out _ eZ).mono ?_
                rintro e w6 ⟨ov, nv, rfl, hov, hnv, hdis, hE6⟩
                obtain ⟨oa2, oc2, rfl, _⟩ := hov.len
                obtain ⟨na2, nc2, rfl, _⟩ := hnv.len
                have hE7 := eZ.trans hE6
                have hS2 := held_mk hE7
                have bk := bk0.ext hE6
                have z0 := bk.cell (i := 0) rfl
                have z1 := bk.cell (i := 1) rfl
                have zf := fun i => bk.frozen i
                (refine hK _ _ hS2 ?_; clear hK K; (try simp only [Act.put, List.setIfInBounds_toArray, List.set_cons_zero, List.set_cons_succ]))
                (refine wpAnyT_lastB 8 (by kernel_rfl) rfl (by decide) (by kernel_rfl) (fun K hK => ?_))
                refine Bx.mk ?_
                go_simp
                (refine hK _ _ ?_; clear hK K; (try simp only [Act.put, List.setIfInBounds_toArray, List.set_cons_zero, List.set_cons_succ]))
                go_wp2_with fail
                go_meet
                have h1 : (Value.slice oa2 O2.length oc2).ownBlock ≠ some w5.heap.size := fun e => by have := (hov.lt' _ e).1; simp at this; omega
                have h2 : (Value.slice na2 N2.length nc2).ownBlock ≠ some w5.heap.size := fun e => by have := (hnv.lt' _ e).1; simp at this; omega
                exact ⟨w5.heap.size, _, _, _, _, rfl, (bk.set 0 _).set 1 _, Nat.le_refl _, (OwnB.le hov (by simp)).set2' h1, (OwnB.le hnv (by simp)).set2' h2, Lib.hid hdis, Ext.setNew (p := ⟨w5.heap.size, 1, none⟩) (Ext.setNew (p := ⟨w5.heap.size, 0, none⟩) hE7 (Nat.le_refl _) _) (Nat.le_refl _) _⟩
            case rest =>
              obtain ⟨D, oa2, oc2, na2, nc2, rfl, bk, hDD, hov, hnv, hdis, hE6⟩ := hcut
              obtain ⟨w6, rfl⟩ : ∃ z : World, z = wc := ⟨_, rfl⟩
              have eA : Ext w6 (w6.alloc (.cells #[.slice oa2 O2.length oc2] 59)) := (Ext.refl w6).alloc _
              have hrA := rowAtN w6 #[.slice oa2 O2.length oc2] 59 (B := w6.heap.size) rfl
              have hoA := ownsRow_ext hor (hE6.trans eA)
              have hz6 := hE6.size
              have hsA : w.heap.size + 1 ≤ (w6.alloc (.cells #[.slice oa2 O2.length oc2] 59)).heap.size := by simp; omega
              have hnA : j + 1 ≤ 1073741824 := by omega
              have bkA := bk.ext eA
              have qA := (q0.ext hE6).ext eA
              have yA := (y4.ext hE6).ext eA
              have HOL := Lib.hid hor.lt
              have HOV := Lib.hid hov
              have HNV := Lib.hid hnv
              have d0 := bk.cell (i := 0) rfl
              have dl := bk.lt
              clear hor s0 hov hnv k0 k1
              go_wp2_with (at_builtin; go_loud (refine wpList_app tyRows hoA hrA rfl (by simp [Value.oneCell']) hnA hsA rfl rfl rfl rfl ?_); intro v9 w9 o9 g9 m9; obtain ⟨a9, c9, rfl, _⟩ := ownsRow_row o9; have bk9 := bkA.gr g9 (by intro e; have := (HOL.out _ e).2; omega); have z0 := bk9.cell (i := 0) rfl; have z1 := bk9.cell (i := 1) rfl; have zl := bk9.lt; have q9 := qA.gr g9 (by intro e; exact hUB.out _ e rfl); have f9 := fun i => q9.frozen i; have x9 := q9.cell (i := 0) rfl; have l9 := q9.lt)
              go_roundw
              case rel =>
                have hO9 := HOO.out.snoc (u := .slice oa2 O2.length oc2) (x := O2) (hE6.trans eA) (OwnB.le (HOV.out.ext eA) (by omega)) (fun q hq => (HOV.out.lt' q hq).1) g9 m9 (by rw [HRL.out]) (by exact o9)
                have hv2 : OwnB w9 w2.heap.size (.slice na2 N2.length nc2) N2 := OwnB.le (ownsRow_gr (HNV.out.ext eA) g9 (off_row (fun q hq e => by have := (HNV.out.lt' q hq).1; have := (HOL.out q e).2; omega))) (by omega)
                have hnq : ∀ q, (Value.slice na2 N2.length nc2).ownBlock = some q → q ≠ w3.heap.size := fun q hq => by have := (HNV.out.lt' q hq).1; omega
                have hub9 : ∀ q, (Value.slice a9 (j + 1) c9).ownBlock = some q → q ≠ w3.heap.size := fun q hq => by
                  rcases m9 with em | ⟨x, em, hx⟩
                  · rw [em] at hq; exact hUB.out q hq
                  · rw [em] at hq; have : x = q := Option.some.inj hq; have := eA.size; omega
                have hvb9 : ∀ i q, ((vals ++ [Value.slice oa2 O2.length oc2]).getD i (.slice none 0 0)).ownBlock = some q → q ≠ w3.heap.size := fun i q hq => by
                  rcases Nat.lt_or_ge i vals.length with h | h
                  · rw [getD_append_left _ _ _ _ h] at hq; exact hVB.out i q hq
                  · rw [List.getD_eq_getElem?_getD, List.getElem?_append_right h] at hq
                    rcases Nat.eq_zero_or_pos (i - vals.length) with h0 | h0
                    · rw [h0] at hq
                      have := (HOV.out.lt' q (by simpa using hq)).1
                      omega
                    · rw [List.getElem?_eq_none (by simp; omega)] at hq; cases hq
                refine ⟨j + 1, vals ++ [.slice oa2 O2.length oc2], .slice na2 N2.length nc2, by omega, by go_num, ?_, Lib.hid hub9, Lib.hid hvb9, q9.set 0 _, ?_, Lib.hid (fun q hq => ⟨hnq q hq, fun e => ?_⟩), ?_, ?_⟩
                · rw [HR1.out]; exact hO9.setCell' (fun e => hub9 _ e rfl) (fun i e => hvb9 i _ e rfl) _
                · rw [HS1.out]; exact OwnB.setOther hv2 (fun e => hnq _ e rfl) _
                · have h3 := (HNV.out.lt' q hq)
                  rcases m9 with em | ⟨x, em, hx⟩
                  · rw [em] at e; have := (HOL.out q e).2; omega
                  · rw [em] at e; have : x = q := Option.some.inj e; have := eA.size; omega
                · exact (yA.gr g9 (by intro e; have := (HOL.out _ e).1; omega)).setOther (by simp; omega) _
                · exact Ext.setNew (ext_grown ((hE.trans hE6).trans eA) g9 (fun q hq => by have := (HOL.out q hq).1; omega)) (by simp; omega) _
              case measure => simp [intOf]; omega
          · have hk2 : j = xss.length := by omega
            have hO2 : OwnR wr (w.heap.size + 1) u5 vals (runF k reset25 xss) := by rw [hk2, List.take_length] at hO; exact hO
            have HO2 := Lib.hid hO2
            clear hO2 hO hk2
            go_wp2
            go_ret
            rw [HVV.out]
            exact ⟨_, vals, rfl, HO2.out.le (by omega), hE⟩
  · have hgt : (40 : Int) < (xss.length : Int) := by omega
    have hV := runFV_neg (k := k) (xss := xss) (fun h => h40 h.n)
    rw [hV]
    clear hV ha
    go_enter Try.func58, Try.ntmps58
    go_wp2_with fail
    refine (T1.out _ (hk.ext E0)).mono ?_
    rintro e w1 ⟨rfl, hE1⟩
    have X1 := X0.ext hE1
    go_wp2
    go_ret
    exact ⟨_, [], rfl, OWN.out _ _ _ X1 (by omega), E0.trans hE1⟩
end Go.Proofs.Ytkdiniaddnhkdaa

namespace Go.Proofs.Ytkdiniaddnhkdaa
open Go.RowKit
set_option maxRecDepth 100000
set_option linter.unusedVariables false
set_option linter.unusedSimpArgs false
set_option maxHeartbeats 8000000 in
theorem implRunFabric_c (k : Conf) (ta pa : Option Addr) (tc pc : Nat) (a : Option Addr) (cap : Nat) (xss : List (List Bool)) (w : World) (hk : ConfAt w k ta pa) (hr : RowsAt w a xss) (hl : xss.length ≤ 1048576) (hlr : ∀ j, j < xss.length → (xss.getD j []).length ≤ 1048576) :
    Calls Try.prog 59 #[.agg #[.slice ta k.ts.length tc, .slice pa k.ps.length pc], .slice a xss.length cap] w (GiveRows w (runFV k xss)) := by
  have T1 := Lib.hid (implConfigAcyclic_c k ta pa tc pc)
  have y := Blk.at w [.slice ta k.ts.length tc, .slice pa k.ps.length pc] 25 rfl
  have E0 : Ext w (w.alloc (.cells #[.slice ta k.ts.length tc, .slice pa k.ps.length pc] 25)) := (Ext.refl w).alloc _
  have HL := Lib.hid hlr
  clear hlr
  cases ha : acyV k
  · have hV := runFV_neg (k := k) (xss := xss) (fun h => by have := h.a; rw [ha] at this; cases this)
    rw [hV]
    rw [ha] at T1
    clear hV ha
    go_enter Try.func59, Try.ntmps59
    go_wp2_with fail
    refine (T1.out _ (hk.ext E0)).mono ?_
    rintro e w1 ⟨rfl, hE1⟩
    go_wp2
    go_ret
    exact ⟨_, [], rfl, OwnR.nil, E0.trans hE1⟩
  rw [ha] at T1
  by_cases h40 : xss.length ≤ 40
  · have hgt : ¬ (40 : Int) < (xss.length : Int) := by omega
    obtain ⟨V, HV⟩ : ∃ V, Hid (V = runFV k xss) := ⟨_, Lib.hid rfl⟩
    rw [← HV.out]
    have HA := Lib.hid ha
    clear ha
    go_enter Try.func59, Try.ntmps59
    go_wp2_with fail
    refine (T1.out _ (hk.ext E0)).mono ?_
    rintro e w1 ⟨rfl, hE1⟩
    have y1 := y.ext hE1
    have E1 := E0.trans hE1
    clear y E0 hE1 T1
    go_wp2_with fail
    go_loopw [22] (fun u22 wr => ∃ j : Nat, j ≤ xss.length ∧ u22 = .int .i64 j ∧ Hid (∀ i, i < j → (xss.getD i []).length ≤ 4) ∧ Ext w1 wr) (fun i _ => xss.length - (intOf i).toNat)
    case atStart => exact ⟨0, Nat.zero_le _, rfl, Lib.hid (fun i hi => absurd hi (Nat.not_lt_zero i)), Ext.refl _⟩
    case round =>
      obtain ⟨j, hj, rfl, hP, hE⟩ := hrel
      by_cases hlt : j < xss.length
      · obtain ⟨gb, go, rfl, hgb, hg⟩ := (hr.ext (E1.trans hE)).get (by omega)
        obtain ⟨aj, cj, q, hA⟩ := hg j hlt
        have hrl := HL.out j hlt
        obtain ⟨row, hrow⟩ : ∃ r, r = xss.getD j [] := ⟨_, rfl⟩
        rw [← hrow] at q hA hrl
        have HROW := Lib.hid hrow
        clear hg hrow
        by_cases h4 : row.length ≤ 4
        · have h4i : ¬ (4 : Int) < (row.length : Int) := by omega
          go_wp2
          go_roundw
          case rel =>
            refine ⟨j + 1, by omega, by go_num, Lib.hid (fun i hi => ?_), hE⟩
            rcases Nat.lt_or_ge i j with h | h
            · exact hP.out i h
            · have : i = j := by omega
              subst this; rw [← HROW.out]; exact h4
          case measure => simp [intOf]; omega
        · have h4i : (4 : Int) < (row.length : Int) := by omega
          have hV : V = [] := by
            rw [HV.out]
            refine runFV_neg (fun h => ?_)
            have := h.r j hlt
            rw [← HROW.out] at this; omega
          subst hV
          go_wp2
          go_ret
          exact ⟨_, [], rfl, OwnR.nil, E1.trans hE⟩
      · have hj2 : j = xss.length := by omega
        have hP : Hid (∀ i, i < xss.length → (xss.getD i []).length ≤ 4) := Lib.hid (by rw [← hj2]; exact hP.out)
        have HVV : Hid (V = runF k reset25 xss) := Lib.hid (by rw [HV.out]; exact runFV_pos ⟨HA.out, h40, hP.out⟩)
        have hok := acy_ok HA.out
        have hf : ∀ x : Wire, x.Ok → ∃ n, FinN k n x := fun x hx => acy_fin HA.out hx
        have y2 := y1.ext hE
        have E2 := E1.trans hE
        obtain ⟨w2, rfl⟩ : ∃ z : World, z = wr := ⟨_, rfl⟩
        clear hj2 y1 E1 hE
        go_wp2_with fail
        refine (implReset_c _).mono ?_
        rintro e w3 ⟨B, rfl, hB, hI, hE3⟩
        have y3 := y2.ext hE3
        have E3 := E2.trans hE3
        have zz := y2.lt
        have Bl := hI.lt
        have A3 : Ext w3 (w3.alloc (.cells #[.slice (some ⟨B, 0, none⟩) 25 25] 63)) := (Ext.refl w3).alloc _
        have S0 : OwnB (w3.alloc (.cells #[.slice (some ⟨B, 0, none⟩) 25 25] 63)) w2.heap.size (.slice (some ⟨B, 0, none⟩) 25 25) reset25 := (hI.ext A3).owns (n := 25) (size := 1) (by simp) hB (by decide)
        have q0 := Blk.at w3 [.slice (some ⟨B, 0, none⟩) 25 25] 63 rfl
        have y4 := y3.ext A3
        have E4 := E3.trans A3
        have zs : w3.heap.size + 1 ≤ (w3.alloc (.cells #[.slice (some ⟨B, 0, none⟩) 25 25] 63)).heap.size := by simp
        have hz3 := hE3.size
        clear y2 y3 hI E3 hE3 A3
        go_upto_region 11 with fail
        generalize w3.alloc (.cells #[.slice (some ⟨B, 0, none⟩) 25 25] 63) = W4 at *
        go_wp2_with fail
        go_loopw [8, 33] (fun u8 u33 wr => ∃ (j : Nat) (vals : List Value) (rv : Value), j ≤ xss.length ∧ u33 = .int .i64 j ∧ OwnR wr (w3.heap.size + 1) u8 vals (runF k reset25 (xss.take j)) ∧ Blk wr w3.heap.size 63 [rv] ∧ OwnB wr w2.heap.size rv (stF k reset25 (xss.take j)) ∧ Hid (∀ q, rv.ownBlock = some q → q ≠ w3.heap.size ∧ u8.ownBlock ≠ some q) ∧ Blk wr w.heap.size 25 [.slice ta k.ts.length tc, .slice pa k.ps.length pc] ∧ Ext w wr) (fun _ i _ => xss.length - (intOf i).toNat)
        case atStart => exact ⟨0, [], _, Nat.zero_le _, rfl, OwnR.nil, q0, S0, Lib.hid (fun q hq => ⟨by have : B = q := Option.some.inj hq; omega, by simp [Value.ownBlock]⟩), y4, E4⟩
        case round =>
          clear S0 q0 y4 E4 zs
          obtain ⟨j, vals, rv, hj, rfl, hO, q0, hS, hD, y4, hE⟩ := hrel
          by_cases hlt : j < xss.length
          · obtain ⟨gb, go, rfl, hgb, hg⟩ := (hr.ext hE).get (by omega)
            obtain ⟨aj, cj, q, hA⟩ := hg j hlt
            have h4 := hP.out j hlt
            have hrl := runF_length k (xss.take j) reset25
            rw [List.length_take, Nat.min_eq_left hj] at hrl
            have hsl := stF_len k (xss.take j)
            have hr1 := runF_snoc k (xss.getD j []) (xss.take j) reset25
            have hs1 := stF_snoc k (xss.getD j []) (xss.take j) reset25
            rw [← take_snocG xss j [] hlt] at hr1 hs1
            obtain ⟨st, hst⟩ : ∃ st, st = stF k reset25 (xss.take j) := ⟨_, rfl⟩
            obtain ⟨row, hrow⟩ : ∃ r, r = xss.getD j [] := ⟨_, rfl⟩
            obtain ⟨outs, hou⟩ : ∃ r, r = runF k reset25 (xss.take j) := ⟨_, rfl⟩
            rw [← hst] at hS hr1 hs1 hsl
            rw [← hrow] at q hA hr1 hs1 h4
            rw [← hou] at hO hr1 hrl
            obtain ⟨sa, sc, rfl, hSA⟩ := hS.opened
            have hor := hO.row
            rw [hrl] at hor
            obtain ⟨oa, oc, rfl, _⟩ := ownsRow_row hor
            obtain ⟨w5, rfl⟩ : ∃ z : World, z = wr := ⟨_, rfl⟩
            have hc := stepFabric_c k ta pa sa aj tc pc sc cj w.heap.size st row hok hf (by omega) h4 w5 ⟨hk.ext hE, hSA, hA⟩ y4
            obtain ⟨O2, hO2⟩ : ∃ r, r = outsV k st row 3 := ⟨_, rfl⟩
            obtain ⟨N2, hN2⟩ : ∃ r, r = nextV k st row 25 := ⟨_, rfl⟩
            rw [← hO2] at hr1 hc
            rw [← hN2] at hs1 hc
            have HC := Lib.hid hc
            have HRL := Lib.hid hrl
            have HR1 := Lib.hid hr1
            have HS1 := Lib.hid hs1
            have HOO := Lib.hid hO
            have s0 := q0.cell (i := 0) rfl
            have sl := q0.lt
            have yl := y4.lt
            clear hg hst hrow hou hr1 hs1 hrl hsl hc hO2 hN2 hO
            go_wp2_with fail
            refine HC.out.mono ?_
            rintro e w6 ⟨ov, nv, rfl, hov, hnv, hdis, hE6⟩
            obtain ⟨oa2, oc2, rfl, _⟩ := hov.len
            obtain ⟨na2, nc2, rfl, _⟩ := hnv.len
            have bk := Blk.at w6 [.slice oa2 O2.length oc2, .slice na2 N2.length nc2] 65 rfl
            have eA : Ext w6 ((w6.alloc (.cells #[.slice oa2 O2.length oc2, .slice na2 N2.length nc2] 65)).alloc (.cells #[.slice oa2 O2.length oc2] 59)) := ((Ext.refl w6).alloc _).alloc _
            have hrA := rowAtN (w6.alloc (.cells #[.slice oa2 O2.length oc2, .slice na2 N2.length nc2] 65)) #[.slice oa2 O2.length oc2] 59 (B := w6.heap.size + 1) (by simp)
            have hoA := ownsRow_ext hor (hE6.trans eA)
            have hz6 := hE6.size
            have hsA : w3.heap.size + 1 ≤ ((w6.alloc (.cells #[.slice oa2 O2.length oc2, .slice na2 N2.length nc2] 65)).alloc (.cells #[.slice oa2 O2.length oc2] 59)).heap.size := by simp; omega
            have hnA : j + 1 ≤ 1073741824 := by omega
            have bkA := bk.ext ((Ext.refl _).alloc (.cells #[.slice oa2 O2.length oc2] 59))
            have qA := (q0.ext hE6).ext eA
            have yA := (y4.ext hE6).ext eA
            have HOL := Lib.hid hor.lt
            have HOV := Lib.hid hov
            have HNV := Lib.hid hnv
            clear hor s0 hov hnv
            go_wp2_with (at_builtin; go_loud (refine wpList_app tyRows hoA hrA rfl (by simp [Value.oneCell']) hnA hsA rfl rfl rfl rfl ?_); intro v9 w9 o9 g9 m9; obtain ⟨a9, c9, rfl, _⟩ := ownsRow_row o9; have bk9 := bkA.gr g9 (by intro e; have := (HOL.out _ e).2; omega); have z0 := bk9.cell (i := 0) rfl; have z1 := bk9.cell (i := 1) rfl; have zl := bk9.lt; have q9 := qA.gr g9 (by intro e; have := (HOL.out _ e).1; omega); have f9 := fun i => q9.frozen i; have x9 := q9.cell (i := 0) rfl; have l9 := q9.lt)
            go_roundw
            case rel =>
              have hO9 := HOO.out.snoc (u := .slice oa2 O2.length oc2) (x := O2) (hE6.trans eA) (OwnB.le (HOV.out.ext eA) (by omega)) (fun q hq => (HOV.out.lt' q hq).1) g9 m9 (by rw [HRL.out]) (by exact o9)
              have hv2 : OwnB w9 w2.heap.size (.slice na2 N2.length nc2) N2 := OwnB.le (ownsRow_gr (HNV.out.ext eA) g9 (off_row (fun q hq e => by have := (HNV.out.lt' q hq).1; have := (HOL.out q e).2; omega))) (by omega)
              have hnq : ∀ q, (Value.slice na2 N2.length nc2).ownBlock = some q → q ≠ w3.heap.size := fun q hq => by have := (HNV.out.lt' q hq).1; omega
              refine ⟨j + 1, vals ++ [.slice oa2 O2.length oc2], .slice na2 N2.length nc2, by omega, by go_num, ?_, q9.set 0 _, ?_, Lib.hid (fun q hq => ⟨hnq q hq, fun e => ?_⟩), ?_, ?_⟩
              · rw [HR1.out]; exact hO9.setCell (by simp) _
              · rw [HS1.out]; exact OwnB.setOther hv2 (fun e => hnq _ e rfl) _
              · have h3 := (HNV.out.lt' q hq)
                rcases m9 with em | ⟨x, em, hx⟩
                · rw [em] at e; have := (HOL.out q e).2; omega
                · rw [em] at e; have : x = q := Option.some.inj e; have := eA.size; omega
              · exact (yA.gr g9 (by intro e; have := (HOL.out _ e).1; omega)).setOther (by simp; omega) _
              · exact Ext.setNew (ext_grown ((hE.trans hE6).trans eA) g9 (fun q hq => by have := (HOL.out q hq).1; omega)) (by simp; omega) _
            case measure => simp [intOf]; omega
          · have hk2 : j = xss.length := by omega
            have hO2 : OwnR wr (w3.heap.size + 1) u8 vals (runF k reset25 xss) := by rw [hk2, List.take_length] at hO; exact hO
            have HO2 := Lib.hid hO2
            clear hO2 hO hk2
            go_wp2
            go_ret
            rw [HVV.out]
            exact ⟨_, vals, rfl, HO2.out.le (by omega), hE⟩
  · have hgt : (40 : Int) < (xss.length : Int) := by omega
    have hV := runFV_neg (k := k) (xss := xss) (fun h => h40 h.n)
    rw [hV]
    clear hV ha
    go_enter Try.func59, Try.ntmps59
    go_wp2_with fail
    refine (T1.out _ (hk.ext E0)).mono ?_
    rintro e w1 ⟨rfl, hE1⟩
    go_wp2
    go_ret
    exact ⟨_, [], rfl, OwnR.nil, E0.trans hE1⟩
end Go.Proofs.Ytkdiniaddnhkdaa

namespace Go.Proofs.Ytkdiniaddnhkdaa
open Go.ChangeShapes Go.WideShapes Go.ChangeAt Go.RowKit
set_option maxRecDepth 100000
set_option linter.unusedVariables false
set_option linter.unusedSimpArgs false
theorem tot_three : ∀ (xss : List (List Bool)), (∀ r ∈ xss, r.length = 3) → tot xss = 3 * xss.length
  | [], _ => rfl
  | x :: xs, h => by
    have e : tot (x :: xs) = x.length + tot xs := rfl
    rw [e, tot_three xs (fun r hr => h r (by simp [hr])), h x (by simp)]
    simp only [List.length_cons]; omega
theorem runFV_small (k : Conf) (xss : List (List Bool)) : SmallR (runFV k xss) := by
  by_cases h : FitF k xss
  · rw [runFV_pos h]
    have hl := runF_length k xss reset25
    have := h.n
    refine ⟨by omega, ?_⟩
    rw [tot_three _ (runF_rl k xss reset25)]; omega
  · rw [runFV_neg h]; exact ⟨by simp, by simp [tot]⟩
set_option maxHeartbeats 8000000 in
theorem fnExactRunFabric_walk (f0 : Conf) (ta0 : Option Addr) (tc0 : Nat) (pa0 : Option Addr) (pc0 : Nat) (a1 : Option Addr) (cap1 : Nat) (z1 : List (List Bool)) (w : World) (w0 : ConfIn w f0 ta0 tc0 pa0 pc0) (w1 : RowsIn w a1 cap1 z1) :
    Calls Try.prog 11 #[.agg #[.slice ta0 f0.ts.length tc0, .slice pa0 f0.ps.length pc0], .slice a1 z1.length cap1] w fun e w' => e = .returned (.bool true) ∧ Below w.heap.size w w' := by
  have E := Ext.refl w
  have y0 := (Blk.at w [.slice ta0 f0.ts.length tc0, .slice pa0 f0.ps.length pc0] 33 (B := w.heap.size) (by simp))
  by_cases hz0 : szK f0 (1048576) < 0
  · go_enter Try.func11, Try.ntmps11
    go_wp2_with fail
    refine (szConfig_c f0 ta0 pa0 tc0 pc0 _ _ (w0.ext (Ext.trans E (by (repeat (first | with_reducible assumption | with_reducible exact Ext.refl _ | with_reducible refine Ext.drew' ?_ | with_reducible refine Ext.drewN' ?_ _ | with_reducible refine Ext.alloc ?_ _ | (with_reducible refine Ext.setNew ?_ (by first | exact Nat.le_refl _ | (simp; done) | (simp; omega) | omega) _)))))) (by omega) (by omega)).mono ?_
    rintro e s1 ⟨rfl, hE⟩
    replace E := Ext.trans E (Ext.trans (by (repeat (first | with_reducible assumption | with_reducible exact Ext.refl _ | with_reducible refine Ext.drew' ?_ | with_reducible refine Ext.drewN' ?_ _ | with_reducible refine Ext.alloc ?_ _ | (with_reducible refine Ext.setNew ?_ (by first | exact Nat.le_refl _ | (simp; done) | (simp; omega) | omega) _)))) hE)
    replace y0 := y0.ext (Ext.trans (by (repeat (first | with_reducible assumption | with_reducible exact Ext.refl _ | with_reducible refine Ext.drew' ?_ | with_reducible refine Ext.drewN' ?_ _ | with_reducible refine Ext.alloc ?_ _ | (with_reducible refine Ext.setNew ?_ (by first | exact Nat.le_refl _ | (simp; done) | (simp; omega) | omega) _)))) hE)
    clear hE
    go_wp2
    go_ret
    exact ⟨rfl, E⟩
  obtain ⟨hs0, hzz0, hzy0⟩ := szK_small hz0 (by omega)
  by_cases hz1 : szR z1 (szK f0 (1048576)) < 0
  · go_enter Try.func11, Try.ntmps11
    go_wp2_with fail
    refine (szConfig_c f0 ta0 pa0 tc0 pc0 _ _ (w0.ext (Ext.trans E (by (repeat (first | with_reducible assumption | with_reducible exact Ext.refl _ | with_reducible refine Ext.drew' ?_ | with_reducible refine Ext.drewN' ?_ _ | with_reducible refine Ext.alloc ?_ _ | (with_reducible refine Ext.setNew ?_ (by first | exact Nat.le_refl _ | (simp; done) | (simp; omega) | omega) _)))))) (by omega) (by omega)).mono ?_
    rintro e s1 ⟨rfl, hE⟩
    replace E := Ext.trans E (Ext.trans (by (repeat (first | with_reducible assumption | with_reducible exact Ext.refl _ | with_reducible refine Ext.drew' ?_ | with_reducible refine Ext.drewN' ?_ _ | with_reducible refine Ext.alloc ?_ _ | (with_reducible refine Ext.setNew ?_ (by first | exact Nat.le_refl _ | (simp; done) | (simp; omega) | omega) _)))) hE)
    replace y0 := y0.ext (Ext.trans (by (repeat (first | with_reducible assumption | with_reducible exact Ext.refl _ | with_reducible refine Ext.drew' ?_ | with_reducible refine Ext.drewN' ?_ _ | with_reducible refine Ext.alloc ?_ _ | (with_reducible refine Ext.setNew ?_ (by first | exact Nat.le_refl _ | (simp; done) | (simp; omega) | omega) _)))) hE)
    clear hE
    go_wp2_with fail
    refine (szBoolSS_c _ _ z1 _ _ (w1.at_.ext (Ext.trans E (by (repeat (first | with_reducible assumption | with_reducible exact Ext.refl _ | with_reducible refine Ext.drew' ?_ | with_reducible refine Ext.drewN' ?_ _ | with_reducible refine Ext.alloc ?_ _ | (with_reducible refine Ext.setNew ?_ (by first | exact Nat.le_refl _ | (simp; done) | (simp; omega) | omega) _)))))) (Nat.le_trans w1.le w1.cap) w1.rl (by omega) (by omega)).mono ?_
    rintro e s2 ⟨rfl, hE⟩
    replace E := Ext.trans E (Ext.trans (by (repeat (first | with_reducible assumption | with_reducible exact Ext.refl _ | with_reducible refine Ext.drew' ?_ | with_reducible refine Ext.drewN' ?_ _ | with_reducible refine Ext.alloc ?_ _ | (with_reducible refine Ext.setNew ?_ (by first | exact Nat.le_refl _ | (simp; done) | (simp; omega) | omega) _)))) hE)
    replace y0 := y0.ext (Ext.trans (by (repeat (first | with_reducible assumption | with_reducible exact Ext.refl _ | with_reducible refine Ext.drew' ?_ | with_reducible refine Ext.drewN' ?_ _ | with_reducible refine Ext.alloc ?_ _ | (with_reducible refine Ext.setNew ?_ (by first | exact Nat.le_refl _ | (simp; done) | (simp; omega) | omega) _)))) hE)
    clear hE
    go_wp2
    go_ret
    exact ⟨rfl, E⟩
  obtain ⟨hl1, ht1, hr1⟩ := szR_ok hz1 (by omega)
  have hC0 : ConfAt w f0 ta0 pa0 := ⟨w0.ts, w0.ps, hs0.lt, hs0.lp, hs0.ls⟩
  have hsm := runFV_small f0 z1
  obtain ⟨V, HV⟩ : ∃ V, Hid (V = (runFV f0 z1)) := ⟨_, Lib.hid rfl⟩
  rw [← HV.out] at hsm
  go_enter Try.func11, Try.ntmps11
  go_wp2_with fail
  refine (szConfig_c f0 ta0 pa0 tc0 pc0 _ _ (w0.ext (Ext.trans E (by (repeat (first | with_reducible assumption | with_reducible exact Ext.refl _ | with_reducible refine Ext.drew' ?_ | with_reducible refine Ext.drewN' ?_ _ | with_reducible refine Ext.alloc ?_ _ | (with_reducible refine Ext.setNew ?_ (by first | exact Nat.le_refl _ | (simp; done) | (simp; omega) | omega) _)))))) (by omega) (by omega)).mono ?_
  rintro e s1 ⟨rfl, hE⟩
  replace E := Ext.trans E (Ext.trans (by (repeat (first | with_reducible assumption | with_reducible exact Ext.refl _ | with_reducible refine Ext.drew' ?_ | with_reducible refine Ext.drewN' ?_ _ | with_reducible refine Ext.alloc ?_ _ | (with_reducible refine Ext.setNew ?_ (by first | exact Nat.le_refl _ | (simp; done) | (simp; omega) | omega) _)))) hE)
  replace y0 := y0.ext (Ext.trans (by (repeat (first | with_reducible assumption | with_reducible exact Ext.refl _ | with_reducible refine Ext.drew' ?_ | with_reducible refine Ext.drewN' ?_ _ | with_reducible refine Ext.alloc ?_ _ | (with_reducible refine Ext.setNew ?_ (by first | exact Nat.le_refl _ | (simp; done) | (simp; omega) | omega) _)))) hE)
  clear hE
  go_wp2_with fail
  refine (szBoolSS_c _ _ z1 _ _ (w1.at_.ext (Ext.trans E (by (repeat (first | with_reducible assumption | with_reducible exact Ext.refl _ | with_reducible refine Ext.drew' ?_ | with_reducible refine Ext.drewN' ?_ _ | with_reducible refine Ext.alloc ?_ _ | (with_reducible refine Ext.setNew ?_ (by first | exact Nat.le_refl _ | (simp; done) | (simp; omega) | omega) _)))))) (Nat.le_trans w1.le w1.cap) w1.rl (by omega) (by omega)).mono ?_
  rintro e s2 ⟨rfl, hE⟩
  replace E := Ext.trans E (Ext.trans (by (repeat (first | with_reducible assumption | with_reducible exact Ext.refl _ | with_reducible refine Ext.drew' ?_ | with_reducible refine Ext.drewN' ?_ _ | with_reducible refine Ext.alloc ?_ _ | (with_reducible refine Ext.setNew ?_ (by first | exact Nat.le_refl _ | (simp; done) | (simp; omega) | omega) _)))) hE)
  replace y0 := y0.ext (Ext.trans (by (repeat (first | with_reducible assumption | with_reducible exact Ext.refl _ | with_reducible refine Ext.drew' ?_ | with_reducible refine Ext.drewN' ?_ _ | with_reducible refine Ext.alloc ?_ _ | (with_reducible refine Ext.setNew ?_ (by first | exact Nat.le_refl _ | (simp; done) | (simp; omega) | omega) _)))) hE)
  clear hE
  have y0l := y0.lt
  have y00 := y0.cell (i := 0) rfl
  have y01 := y0.cell (i := 1) rfl
  go_wp2_with fail
  refine (toConfig_r f0 ta0 pa0 tc0 pc0 _ (hC0.ext (Ext.trans E (by (repeat (first | with_reducible assumption | with_reducible exact Ext.refl _ | with_reducible refine Ext.drew' ?_ | with_reducible refine Ext.drewN' ?_ _ | with_reducible refine Ext.alloc ?_ _ | (with_reducible refine Ext.setNew ?_ (by first | exact Nat.le_refl _ | (simp; done) | (simp; omega) | omega) _)))))) hs0).mono ?_
  rintro e s3 ⟨tat0, tct0, pat0, pct0, rfl, t0, hE⟩
  clear y0l y00 y01
  replace E := Ext.trans E (Ext.trans (by (repeat (first | with_reducible assumption | with_reducible exact Ext.refl _ | with_reducible refine Ext.drew' ?_ | with_reducible refine Ext.drewN' ?_ _ | with_reducible refine Ext.alloc ?_ _ | (with_reducible refine Ext.setNew ?_ (by first | exact Nat.le_refl _ | (simp; done) | (simp; omega) | omega) _)))) hE)
  replace y0 := y0.ext (Ext.trans (by (repeat (first | with_reducible assumption | with_reducible exact Ext.refl _ | with_reducible refine Ext.drew' ?_ | with_reducible refine Ext.drewN' ?_ _ | with_reducible refine Ext.alloc ?_ _ | (with_reducible refine Ext.setNew ?_ (by first | exact Nat.le_refl _ | (simp; done) | (simp; omega) | omega) _)))) hE)
  clear hE
  go_wp2_with fail
  refine (toBoolSS_c _ _ z1 _ (w1.at_.ext (Ext.trans E (by (repeat (first | with_reducible assumption | with_reducible exact Ext.refl _ | with_reducible refine Ext.drew' ?_ | with_reducible refine Ext.drewN' ?_ _ | with_reducible refine Ext.alloc ?_ _ | (with_reducible refine Ext.setNew ?_ (by first | exact Nat.le_refl _ | (simp; done) | (simp; omega) | omega) _)))))) hl1 ht1).mono ?_
  rintro e s4 ⟨Bt1, rfl, t1, hE⟩
  replace E := Ext.trans E (Ext.trans (by (repeat (first | with_reducible assumption | with_reducible exact Ext.refl _ | with_reducible refine Ext.drew' ?_ | with_reducible refine Ext.drewN' ?_ _ | with_reducible refine Ext.alloc ?_ _ | (with_reducible refine Ext.setNew ?_ (by first | exact Nat.le_refl _ | (simp; done) | (simp; omega) | omega) _)))) hE)
  replace y0 := y0.ext (Ext.trans (by (repeat (first | with_reducible assumption | with_reducible exact Ext.refl _ | with_reducible refine Ext.drew' ?_ | with_reducible refine Ext.drewN' ?_ _ | with_reducible refine Ext.alloc ?_ _ | (with_reducible refine Ext.setNew ?_ (by first | exact Nat.le_refl _ | (simp; done) | (simp; omega) | omega) _)))) hE)
  replace t0 := t0.ext (Ext.trans (by (repeat (first | with_reducible assumption | with_reducible exact Ext.refl _ | with_reducible refine Ext.drew' ?_ | with_reducible refine Ext.drewN' ?_ _ | with_reducible refine Ext.alloc ?_ _ | (with_reducible refine Ext.setNew ?_ (by first | exact Nat.le_refl _ | (simp; done) | (simp; omega) | omega) _)))) hE)
  clear hE
  go_wp2_with fail
  refine (specRunFabric_c f0 _ _ _ _ _ _ z1 _ (t0.ext (by (repeat (first | with_reducible assumption | with_reducible exact Ext.refl _ | with_reducible refine Ext.drew' ?_ | with_reducible refine Ext.drewN' ?_ _ | with_reducible refine Ext.alloc ?_ _ | (with_reducible refine Ext.setNew ?_ (by first | exact Nat.le_refl _ | (simp; done) | (simp; omega) | omega) _))))).at_ (t1.ext (by (repeat (first | with_reducible assumption | with_reducible exact Ext.refl _ | with_reducible refine Ext.drew' ?_ | with_reducible refine Ext.drewN' ?_ _ | with_reducible refine Ext.alloc ?_ _ | (with_reducible refine Ext.setNew ?_ (by first | exact Nat.le_refl _ | (simp; done) | (simp; omega) | omega) _))))).rows hl1 hr1).mono ?_
  rw [← HV.out]
  rintro e s5 hh
  obtain ⟨vr0, rfl, r, hE⟩ := GiveRows.rep hh
  replace E := Ext.trans E (Ext.trans (by (repeat (first | with_reducible assumption | with_reducible exact Ext.refl _ | with_reducible refine Ext.drew' ?_ | with_reducible refine Ext.drewN' ?_ _ | with_reducible refine Ext.alloc ?_ _ | (with_reducible refine Ext.setNew ?_ (by first | exact Nat.le_refl _ | (simp; done) | (simp; omega) | omega) _)))) hE)
  replace y0 := y0.ext (Ext.trans (by (repeat (first | with_reducible assumption | with_reducible exact Ext.refl _ | with_reducible refine Ext.drew' ?_ | with_reducible refine Ext.drewN' ?_ _ | with_reducible refine Ext.alloc ?_ _ | (with_reducible refine Ext.setNew ?_ (by first | exact Nat.le_refl _ | (simp; done) | (simp; omega) | omega) _)))) hE)
  replace t0 := t0.ext (Ext.trans (by (repeat (first | with_reducible assumption | with_reducible exact Ext.refl _ | with_reducible refine Ext.drew' ?_ | with_reducible refine Ext.drewN' ?_ _ | with_reducible refine Ext.alloc ?_ _ | (with_reducible refine Ext.setNew ?_ (by first | exact Nat.le_refl _ | (simp; done) | (simp; omega) | omega) _)))) hE)
  replace t1 := t1.ext (Ext.trans (by (repeat (first | with_reducible assumption | with_reducible exact Ext.refl _ | with_reducible refine Ext.drew' ?_ | with_reducible refine Ext.drewN' ?_ _ | with_reducible refine Ext.alloc ?_ _ | (with_reducible refine Ext.setNew ?_ (by first | exact Nat.le_refl _ | (simp; done) | (simp; omega) | omega) _)))) hE)
  clear hE
  have E4 := Ext.refl s5
  have lE := E.size
  have y0s := y0
  have y0l := y0.lt
  have y00 := y0.cell (i := 0) rfl
  have y01 := y0.cell (i := 1) rfl
  go_wp2_with fail
  refine (toConfig_r f0 ta0 pa0 tc0 pc0 _ (hC0.ext (Ext.trans E (by (repeat (first | with_reducible assumption | with_reducible exact Ext.refl _ | with_reducible refine Ext.drew' ?_ | with_reducible refine Ext.drewN' ?_ _ | with_reducible refine Ext.alloc ?_ _ | (with_reducible refine Ext.setNew ?_ (by first | exact Nat.le_refl _ | (simp; done) | (simp; omega) | omega) _)))))) hs0).mono ?_
  rintro e s6 ⟨tax0, tcx0, pax0, pcx0, rfl, x0, hE⟩
  replace x0 := x0.le (b2 := s5.heap.size) (Ext.size (w := s5) (by (repeat (first | with_reducible assumption | with_reducible exact Ext.refl _ | with_reducible refine Ext.drew' ?_ | with_reducible refine Ext.drewN' ?_ _ | with_reducible refine Ext.alloc ?_ _ | (with_reducible refine Ext.setNew ?_ (by first | exact Nat.le_refl _ | (simp; done) | (simp; omega) | omega) _)))))
  clear y0l y00 y01
  replace E := Ext.trans E (Ext.trans (by (repeat (first | with_reducible assumption | with_reducible exact Ext.refl _ | with_reducible refine Ext.drew' ?_ | with_reducible refine Ext.drewN' ?_ _ | with_reducible refine Ext.alloc ?_ _ | (with_reducible refine Ext.setNew ?_ (by first | exact Nat.le_refl _ | (simp; done) | (simp; omega) | omega) _)))) hE)
  replace y0 := y0.ext (Ext.trans (by (repeat (first | with_reducible assumption | with_reducible exact Ext.refl _ | with_reducible refine Ext.drew' ?_ | with_reducible refine Ext.drewN' ?_ _ | with_reducible refine Ext.alloc ?_ _ | (with_reducible refine Ext.setNew ?_ (by first | exact Nat.le_refl _ | (simp; done) | (simp; omega) | omega) _)))) hE)
  replace E4 := Ext.trans E4 (Ext.trans (by (repeat (first | with_reducible assumption | with_reducible exact Ext.refl _ | with_reducible refine Ext.drew' ?_ | with_reducible refine Ext.drewN' ?_ _ | with_reducible refine Ext.alloc ?_ _ | (with_reducible refine Ext.setNew ?_ (by first | exact Nat.le_refl _ | (simp; done) | (simp; omega) | omega) _)))) hE)
  clear hE
  have lEx0 := E4.size
  have Ex0 := Ext.refl s6
  have x0x := Blk.at s6 [.slice tax0 f0.ts.length tcx0, .slice pax0 f0.ps.length pcx0] 25 rfl
  go_wp2_with fail
  refine (toBoolSS_c _ _ z1 _ (w1.at_.ext (Ext.trans E (by (repeat (first | with_reducible assumption | with_reducible exact Ext.refl _ | with_reducible refine Ext.drew' ?_ | with_reducible refine Ext.drewN' ?_ _ | with_reducible refine Ext.alloc ?_ _ | (with_reducible refine Ext.setNew ?_ (by first | exact Nat.le_refl _ | (simp; done) | (simp; omega) | omega) _)))))) hl1 ht1).mono ?_
  rintro e s7 ⟨Bx1, rfl, x1, hE⟩
  replace x1 := x1.le (b2 := s6.heap.size) (Ext.size (w := s6) (by (repeat (first | with_reducible assumption | with_reducible exact Ext.refl _ | with_reducible refine Ext.drew' ?_ | with_reducible refine Ext.drewN' ?_ _ | with_reducible refine Ext.alloc ?_ _ | (with_reducible refine Ext.setNew ?_ (by first | exact Nat.le_refl _ | (simp; done) | (simp; omega) | omega) _)))))
  replace E := Ext.trans E (Ext.trans (by (repeat (first | with_reducible assumption | with_reducible exact Ext.refl _ | with_reducible refine Ext.drew' ?_ | with_reducible refine Ext.drewN' ?_ _ | with_reducible refine Ext.alloc ?_ _ | (with_reducible refine Ext.setNew ?_ (by first | exact Nat.le_refl _ | (simp; done) | (simp; omega) | omega) _)))) hE)
  replace y0 := y0.ext (Ext.trans (by (repeat (first | with_reducible assumption | with_reducible exact Ext.refl _ | with_reducible refine Ext.drew' ?_ | with_reducible refine Ext.drewN' ?_ _ | with_reducible refine Ext.alloc ?_ _ | (with_reducible refine Ext.setNew ?_ (by first | exact Nat.le_refl _ | (simp; done) | (simp; omega) | omega) _)))) hE)
  replace E4 := Ext.trans E4 (Ext.trans (by (repeat (first | with_reducible assumption | with_reducible exact Ext.refl _ | with_reducible refine Ext.drew' ?_ | with_reducible refine Ext.drewN' ?_ _ | with_reducible refine Ext.alloc ?_ _ | (with_reducible refine Ext.setNew ?_ (by first | exact Nat.le_refl _ | (simp; done) | (simp; omega) | omega) _)))) hE)
  replace x0 := x0.ext (Ext.trans (by (repeat (first | with_reducible assumption | with_reducible exact Ext.refl _ | with_reducible refine Ext.drew' ?_ | with_reducible refine Ext.drewN' ?_ _ | with_reducible refine Ext.alloc ?_ _ | (with_reducible refine Ext.setNew ?_ (by first | exact Nat.le_refl _ | (simp; done) | (simp; omega) | omega) _)))) hE)
  replace Ex0 := Ext.trans Ex0 (Ext.trans (by (repeat (first | with_reducible assumption | with_reducible exact Ext.refl _ | with_reducible refine Ext.drew' ?_ | with_reducible refine Ext.drewN' ?_ _ | with_reducible refine Ext.alloc ?_ _ | (with_reducible refine Ext.setNew ?_ (by first | exact Nat.le_refl _ | (simp; done) | (simp; omega) | omega) _)))) hE)
  replace x0x := x0x.ext (Ext.trans (by (repeat (first | with_reducible assumption | with_reducible exact Ext.refl _ | with_reducible refine Ext.drew' ?_ | with_reducible refine Ext.drewN' ?_ _ | with_reducible refine Ext.alloc ?_ _ | (with_reducible refine Ext.setNew ?_ (by first | exact Nat.le_refl _ | (simp; done) | (simp; omega) | omega) _)))) hE)
  clear hE
  have lEx1 := Ex0.size
  have Ex1 := Ext.refl s7
  have lEg := Ex1.size
  have Eg := Ext.refl s7
  have x0xl := x0x.lt
  have x0x0 := x0x.cell (i := 0) rfl
  have x0x1 := x0x.cell (i := 1) rfl
  go_wp2_with fail
  refine (implRunFabric_c f0 _ _ _ _ _ _ z1 _ (x0.ext (by (repeat (first | with_reducible assumption | with_reducible exact Ext.refl _ | with_reducible refine Ext.drew' ?_ | with_reducible refine Ext.drewN' ?_ _ | with_reducible refine Ext.alloc ?_ _ | (with_reducible refine Ext.setNew ?_ (by first | exact Nat.le_refl _ | (simp; done) | (simp; omega) | omega) _))))).at_ (x1.ext (by (repeat (first | with_reducible assumption | with_reducible exact Ext.refl _ | with_reducible refine Ext.drew' ?_ | with_reducible refine Ext.drewN' ?_ _ | with_reducible refine Ext.alloc ?_ _ | (with_reducible refine Ext.setNew ?_ (by first | exact Nat.le_refl _ | (simp; done) | (simp; omega) | omega) _))))).rows hl1 hr1).mono ?_
  rw [← HV.out]
  rintro e s8 hh
  obtain ⟨vg0, rfl, g, hE⟩ := GiveRows.rep hh
  replace g := g.le (b2 := s7.heap.size) (Ext.size (w := s7) (by (repeat (first | with_reducible assumption | with_reducible exact Ext.refl _ | with_reducible refine Ext.drew' ?_ | with_reducible refine Ext.drewN' ?_ _ | with_reducible refine Ext.alloc ?_ _ | (with_reducible refine Ext.setNew ?_ (by first | exact Nat.le_refl _ | (simp; done) | (simp; omega) | omega) _)))))
  clear x0xl x0x0 x0x1
  replace E := Ext.trans E (Ext.trans (by (repeat (first | with_reducible assumption | with_reducible exact Ext.refl _ | with_reducible refine Ext.drew' ?_ | with_reducible refine Ext.drewN' ?_ _ | with_reducible refine Ext.alloc ?_ _ | (with_reducible refine Ext.setNew ?_ (by first | exact Nat.le_refl _ | (simp; done) | (simp; omega) | omega) _)))) hE)
  replace y0 := y0.ext (Ext.trans (by (repeat (first | with_reducible assumption | with_reducible exact Ext.refl _ | with_reducible refine Ext.drew' ?_ | with_reducible refine Ext.drewN' ?_ _ | with_reducible refine Ext.alloc ?_ _ | (with_reducible refine Ext.setNew ?_ (by first | exact Nat.le_refl _ | (simp; done) | (simp; omega) | omega) _)))) hE)
  replace E4 := Ext.trans E4 (Ext.trans (by (repeat (first | with_reducible assumption | with_reducible exact Ext.refl _ | with_reducible refine Ext.drew' ?_ | with_reducible refine Ext.drewN' ?_ _ | with_reducible refine Ext.alloc ?_ _ | (with_reducible refine Ext.setNew ?_ (by first | exact Nat.le_refl _ | (simp; done) | (simp; omega) | omega) _)))) hE)
  replace x0 := x0.ext (Ext.trans (by (repeat (first | with_reducible assumption | with_reducible exact Ext.refl _ | with_reducible refine Ext.drew' ?_ | with_reducible refine Ext.drewN' ?_ _ | with_reducible refine Ext.alloc ?_ _ | (with_reducible refine Ext.setNew ?_ (by first | exact Nat.le_refl _ | (simp; done) | (simp; omega) | omega) _)))) hE)
  replace Ex0 := Ext.trans Ex0 (Ext.trans (by (repeat (first | with_reducible assumption | with_reducible exact Ext.refl _ | with_reducible refine Ext.drew' ?_ | with_reducible refine Ext.drewN' ?_ _ | with_reducible refine Ext.alloc ?_ _ | (with_reducible refine Ext.setNew ?_ (by first | exact Nat.le_refl _ | (simp; done) | (simp; omega) | omega) _)))) hE)
  replace x0x := x0x.ext (Ext.trans (by (repeat (first | with_reducible assumption | with_reducible exact Ext.refl _ | with_reducible refine Ext.drew' ?_ | with_reducible refine Ext.drewN' ?_ _ | with_reducible refine Ext.alloc ?_ _ | (with_reducible refine Ext.setNew ?_ (by first | exact Nat.le_refl _ | (simp; done) | (simp; omega) | omega) _)))) hE)
  replace x1 := x1.ext (Ext.trans (by (repeat (first | with_reducible assumption | with_reducible exact Ext.refl _ | with_reducible refine Ext.drew' ?_ | with_reducible refine Ext.drewN' ?_ _ | with_reducible refine Ext.alloc ?_ _ | (with_reducible refine Ext.setNew ?_ (by first | exact Nat.le_refl _ | (simp; done) | (simp; omega) | omega) _)))) hE)
  replace Ex1 := Ext.trans Ex1 (Ext.trans (by (repeat (first | with_reducible assumption | with_reducible exact Ext.refl _ | with_reducible refine Ext.drew' ?_ | with_reducible refine Ext.drewN' ?_ _ | with_reducible refine Ext.alloc ?_ _ | (with_reducible refine Ext.setNew ?_ (by first | exact Nat.le_refl _ | (simp; done) | (simp; omega) | omega) _)))) hE)
  replace Eg := Ext.trans Eg (Ext.trans (by (repeat (first | with_reducible assumption | with_reducible exact Ext.refl _ | with_reducible refine Ext.drew' ?_ | with_reducible refine Ext.drewN' ?_ _ | with_reducible refine Ext.alloc ?_ _ | (with_reducible refine Ext.setNew ?_ (by first | exact Nat.le_refl _ | (simp; done) | (simp; omega) | omega) _)))) hE)
  clear hE
  have lEh := Eg.size
  go_wp2_with fail
  refine (eqRows_R (g.ext (by (repeat (first | with_reducible assumption | with_reducible exact Ext.refl _ | with_reducible refine Ext.drew' ?_ | with_reducible refine Ext.drewN' ?_ _ | with_reducible refine Ext.alloc ?_ _ | (with_reducible refine Ext.setNew ?_ (by first | exact Nat.le_refl _ | (simp; done) | (simp; omega) | omega) _))))) (r.ext (Ext.trans E4 (by (repeat (first | with_reducible assumption | with_reducible exact Ext.refl _ | with_reducible refine Ext.drew' ?_ | with_reducible refine Ext.drewN' ?_ _ | with_reducible refine Ext.alloc ?_ _ | (with_reducible refine Ext.setNew ?_ (by first | exact Nat.le_refl _ | (simp; done) | (simp; omega) | omega) _))))))).mono ?_
  rintro e s9 ⟨rfl, hE⟩
  replace E := Ext.trans E (Ext.trans (by (repeat (first | with_reducible assumption | with_reducible exact Ext.refl _ | with_reducible refine Ext.drew' ?_ | with_reducible refine Ext.drewN' ?_ _ | with_reducible refine Ext.alloc ?_ _ | (with_reducible refine Ext.setNew ?_ (by first | exact Nat.le_refl _ | (simp; done) | (simp; omega) | omega) _)))) hE)
  replace y0 := y0.ext (Ext.trans (by (repeat (first | with_reducible assumption | with_reducible exact Ext.refl _ | with_reducible refine Ext.drew' ?_ | with_reducible refine Ext.drewN' ?_ _ | with_reducible refine Ext.alloc ?_ _ | (with_reducible refine Ext.setNew ?_ (by first | exact Nat.le_refl _ | (simp; done) | (simp; omega) | omega) _)))) hE)
  replace E4 := Ext.trans E4 (Ext.trans (by (repeat (first | with_reducible assumption | with_reducible exact Ext.refl _ | with_reducible refine Ext.drew' ?_ | with_reducible refine Ext.drewN' ?_ _ | with_reducible refine Ext.alloc ?_ _ | (with_reducible refine Ext.setNew ?_ (by first | exact Nat.le_refl _ | (simp; done) | (simp; omega) | omega) _)))) hE)
  replace x0 := x0.ext (Ext.trans (by (repeat (first | with_reducible assumption | with_reducible exact Ext.refl _ | with_reducible refine Ext.drew' ?_ | with_reducible refine Ext.drewN' ?_ _ | with_reducible refine Ext.alloc ?_ _ | (with_reducible refine Ext.setNew ?_ (by first | exact Nat.le_refl _ | (simp; done) | (simp; omega) | omega) _)))) hE)
  replace Ex0 := Ext.trans Ex0 (Ext.trans (by (repeat (first | with_reducible assumption | with_reducible exact Ext.refl _ | with_reducible refine Ext.drew' ?_ | with_reducible refine Ext.drewN' ?_ _ | with_reducible refine Ext.alloc ?_ _ | (with_reducible refine Ext.setNew ?_ (by first | exact Nat.le_refl _ | (simp; done) | (simp; omega) | omega) _)))) hE)
  replace x0x := x0x.ext (Ext.trans (by (repeat (first | with_reducible assumption | with_reducible exact Ext.refl _ | with_reducible refine Ext.drew' ?_ | with_reducible refine Ext.drewN' ?_ _ | with_reducible refine Ext.alloc ?_ _ | (with_reducible refine Ext.setNew ?_ (by first | exact Nat.le_refl _ | (simp; done) | (simp; omega) | omega) _)))) hE)
  replace x1 := x1.ext (Ext.trans (by (repeat (first | with_reducible assumption | with_reducible exact Ext.refl _ | with_reducible refine Ext.drew' ?_ | with_reducible refine Ext.drewN' ?_ _ | with_reducible refine Ext.alloc ?_ _ | (with_reducible refine Ext.setNew ?_ (by first | exact Nat.le_refl _ | (simp; done) | (simp; omega) | omega) _)))) hE)
  replace Ex1 := Ext.trans Ex1 (Ext.trans (by (repeat (first | with_reducible assumption | with_reducible exact Ext.refl _ | with_reducible refine Ext.drew' ?_ | with_reducible refine Ext.drewN' ?_ _ | with_reducible refine Ext.alloc ?_ _ | (with_reducible refine Ext.setNew ?_ (by first | exact Nat.le_refl _ | (simp; done) | (simp; omega) | omega) _)))) hE)
  replace Eg := Ext.trans Eg (Ext.trans (by (repeat (first | with_reducible assumption | with_reducible exact Ext.refl _ | with_reducible refine Ext.drew' ?_ | with_reducible refine Ext.drewN' ?_ _ | with_reducible refine Ext.alloc ?_ _ | (with_reducible refine Ext.setNew ?_ (by first | exact Nat.le_refl _ | (simp; done) | (simp; omega) | omega) _)))) hE)
  replace g := g.ext (Ext.trans (by (repeat (first | with_reducible assumption | with_reducible exact Ext.refl _ | with_reducible refine Ext.drew' ?_ | with_reducible refine Ext.drewN' ?_ _ | with_reducible refine Ext.alloc ?_ _ | (with_reducible refine Ext.setNew ?_ (by first | exact Nat.le_refl _ | (simp; done) | (simp; omega) | omega) _)))) hE)
  clear hE
  have y0l := y0.lt
  have y00 := y0.cell (i := 0) rfl
  have y01 := y0.cell (i := 1) rfl
  have x0xl := x0x.lt
  have x0x0 := x0x.cell (i := 0) rfl
  have x0x1 := x0x.cell (i := 1) rfl
  go_wp2_with fail
  go_region_held3 ((fun w' => (∀ b o, b < s9.heap.size → w'.cell? ⟨b, o, none⟩ = s9.cell? ⟨b, o, none⟩) ∧ Ext s9 w')) ((first | assumption | (with_reducible exact held_mk (Ext.drew s9)) | (with_reducible exact held_mk (((Ext.refl s9).alloc _).drew')) | (with_reducible exact held_mk ((Ext.drew s9).alloc _)))) (first | (go_simp; go_at_call 19; refine (toConfig_r f0 ta0 pa0 tc0 pc0 _ (hC0.ext (Ext.trans E (Ext.drew _))) hs0).mono ?_; rintro e s10 ⟨taq, tcq, paq, pcq, rfl, hCC, hE1⟩; have hK1 := held_mk ((Ext.drew s9).trans hE1)) | (go_simp; go_at_call 14; refine (eqConfig_R (x0.ext (held_ext hK1)) hCC).mono ?_; rintro e s11 ⟨rfl, hE2⟩; have hK2 := held_mk ((held_ext hK1).trans hE2)))
  have hE := held_ext hK2
  clear hK1 hK2 hE1 hE2 hCC
  clear y0l y00 y01 x0xl x0x0 x0x1
  replace E := Ext.trans E (Ext.trans (by (repeat (first | with_reducible assumption | with_reducible exact Ext.refl _ | with_reducible refine Ext.drew' ?_ | with_reducible refine Ext.drewN' ?_ _ | with_reducible refine Ext.alloc ?_ _ | (with_reducible refine Ext.setNew ?_ (by first | exact Nat.le_refl _ | (simp; done) | (simp; omega) | omega) _)))) hE)
  replace y0 := y0.ext (Ext.trans (by (repeat (first | with_reducible assumption | with_reducible exact Ext.refl _ | with_reducible refine Ext.drew' ?_ | with_reducible refine Ext.drewN' ?_ _ | with_reducible refine Ext.alloc ?_ _ | (with_reducible refine Ext.setNew ?_ (by first | exact Nat.le_refl _ | (simp; done) | (simp; omega) | omega) _)))) hE)
  replace E4 := Ext.trans E4 (Ext.trans (by (repeat (first | with_reducible assumption | with_reducible exact Ext.refl _ | with_reducible refine Ext.drew' ?_ | with_reducible refine Ext.drewN' ?_ _ | with_reducible refine Ext.alloc ?_ _ | (with_reducible refine Ext.setNew ?_ (by first | exact Nat.le_refl _ | (simp; done) | (simp; omega) | omega) _)))) hE)
  replace x0 := x0.ext (Ext.trans (by (repeat (first | with_reducible assumption | with_reducible exact Ext.refl _ | with_reducible refine Ext.drew' ?_ | with_reducible refine Ext.drewN' ?_ _ | with_reducible refine Ext.alloc ?_ _ | (with_reducible refine Ext.setNew ?_ (by first | exact Nat.le_refl _ | (simp; done) | (simp; omega) | omega) _)))) hE)
  replace Ex0 := Ext.trans Ex0 (Ext.trans (by (repeat (first | with_reducible assumption | with_reducible exact Ext.refl _ | with_reducible refine Ext.drew' ?_ | with_reducible refine Ext.drewN' ?_ _ | with_reducible refine Ext.alloc ?_ _ | (with_reducible refine Ext.setNew ?_ (by first | exact Nat.le_refl _ | (simp; done) | (simp; omega) | omega) _)))) hE)
  replace x0x := x0x.ext (Ext.trans (by (repeat (first | with_reducible assumption | with_reducible exact Ext.refl _ | with_reducible refine Ext.drew' ?_ | with_reducible refine Ext.drewN' ?_ _ | with_reducible refine Ext.alloc ?_ _ | (with_reducible refine Ext.setNew ?_ (by first | exact Nat.le_refl _ | (simp; done) | (simp; omega) | omega) _)))) hE)
  replace x1 := x1.ext (Ext.trans (by (repeat (first | with_reducible assumption | with_reducible exact Ext.refl _ | with_reducible refine Ext.drew' ?_ | with_reducible refine Ext.drewN' ?_ _ | with_reducible refine Ext.alloc ?_ _ | (with_reducible refine Ext.setNew ?_ (by first | exact Nat.le_refl _ | (simp; done) | (simp; omega) | omega) _)))) hE)
  replace Ex1 := Ext.trans Ex1 (Ext.trans (by (repeat (first | with_reducible assumption | with_reducible exact Ext.refl _ | with_reducible refine Ext.drew' ?_ | with_reducible refine Ext.drewN' ?_ _ | with_reducible refine Ext.alloc ?_ _ | (with_reducible refine Ext.setNew ?_ (by first | exact Nat.le_refl _ | (simp; done) | (simp; omega) | omega) _)))) hE)
  replace Eg := Ext.trans Eg (Ext.trans (by (repeat (first | with_reducible assumption | with_reducible exact Ext.refl _ | with_reducible refine Ext.drew' ?_ | with_reducible refine Ext.drewN' ?_ _ | with_reducible refine Ext.alloc ?_ _ | (with_reducible refine Ext.setNew ?_ (by first | exact Nat.le_refl _ | (simp; done) | (simp; omega) | omega) _)))) hE)
  replace g := g.ext (Ext.trans (by (repeat (first | with_reducible assumption | with_reducible exact Ext.refl _ | with_reducible refine Ext.drew' ?_ | with_reducible refine Ext.drewN' ?_ _ | with_reducible refine Ext.alloc ?_ _ | (with_reducible refine Ext.setNew ?_ (by first | exact Nat.le_refl _ | (simp; done) | (simp; omega) | omega) _)))) hE)
  clear hE
  go_wp2_with fail
  refine (toBoolSS_c _ _ z1 _ (w1.at_.ext (Ext.trans E (by (repeat (first | with_reducible assumption | with_reducible exact Ext.refl _ | with_reducible refine Ext.drew' ?_ | with_reducible refine Ext.drewN' ?_ _ | with_reducible refine Ext.alloc ?_ _ | (with_reducible refine Ext.setNew ?_ (by first | exact Nat.le_refl _ | (simp; done) | (simp; omega) | omega) _)))))) hl1 ht1).mono ?_
  rintro e s12 ⟨Bq1, rfl, qq1, hE⟩
  replace E := Ext.trans E (Ext.trans (by (repeat (first | with_reducible assumption | with_reducible exact Ext.refl _ | with_reducible refine Ext.drew' ?_ | with_reducible refine Ext.drewN' ?_ _ | with_reducible refine Ext.alloc ?_ _ | (with_reducible refine Ext.setNew ?_ (by first | exact Nat.le_refl _ | (simp; done) | (simp; omega) | omega) _)))) hE)
  replace y0 := y0.ext (Ext.trans (by (repeat (first | with_reducible assumption | with_reducible exact Ext.refl _ | with_reducible refine Ext.drew' ?_ | with_reducible refine Ext.drewN' ?_ _ | with_reducible refine Ext.alloc ?_ _ | (with_reducible refine Ext.setNew ?_ (by first | exact Nat.le_refl _ | (simp; done) | (simp; omega) | omega) _)))) hE)
  replace E4 := Ext.trans E4 (Ext.trans (by (repeat (first | with_reducible assumption | with_reducible exact Ext.refl _ | with_reducible refine Ext.drew' ?_ | with_reducible refine Ext.drewN' ?_ _ | with_reducible refine Ext.alloc ?_ _ | (with_reducible refine Ext.setNew ?_ (by first | exact Nat.le_refl _ | (simp; done) | (simp; omega) | omega) _)))) hE)
  replace x0 := x0.ext (Ext.trans (by (repeat (first | with_reducible assumption | with_reducible exact Ext.refl _ | with_reducible refine Ext.drew' ?_ | with_reducible refine Ext.drewN' ?_ _ | with_reducible refine Ext.alloc ?_ _ | (with_reducible refine Ext.setNew ?_ (by first | exact Nat.le_refl _ | (simp; done) | (simp; omega) | omega) _)))) hE)
  replace Ex0 := Ext.trans Ex0 (Ext.trans (by (repeat (first | with_reducible assumption | with_reducible exact Ext.refl _ | with_reducible refine Ext.drew' ?_ | with_reducible refine Ext.drewN' ?_ _ | with_reducible refine Ext.alloc ?_ _ | (with_reducible refine Ext.setNew ?_ (by first | exact Nat.le_refl _ | (simp; done) | (simp; omega) | omega) _)))) hE)
  replace x0x := x0x.ext (Ext.trans (by (repeat (first | with_reducible assumption | with_reducible exact Ext.refl _ | with_reducible refine Ext.drew' ?_ | with_reducible refine Ext.drewN' ?_ _ | with_reducible refine Ext.alloc ?_ _ | (with_reducible refine Ext.setNew ?_ (by first | exact Nat.le_refl _ | (simp; done) | (simp; omega) | omega) _)))) hE)
  replace x1 := x1.ext (Ext.trans (by (repeat (first | with_reducible assumption | with_reducible exact Ext.refl _ | with_reducible refine Ext.drew' ?_ | with_reducible refine Ext.drewN' ?_ _ | with_reducible refine Ext.alloc ?_ _ | (with_reducible refine Ext.setNew ?_ (by first | exact Nat.le_refl _ | (simp; done) | (simp; omega) | omega) _)))) hE)
  replace Ex1 := Ext.trans Ex1 (Ext.trans (by (repeat (first | with_reducible assumption | with_reducible exact Ext.refl _ | with_reducible refine Ext.drew' ?_ | with_reducible refine Ext.drewN' ?_ _ | with_reducible refine Ext.alloc ?_ _ | (with_reducible refine Ext.setNew ?_ (by first | exact Nat.le_refl _ | (simp; done) | (simp; omega) | omega) _)))) hE)
  replace Eg := Ext.trans Eg (Ext.trans (by (repeat (first | with_reducible assumption | with_reducible exact Ext.refl _ | with_reducible refine Ext.drew' ?_ | with_reducible refine Ext.drewN' ?_ _ | with_reducible refine Ext.alloc ?_ _ | (with_reducible refine Ext.setNew ?_ (by first | exact Nat.le_refl _ | (simp; done) | (simp; omega) | omega) _)))) hE)
  replace g := g.ext (Ext.trans (by (repeat (first | with_reducible assumption | with_reducible exact Ext.refl _ | with_reducible refine Ext.drew' ?_ | with_reducible refine Ext.drewN' ?_ _ | with_reducible refine Ext.alloc ?_ _ | (with_reducible refine Ext.setNew ?_ (by first | exact Nat.le_refl _ | (simp; done) | (simp; omega) | omega) _)))) hE)
  clear hE
  go_wp2_with fail
  refine (eqBoolSS_c _ _ _ _ z1 _ (x1.ext (by (repeat (first | with_reducible assumption | with_reducible exact Ext.refl _ | with_reducible refine Ext.drew' ?_ | with_reducible refine Ext.drewN' ?_ _ | with_reducible refine Ext.alloc ?_ _ | (with_reducible refine Ext.setNew ?_ (by first | exact Nat.le_refl _ | (simp; done) | (simp; omega) | omega) _))))).rows (qq1.ext (by (repeat (first | with_reducible assumption | with_reducible exact Ext.refl _ | with_reducible refine Ext.drew' ?_ | with_reducible refine Ext.drewN' ?_ _ | with_reducible refine Ext.alloc ?_ _ | (with_reducible refine Ext.setNew ?_ (by first | exact Nat.le_refl _ | (simp; done) | (simp; omega) | omega) _))))).rows hl1 hr1).mono ?_
  rintro e s13 ⟨rfl, hE⟩
  replace E := Ext.trans E (Ext.trans (by (repeat (first | with_reducible assumption | with_reducible exact Ext.refl _ | with_reducible refine Ext.drew' ?_ | with_reducible refine Ext.drewN' ?_ _ | with_reducible refine Ext.alloc ?_ _ | (with_reducible refine Ext.setNew ?_ (by first | exact Nat.le_refl _ | (simp; done) | (simp; omega) | omega) _)))) hE)
  replace y0 := y0.ext (Ext.trans (by (repeat (first | with_reducible assumption | with_reducible exact Ext.refl _ | with_reducible refine Ext.drew' ?_ | with_reducible refine Ext.drewN' ?_ _ | with_reducible refine Ext.alloc ?_ _ | (with_reducible refine Ext.setNew ?_ (by first | exact Nat.le_refl _ | (simp; done) | (simp; omega) | omega) _)))) hE)
  replace E4 := Ext.trans E4 (Ext.trans (by (repeat (first | with_reducible assumption | with_reducible exact Ext.refl _ | with_reducible refine Ext.drew' ?_ | with_reducible refine Ext.drewN' ?_ _ | with_reducible refine Ext.alloc ?_ _ | (with_reducible refine Ext.setNew ?_ (by first | exact Nat.le_refl _ | (simp; done) | (simp; omega) | omega) _)))) hE)
  replace x0 := x0.ext (Ext.trans (by (repeat (first | with_reducible assumption | with_reducible exact Ext.refl _ | with_reducible refine Ext.drew' ?_ | with_reducible refine Ext.drewN' ?_ _ | with_reducible refine Ext.alloc ?_ _ | (with_reducible refine Ext.setNew ?_ (by first | exact Nat.le_refl _ | (simp; done) | (simp; omega) | omega) _)))) hE)
  replace Ex0 := Ext.trans Ex0 (Ext.trans (by (repeat (first | with_reducible assumption | with_reducible exact Ext.refl _ | with_reducible refine Ext.drew' ?_ | with_reducible refine Ext.drewN' ?_ _ | with_reducible refine Ext.alloc ?_ _ | (with_reducible refine Ext.setNew ?_ (by first | exact Nat.le_refl _ | (simp; done) | (simp; omega) | omega) _)))) hE)
  replace x0x := x0x.ext (Ext.trans (by (repeat (first | with_reducible assumption | with_reducible exact Ext.refl _ | with_reducible refine Ext.drew' ?_ | with_reducible refine Ext.drewN' ?_ _ | with_reducible refine Ext.alloc ?_ _ | (with_reducible refine Ext.setNew ?_ (by first | exact Nat.le_refl _ | (simp; done) | (simp; omega) | omega) _)))) hE)
  replace x1 := x1.ext (Ext.trans (by (repeat (first | with_reducible assumption | with_reducible exact Ext.refl _ | with_reducible refine Ext.drew' ?_ | with_reducible refine Ext.drewN' ?_ _ | with_reducible refine Ext.alloc ?_ _ | (with_reducible refine Ext.setNew ?_ (by first | exact Nat.le_refl _ | (simp; done) | (simp; omega) | omega) _)))) hE)
  replace Ex1 := Ext.trans Ex1 (Ext.trans (by (repeat (first | with_reducible assumption | with_reducible exact Ext.refl _ | with_reducible refine Ext.drew' ?_ | with_reducible refine Ext.drewN' ?_ _ | with_reducible refine Ext.alloc ?_ _ | (with_reducible refine Ext.setNew ?_ (by first | exact Nat.le_refl _ | (simp; done) | (simp; omega) | omega) _)))) hE)
  replace Eg := Ext.trans Eg (Ext.trans (by (repeat (first | with_reducible assumption | with_reducible exact Ext.refl _ | with_reducible refine Ext.drew' ?_ | with_reducible refine Ext.drewN' ?_ _ | with_reducible refine Ext.alloc ?_ _ | (with_reducible refine Ext.setNew ?_ (by first | exact Nat.le_refl _ | (simp; done) | (simp; omega) | omega) _)))) hE)
  replace g := g.ext (Ext.trans (by (repeat (first | with_reducible assumption | with_reducible exact Ext.refl _ | with_reducible refine Ext.drew' ?_ | with_reducible refine Ext.drewN' ?_ _ | with_reducible refine Ext.alloc ?_ _ | (with_reducible refine Ext.setNew ?_ (by first | exact Nat.le_refl _ | (simp; done) | (simp; omega) | omega) _)))) hE)
  clear hE
  have x0xl := x0x.lt
  have x0x0 := x0x.cell (i := 0) rfl
  have x0x1 := x0x.cell (i := 1) rfl
  go_wp2_with fail
  refine (markConfig_k (x0.ext (by (repeat (first | with_reducible assumption | with_reducible exact Ext.refl _ | with_reducible refine Ext.drew' ?_ | with_reducible refine Ext.drewN' ?_ _ | with_reducible refine Ext.alloc ?_ _ | (with_reducible refine Ext.setNew ?_ (by first | exact Nat.le_refl _ | (simp; done) | (simp; omega) | omega) _))))) _ (by omega) (by omega)).mono ?_
  rintro e s14 ⟨⟨k0, rfl, ka0, kb0⟩, hM⟩
  clear x0xl x0x0 x0x1
  clear x0 x0x
  replace hM := Mid.trans (Mid.ofExt (w := s13) (by (repeat (first | with_reducible assumption | with_reducible exact Ext.refl _ | with_reducible refine Ext.drew' ?_ | with_reducible refine Ext.drewN' ?_ _ | with_reducible refine Ext.alloc ?_ _ | (with_reducible refine Ext.setNew ?_ (by first | exact Nat.le_refl _ | (simp; done) | (simp; omega) | omega) _))))) hM
  replace E := E.mid hM (by omega)
  replace E4 := E4.mid hM (by omega)
  replace g := g.hi hM (by omega)
  replace x1 := x1.mid hM (.inr (by omega))
  clear hM
  go_wp2_with fail
  refine (markRows_k (x1.ext (by (repeat (first | with_reducible assumption | with_reducible exact Ext.refl _ | with_reducible refine Ext.drew' ?_ | with_reducible refine Ext.drewN' ?_ _ | with_reducible refine Ext.alloc ?_ _ | (with_reducible refine Ext.setNew ?_ (by first | exact Nat.le_refl _ | (simp; done) | (simp; omega) | omega) _))))) _ (by omega) (by omega)).mono ?_
  rintro e s15 ⟨rfl, hM⟩
  clear x1
  replace hM := Mid.trans (Mid.ofExt (w := s14) (by (repeat (first | with_reducible assumption | with_reducible exact Ext.refl _ | with_reducible refine Ext.drew' ?_ | with_reducible refine Ext.drewN' ?_ _ | with_reducible refine Ext.alloc ?_ _ | (with_reducible refine Ext.setNew ?_ (by first | exact Nat.le_refl _ | (simp; done) | (simp; omega) | omega) _))))) hM
  replace E := E.mid hM (by omega)
  replace E4 := E4.mid hM (by omega)
  replace g := g.hi hM (by omega)
  clear hM
  have y0 := y0s.ext E4
  go_wp2_with fail
  refine (eqRows_R (g.ext (by (repeat (first | with_reducible assumption | with_reducible exact Ext.refl _ | with_reducible refine Ext.drew' ?_ | with_reducible refine Ext.drewN' ?_ _ | with_reducible refine Ext.alloc ?_ _ | (with_reducible refine Ext.setNew ?_ (by first | exact Nat.le_refl _ | (simp; done) | (simp; omega) | omega) _))))) (r.ext (Ext.trans E4 (by (repeat (first | with_reducible assumption | with_reducible exact Ext.refl _ | with_reducible refine Ext.drew' ?_ | with_reducible refine Ext.drewN' ?_ _ | with_reducible refine Ext.alloc ?_ _ | (with_reducible refine Ext.setNew ?_ (by first | exact Nat.le_refl _ | (simp; done) | (simp; omega) | omega) _))))))).mono ?_
  rintro e s16 ⟨rfl, hE⟩
  replace E := Ext.trans E (Ext.trans (by (repeat (first | with_reducible assumption | with_reducible exact Ext.refl _ | with_reducible refine Ext.drew' ?_ | with_reducible refine Ext.drewN' ?_ _ | with_reducible refine Ext.alloc ?_ _ | (with_reducible refine Ext.setNew ?_ (by first | exact Nat.le_refl _ | (simp; done) | (simp; omega) | omega) _)))) hE)
  replace E4 := Ext.trans E4 (Ext.trans (by (repeat (first | with_reducible assumption | with_reducible exact Ext.refl _ | with_reducible refine Ext.drew' ?_ | with_reducible refine Ext.drewN' ?_ _ | with_reducible refine Ext.alloc ?_ _ | (with_reducible refine Ext.setNew ?_ (by first | exact Nat.le_refl _ | (simp; done) | (simp; omega) | omega) _)))) hE)
  replace g := g.ext (Ext.trans (by (repeat (first | with_reducible assumption | with_reducible exact Ext.refl _ | with_reducible refine Ext.drew' ?_ | with_reducible refine Ext.drewN' ?_ _ | with_reducible refine Ext.alloc ?_ _ | (with_reducible refine Ext.setNew ?_ (by first | exact Nat.le_refl _ | (simp; done) | (simp; omega) | omega) _)))) hE)
  replace y0 := y0.ext (Ext.trans (by (repeat (first | with_reducible assumption | with_reducible exact Ext.refl _ | with_reducible refine Ext.drew' ?_ | with_reducible refine Ext.drewN' ?_ _ | with_reducible refine Ext.alloc ?_ _ | (with_reducible refine Ext.setNew ?_ (by first | exact Nat.le_refl _ | (simp; done) | (simp; omega) | omega) _)))) hE)
  clear hE
  go_wp2_with fail
  refine (markRows_R (g.ext (by (repeat (first | with_reducible assumption | with_reducible exact Ext.refl _ | with_reducible refine Ext.drew' ?_ | with_reducible refine Ext.drewN' ?_ _ | with_reducible refine Ext.alloc ?_ _ | (with_reducible refine Ext.setNew ?_ (by first | exact Nat.le_refl _ | (simp; done) | (simp; omega) | omega) _)))))).mono ?_
  rintro e s17 ⟨km, rfl, mk, hM⟩
  obtain ⟨km0, km1⟩ := mk.kb
  clear g
  clear y0
  replace hM := Mid.trans (Mid.ofExt (w := s16) (by (repeat (first | with_reducible assumption | with_reducible exact Ext.refl _ | with_reducible refine Ext.drew' ?_ | with_reducible refine Ext.drewN' ?_ _ | with_reducible refine Ext.alloc ?_ _ | (with_reducible refine Ext.setNew ?_ (by first | exact Nat.le_refl _ | (simp; done) | (simp; omega) | omega) _))))) hM
  replace E := E.mid hM (by omega)
  replace E4 := E4.mid hM (by omega)
  clear hM
  have y0 := y0s.ext E4
  go_wp2_with fail
  refine (heldRows_R (mk.ext (by (repeat (first | with_reducible assumption | with_reducible exact Ext.refl _ | with_reducible refine Ext.drew' ?_ | with_reducible refine Ext.drewN' ?_ _ | with_reducible refine Ext.alloc ?_ _ | (with_reducible refine Ext.setNew ?_ (by first | exact Nat.le_refl _ | (simp; done) | (simp; omega) | omega) _)))))).mono ?_
  rintro e s18 ⟨rfl, hE⟩
  replace E := Ext.trans E (Ext.trans (by (repeat (first | with_reducible assumption | with_reducible exact Ext.refl _ | with_reducible refine Ext.drew' ?_ | with_reducible refine Ext.drewN' ?_ _ | with_reducible refine Ext.alloc ?_ _ | (with_reducible refine Ext.setNew ?_ (by first | exact Nat.le_refl _ | (simp; done) | (simp; omega) | omega) _)))) hE)
  replace E4 := Ext.trans E4 (Ext.trans (by (repeat (first | with_reducible assumption | with_reducible exact Ext.refl _ | with_reducible refine Ext.drew' ?_ | with_reducible refine Ext.drewN' ?_ _ | with_reducible refine Ext.alloc ?_ _ | (with_reducible refine Ext.setNew ?_ (by first | exact Nat.le_refl _ | (simp; done) | (simp; omega) | omega) _)))) hE)
  replace mk := mk.ext (Ext.trans (by (repeat (first | with_reducible assumption | with_reducible exact Ext.refl _ | with_reducible refine Ext.drew' ?_ | with_reducible refine Ext.drewN' ?_ _ | with_reducible refine Ext.alloc ?_ _ | (with_reducible refine Ext.setNew ?_ (by first | exact Nat.le_refl _ | (simp; done) | (simp; omega) | omega) _)))) hE)
  replace y0 := y0.ext (Ext.trans (by (repeat (first | with_reducible assumption | with_reducible exact Ext.refl _ | with_reducible refine Ext.drew' ?_ | with_reducible refine Ext.drewN' ?_ _ | with_reducible refine Ext.alloc ?_ _ | (with_reducible refine Ext.setNew ?_ (by first | exact Nat.le_refl _ | (simp; done) | (simp; omega) | omega) _)))) hE)
  clear hE
  have y0l := y0.lt
  have y00 := y0.cell (i := 0) rfl
  have y01 := y0.cell (i := 1) rfl
  go_wp2_with fail
  refine (toConfig_r f0 ta0 pa0 tc0 pc0 _ (hC0.ext (Ext.trans E (by (repeat (first | with_reducible assumption | with_reducible exact Ext.refl _ | with_reducible refine Ext.drew' ?_ | with_reducible refine Ext.drewN' ?_ _ | with_reducible refine Ext.alloc ?_ _ | (with_reducible refine Ext.setNew ?_ (by first | exact Nat.le_refl _ | (simp; done) | (simp; omega) | omega) _)))))) hs0).mono ?_
  rintro e s19 ⟨tau0, tcu0, pau0, pcu0, rfl, u0, hE⟩
  clear y0l y00 y01
  replace E := Ext.trans E (Ext.trans (by (repeat (first | with_reducible assumption | with_reducible exact Ext.refl _ | with_reducible refine Ext.drew' ?_ | with_reducible refine Ext.drewN' ?_ _ | with_reducible refine Ext.alloc ?_ _ | (with_reducible refine Ext.setNew ?_ (by first | exact Nat.le_refl _ | (simp; done) | (simp; omega) | omega) _)))) hE)
  replace E4 := Ext.trans E4 (Ext.trans (by (repeat (first | with_reducible assumption | with_reducible exact Ext.refl _ | with_reducible refine Ext.drew' ?_ | with_reducible refine Ext.drewN' ?_ _ | with_reducible refine Ext.alloc ?_ _ | (with_reducible refine Ext.setNew ?_ (by first | exact Nat.le_refl _ | (simp; done) | (simp; omega) | omega) _)))) hE)
  replace mk := mk.ext (Ext.trans (by (repeat (first | with_reducible assumption | with_reducible exact Ext.refl _ | with_reducible refine Ext.drew' ?_ | with_reducible refine Ext.drewN' ?_ _ | with_reducible refine Ext.alloc ?_ _ | (with_reducible refine Ext.setNew ?_ (by first | exact Nat.le_refl _ | (simp; done) | (simp; omega) | omega) _)))) hE)
  replace y0 := y0.ext (Ext.trans (by (repeat (first | with_reducible assumption | with_reducible exact Ext.refl _ | with_reducible refine Ext.drew' ?_ | with_reducible refine Ext.drewN' ?_ _ | with_reducible refine Ext.alloc ?_ _ | (with_reducible refine Ext.setNew ?_ (by first | exact Nat.le_refl _ | (simp; done) | (simp; omega) | omega) _)))) hE)
  clear hE
  go_wp2_with fail
  refine (toBoolSS_c _ _ z1 _ (w1.at_.ext (Ext.trans E (by (repeat (first | with_reducible assumption | with_reducible exact Ext.refl _ | with_reducible refine Ext.drew' ?_ | with_reducible refine Ext.drewN' ?_ _ | with_reducible refine Ext.alloc ?_ _ | (with_reducible refine Ext.setNew ?_ (by first | exact Nat.le_refl _ | (simp; done) | (simp; omega) | omega) _)))))) hl1 ht1).mono ?_
  rintro e s20 ⟨Bu1, rfl, u1, hE⟩
  replace E := Ext.trans E (Ext.trans (by (repeat (first | with_reducible assumption | with_reducible exact Ext.refl _ | with_reducible refine Ext.drew' ?_ | with_reducible refine Ext.drewN' ?_ _ | with_reducible refine Ext.alloc ?_ _ | (with_reducible refine Ext.setNew ?_ (by first | exact Nat.le_refl _ | (simp; done) | (simp; omega) | omega) _)))) hE)
  replace E4 := Ext.trans E4 (Ext.trans (by (repeat (first | with_reducible assumption | with_reducible exact Ext.refl _ | with_reducible refine Ext.drew' ?_ | with_reducible refine Ext.drewN' ?_ _ | with_reducible refine Ext.alloc ?_ _ | (with_reducible refine Ext.setNew ?_ (by first | exact Nat.le_refl _ | (simp; done) | (simp; omega) | omega) _)))) hE)
  replace mk := mk.ext (Ext.trans (by (repeat (first | with_reducible assumption | with_reducible exact Ext.refl _ | with_reducible refine Ext.drew' ?_ | with_reducible refine Ext.drewN' ?_ _ | with_reducible refine Ext.alloc ?_ _ | (with_reducible refine Ext.setNew ?_ (by first | exact Nat.le_refl _ | (simp; done) | (simp; omega) | omega) _)))) hE)
  replace y0 := y0.ext (Ext.trans (by (repeat (first | with_reducible assumption | with_reducible exact Ext.refl _ | with_reducible refine Ext.drew' ?_ | with_reducible refine Ext.drewN' ?_ _ | with_reducible refine Ext.alloc ?_ _ | (with_reducible refine Ext.setNew ?_ (by first | exact Nat.le_refl _ | (simp; done) | (simp; omega) | omega) _)))) hE)
  replace u0 := u0.ext (Ext.trans (by (repeat (first | with_reducible assumption | with_reducible exact Ext.refl _ | with_reducible refine Ext.drew' ?_ | with_reducible refine Ext.drewN' ?_ _ | with_reducible refine Ext.alloc ?_ _ | (with_reducible refine Ext.setNew ?_ (by first | exact Nat.le_refl _ | (simp; done) | (simp; omega) | omega) _)))) hE)
  clear hE
  go_wp2_with fail
  refine (implRunFabric_c f0 _ _ _ _ _ _ z1 _ (u0.ext (by (repeat (first | with_reducible assumption | with_reducible exact Ext.refl _ | with_reducible refine Ext.drew' ?_ | with_reducible refine Ext.drewN' ?_ _ | with_reducible refine Ext.alloc ?_ _ | (with_reducible refine Ext.setNew ?_ (by first | exact Nat.le_refl _ | (simp; done) | (simp; omega) | omega) _))))).at_ (u1.ext (by (repeat (first | with_reducible assumption | with_reducible exact Ext.refl _ | with_reducible refine Ext.drew' ?_ | with_reducible refine Ext.drewN' ?_ _ | with_reducible refine Ext.alloc ?_ _ | (with_reducible refine Ext.setNew ?_ (by first | exact Nat.le_refl _ | (simp; done) | (simp; omega) | omega) _))))).rows hl1 hr1).mono ?_
  rw [← HV.out]
  rintro e s21 hh
  obtain ⟨vh0, rfl, h, hE⟩ := GiveRows.rep hh
  replace E := Ext.trans E (Ext.trans (by (repeat (first | with_reducible assumption | with_reducible exact Ext.refl _ | with_reducible refine Ext.drew' ?_ | with_reducible refine Ext.drewN' ?_ _ | with_reducible refine Ext.alloc ?_ _ | (with_reducible refine Ext.setNew ?_ (by first | exact Nat.le_refl _ | (simp; done) | (simp; omega) | omega) _)))) hE)
  replace E4 := Ext.trans E4 (Ext.trans (by (repeat (first | with_reducible assumption | with_reducible exact Ext.refl _ | with_reducible refine Ext.drew' ?_ | with_reducible refine Ext.drewN' ?_ _ | with_reducible refine Ext.alloc ?_ _ | (with_reducible refine Ext.setNew ?_ (by first | exact Nat.le_refl _ | (simp; done) | (simp; omega) | omega) _)))) hE)
  replace mk := mk.ext (Ext.trans (by (repeat (first | with_reducible assumption | with_reducible exact Ext.refl _ | with_reducible refine Ext.drew' ?_ | with_reducible refine Ext.drewN' ?_ _ | with_reducible refine Ext.alloc ?_ _ | (with_reducible refine Ext.setNew ?_ (by first | exact Nat.le_refl _ | (simp; done) | (simp; omega) | omega) _)))) hE)
  replace y0 := y0.ext (Ext.trans (by (repeat (first | with_reducible assumption | with_reducible exact Ext.refl _ | with_reducible refine Ext.drew' ?_ | with_reducible refine Ext.drewN' ?_ _ | with_reducible refine Ext.alloc ?_ _ | (with_reducible refine Ext.setNew ?_ (by first | exact Nat.le_refl _ | (simp; done) | (simp; omega) | omega) _)))) hE)
  replace u0 := u0.ext (Ext.trans (by (repeat (first | with_reducible assumption | with_reducible exact Ext.refl _ | with_reducible refine Ext.drew' ?_ | with_reducible refine Ext.drewN' ?_ _ | with_reducible refine Ext.alloc ?_ _ | (with_reducible refine Ext.setNew ?_ (by first | exact Nat.le_refl _ | (simp; done) | (simp; omega) | omega) _)))) hE)
  replace u1 := u1.ext (Ext.trans (by (repeat (first | with_reducible assumption | with_reducible exact Ext.refl _ | with_reducible refine Ext.drew' ?_ | with_reducible refine Ext.drewN' ?_ _ | with_reducible refine Ext.alloc ?_ _ | (with_reducible refine Ext.setNew ?_ (by first | exact Nat.le_refl _ | (simp; done) | (simp; omega) | omega) _)))) hE)
  clear hE
  go_wp2_with fail
  refine (eqRows_R (h.ext (by (repeat (first | with_reducible assumption | with_reducible exact Ext.refl _ | with_reducible refine Ext.drew' ?_ | with_reducible refine Ext.drewN' ?_ _ | with_reducible refine Ext.alloc ?_ _ | (with_reducible refine Ext.setNew ?_ (by first | exact Nat.le_refl _ | (simp; done) | (simp; omega) | omega) _))))) (r.ext (Ext.trans E4 (by (repeat (first | with_reducible assumption | with_reducible exact Ext.refl _ | with_reducible refine Ext.drew' ?_ | with_reducible refine Ext.drewN' ?_ _ | with_reducible refine Ext.alloc ?_ _ | (with_reducible refine Ext.setNew ?_ (by first | exact Nat.le_refl _ | (simp; done) | (simp; omega) | omega) _))))))).mono ?_
  rintro e s22 ⟨rfl, hE⟩
  replace E := Ext.trans E (Ext.trans (by (repeat (first | with_reducible assumption | with_reducible exact Ext.refl _ | with_reducible refine Ext.drew' ?_ | with_reducible refine Ext.drewN' ?_ _ | with_reducible refine Ext.alloc ?_ _ | (with_reducible refine Ext.setNew ?_ (by first | exact Nat.le_refl _ | (simp; done) | (simp; omega) | omega) _)))) hE)
  replace E4 := Ext.trans E4 (Ext.trans (by (repeat (first | with_reducible assumption | with_reducible exact Ext.refl _ | with_reducible refine Ext.drew' ?_ | with_reducible refine Ext.drewN' ?_ _ | with_reducible refine Ext.alloc ?_ _ | (with_reducible refine Ext.setNew ?_ (by first | exact Nat.le_refl _ | (simp; done) | (simp; omega) | omega) _)))) hE)
  replace mk := mk.ext (Ext.trans (by (repeat (first | with_reducible assumption | with_reducible exact Ext.refl _ | with_reducible refine Ext.drew' ?_ | with_reducible refine Ext.drewN' ?_ _ | with_reducible refine Ext.alloc ?_ _ | (with_reducible refine Ext.setNew ?_ (by first | exact Nat.le_refl _ | (simp; done) | (simp; omega) | omega) _)))) hE)
  replace y0 := y0.ext (Ext.trans (by (repeat (first | with_reducible assumption | with_reducible exact Ext.refl _ | with_reducible refine Ext.drew' ?_ | with_reducible refine Ext.drewN' ?_ _ | with_reducible refine Ext.alloc ?_ _ | (with_reducible refine Ext.setNew ?_ (by first | exact Nat.le_refl _ | (simp; done) | (simp; omega) | omega) _)))) hE)
  replace h := h.ext (Ext.trans (by (repeat (first | with_reducible assumption | with_reducible exact Ext.refl _ | with_reducible refine Ext.drew' ?_ | with_reducible refine Ext.drewN' ?_ _ | with_reducible refine Ext.alloc ?_ _ | (with_reducible refine Ext.setNew ?_ (by first | exact Nat.le_refl _ | (simp; done) | (simp; omega) | omega) _)))) hE)
  clear hE
  go_wp2_with fail
  refine (heldRows_R (mk.ext (by (repeat (first | with_reducible assumption | with_reducible exact Ext.refl _ | with_reducible refine Ext.drew' ?_ | with_reducible refine Ext.drewN' ?_ _ | with_reducible refine Ext.alloc ?_ _ | (with_reducible refine Ext.setNew ?_ (by first | exact Nat.le_refl _ | (simp; done) | (simp; omega) | omega) _)))))).mono ?_
  rintro e s23 ⟨rfl, hE⟩
  replace E := Ext.trans E (Ext.trans (by (repeat (first | with_reducible assumption | with_reducible exact Ext.refl _ | with_reducible refine Ext.drew' ?_ | with_reducible refine Ext.drewN' ?_ _ | with_reducible refine Ext.alloc ?_ _ | (with_reducible refine Ext.setNew ?_ (by first | exact Nat.le_refl _ | (simp; done) | (simp; omega) | omega) _)))) hE)
  replace E4 := Ext.trans E4 (Ext.trans (by (repeat (first | with_reducible assumption | with_reducible exact Ext.refl _ | with_reducible refine Ext.drew' ?_ | with_reducible refine Ext.drewN' ?_ _ | with_reducible refine Ext.alloc ?_ _ | (with_reducible refine Ext.setNew ?_ (by first | exact Nat.le_refl _ | (simp; done) | (simp; omega) | omega) _)))) hE)
  replace mk := mk.ext (Ext.trans (by (repeat (first | with_reducible assumption | with_reducible exact Ext.refl _ | with_reducible refine Ext.drew' ?_ | with_reducible refine Ext.drewN' ?_ _ | with_reducible refine Ext.alloc ?_ _ | (with_reducible refine Ext.setNew ?_ (by first | exact Nat.le_refl _ | (simp; done) | (simp; omega) | omega) _)))) hE)
  replace y0 := y0.ext (Ext.trans (by (repeat (first | with_reducible assumption | with_reducible exact Ext.refl _ | with_reducible refine Ext.drew' ?_ | with_reducible refine Ext.drewN' ?_ _ | with_reducible refine Ext.alloc ?_ _ | (with_reducible refine Ext.setNew ?_ (by first | exact Nat.le_refl _ | (simp; done) | (simp; omega) | omega) _)))) hE)
  replace h := h.ext (Ext.trans (by (repeat (first | with_reducible assumption | with_reducible exact Ext.refl _ | with_reducible refine Ext.drew' ?_ | with_reducible refine Ext.drewN' ?_ _ | with_reducible refine Ext.alloc ?_ _ | (with_reducible refine Ext.setNew ?_ (by first | exact Nat.le_refl _ | (simp; done) | (simp; omega) | omega) _)))) hE)
  clear hE
  go_wp2
  go_ret
  exact ⟨rfl, E⟩
theorem fnExactRunFabric_lifted (os : Os) (started : os.Started) (H : Type) (enc : TypeId × Value → H) :
    ReturnsInHanded {} Try.checked os 11 .any (Rows.fnExactRunFabricSpec.pre6 enc Try.prog Try.f11 Rows.fnExactRunFabricRow.domain false) (Rows.fnExactRunFabricSpec.post enc Try.prog Try.f11 false true false false) := by
  refine returnsInHanded_of_change (C := Try.checked) own started (by kernel_rfl) Try.func11
    (ChangeSpec.witness6 (enc := enc) (C := Try.checked) false ⟨#[], #[.agg #[.slice none 0 0, .slice none 0 0], .slice none 0 0], []⟩ 8 (by kernel_rfl) (by kernel_rfl) (by kernel_rfl) (by kernel_rfl)) ?_
  intro W base args ds gs before hval0 hW hcnd _
  have hval : ∀ (j : Nat) t v, Try.f11.params[j]? = some t → args[j]? = some v → Value.okWide Try.prog W .any base t v := hval0
  have hW' := hW
  obtain ⟨p, q, hA0, hV, rfl, hfz, hnd⟩ := hW
  have hA : DataW.TrodAll enc Try.prog W 0 (fun _ => true) true Try.f11.params.toList args.toList ds p := hA0
  rw [Try.params11] at hA hval
  obtain ⟨v0, vs0, d0, ds0, p0, q0, hargs, rfl, rfl, h0, r0⟩ := trodAll_cons hA
  obtain ⟨v1, vs1, d1, ds1, p1, q1, rfl, rfl, rfl, h1, r1⟩ := trodAll_cons r0
  obtain ⟨rfl, rfl, rfl⟩ := trodAll_nil r1
  obtain rfl : args = #[v0, v1] := by cases args; simp_all
  obtain ⟨rfl, rfl⟩ := trodVars_none hV
  have k0 := h0
  have lt0 : ∀ x ∈ p0, x.block < W.heap.size := by obtain ⟨m, hm⟩ := k0; exact DataW.trod_lt m _ _ _ hm
  obtain ⟨f0, ta0, tc0, pa0, pc0, rfl, w0⟩ := open_conf (hval 0 33 v0 rfl rfl) h0
  have k1 := h1
  have lt1 : ∀ x ∈ p1, x.block < W.heap.size := by obtain ⟨m, hm⟩ := k1; exact DataW.trod_lt m _ _ _ hm
  obtain ⟨a1, cap1, z1, rfl, w1⟩ := open_grid (hval 1 76 v1 rfl rfl) h1
  clear hA0 hval0
  refine (fnExactRunFabric_walk f0 ta0 tc0 pa0 pc0 a1 cap1 z1 W w0 w1).mono fun e W' ⟨he, bel⟩ => ?_
  subst he
  exact ⟨_, rfl, _, _, _, [], _, [], hW', trodAll_mk1 (shut_bool Try.underlying4 _), (trodAll_cons_mk (Below.trod laidOut (by kernel_rfl) (of_decide_eq_true (by kernel_rfl)) k0 bel lt0) (trodAll_cons_mk (Below.trod laidOut (by kernel_rfl) (of_decide_eq_true (by kernel_rfl)) k1 bel lt1) trodAll_mk0)), rfl, bel.frame _, fun h => by cases h⟩
theorem fnExactRunFabric_over : Rows.fnExactRunFabricRow.holds Try.pinned (OpenSpec.ofChange Rows.fnExactRunFabricSpec) :=
  OpenClaim.holds_of_wide 11 Try.f11 rfl rfl rfl rfl rfl rfl rfl ⟨rfl, rfl, rfl, rfl, rfl⟩ rfl rfl rfl rfl rfl (by kernel_rfl) Try.func11 (by kernel_rfl)
    (of_decide_eq_true (by kernel_rfl)) (by unfold Func.isWrapper; first | (rw [if_pos (by decide +kernel)]; kernel_rfl) | (rw [if_neg (by decide +kernel)]; exact ⟨rfl, rfl⟩))
    (fun os started H enc _ => fnExactRunFabric_lifted os started H enc)
theorem fnExactRunFabric_holds : Rows.FnExactRunFabricSaid := fnExactRunFabric_over
end Go.Proofs.Ytkdiniaddnhkdaa
