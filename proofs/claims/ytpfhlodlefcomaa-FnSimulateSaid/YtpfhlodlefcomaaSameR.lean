/- Contract: the comparison of two equal slices of slices of truth values in the laws; rows that a call has given back. -/
import Derived.Test.YtpfhlodlefcomaaSim0
import Derived.Test.YtpfhlodlefcomaaBits
namespace Go.Proofs.Ytpfhlodlefcomaa
open Go.RowKit
set_option maxRecDepth 100000
set_option linter.unusedVariables false
set_option linter.unusedSimpArgs false
set_option maxHeartbeats 1000000 in
theorem sameRows_c (a b : Option Addr) (c d n : Nat) (xss : List (List Bool)) (hn : xss.length = n) (w : World) (hx : RowsAt w a xss) (hy : RowsAt w b xss) (hl : n ≤ 1048576) (hrl : ∀ j, j < xss.length → (xss.getD j []).length ≤ 1048576) :
    Calls Try.prog 18 #[.slice a n c, .slice b n d] w fun e w' => e = .returned (.bool true) ∧ Ext w w' := by
  subst hn
  have HL := Lib.hid hrl
  clear hrl
  go_enter Try.func18, Try.ntmps18
  go_wp2_with fail
  go_loopw [5] (fun i wr => ∃ k : Nat, k ≤ xss.length ∧ i = .int .i64 k ∧ Ext w wr) (fun i _ => xss.length - (intOf i).toNat)
  case atStart => exact ⟨0, Nat.zero_le _, rfl, Ext.refl w⟩
  case round =>
    obtain ⟨k, hk, rfl, hE⟩ := hrel
    by_cases hlt : k < xss.length
    · obtain ⟨b1, o1, rfl, hb1, hc1⟩ := (hx.ext hE).get (by omega)
      obtain ⟨b2, o2, rfl, hb2, hc2⟩ := (hy.ext hE).get (by omega)
      obtain ⟨a1, d1, q1, hA1⟩ := hc1 k hlt
      obtain ⟨a2, d2, q2, hA2⟩ := hc2 k hlt
      have hrl := HL.out k hlt
      obtain ⟨row, hrow⟩ : ∃ r, r = xss.getD k [] := ⟨_, rfl⟩
      rw [← hrow] at q1 q2 hA1 hA2 hrl
      obtain ⟨w1, rfl⟩ : ∃ x : World, x = wr := ⟨_, rfl⟩
      clear hc1 hc2 hrow
      go_wp2_with fail
      go_region_held3 ((fun w' => (∀ b o, b < w1.heap.size → w'.cell? ⟨b, o, none⟩ = w1.cell? ⟨b, o, none⟩) ∧ Ext w1 w')) ((first | assumption | (with_reducible exact held_mk (Ext.drew w1)) | (with_reducible exact held_mk (((Ext.refl w1).alloc _).drew')) | (with_reducible exact held_mk ((Ext.drew w1).alloc _)))) (first | (go_simp; go_at_call 22; refine (sameBools_c a1 a2 d1 d2 _ _ row row rfl rfl _ (hA1.ext (Ext.drew w1)) (hA2.ext (Ext.drew w1)) hrl hrl).mono ?_; rw [beq_self_eq_true]; rintro e w2 ⟨rfl, hE2⟩; have hK1 := held_mk ((Ext.drew w1).trans hE2)))
      have hE3 := held_ext hK1
      go_wp2
      go_roundw
      case rel => exact ⟨k + 1, by omega, by go_num, hE.trans hE3⟩
      case measure => simp [intOf]; omega
    · go_wp2
      go_ret
      exact ⟨rfl, hE⟩
/-- Rows given back, as they read. -/
theorem GiveRows.opened {w w' : World} {xss : List (List Bool)} {e : Ending} (h : GiveRows w xss e w') : ∃ a c, e = .returned (.slice a xss.length c) ∧ RowsAt w' a xss ∧ Ext w w' := by
  obtain ⟨v, vals, h1, h2, h3⟩ := h
  obtain ⟨a, c, e, _⟩ := ownsRow_row h2.row
  subst e
  exact ⟨a, c, h1, h2.at_, h3⟩
theorem simV_rl {c : Circ} {xss : List (List Bool)} (F : FitR c xss) : ∀ j, j < (simV c xss).length → ((simV c xss).getD j []).length ≤ 1048576 := by
  have h : ∀ (rs : List (List Bool)) (st : List Bool), st.length = c.next.length → (∀ r ∈ rs, (r.length : Int) = c.inputs) → ∀ r ∈ runV c st rs, r.length = c.outs.length := by
    intro rs
    induction rs with
    | nil => intro st _ _ r hr; cases hr
    | cons x rs ih =>
      intro st h1 h2 r hr
      have ok : EvOk c st x := ⟨F.V, h1, h2 x (by simp)⟩
      rw [runV] at hr
      rcases List.mem_cons.1 hr with rfl | hr
      · exact (stepV_len ok).1
      · exact ih _ (stepV_len ok).2 (fun r hr => h2 r (List.mem_cons_of_mem _ hr)) r hr
  intro j hj
  have hf : fitB c xss = true := fitB_iff.2 F
  have e : simV c xss = runV c (st0 c) xss := by unfold simV; rw [hf]; rfl
  rw [e] at hj ⊢
  have hm : (runV c (st0 c) xss).getD j [] ∈ runV c (st0 c) xss := by
    rw [List.getD_eq_getElem?_getD, List.getElem?_eq_getElem hj]; exact List.getElem_mem hj
  have := h xss (st0 c) (by simp [st0]) (fun r hr => by
    obtain ⟨i, hi, rfl⟩ := List.mem_iff_getElem.1 hr
    have := F.r i hi
    rwa [List.getD_eq_getElem?_getD, List.getElem?_eq_getElem hi] at this) _ hm
  have := F.V.lo
  omega
end Go.Proofs.Ytpfhlodlefcomaa
