import Derived.Test.YtpfhlodlefcomaaOptB0
import Derived.Test.YtpfhlodlefcomaaRegion
import Derived.Deep.DeepCutAuto
import Derived.Outline
namespace Go.Proofs.Ytpfhlodlefcomaa
open Go.RowKit
set_option maxRecDepth 100000
set_option linter.unusedVariables false
set_option linter.unusedSimpArgs false
theorem CBuild.ofShare {w : World} {base cb : Nat} {x : Int} {next : List Int} {nv : Value} (hb : Blk w cb 26 [.int .i64 x, nv, .slice none 0 0, .slice none 0 0]) (hbase : base ≤ cb) (o : w.ownsRow base 3 1 nv next.length (next.map (Value.int .i64))) (ne : nv.ownBlock ≠ some cb) :
    CBuild w base cb ⟨x, next, [], []⟩ nv (.slice none 0 0) (.slice none 0 0) :=
  ⟨hb, hbase, o, ownsRow_nil, ownsRow_nil, ne, by simp [Value.ownBlock], by simp [Value.ownBlock], by simp [Value.ownBlock], by simp [Value.ownBlock], by simp [Value.ownBlock]⟩
set_option maxHeartbeats 8000000 in
theorem l3BuildShare_c (c : Circ) (p : Where3) (w : World) (hc : CircAt w c p) (V : c.Valid) :
    Calls Try.prog 55 #[.agg #[.int .i64 c.inputs, .slice p.an c.next.length p.cn, .slice p.ag c.gates.length p.cg, .slice p.ao c.outs.length p.co], .bool true] w (GiveC w (buildV true c)) := by
  have hi0 := V.i0
  have hi4 := V.i4
  have ln := V.ln
  have lg := V.lg
  have lo := V.lo
  obtain ⟨F, hF⟩ : ∃ F : Nat, c.first = (F : Int) := ⟨c.first.toNat, by unfold Circ.first; omega⟩
  have hF1 : 1 ≤ F ∧ F ≤ 8 := by unfold Circ.first at hF; omega
  obtain ⟨hF1, hF2⟩ := hF1
  have made := CircBox.made w c p 26
  have y0 := made.ext ((Ext.refl _).alloc (.cells #[.int .i64 0, .slice none 0 0, .slice none 0 0, .slice none 0 0] 26))
  have r0 := Blk.at (w.alloc (.cells #[.int .i64 c.inputs, .slice p.an c.next.length p.cn, .slice p.ag c.gates.length p.cg, .slice p.ao c.outs.length p.co] 26)) [.int .i64 0, .slice none 0 0, .slice none 0 0, .slice none 0 0] 26 (B := w.heap.size + 1) (by simp)
  clear made
  go_enter Try.func55, Try.ntmps55
  go_wp2_with fail
  refine (l3Used_c c p _ (hc.ext (by (repeat (first | with_reducible assumption | with_reducible exact Ext.refl _ | with_reducible refine Ext.drew' ?_ | with_reducible refine Ext.drewN' ?_ _ | with_reducible refine Ext.alloc ?_ _ | (with_reducible refine Ext.setNew ?_ (by first | exact Nat.le_refl _ | (simp; done) | (simp; omega) | omega) _))))) V).mono ?_
  rintro e w1 ⟨UB, rfl, hUB, hU, hE1⟩
  have E1 : Ext w w1 := Ext.trans (a := w) (by (repeat (first | with_reducible assumption | with_reducible exact Ext.refl _ | with_reducible refine Ext.drew' ?_ | with_reducible refine Ext.drewN' ?_ _ | with_reducible refine Ext.alloc ?_ _ | (with_reducible refine Ext.setNew ?_ (by first | exact Nat.le_refl _ | (simp; done) | (simp; omega) | omega) _)))) hE1
  have y1 := y0.ext hE1
  have r1 := r0.ext hE1
  have HU := Lib.hid hU
  have lU := hU.lt
  have l1 := y1.lt
  have l1r := r1.lt
  have hnx : RowAt w1 p.an (c.next.map (Value.int .i64)) := (hc.ext E1).nx.row
  have HF := Lib.hid hF
  have VV := Lib.hid V
  clear hE1 y0 r0 hU hF V
  (obtain ⟨lb, b0, b1, b2, b3⟩ := (id y1))
  have EA : Ext w1 ((w1.alloc (.cells #[] 3)).drew) := ((Ext.refl w1).alloc _).drew'
  have OA : World.ownsRow ((w1.alloc (.cells #[] 3)).drew) w1.heap.size 3 1 (.slice (some ⟨w1.heap.size, 0, none⟩) 0 0) 0 [] := ownsRow_ext ((Blk.at w1 [] 3 rfl).owns (n := 0) (size := 1) rfl (Nat.le_refl _) (by decide)) (Ext.drew _)
  have hoA := hnx.ext EA
  have EB : Ext w1 (((w1.alloc (.cells #[.int .i64 0, .slice none 0 0, .slice none 0 0, .slice none 0 0] 26)).alloc (.cells #[] 3)).drew) := (((Ext.refl w1).alloc _).alloc _).drew'
  have OB : World.ownsRow (((w1.alloc (.cells #[.int .i64 0, .slice none 0 0, .slice none 0 0, .slice none 0 0] 26)).alloc (.cells #[] 3)).drew) w1.heap.size 3 1 (.slice (some ⟨w1.heap.size + 1, 0, none⟩) 0 0) 0 [] := ownsRow_ext ((Blk.at _ [] 3 (B := w1.heap.size + 1) (by simp)).owns (n := 0) (size := 1) rfl (by omega) (by decide)) (Ext.drew _)
  have KB : Blk (((w1.alloc (.cells #[.int .i64 0, .slice none 0 0, .slice none 0 0, .slice none 0 0] 26)).alloc (.cells #[] 3)).drew) w1.heap.size 26 [.int .i64 0, .slice none 0 0, .slice none 0 0, .slice none 0 0] := ((Blk.at w1 [.int .i64 0, .slice none 0 0, .slice none 0 0, .slice none 0 0] 26 rfl).alloc _).drew
  have hoB := hnx.ext EB
  have EC : Ext w1 (((w1.alloc (.cells #[] 3)).alloc (.cells #[.int .i64 0, .slice none 0 0, .slice none 0 0, .slice none 0 0] 26)).drew) := (((Ext.refl w1).alloc _).alloc _).drew'
  have OC : World.ownsRow (((w1.alloc (.cells #[] 3)).alloc (.cells #[.int .i64 0, .slice none 0 0, .slice none 0 0, .slice none 0 0] 26)).drew) w1.heap.size 3 1 (.slice (some ⟨w1.heap.size, 0, none⟩) 0 0) 0 [] := ownsRow_ext ((((Blk.at w1 [] 3 rfl).alloc _)).owns (n := 0) (size := 1) rfl (Nat.le_refl _) (by decide)) (Ext.drew _)
  have KC : Blk (((w1.alloc (.cells #[] 3)).alloc (.cells #[.int .i64 0, .slice none 0 0, .slice none 0 0, .slice none 0 0] 26)).drew) (w1.heap.size + 1) 26 [.int .i64 0, .slice none 0 0, .slice none 0 0, .slice none 0 0] := (Blk.at (w1.alloc (.cells #[] 3)) [.int .i64 0, .slice none 0 0, .slice none 0 0, .slice none 0 0] 26 (B := w1.heap.size + 1) (by simp)).drew
  have hoC := hnx.ext EC
  go_wp2_with fail
  go_cut [6] (fun v wx => ∃ cb nv, v = .pointer (some ⟨cb, 0, none⟩) ∧ CBuild wx w1.heap.size cb ⟨c.inputs, c.next, [], []⟩ nv (.slice none 0 0) (.slice none 0 0) ∧ Ext w1 wx)
  case first =>
    go_region_held3 ((fun w' => (∀ b o, b < w1.heap.size → w'.cell? ⟨b, o, none⟩ = w1.cell? ⟨b, o, none⟩) ∧ Ext w1 w')) (first | (first | assumption | (with_reducible exact held_mk (Ext.drew w1)) | (with_reducible exact held_mk (((Ext.refl w1).alloc _).drew')) | (with_reducible exact held_mk ((Ext.drew w1).alloc _))) | exact held_mk (by (repeat (first | with_reducible assumption | with_reducible exact Ext.refl _ | with_reducible refine Ext.drew' ?_ | with_reducible refine Ext.drewN' ?_ _ | with_reducible refine Ext.alloc ?_ _ | (with_reducible refine Ext.setNew ?_ (by first | exact Nat.le_refl _ | (simp; done) | (simp; omega) | omega) _))))) (first
      | (refine wp_app tyInts OA hoA (by simp) (oneCell_ints _) (by omega) (by first | omega | (simp; done) | (simp; omega)) rfl rfl rfl ?_; intro v3 w3 o3 g3 m3; simp only [Nat.zero_add, List.nil_append] at o3; obtain ⟨va3, vc3, rfl, _⟩ := ownsRow_row o3; have E3 := ext_grown EA g3 (by intro k hk; simp [Value.ownBlock] at hk; omega); have hK3 := held_mk E3; skip; obtain ⟨_, p0, p1, p2, p3⟩ := y1.ext E3)
      | (refine wp_app tyInts OB hoB (by simp) (oneCell_ints _) (by omega) (by first | omega | (simp; done) | (simp; omega)) rfl rfl rfl ?_; intro v3 w3 o3 g3 m3; simp only [Nat.zero_add, List.nil_append] at o3; obtain ⟨va3, vc3, rfl, _⟩ := ownsRow_row o3; have E3 := ext_grown EB g3 (by intro k hk; simp [Value.ownBlock] at hk; omega); have hK3 := held_mk E3; have kb := KB.gr g3 (by simp [Value.ownBlock]); (have k0 := kb.cell (i := 0) rfl; have k1 := kb.cell (i := 1) rfl; have k2 := kb.cell (i := 2) rfl; have k3 := kb.cell (i := 3) rfl; have kf := (fun i => kb.frozen i)); have hne := moved_cb m3 KB.lt (by simp [Value.ownBlock]); obtain ⟨_, p0, p1, p2, p3⟩ := y1.ext E3)
      | (refine wp_app tyInts OC hoC (by simp) (oneCell_ints _) (by omega) (by first | omega | (simp; done) | (simp; omega)) rfl rfl rfl ?_; intro v3 w3 o3 g3 m3; simp only [Nat.zero_add, List.nil_append] at o3; obtain ⟨va3, vc3, rfl, _⟩ := ownsRow_row o3; have E3 := ext_grown EC g3 (by intro k hk; simp [Value.ownBlock] at hk; omega); have hK3 := held_mk E3; have kb := KC.gr g3 (by simp [Value.ownBlock]); (have k0 := kb.cell (i := 0) rfl; have k1 := kb.cell (i := 1) rfl; have k2 := kb.cell (i := 2) rfl; have k3 := kb.cell (i := 3) rfl; have kf := (fun i => kb.frozen i)); have hne := moved_cb m3 KC.lt (by simp [Value.ownBlock]); obtain ⟨_, p0, p1, p2, p3⟩ := y1.ext E3)
      )
    all_goals
      go_wp2_with fail
      go_meet
    · exact ⟨w3.heap.size, _, rfl, CBuild.ofShare (Blk.at w3 [.int .i64 c.inputs, .slice va3 c.next.length vc3, .slice none 0 0, .slice none 0 0] 26 rfl) E3.size (ownsRow_ext o3 ((Ext.refl w3).alloc _)) (by intro hh; have := (o3.lt _ hh).2; omega), E3.alloc _⟩
    · exact ⟨w1.heap.size + 1, _, rfl, CBuild.ofShare ((((kb.set 0 (.int .i64 c.inputs)).set 1 (.slice va3 c.next.length vc3)).set 2 (.slice none 0 0)).set 3 (.slice none 0 0)) (Nat.le_succ _) (ownsRow_set (ownsRow_set (ownsRow_set (ownsRow_set o3 hne _) hne _) hne _) hne _) hne, by (repeat (first | with_reducible assumption | with_reducible exact Ext.refl _ | with_reducible refine Ext.drew' ?_ | with_reducible refine Ext.drewN' ?_ _ | with_reducible refine Ext.alloc ?_ _ | (with_reducible refine Ext.setNew ?_ (by first | exact Nat.le_refl _ | (simp; done) | (simp; omega) | omega) _)))⟩
    · exact ⟨w1.heap.size, _, rfl, CBuild.ofShare ((((kb.set 0 (.int .i64 c.inputs)).set 1 (.slice va3 c.next.length vc3)).set 2 (.slice none 0 0)).set 3 (.slice none 0 0)) (Nat.le_refl _) (ownsRow_set (ownsRow_set (ownsRow_set (ownsRow_set o3 hne _) hne _) hne _) hne _) hne, by (repeat (first | with_reducible assumption | with_reducible exact Ext.refl _ | with_reducible refine Ext.drew' ?_ | with_reducible refine Ext.drewN' ?_ _ | with_reducible refine Ext.alloc ?_ _ | (with_reducible refine Ext.setNew ?_ (by first | exact Nat.le_refl _ | (simp; done) | (simp; omega) | omega) _)))⟩
  obtain ⟨cb, nv, rfl, hCB, hEc⟩ := hcut
  obtain ⟨na, nc, rfl, _⟩ := ownsRow_row hCB.nx
  dsimp only at hCB
  obtain ⟨w2, rfl⟩ : ∃ x : World, x = wc := ⟨_, rfl⟩
  have E2 := E1.trans hEc
  clear OA OB OC KB KC EA EB EC hoA hoB hoC hnx lb b0 b1 b2 b3
  have l2 := hEc.size
  have hcb := hCB.hb
  have hcbl := hCB.lt
  have M0 : World.ownsRow (w2.alloc (.cells #[] 3)) w1.heap.size 3 1 (.slice (some ⟨w2.heap.size, 0, none⟩) 0 0) 0 [] := (Blk.at w2 [] 3 rfl).owns (n := 0) (size := 1) rfl l2 (by decide)
  have S0 : BSt (w2.alloc (.cells #[] 3)) w1.heap.size cb ⟨c.inputs, c.next, [], []⟩ (.slice na c.next.length nc) (.slice none 0 0) (.slice none 0 0) (.slice (some ⟨w2.heap.size, 0, none⟩) 0 0) (own0 0) :=
    ⟨hCB.ext ((Ext.refl w2).alloc _), M0, (by intro hh; have : w2.heap.size = cb := Option.some.inj hh; omega), (by intro k hk hh; have : w2.heap.size = k := Option.some.inj hk; have := (hCB.nx.lt k hh).2; omega), by simp [Value.ownBlock], by simp [Value.ownBlock]⟩
  go_wp2_with fail
  go_loopw [7, 8] (fun v7 v8 wr => ∃ (k : Nat) (ma : Option Addr) (mc : Nat), k ≤ F ∧ v8 = .int .i64 k ∧ v7 = .slice ma k mc ∧ BSt wr w1.heap.size cb ⟨c.inputs, c.next, [], []⟩ (.slice na c.next.length nc) (.slice none 0 0) (.slice none 0 0) (.slice ma k mc) (own0 k) ∧ Ext w1 wr) (fun _ i _ => F - (intOf i).toNat)
  case atStart => exact ⟨0, _, _, Nat.zero_le _, rfl, rfl, S0, hEc.alloc _⟩
  case round =>
    clear S0 M0 hCB
    obtain ⟨k, ma, mc, hk, rfl, rfl, hS, hE⟩ := hrel
    have E3 := E1.trans hE
    have y3 := y1.ext hE
    obtain ⟨lb, b0, b1, b2, b3⟩ := (id y3)
    by_cases hlt : k < F
    · go_wp2_with fail
      refine (l1First_c c p _ (by omega) (by omega) (by omega)).mono ?_
      rw [HF.out]
      rintro e w4 ⟨rfl, hE4⟩
      have hS4 := hS.ext hE4
      have hE5 := hE.trans hE4
      have l5 := hE5.size
      have hm := hS4.m
      rw [own0_length] at hm
      go_wp2_with (at_builtin; refine wpList_app tyInts (ownsRow_ext hm ((Ext.refl w4).alloc _)) (RowAt.new w4 _ _) rfl (oneCell_int1 _) (by omega) (by simp; omega) rfl rfl rfl rfl ?_; intro v6 w6 o6 g6 m6; obtain ⟨a6, c6, rfl, _⟩ := ownsRow_row o6)
      go_roundw
      case rel =>
        refine ⟨k + 1, a6, c6, by omega, by go_num, rfl, ?_, (hS4.ext ((Ext.refl w4).alloc _)).ext_app (hE5.alloc _) (Nat.le_refl _) g6⟩
        rw [own0_snoc]
        exact (hS4.ext ((Ext.refl w4).alloc _)).app g6 m6 (by simp [own0_length]) o6
      case measure => simp [intOf]; omega
    · have hk2 : F = k := by omega
      subst hk2
      go_wp2_with fail
      refine (l1First_c c p _ (by omega) (by omega) (by omega)).mono ?_
      rw [HF.out]
      rintro e w4 ⟨rfl, hE4⟩
      have hS4 := hS.ext hE4
      have hE5 := hE.trans hE4
      clear hS hE E3 y3 lb b0 b1 b2 b3
      go_wp2_with fail
      clear hk hlt hE4
      obtain ⟨w5, rfl⟩ : ∃ x : World, x = w4 := ⟨_, rfl⟩
      go_loopw [7, 9] (fun v7 v9 wr => ∃ (k : Nat) (ma : Option Addr) (mc : Nat) (ga : Option Addr) (gc : Nat), k ≤ c.gates.length ∧ v9 = .int .i64 k ∧ v7 = .slice ma (F + k) mc ∧ BSt wr w1.heap.size cb ⟨c.inputs, c.next, (bState true c k).1, []⟩ (.slice na c.next.length nc) (.slice ga (bState true c k).1.length gc) (.slice none 0 0) (.slice ma (F + k) mc) (bState true c k).2 ∧ Ext w1 wr) (fun _ i _ => c.gates.length - (intOf i).toNat)
      case atStart =>
        refine ⟨0, _, _, none, 0, Nat.zero_le _, rfl, rfl, ?_, hE5⟩
        have e : bState true c 0 = ([], own0 F) := by unfold bState; rw [HF.out]; rfl
        rw [e]; exact hS4
      case round =>
        clear hS4 hE5
        obtain ⟨k, ma, mc, ga, gc, hk, rfl, rfl, hS, hE⟩ := hrel
        have y3 := y1.ext hE
        have ok := bState_ok VV.out true k hk
        have okl := ok.ml
        rw [HF.out] at okl
        by_cases hlt : k < c.gates.length
        · have hst := bState_succ true c k hlt
          obtain ⟨b9, o9, hag, hb9, hg1, hg2⟩ := ((hc.ext E1).ext hE).gs.get (by omega)
          have q1 := hg1 k hlt
          have q2 := hg2 k hlt
          have hv := VV.out.gs k hlt
          obtain ⟨va, vb⟩ := hv
          have la := ok.lit va
          have lb_ := ok.lit vb
          rw [HF.out] at va vb la lb_ hst
          rw [litB_iff'] at va vb la lb_
          obtain ⟨va1, va2⟩ := va
          obtain ⟨vb1, vb2⟩ := vb
          obtain ⟨la1, la2⟩ := la
          obtain ⟨lb1, lb2⟩ := lb_
          have okm : ∀ x ∈ (bState true c k).2, 0 ≤ x ∧ x ≤ 1000000 := by
            intro x hx
            have h1 := ok.ms x hx
            have h2 := ok.gl
            rw [HF.out, litB_iff'] at h1
            omega
          have okg := ok.gl
          obtain ⟨gs, hgs⟩ : ∃ gs, gs = (bState true c k).1 := ⟨_, rfl⟩
          obtain ⟨ms, hms⟩ : ∃ ms, ms = (bState true c k).2 := ⟨_, rfl⟩
          have hgm : bState true c k = (gs, ms) := by rw [hgs, hms]
          rw [hgm] at hS hst okl okm okg la1 la2 lb1 lb2
          dsimp only at hS okl okm okg la1 la2 lb1 lb2
          have hml : ms.length = F + k := by omega
          obtain ⟨lx, hlx⟩ : ∃ x, x = (c.gates.getD k (0, 0)).1 := ⟨_, rfl⟩
          obtain ⟨ly, hly⟩ : ∃ x, x = (c.gates.getD k (0, 0)).2 := ⟨_, rfl⟩
          have hgp : c.gates.getD k (0, 0) = (lx, ly) := by rw [hlx, hly]
          rw [hgp] at q1 q2 hst va1 va2 vb1 vb2 la1 la2 lb1 lb2
          dsimp only at q1 q2 va1 va2 vb1 vb2 la1 la2 lb1 lb2
          have HU3 := HU.out.ext hE
          have lUr := HU3.lt
          have hcu := HU3.cell (i := k) (u := .bool ((usedV c).getD k false)) (by rw [List.getElem?_map, List.getElem?_eq_getElem (by rw [usedV_length]; exact hlt)]; simp [List.getD_eq_getElem?_getD, List.getElem?_eq_getElem (show k < (usedV c).length by rw [usedV_length]; exact hlt)])
          have HST := Lib.hid hst
          have HML := Lib.hid hml
          have OKM := Lib.hid okm
          have hmr := hS.m
          rw [hml] at hmr
          have hmi : IntsAt wr ma ms := intsAt_of_row (ownsRow_at hmr)
          have lE := hE.size
          have cbl := hS.b.lt
          obtain ⟨lb, b0, b1, b2, b3⟩ := (id y3)
          rw [hag] at b2
          have HAG := Lib.hid hag
          clear hst hml okm okl ok hgs hms hgm hgp hg1 hg2 hag HU3
          cases hu : (usedV c).getD k false
          · rw [hu] at hcu HST
            go_wp2_with (at_builtin; refine wpList_app tyInts (ownsRow_ext hmr ((Ext.refl wr).alloc _)) (RowAt.new wr _ _) rfl (oneCell_int1 _) (by omega) (by simp; omega) rfl rfl rfl rfl ?_; intro v6 w6 o6 g6 m6; obtain ⟨a6, c6, rfl, _⟩ := ownsRow_row o6)
            go_roundw
            case rel =>
              refine ⟨k + 1, a6, c6, ga, gc, by omega, by go_num, rfl, ?_, (hS.ext ((Ext.refl wr).alloc _)).ext_app (hE.alloc _) (Nat.le_refl _) g6⟩
              have e : bState true c (k + 1) = (gs, ms ++ [0]) := by rw [HST.out]; rfl
              rw [e]
              exact (hS.ext ((Ext.refl wr).alloc _)).app g6 m6 (by simp [HML.out]) o6
            case measure => simp [intOf]; omega
          · rw [hu] at hcu HST
            clear hu
            obtain ⟨x0, x1, x2, x3, xf⟩ := hS.b.cells
            dsimp only at x0
            obtain ⟨mx, hmx⟩ : ∃ x, x = mapL ms lx := ⟨_, rfl⟩
            obtain ⟨my, hmy⟩ : ∃ x, x = mapL ms ly := ⟨_, rfl⟩
            rw [← hmx] at la1 la2
            rw [← hmy] at lb1 lb2
            have HMX := Lib.hid hmx
            have HMY := Lib.hid hmy
            clear hmx hmy
            clear hlx hly
            obtain ⟨R, hR⟩ : ∃ R, R = andG F gs mx my := ⟨_, rfl⟩
            have HR : Hid (andG (Circ.first ⟨c.inputs, c.next, gs, []⟩) gs mx my = R) := Lib.hid (by rw [hR]; unfold Circ.first; have := HF.out; unfold Circ.first at this; rw [← this])
            have HR2 : Hid (andG (F : Int) gs mx my = R) := Lib.hid hR.symm
            clear hR
            go_wp2_with fail
            go_cut [11, 12] (fun v11 v12 wx => ∃ (Bx : Nat) (ag : Option Addr) (cg : Nat), v11 = .pointer (some ⟨Bx, 0, none⟩) ∧ v12 = .int .i64 R.2 ∧ Blk wx Bx 26 [.int .i64 c.inputs, .slice na c.next.length nc, .slice ag R.1.length cg, .slice none 0 0] ∧ wr.heap.size ≤ Bx ∧
              wx.ownsRow w1.heap.size 46 2 (.slice ag R.1.length cg) R.1.length (flat R.1) ∧ ((.slice ag R.1.length cg : Value) = .slice ga gs.length gc ∨ ∀ k, (Value.slice ag R.1.length cg).ownBlock = some k → wr.heap.size ≤ k) ∧ Ext wr wx)
            case first =>
              go_region_held3 ((fun w' => (∀ b o, b < wr.heap.size → w'.cell? ⟨b, o, none⟩ = wr.cell? ⟨b, o, none⟩) ∧ Ext wr w')) (first | (first | assumption | (with_reducible exact held_mk (Ext.drew wr)) | (with_reducible exact held_mk (((Ext.refl wr).alloc _).drew')) | (with_reducible exact held_mk ((Ext.drew wr).alloc _))) | exact held_mk (by (repeat (first | with_reducible assumption | with_reducible exact Ext.refl _ | with_reducible refine Ext.drew' ?_ | with_reducible refine Ext.drewN' ?_ _ | with_reducible refine Ext.alloc ?_ _ | (with_reducible refine Ext.setNew ?_ (by first | exact Nat.le_refl _ | (simp; done) | (simp; omega) | omega) _))))) (first
                | (go_simp; go_at_call 77; refine (l3And_c ⟨c.inputs, c.next, gs, []⟩ ⟨na, nc, ga, gc, none, 0⟩ mx my _ w1.heap.size (ownsRow_ext hS.b.gs (by (repeat (first | with_reducible assumption | with_reducible exact Ext.refl _ | with_reducible refine Ext.drew' ?_ | with_reducible refine Ext.drewN' ?_ _ | with_reducible refine Ext.alloc ?_ _ | (with_reducible refine Ext.setNew ?_ (by first | exact Nat.le_refl _ | (simp; done) | (simp; omega) | omega) _))))) (by simp; omega) (by omega) (by omega) (by omega) (by dsimp only; omega) (by omega) (by omega) (by omega) (by omega)).mono ?_; rw [HR.out]; rintro e w6 ⟨ag, cg, rfl, o6, s6, hE6⟩; dsimp only at s6; have E6 : Ext wr w6 := Ext.trans (by (repeat (first | with_reducible assumption | with_reducible exact Ext.refl _ | with_reducible refine Ext.drew' ?_ | with_reducible refine Ext.drewN' ?_ _ | with_reducible refine Ext.alloc ?_ _ | (with_reducible refine Ext.setNew ?_ (by first | exact Nat.le_refl _ | (simp; done) | (simp; omega) | omega) _)))) hE6; have hK6 := held_mk E6; have hs6 := and_same s6 (n := wr.heap.size) (by first | omega | (simp; done) | (simp; omega)); (first | (have kb := ((Blk.at wr [.int .i64 0, .slice none 0 0, .slice none 0 0, .slice none 0 0] 26 (B := wr.heap.size) rfl).drew).ext hE6; have hne := and_ne s6 hS.b.gs (b := wr.heap.size) (Nat.le_refl _) (by first | omega | (simp; done) | (simp; omega)); (have k0 := kb.cell (i := 0) rfl; have k1 := kb.cell (i := 1) rfl; have k2 := kb.cell (i := 2) rfl; have k3 := kb.cell (i := 3) rfl; have kf := (fun i => kb.frozen i))) | skip))
                | (go_simp; go_at_call 78; refine (l3Map_c ma mc (F + k) ms HML.out _ _ (hmi.ext (by (repeat (first | with_reducible assumption | with_reducible exact Ext.refl _ | with_reducible refine Ext.drew' ?_ | with_reducible refine Ext.drewN' ?_ _ | with_reducible refine Ext.alloc ?_ _ | (with_reducible refine Ext.setNew ?_ (by first | exact Nat.le_refl _ | (simp; done) | (simp; omega) | omega) _))))) (by omega) (by omega) (by omega) OKM.out).mono ?_; (first | rw [← HMX.out] | rw [← HMY.out]); rintro e w6 ⟨rfl, rfl⟩))
              all_goals
                go_wp2_with fail
                go_meet
                first
                | exact ⟨wr.heap.size, ag, cg, rfl, rfl, (((kb.set 0 (.int .i64 c.inputs)).set 1 (.slice na c.next.length nc)).set 2 (.slice ag R.1.length cg)).set 3 (.slice none 0 0), Nat.le_refl _, ownsRow_set (ownsRow_set (ownsRow_set (ownsRow_set o6 hne _) hne _) hne _) hne _, hs6, by (repeat (first | with_reducible assumption | with_reducible exact Ext.refl _ | with_reducible refine Ext.drew' ?_ | with_reducible refine Ext.drewN' ?_ _ | with_reducible refine Ext.alloc ?_ _ | (with_reducible refine Ext.setNew ?_ (by first | exact Nat.le_refl _ | (simp; done) | (simp; omega) | omega) _)))⟩
                | exact ⟨w6.heap.size, ag, cg, rfl, rfl, Blk.at w6 [.int .i64 c.inputs, .slice na c.next.length nc, .slice ag R.1.length cg, .slice none 0 0] 26 rfl, E6.size, ownsRow_ext o6 ((Ext.refl w6).alloc _), hs6, E6.alloc _⟩
            obtain ⟨Bx, ag, cg, rfl, rfl, hBx, hBl, o6, hs6, hEx⟩ := hcut
            obtain ⟨wy, rfl⟩ : ∃ x : World, x = wc := ⟨_, rfl⟩
            have hE6 := hE.trans hEx
            have hP := hS.put hEx o6 hs6
            have hEP : Ext w1 ((((wy.setCell ⟨cb, 0, none⟩ (.int .i64 c.inputs)).setCell ⟨cb, 1, none⟩ (.slice na c.next.length nc)).setCell ⟨cb, 2, none⟩ (.slice ag R.1.length cg)).setCell ⟨cb, 3, none⟩ (.slice none 0 0)) := Ext.setNew (p := ⟨cb, 3, none⟩) (Ext.setNew (p := ⟨cb, 2, none⟩) (Ext.setNew (p := ⟨cb, 1, none⟩) (Ext.setNew (p := ⟨cb, 0, none⟩) hE6 hcb _) hcb _) hcb _) hcb _
            have hPm := hP.m
            rw [HML.out] at hPm
            (have e0 := hBx.cell (i := 0) rfl; have e1 := hBx.cell (i := 1) rfl; have e2 := hBx.cell (i := 2) rfl; have e3 := hBx.cell (i := 3) rfl; have ef := (fun i => hBx.frozen i))
            clear x0 x1 x2 x3 xf
            obtain ⟨x0, x1, x2, x3, xf⟩ := (hS.b.ext hEx).cells
            have lwy := hE6.size
            have hPl := hEP.size
            clear hmr hmi hcu q1 q2 lb b0 b1 b2 b3
            go_upto_region 19 with fail
            obtain ⟨W4, hW4⟩ : ∃ W4, W4 = ((((wy.setCell ⟨cb, 0, none⟩ (.int .i64 c.inputs)).setCell ⟨cb, 1, none⟩ (.slice na c.next.length nc)).setCell ⟨cb, 2, none⟩ (.slice ag R.1.length cg)).setCell ⟨cb, 3, none⟩ (.slice none 0 0)) := ⟨_, rfl⟩
            rw [← hW4] at hP hEP hPm hPl ⊢
            clear hW4 x0 x1 x2 x3 xf e0 e1 e2 e3 ef
            go_wp2_with (at_builtin; refine wpList_app tyInts (ownsRow_ext hPm ((Ext.refl _).alloc _)) (RowAt.new W4 _ _) rfl (oneCell_int1 _) (by omega) (by simp; omega) rfl rfl rfl rfl ?_; intro v7 w7 o7 g7 m7; obtain ⟨a7, c7, rfl, _⟩ := ownsRow_row o7)
            go_roundw
            case rel =>
              refine ⟨k + 1, a7, c7, ag, cg, by omega, by go_num, rfl, ?_, (hP.ext ((Ext.refl W4).alloc _)).ext_app (hEP.alloc _) (Nat.le_refl _) g7⟩
              have e : bState true c (k + 1) = (R.1, ms ++ [R.2]) := by rw [HST.out]; unfold bStep; simp only [if_true]; rw [← HMX.out, ← HMY.out, HR2.out]
              rw [e]
              exact (hP.ext ((Ext.refl W4).alloc _)).app g7 m7 (by simp [HML.out]) o7
            case measure => simp [intOf]; omega
        · have hk2 : k = c.gates.length := by omega
          subst hk2
          obtain ⟨lb, b0, b1, b2, b3⟩ := (id y3)
          have okm : ∀ x ∈ (bState true c c.gates.length).2, 0 ≤ x ∧ x ≤ 1000000 := by
            intro x hx
            have h1 := ok.ms x hx
            have h2 := ok.gl
            rw [HF.out, litB_iff'] at h1
            omega
          have okg := ok.gl
          obtain ⟨gs, hgs⟩ : ∃ gs, gs = (bState true c c.gates.length).1 := ⟨_, rfl⟩
          obtain ⟨ms, hms⟩ : ∃ ms, ms = (bState true c c.gates.length).2 := ⟨_, rfl⟩
          have hgm : bState true c c.gates.length = (gs, ms) := by rw [hgs, hms]
          rw [hgm] at hS okl okm okg
          dsimp only at hS okl okm okg
          rw [bState_all] at hgm
          have hml : ms.length = F + c.gates.length := by omega
          have HML := Lib.hid hml
          have OKM := Lib.hid okm
          have HGM := Lib.hid hgm
          have rs : Hid (∀ i, i < c.next.length → 0 ≤ c.next.getD i 0 ∧ c.next.getD i 0 < 2 * ((F + c.gates.length : Nat) : Int)) := Lib.hid (by
            intro i hi
            have h := (litsOk_append.1 VV.out.rs).1 i hi
            unfold Circ.vars at h
            rw [HF.out, litB_iff'] at h
            omega)
          have rt : Hid (∀ i, i < c.outs.length → 0 ≤ c.outs.getD i 0 ∧ c.outs.getD i 0 < 2 * ((F + c.gates.length : Nat) : Int)) := Lib.hid (by
            intro i hi
            have h := (litsOk_append.1 VV.out.rs).2 i hi
            unfold Circ.vars at h
            rw [HF.out, litB_iff'] at h
            omega)
          clear ok okl okm hgs hms hgm hml hlt hk
          go_wp2_with fail
          clear lb b0 b1 b2 b3 y3
          obtain ⟨w6, rfl⟩ : ∃ x : World, x = wr := ⟨_, rfl⟩
          go_loopw [13] (fun v13 wr => ∃ j : Nat, j ≤ c.next.length ∧ v13 = .int .i64 j ∧ BSt wr w1.heap.size cb ⟨c.inputs, over (fun i => mapL ms (c.next.getD i 0)) c.next j, gs, []⟩ (.slice na c.next.length nc) (.slice ga gs.length gc) (.slice none 0 0) (.slice ma (F + c.gates.length) mc) ms ∧ Ext w1 wr) (fun i _ => c.next.length - (intOf i).toNat)
          case atStart => exact ⟨0, Nat.zero_le _, rfl, by rw [over_zero]; exact hS, hE⟩
          case round =>
            clear hS hE
            obtain ⟨j, hj, rfl, hS, hE⟩ := hrel
            have y3 := y1.ext hE
            obtain ⟨lb, b0, b1, b2, b3⟩ := (id y3)
            have lE := hE.size
            have cbl := hS.b.lt
            obtain ⟨x0, x1, x2, x3, xf⟩ := hS.b.cells
            by_cases hlt : j < c.next.length
            · obtain ⟨b9, o9, hag, hb9, hg1⟩ := ((hc.ext E1).ext hE).nx.get (by omega)
              have q1 := hg1 j hlt
              obtain ⟨lq1, lq2⟩ := rs.out j hlt
              have HOV := Lib.hid (over_set (fun i => mapL ms (c.next.getD i 0)) c.next j hlt)
              have hol := over_length (fun i => mapL ms (c.next.getD i 0)) c.next j hj
              obtain ⟨ys, hys⟩ : ∃ ys, ys = over (fun i => mapL ms (c.next.getD i 0)) c.next j := ⟨_, rfl⟩
              rw [← hys] at hS HOV hol
              obtain ⟨lx, hlx⟩ : ∃ x, x = c.next.getD j 0 := ⟨_, rfl⟩
              have HOV2 : Hid (ys.set j (mapL ms lx) = over (fun i => mapL ms (c.next.getD i 0)) c.next (j + 1)) := Lib.hid (by rw [hlx]; exact HOV.out)
              rw [← hlx] at q1 lq1 lq2
              have hnr := hS.b.nx
              dsimp only at hnr
              rw [hol] at hnr
              obtain ⟨nb, hna, hnb1, hnb2⟩ := ownsRow_block hnr (by omega)
              subst hna
              obtain ⟨uu, zz⟩ : ∃ u, wr.cell? ⟨nb, j, none⟩ = some u := ⟨_, ownsRow_cell hnr (List.getElem?_eq_getElem (by rw [List.length_map, hol]; exact hlt))⟩
              have fz := ownsRow_frozen hnr j
              have hmr := hS.m
              rw [HML.out] at hmr
              have hmi : IntsAt wr ma ms := intsAt_of_row (ownsRow_at hmr)
              rw [hag] at b1
              have HAG := Lib.hid hag
              obtain ⟨mx, hmx⟩ : ∃ x, x = mapL ms lx := ⟨_, rfl⟩
              have HMX := Lib.hid hmx
              have HOL := Lib.hid hol
              clear hg1 hag hmx hlx hys HOV hol hnr hmr
              go_wp2_with fail
              (refine wp_regionT ((fun w' => (∀ b o, b < wr.heap.size → w'.cell? ⟨b, o, none⟩ = wr.cell? ⟨b, o, none⟩) ∧ Ext wr w')) 11 (by kernel_rfl) ?_; have hS0 := held_mk (Ext.drew wr))
              ((refine wpAnyT_take 0 (v := ?_) rfl (by kernel_rfl) (fun _ _ _ h => h) (Or.inl ⟨by kernel_rfl, ?_⟩) (by assumption) ?_; rotate_left; (intro wS hSw; (try dsimp only at hSw); go_simp; (try with_reducible rfl)); (try simp only [Act.put, List.setIfInBounds_toArray, List.set_cons_zero, List.set_cons_succ])); (refine wpAnyT_take 1 (v := ?_) rfl (by kernel_rfl) (fun _ _ _ h => h) (Or.inl ⟨by kernel_rfl, ?_⟩) (by assumption) ?_; rotate_left; (intro wS hSw; (try dsimp only at hSw); go_simp; (try with_reducible rfl)); (try simp only [Act.put, List.setIfInBounds_toArray, List.set_cons_zero, List.set_cons_succ])); (refine wpAnyT_take 2 (v := ?_) rfl (by kernel_rfl) (fun _ _ _ h => h) (Or.inl ⟨by kernel_rfl, ?_⟩) (by assumption) ?_; rotate_left; (intro wS hSw; (try dsimp only at hSw); go_simp; (try with_reducible rfl)); (try simp only [Act.put, List.setIfInBounds_toArray, List.set_cons_zero, List.set_cons_succ])); (refine wpAnyT_take 3 (v := ?_) rfl (by kernel_rfl) (fun _ _ _ h => h) (Or.inl ⟨by kernel_rfl, ?_⟩) (by assumption) ?_; rotate_left; (intro wS hSw; (try dsimp only at hSw); go_simp; (try with_reducible rfl)); (try simp only [Act.put, List.setIfInBounds_toArray, List.set_cons_zero, List.set_cons_succ])); (refine wpAnyT_take 4 (v := ?_) rfl (by kernel_rfl) (fun _ _ _ h => h) (Or.inl ⟨by kernel_rfl, ?_⟩) (by assumption) ?_; rotate_left; (intro wS hSw; (try dsimp only at hSw); go_simp; (try with_reducible rfl)); (try simp only [Act.put, List.setIfInBounds_toArray, List.set_cons_zero, List.set_cons_succ])); (refine wpAnyT_take 5 (v := ?_) rfl (by kernel_rfl) (fun _ _ _ h => h) (Or.inl ⟨by kernel_rfl, ?_⟩) (by assumption) ?_; rotate_left; (intro wS hSw; (try dsimp only at hSw); go_simp; (try with_reducible rfl)); (try simp only [Act.put, List.setIfInBounds_toArray, List.set_cons_zero, List.set_cons_succ])); (refine wpAnyT_take 6 (v := ?_) rfl (by kernel_rfl) (fun _ _ _ h => h) (Or.inl ⟨by kernel_rfl, ?_⟩) (by assumption) ?_; rotate_left; (intro wS hSw; (try dsimp only at hSw); go_simp; (try with_reducible rfl)); (try simp only [Act.put, List.setIfInBounds_toArray, List.set_cons_zero, List.set_cons_succ])); (refine wpAnyT_take 7 (v := ?_) rfl (by kernel_rfl) (fun _ _ _ h => h) (Or.inl ⟨by kernel_rfl, ?_⟩) (by assumption) ?_; rotate_left; (intro wS hSw; (try dsimp only at hSw); go_simp; (try with_reducible rfl)); (try simp only [Act.put, List.setIfInBounds_toArray, List.set_cons_zero, List.set_cons_succ])); (refine wpAnyT_take 8 (v := ?_) rfl (by kernel_rfl) (fun _ _ _ h => h) (Or.inl ⟨by kernel_rfl, ?_⟩) (by assumption) ?_; rotate_left; (intro wS hSw; (try dsimp only at hSw); go_simp; (try with_reducible rfl)); (try simp only [Act.put, List.setIfInBounds_toArray, List.set_cons_zero, List.set_cons_succ])))
              (refine wpAnyT_do 9 (by kernel_rfl) rfl (fun K hK => ?_))
              go_simp
              refine (l3Map_c ma mc (F + c.gates.length) ms HML.out lx _ (hmi.ext (Ext.drew _)) (by omega) (by omega) (by omega) OKM.out).mono ?_
              rw [← HMX.out]
              rintro e w7 ⟨rfl, rfl⟩
              (refine hK _ _ hS0 ?_; clear hK K; (try simp only [Act.put, List.setIfInBounds_toArray, List.set_cons_zero, List.set_cons_succ]))
              ((refine wpAnyT_take 10 (v := ?_) rfl (by kernel_rfl) (fun _ _ _ h => h) (Or.inl ⟨by kernel_rfl, ?_⟩) (by assumption) ?_; rotate_left; (intro wS hSw; (try dsimp only at hSw); go_simp; (try with_reducible rfl)); (try simp only [Act.put, List.setIfInBounds_toArray, List.set_cons_zero, List.set_cons_succ])))
              (refine wpAnyT_last 11 (by kernel_rfl) rfl (by decide) (by kernel_rfl) (fun K hK => ?_))
              go_simp
              (refine hK _ _ ?_; clear hK K; (try simp only [Act.put, List.setIfInBounds_toArray, List.set_cons_zero, List.set_cons_succ]))
              go_wp2
              go_roundw
              case rel =>
                refine ⟨j + 1, by omega, by go_num, ?_, (Ext.setNew (p := ⟨nb, j, none⟩) hE hnb1 _).drew'⟩
                rw [← HOV2.out, ← HMX.out]
                exact (hS.setNext j mx (by dsimp only; rw [HOL.out]; exact hlt) (by dsimp only; rw [HOL.out])).ext (Ext.drew _)
              case measure => simp [intOf]; omega
            · have hj2 : j = c.next.length := by omega
              subst hj2
              rw [over_all] at hS
              have hmap : (List.range c.next.length).map (fun i => mapL ms (c.next.getD i 0)) = c.next.map (mapL ms) := by
                apply List.ext_getElem
                · simp
                · intro i h1 h2; simp at h1; simp [List.getD_eq_getElem?_getD, List.getElem?_eq_getElem h1]
              rw [hmap] at hS
              clear hmap hlt hj
              go_wp2_with fail
              clear lb b0 b1 b2 b3 y3 x0 x1 x2 x3 xf
              obtain ⟨w7, rfl⟩ : ∃ x : World, x = wr := ⟨_, rfl⟩
              go_loopw [14] (fun v14 wr => ∃ (j : Nat) (ov : Value), j ≤ c.outs.length ∧ v14 = .int .i64 j ∧ BSt wr w1.heap.size cb ⟨c.inputs, c.next.map (mapL ms), gs, (c.outs.take j).map (mapL ms)⟩ (.slice na c.next.length nc) (.slice ga gs.length gc) ov (.slice ma (F + c.gates.length) mc) ms ∧ Ext w1 wr) (fun i _ => c.outs.length - (intOf i).toNat)
              case atStart => exact ⟨0, _, Nat.zero_le _, rfl, hS, hE⟩
              case round =>
                clear hS hE
                obtain ⟨j, ov, hj, rfl, hS, hE⟩ := hrel
                have y3 := y1.ext hE
                obtain ⟨lb, b0, b1, b2, b3⟩ := (id y3)
                have lE := hE.size
                have cbl := hS.b.lt
                obtain ⟨x0, x1, x2, x3, xf⟩ := hS.b.cells
                have hor := hS.b.os
                dsimp only at hor
                rw [List.length_map, List.length_take, Nat.min_eq_left hj] at hor
                obtain ⟨oa, oc, rfl, _⟩ := ownsRow_row hor
                by_cases hlt : j < c.outs.length
                · obtain ⟨b9, o9, hag, hb9, hg1⟩ := (hc.ext E1).ou.get (by omega)
                  have q1 := hg1 j hlt
                  obtain ⟨lq1, lq2⟩ := rt.out j hlt
                  have htk := take_snocG c.outs j 0 hlt
                  obtain ⟨lx, hlx⟩ : ∃ x, x = c.outs.getD j 0 := ⟨_, rfl⟩
                  rw [← hlx] at q1 lq1 lq2 htk
                  have HTK := Lib.hid htk
                  have hmr := hS.m
                  rw [HML.out] at hmr
                  have hmi : IntsAt wr ma ms := intsAt_of_row (ownsRow_at hmr)
                  have y5 := y1
                  obtain ⟨la, a0, a1, a2, a3⟩ := y5
                  rw [hag] at b3 a3
                  have HAG := Lib.hid hag
                  obtain ⟨mx, hmx⟩ : ∃ x, x = mapL ms lx := ⟨_, rfl⟩
                  have HMX := Lib.hid hmx
                  clear hg1 hag hmx hlx hmr htk
                  go_wp2_with fail
                  clear lb b0 b1 b2 b3
                  refine wp_regionT (fun w' => ((fun w' => (∀ b o, b < w1.heap.size → w'.cell? ⟨b, o, none⟩ = w1.cell? ⟨b, o, none⟩) ∧ Ext w1 w')) w' ∧ w'.cell? ⟨cb, 3, none⟩ = some (.slice oa j oc)) 12 (by kernel_rfl) ?_
                  have hS0 : ((fun w' => (∀ b o, b < w1.heap.size → w'.cell? ⟨b, o, none⟩ = w1.cell? ⟨b, o, none⟩) ∧ Ext w1 w')) wr.drew ∧ wr.drew.cell? ⟨cb, 3, none⟩ = some (.slice oa j oc) := ⟨held_mk (hE.drew'), x3⟩
                  dsimp only at hS0
                  ((refine wpAnyT_take 0 (v := ?_) rfl (by kernel_rfl) (fun _ _ _ h => h) (Or.inl ⟨by kernel_rfl, ?_⟩) (by assumption) ?_; rotate_left; (intro wS hSw; (try dsimp only at hSw); go_simp; (try with_reducible rfl)); (try simp only [Act.put, List.setIfInBounds_toArray, List.set_cons_zero, List.set_cons_succ])); (refine wpAnyT_take 1 (v := ?_) rfl (by kernel_rfl) (fun _ _ _ h => h) (Or.inl ⟨by kernel_rfl, ?_⟩) (by assumption) ?_; rotate_left; (intro wS hSw; (try dsimp only at hSw); go_simp; (try with_reducible rfl)); (try simp only [Act.put, List.setIfInBounds_toArray, List.set_cons_zero, List.set_cons_succ])); (refine wpAnyT_take 2 (v := ?_) rfl (by kernel_rfl) (fun _ _ _ h => h) (Or.inl ⟨by kernel_rfl, ?_⟩) (by assumption) ?_; rotate_left; (intro wS hSw; (try dsimp only at hSw); go_simp; (try with_reducible rfl)); (try simp only [Act.put, List.setIfInBounds_toArray, List.set_cons_zero, List.set_cons_succ])); (refine wpAnyT_take 3 (v := ?_) rfl (by kernel_rfl) (fun _ _ _ h => h) (Or.inl ⟨by kernel_rfl, ?_⟩) (by assumption) ?_; rotate_left; (intro wS hSw; (try dsimp only at hSw); go_simp; (try with_reducible rfl)); (try simp only [Act.put, List.setIfInBounds_toArray, List.set_cons_zero, List.set_cons_succ])); (refine wpAnyT_take 4 (v := ?_) rfl (by kernel_rfl) (fun _ _ _ h => h) (Or.inl ⟨by kernel_rfl, ?_⟩) (by assumption) ?_; rotate_left; (intro wS hSw; (try dsimp only at hSw); go_simp; (try with_reducible rfl)); (try simp only [Act.put, List.setIfInBounds_toArray, List.set_cons_zero, List.set_cons_succ])); (refine wpAnyT_take 5 (v := ?_) rfl (by kernel_rfl) (fun _ _ _ h => h) (Or.inl ⟨by kernel_rfl, ?_⟩) (by assumption) ?_; rotate_left; (intro wS hSw; (try dsimp only at hSw); go_simp; (try with_reducible rfl)); (try simp only [Act.put, List.setIfInBounds_toArray, List.set_cons_zero, List.set_cons_succ])); (refine wpAnyT_take 6 (v := ?_) rfl (by kernel_rfl) (fun _ _ _ h => h) (Or.inl ⟨by kernel_rfl, ?_⟩) (by assumption) ?_; rotate_left; (intro wS hSw; (try dsimp only at hSw); go_simp; (try with_reducible rfl)); (try simp only [Act.put, List.setIfInBounds_toArray, List.set_cons_zero, List.set_cons_succ])); (refine wpAnyT_take 7 (v := ?_) rfl (by kernel_rfl) (fun _ _ _ h => h) (Or.inl ⟨by kernel_rfl, ?_⟩) (by assumption) ?_; rotate_left; (intro wS hSw; (try dsimp only at hSw); go_simp; (try with_reducible rfl)); (try simp only [Act.put, List.setIfInBounds_toArray, List.set_cons_zero, List.set_cons_succ])))
                  (refine wpAnyT_do 8 (by kernel_rfl) rfl (fun K hK => ?_))
                  go_simp
                  refine (l3Map_c ma mc (F + c.gates.length) ms HML.out lx _ (hmi.ext (Ext.drew _)) (by omega) (by omega) (by omega) OKM.out).mono ?_
                  rw [← HMX.out]
                  rintro e w8 ⟨rfl, rfl⟩
                  (refine hK _ _ hS0 ?_; clear hK K; (try simp only [Act.put, List.setIfInBounds_toArray, List.set_cons_zero, List.set_cons_succ]))
                  (refine wpAnyT_do 9 (by kernel_rfl) rfl (fun K hK => ?_))
                  go_simp
                  have hS2 := hS.ext (((Ext.refl wr).alloc (.cells #[.int .i64 mx] 3)).drew')
                  have hS1 := And.intro (held_mk ((hE.alloc (.cells #[.int .i64 mx] 3)).drew')) hS2.b.cells.2.2.2.1
                  (refine hK _ _ hS1 ?_; clear hK K; (try simp only [Act.put, List.setIfInBounds_toArray, List.set_cons_zero, List.set_cons_succ]))
                  (refine wpAnyT_do 10 (by kernel_rfl) rfl (fun K hK => ?_))
                  refine step_app tyInts (ownsRow_ext hor (((Ext.refl wr).alloc (.cells #[.int .i64 mx] 3)).drew')) ((RowAt.new wr _ _).ext (Ext.drew _)) rfl (oneCell_int1 _) (by omega) (by first | omega | (simp; done) | (simp; omega)) rfl rfl rfl rfl ?_
                  intro v9 w9 p9 g9 m9
                  obtain ⟨a9, c9, rfl, _⟩ := ownsRow_row p9
                  have p9b : w9.ownsRow w1.heap.size 3 1 (.slice a9 (j + 1) c9) ((c.outs.take (j + 1)).map (mapL ms)).length (((c.outs.take (j + 1)).map (mapL ms)).map (Value.int .i64)) := by
                    have e : ((c.outs.take (j + 1)).map (mapL ms)).length = j + 1 := by rw [List.length_map, List.length_take]; omega
                    rw [e, HTK.out, List.map_append, List.map_append, List.map_cons, List.map_nil, ← HMX.out]
                    exact p9
                  have hS3 := hS2.addOuts g9 m9 p9b
                  obtain ⟨_, _, ⟨z3, hz3⟩, fz9⟩ := hS2.b.box g9 hS2.b.o1
                  have fz := fz9 3
                  have hE9 : Ext w1 w9 := ext_grown ((hE.alloc _).drew') g9 (by intro k hk; exact (hor.lt k hk).1)
                  have hw9 : w9.cell? ⟨cb, 3, none⟩ = some (.slice oa j oc) := by rw [World.cell?_of_block (a := ⟨cb, 3, none⟩) (g9.block cb hS2.b.lt (fun e => hS2.b.o1 e.symm))]; exact hS2.b.cells.2.2.2.1
                  have hS4 := And.intro (held_mk hE9) hw9
                  clear fz9 hw9
                  (refine hK _ _ hS4 ?_; clear hK K; (try simp only [Act.put, List.setIfInBounds_toArray, List.set_cons_zero, List.set_cons_succ]))
                  ((refine wpAnyT_take 11 (v := ?_) rfl (by kernel_rfl) (fun _ _ _ h => h) (Or.inl ⟨by kernel_rfl, ?_⟩) (by assumption) ?_; rotate_left; (intro wS hSw; (try dsimp only at hSw); go_simp; (try with_reducible rfl)); (try simp only [Act.put, List.setIfInBounds_toArray, List.set_cons_zero, List.set_cons_succ])))
                  (refine wpAnyT_last 12 (by kernel_rfl) rfl (by decide) (by kernel_rfl) (fun K hK => ?_))
                  go_simp
                  (refine hK _ _ ?_; clear hK K; (try simp only [Act.put, List.setIfInBounds_toArray, List.set_cons_zero, List.set_cons_succ]))
                  go_wp2
                  go_roundw
                  case rel => exact ⟨j + 1, _, by omega, by go_num, hS3, Ext.setNew (p := ⟨cb, 3, none⟩) hE9 hcb _⟩
                  case measure => simp [intOf]; omega
                · have hj2 : j = c.outs.length := by omega
                  subst hj2
                  rw [List.take_length] at hS
                  have hbv : buildV true c = ⟨c.inputs, c.next.map (mapL ms), gs, c.outs.map (mapL ms)⟩ := by unfold buildV; rw [HGM.out]
                  have HBV := Lib.hid hbv
                  have re := r1.ext hE
                  (have e0 := re.cell (i := 0) rfl; have e1 := re.cell (i := 1) rfl; have e2 := re.cell (i := 2) rfl; have e3 := re.cell (i := 3) rfl; have ef := (fun i => re.frozen i))
                  clear hbv re hlt
                  go_wp2
                  refine bodyPost_ret (v := .agg #[.int .i64 c.inputs, .slice na c.next.length nc, .slice ga gs.length gc, .slice oa c.outs.length oc]) (by simp [results, Try.results55, go_sem, e0, e1, e2, e3]) rfl ?_
                  rw [HBV.out]
                  exact ⟨_, _, _, rfl, (((((hS.own).set (by omega) 0 _).set (by omega) 1 _).set (by omega) 2 _).set (by omega) 3 _).le (by omega), Ext.setNew (p := ⟨w.heap.size + 1, 3, none⟩) (Ext.setNew (p := ⟨w.heap.size + 1, 2, none⟩) (Ext.setNew (p := ⟨w.heap.size + 1, 1, none⟩) (Ext.setNew (p := ⟨w.heap.size + 1, 0, none⟩) (E1.trans hE) (Nat.le_succ _) _) (Nat.le_succ _) _) (Nat.le_succ _) _) (Nat.le_succ _) _⟩
end Go.Proofs.Ytpfhlodlefcomaa