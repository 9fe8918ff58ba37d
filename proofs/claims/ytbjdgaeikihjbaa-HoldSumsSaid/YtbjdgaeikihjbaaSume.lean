/-
  The walk of the law HoldSums: some numbers, more than four.
  Conditions: each theorem's own premises.
-/
import Derived.Test.YtbjdgaeikihjbaaSumv
namespace Go.Proofs.Ytbjdgaeikihjbaa
set_option linter.unusedSimpArgs false
set_option linter.unusedVariables false
open Go.RowKit
set_option maxRecDepth 100000
set_option maxHeartbeats 20000000
attribute [local go_sem] Instr.field asAgg Soft.upon Soft.BW.cell_if Soft.BW.frozen_if Soft.cell_alloc_if Soft.frozen_alloc_if
attribute [local irreducible] Soft.wpSoft

theorem holdSums_e (l : Sl Rw) (x : Sl Fv) (cut : Int) (w : World) (hl : RsAt w l) (hx : V5At w x) (hxn : x.n ≠ 0) (hln : 4 < l.n) :
    Calls Try.prog 14 #[.slice l.p l.n l.c, .slice x.p x.n x.c, .int .i64 cut] w fun e w' => e = .returned (.bool true) ∧ Below w.heap.size w w' := by
  have b1 : l.xs.length = l.n ∧ l.n ≤ l.c ∧ l.c ≤ 9223372036854775807 := ⟨hl.1, hl.2.1.1, hl.2.1.2.1⟩
  have b2 : x.xs.length = x.n ∧ x.n ≤ x.c ∧ x.c ≤ 9223372036854775807 := ⟨hx.1, hx.2.1, hx.2.2.1⟩
  obtain ⟨lp, ln, lc, lx⟩ := l
  obtain ⟨xp, xn, xc, xx⟩ := x
  obtain ⟨b11, b12, b13⟩ := b1
  obtain ⟨b21, b22, b23⟩ := b2
  dsimp only at *
  have HL := Lib.hid hl; have HX := Lib.hid hx
  clear hl hx b11 b21
  have ln63 : ln ≤ 9223372036854775807 := by omega
  have xn63 : xn ≤ 9223372036854775807 := by omega
  clear b12 b22
  go_enter Try.func14, Try.ntmps14
  go_wp2_with fail
  have rel0 : SumRel w (w.alloc (.cells #[.slice none 0 0, .slice none 0 0, .slice none 0 0, .slice none 0 0] 101)) (.slice none 0 0) (.slice none 0 0) (.slice none 0 0) (.slice none 0 0) [] [] [] [] := by
    refine ⟨Soft.heap_new _ _, ⟨fun i r hi => ?_, fun i j r s hi hj hne g e => ?_, fun t ht => (by cases ht)⟩, bel_alloc (bel_refl _) _⟩
    · match i, hi with
      | 0, hi => cases hi; exact World.ownsRow_nil _ _ _ _
      | 1, hi => cases hi; exact World.ownsRow_nil _ _ _ _
      | 2, hi => cases hi; exact World.ownsRow_nil _ _ _ _
      | 3, hi => cases hi; exact World.ownsRow_nil _ _ _ _
    · match i, hi with
      | 0, hi => cases hi; cases e
      | 1, hi => cases hi; cases e
      | 2, hi => cases hi; cases e
      | 3, hi => cases hi; cases e
  have good0 : Good [] [] [] [] := ⟨fun i hi => absurd hi (Nat.not_lt_zero _), fun i hi => absurd hi (Nat.not_lt_zero _), fun i hi => absurd hi (Nat.not_lt_zero _), fun i hi => absurd hi (Nat.not_lt_zero _)⟩
  go_loopw [8] (fun i wr => ∃ (k : Nat) (a b c d : Value) (H : List Ho) (F : List Fi) (T : List Tk) (L : List Lv), i = .int .i64 k ∧ k ≤ ln ∧ k ≤ 4 ∧ (H.length = k ∧ F.length = k ∧ T.length = k ∧ L.length = k) ∧ Good H F T L ∧ SumRel w wr a b c d H F T L ∧ (k = 0 → a = .slice none 0 0 ∧ b = .slice none 0 0)) (fun i _ => 4 - (intOf i).toNat)
  case atStart => exact ⟨0, _, _, _, _, _, _, _, _, rfl, by omega, by omega, ⟨rfl, rfl, rfl, rfl⟩, good0, rel0, fun _ => ⟨rfl, rfl⟩⟩
  case round =>
    obtain ⟨k, va, vb, vc, vd, H, F, T, L, rfl, hk, hk4, ⟨hH, hF, hT, hLl⟩, hgood, hrel, hnil⟩ := hrel
    clear rel0 good0
    have l0 := Soft.LtH.mk (b := w.heap.size) (w := wr) hrel.blk.lt
    by_cases hlt : k < ln ∧ k < 4
    · obtain ⟨hlt1, hlt2⟩ := hlt
      clear hnil
      have d1 : (k : Int) < ln := by omega
      have d2 : (k : Int) < 4 := by omega
      obtain ⟨lb, lo, rfl, lbl0, _⟩ := HL.out.cells (by dsimp only; omega)
      obtain ⟨lb1, lo1, e1, lbl, lcl⟩ := (HL.out.same hrel.bel).cells (by dsimp only; omega)
      cases e1
      have aR := (HL.out.same hrel.bel).2.2 k hlt1
      have HRW := Lib.hid (HL.out.2.2 k hlt1)
      obtain ⟨x0, x1, x2, x3⟩ := lcl k hlt1
      dsimp only at lbl aR x0 x1 x2 x3
      have l2 := Soft.LtH.mk (b := lb) (w := wr) lbl
      generalize rv lx k = r at *
      have HREL := Lib.hid hrel
      clear hrel lcl
      have d3 : (0 : Int) < xn := by omega
      have hrem : (k : Int).tmod (xn : Int) = ((k % xn : Nat) : Int) := by
        rw [Int.tmod_eq_emod_of_nonneg (by omega)]
        omega
      have hjlt : k % xn < xn := Nat.mod_lt _ (by omega)
      obtain ⟨xb, xo, rfl, xbl0, _⟩ := HX.out.cells hxn
      obtain ⟨xb1, xo1, e1, xbl, xcl⟩ := (HX.out.same HREL.out.bel).cells hxn
      cases e1
      obtain ⟨z0, z1, z2, z3, z4⟩ := xcl (k % xn) hjlt
      dsimp only at xbl z0 z1 z2 z3 z4
      generalize k % xn = jj at *
      generalize v5 xx jj = n5 at *
      have l3 := Soft.LtH.mk (b := xb) (w := wr) xbl
      have d4 : (jj : Int) < xn := by omega
      clear xcl
      go_wp2_with fail
      have aR5 : (⟨(k : Int), r.first, r.steps, r.vals⟩ : Rw).At ((wr.alloc (.cells #[.int .i64 k, .int .i64 r.first, .slice r.steps.p r.steps.n r.steps.c, .slice r.vals.p r.vals.n r.vals.c] 24)).alloc (.cells #[.int .i64 n5.a, .int .i64 n5.b, .int .i64 n5.c, .int .i64 n5.d, .int .i64 n5.e] 25)) :=
        ((show (⟨(k : Int), r.first, r.steps, r.vals⟩ : Rw).At wr from ⟨⟨by dsimp only; omega, by dsimp only; omega⟩, aR.first, aR.steps, aR.vals⟩).alloc _).alloc _
      have rel5 : SumRel w ((wr.alloc (.cells #[.int .i64 k, .int .i64 r.first, .slice r.steps.p r.steps.n r.steps.c, .slice r.vals.p r.vals.n r.vals.c] 24)).alloc (.cells #[.int .i64 n5.a, .int .i64 n5.b, .int .i64 n5.c, .int .i64 n5.d, .int .i64 n5.e] 25)) va vb vc vd H F T L := HREL.out.call (by (repeat (first | with_reducible exact bel_refl _ | with_reducible refine bel_alloc ?_ _ | with_reducible refine bel_bw _ ?_ | with_reducible refine bel_drew ?_ | with_reducible refine bel_drewN _ ?_ | ((with_reducible refine bel_set ?_ ?_ _); rotate_left; focus (first | (simp; done) | omega | (simp; omega))) | refine bel_step ?_ (by with_reducible assumption))))
      have fr1 := HREL.out.heap.free (W := (wr.alloc (.cells #[.int .i64 k, .int .i64 r.first, .slice r.steps.p r.steps.n r.steps.c, .slice r.vals.p r.vals.n r.vals.c] 24)).alloc (.cells #[.int .i64 n5.a, .int .i64 n5.b, .int .i64 n5.c, .int .i64 n5.d, .int .i64 n5.e] 25)) (b := wr.heap.size) (Nat.le_refl _) (HasBlk.below (Soft.heap_new wr _) (bel_alloc (bel_refl _) _))
      have fr2 := HREL.out.heap.free (W := (wr.alloc (.cells #[.int .i64 k, .int .i64 r.first, .slice r.steps.p r.steps.n r.steps.c, .slice r.vals.p r.vals.n r.vals.c] 24)).alloc (.cells #[.int .i64 n5.a, .int .i64 n5.b, .int .i64 n5.c, .int .i64 n5.d, .int .i64 n5.e] 25)) (b := wr.heap.size + 1) (by omega) (Soft.heap_new1 _ _ _)
      clear z0 z1 z2 z3 z4 l3 xbl hrem
      generalize ((wr.alloc (.cells #[.int .i64 k, .int .i64 r.first, .slice r.steps.p r.steps.n r.steps.c, .slice r.vals.p r.vals.n r.vals.c] 24)).alloc (.cells #[.int .i64 (n5.a), .int .i64 (n5.b), .int .i64 (n5.c), .int .i64 (n5.d), .int .i64 (n5.e)] 25)) = W5 at *
      have hwr : w.heap.size < wr.heap.size := HREL.out.blk.lt
      have HGOOD := Lib.hid hgood
      clear hgood
      clear lbl x0 x1 x2 x3 aR HREL l0 l2
      generalize wr.heap.size = RB at *
      have lr := Soft.LtH.mk (b := RB) (w := W5) (Array.getElem?_eq_some_iff.1 fr1.1).1
      have ls := Soft.LtH.mk (b := w.heap.size) (w := W5) rel5.blk.lt
      have c0 := HasBlk.cell fr1.1 0
      have c1 := HasBlk.cell fr1.1 1
      have c2 := HasBlk.cell fr1.1 2
      have c3 := HasBlk.cell fr1.1 3
      have s0 := rel5.blk.cell 0
      have f0 := rel5.blk.frozen 0
      simp at c0 c1 c2 c3 s0
      have m1 : ¬(w.heap.size = RB) := by omega
      have m2 : ¬(RB = w.heap.size) := by omega
      have REL5 := Lib.hid rel5; have FR1 := Lib.hid fr1; have FR2 := Lib.hid fr2; have AR5 := Lib.hid aR5
      clear rel5 fr1 fr2 aR5
      refine region_then (fun a a' W' => ∃ (u48 u49 u50 u51 u52 u53 u54 : Value) (q : Ho) (g c : Nat), a' = ((((((a.put (some 48) u48).put (some 49) u49).put (some 50) u50).put (some 51) u51).put (some 52) u52).put (some 53) u53).put (some 54) u54 ∧ HoldMade ⟨(k : Int), r.first, r.steps, r.vals⟩ q ∧
        SumRel w W' (.slice (some ⟨g, 0, none⟩) (k + 1) c) vb vc vd (H ++ [q]) F T L ∧ Free W' (rows4 (.slice (some ⟨g, 0, none⟩) (k + 1) c) vb vc vd (H ++ [q]) F T L) RB (.cells #[.int .i64 k, .int .i64 r.first, .slice r.steps.p r.steps.n r.steps.c, .slice r.vals.p r.vals.n r.vals.c] 24) ∧
        Free W' (rows4 (.slice (some ⟨g, 0, none⟩) (k + 1) c) vb vc vd (H ++ [q]) F T L) (RB + 1) (.cells #[.int .i64 (n5.a), .int .i64 (n5.b), .int .i64 (n5.c), .int .i64 (n5.d), .int .i64 (n5.e)] 25)) ?_ ?_
      · go_region_law (first | (go_simp; go_at_call 15; (with_reducible refine (R2_Hold_fresh ⟨(k : Int), r.first, r.steps, r.vals⟩ _ (AR5.out.below (by (repeat (first | with_reducible exact bel_refl _ | with_reducible refine bel_alloc ?_ _ | with_reducible refine bel_bw _ ?_ | with_reducible refine bel_drew ?_ | with_reducible refine bel_drewN _ ?_ | ((with_reducible refine bel_set ?_ ?_ _); rotate_left; focus (first | (simp; done) | omega | (simp; omega))) | refine bel_step ?_ (by with_reducible assumption)))))).mono ?_); rintro e w_ ⟨q, rfl, hqa, hqm, hb_, hqf⟩; obtain ⟨y1, rfl⟩ := Soft.BW.mk hb_; clear hb_) | ((refine step_app_row rt_hold rfl (.tmp 49) (.tmp 52) rfl (w.heap.size + 1) va H.length (H.flatMap hoC) rfl (REL5.out.call (show Below W5.heap.size W5 (y1.w.alloc (.cells #[.int .i64 (q).id, .int .i64 ((q).along).lo, .int .i64 ((q).along).hi, .slice ((q).vol).p ((q).vol).n ((q).vol).c, .slice ((q).mom).p ((q).mom).n ((q).mom).c, .slice ((q).hei).p ((q).hei).n ((q).hei).c, .int .i64 ((q).tri).lo, .int .i64 ((q).tri).hi, .int .i64 ((q).unt).lo, .int .i64 ((q).unt).hi, .int .i64 ((q).v0).lo, .int .i64 ((q).v0).hi, .int .i64 ((q).h0).lo, .int .i64 ((q).h0).hi] 35)) by (repeat (first | with_reducible exact bel_refl _ | with_reducible refine bel_alloc ?_ _ | with_reducible refine bel_bw _ ?_ | with_reducible refine bel_drew ?_ | with_reducible refine bel_drewN _ ?_ | ((with_reducible refine bel_set ?_ ?_ _); rotate_left; focus (first | (simp; done) | omega | (simp; omega))) | refine bel_step ?_ (by with_reducible assumption))))).own0 y1.w.heap.size (hoC q) rfl rfl (fun u hu => by simp [hoC] at hu; rcases hu with rfl | rfl | rfl | rfl | rfl | rfl | rfl | rfl | rfl | rfl | rfl | rfl | rfl | rfl <;> rfl) (fun jj uu huu => (HasBlk.cell (c := #[.int .i64 (q).id, .int .i64 ((q).along).lo, .int .i64 ((q).along).hi, .slice ((q).vol).p ((q).vol).n ((q).vol).c, .slice ((q).mom).p ((q).mom).n ((q).mom).c, .slice ((q).hei).p ((q).hei).n ((q).hei).c, .int .i64 ((q).tri).lo, .int .i64 ((q).tri).hi, .int .i64 ((q).unt).lo, .int .i64 ((q).unt).hi, .int .i64 ((q).v0).lo, .int .i64 ((q).v0).hi, .int .i64 ((q).h0).lo, .int .i64 ((q).h0).hi]) (t := 35) (Soft.heap_new y1.w _) jj).trans (by simpa [hoC] using huu)) (by omega) (by have := y1.below.size; have := REL5.out.blk.lt; simp at *; omega) ?_); intro g3 c3 w3 ho3 hb3 hg3 hl3 hg4 hg5 hc4 hc5; have R6 := Lib.hid (REL5.out.addH (q := q) (W := W5) (Y := y1.w.alloc (.cells #[.int .i64 (q).id, .int .i64 ((q).along).lo, .int .i64 ((q).along).hi, .slice ((q).vol).p ((q).vol).n ((q).vol).c, .slice ((q).mom).p ((q).mom).n ((q).mom).c, .slice ((q).hei).p ((q).hei).n ((q).hei).c, .int .i64 ((q).tri).lo, .int .i64 ((q).tri).hi, .int .i64 ((q).unt).lo, .int .i64 ((q).unt).hi, .int .i64 ((q).v0).lo, .int .i64 ((q).v0).hi, .int .i64 ((q).h0).lo, .int .i64 ((q).h0).hi] 35)) (w3 := w3) (by (repeat (first | with_reducible exact bel_refl _ | with_reducible refine bel_alloc ?_ _ | with_reducible refine bel_bw _ ?_ | with_reducible refine bel_drew ?_ | with_reducible refine bel_drewN _ ?_ | ((with_reducible refine bel_set ?_ ?_ _); rotate_left; focus (first | (simp; done) | omega | (simp; omega))) | refine bel_step ?_ (by with_reducible assumption)))) (hqa.alloc _) hqf ho3 hb3 hg3 hl3); have z1 := (FR1.out.same (show Below W5.heap.size W5 (y1.w.alloc (.cells #[.int .i64 (q).id, .int .i64 ((q).along).lo, .int .i64 ((q).along).hi, .slice ((q).vol).p ((q).vol).n ((q).vol).c, .slice ((q).mom).p ((q).mom).n ((q).mom).c, .slice ((q).hei).p ((q).hei).n ((q).hei).c, .int .i64 ((q).tri).lo, .int .i64 ((q).tri).hi, .int .i64 ((q).unt).lo, .int .i64 ((q).unt).hi, .int .i64 ((q).v0).lo, .int .i64 ((q).v0).hi, .int .i64 ((q).h0).lo, .int .i64 ((q).h0).hi] 35)) by (repeat (first | with_reducible exact bel_refl _ | with_reducible refine bel_alloc ?_ _ | with_reducible refine bel_bw _ ?_ | with_reducible refine bel_drew ?_ | with_reducible refine bel_drewN _ ?_ | ((with_reducible refine bel_set ?_ ?_ _); rotate_left; focus (first | (simp; done) | omega | (simp; omega))) | refine bel_step ?_ (by with_reducible assumption))))).addH (c := c3) q hg3 hl3; have z2 := (FR2.out.same (show Below W5.heap.size W5 (y1.w.alloc (.cells #[.int .i64 (q).id, .int .i64 ((q).along).lo, .int .i64 ((q).along).hi, .slice ((q).vol).p ((q).vol).n ((q).vol).c, .slice ((q).mom).p ((q).mom).n ((q).mom).c, .slice ((q).hei).p ((q).hei).n ((q).hei).c, .int .i64 ((q).tri).lo, .int .i64 ((q).tri).hi, .int .i64 ((q).unt).lo, .int .i64 ((q).unt).hi, .int .i64 ((q).v0).lo, .int .i64 ((q).v0).hi, .int .i64 ((q).h0).lo, .int .i64 ((q).h0).hi] 35)) by (repeat (first | with_reducible exact bel_refl _ | with_reducible refine bel_alloc ?_ _ | with_reducible refine bel_bw _ ?_ | with_reducible refine bel_drew ?_ | with_reducible refine bel_drewN _ ?_ | ((with_reducible refine bel_set ?_ ?_ _); rotate_left; focus (first | (simp; done) | omega | (simp; omega))) | refine bel_step ?_ (by with_reducible assumption))))).addH (c := c3) q hg3 hl3; have z3 := HasBlk.cell z1.1 0; have z4 := HasBlk.cell z1.1 1; have z5 := HasBlk.cell z1.1 2; have z6 := HasBlk.cell z1.1 3; have z7 := HasBlk.frozen ((hb3.block w.heap.size (by omega)).trans (REL5.out.blk.below (show Below W5.heap.size W5 (y1.w.alloc (.cells #[.int .i64 (q).id, .int .i64 ((q).along).lo, .int .i64 ((q).along).hi, .slice ((q).vol).p ((q).vol).n ((q).vol).c, .slice ((q).mom).p ((q).mom).n ((q).mom).c, .slice ((q).hei).p ((q).hei).n ((q).hei).c, .int .i64 ((q).tri).lo, .int .i64 ((q).tri).hi, .int .i64 ((q).unt).lo, .int .i64 ((q).unt).hi, .int .i64 ((q).v0).lo, .int .i64 ((q).v0).hi, .int .i64 ((q).h0).lo, .int .i64 ((q).h0).hi] 35)) by (repeat (first | with_reducible exact bel_refl _ | with_reducible refine bel_alloc ?_ _ | with_reducible refine bel_bw _ ?_ | with_reducible refine bel_drew ?_ | with_reducible refine bel_drewN _ ?_ | ((with_reducible refine bel_set ?_ ?_ _); rotate_left; focus (first | (simp; done) | omega | (simp; omega))) | refine bel_step ?_ (by with_reducible assumption)))))) 0; have z8 := HasBlk.cell ((hb3.block w.heap.size (by omega)).trans (REL5.out.blk.below (show Below W5.heap.size W5 (y1.w.alloc (.cells #[.int .i64 (q).id, .int .i64 ((q).along).lo, .int .i64 ((q).along).hi, .slice ((q).vol).p ((q).vol).n ((q).vol).c, .slice ((q).mom).p ((q).mom).n ((q).mom).c, .slice ((q).hei).p ((q).hei).n ((q).hei).c, .int .i64 ((q).tri).lo, .int .i64 ((q).tri).hi, .int .i64 ((q).unt).lo, .int .i64 ((q).unt).hi, .int .i64 ((q).v0).lo, .int .i64 ((q).v0).hi, .int .i64 ((q).h0).lo, .int .i64 ((q).h0).hi] 35)) by (repeat (first | with_reducible exact bel_refl _ | with_reducible refine bel_alloc ?_ _ | with_reducible refine bel_bw _ ?_ | with_reducible refine bel_drew ?_ | with_reducible refine bel_drewN _ ?_ | ((with_reducible refine bel_set ?_ ?_ _); rotate_left; focus (first | (simp; done) | omega | (simp; omega))) | refine bel_step ?_ (by with_reducible assumption)))))) 0; simp at z3 z4 z5 z6 z8))
        all_goals
          have h6 := R6.out
          rw [hH] at h6 z1 z2
          exact ⟨_, _, _, _, _, _, _, q, g3, c3, rfl, hqm, h6, z1.set (by dsimp only; omega) _, z2.set (by dsimp only; omega) _⟩
      · rintro a' W6 ⟨u48, u49, u50, u51, u52, u53, u54, q, g, cg, rfl, hqm, rel6, fr1, fr2⟩
        have hq6 := rel6.atH (q := q) (by simp)
        have lst := rel6.lastH hH
        have q0 := lst 0 _ rfl
        have q1 := lst 1 _ rfl
        have q2 := lst 2 _ rfl
        have q3 := lst 3 _ rfl
        have q4 := lst 4 _ rfl
        have q5 := lst 5 _ rfl
        have q6 := lst 6 _ rfl
        have q7 := lst 7 _ rfl
        have q8 := lst 8 _ rfl
        have q9 := lst 9 _ rfl
        have q10 := lst 10 _ rfl
        have q11 := lst 11 _ rfl
        have q12 := lst 12 _ rfl
        have q13 := lst 13 _ rfl
        have n0 := HasBlk.cell fr2.1 0
        have n1 := HasBlk.cell fr2.1 1
        have n2 := HasBlk.cell fr2.1 2
        have n3 := HasBlk.cell fr2.1 3
        have n4 := HasBlk.cell fr2.1 4
        have t0 := rel6.blk.cell 0
        have t1 := rel6.blk.cell 1
        have f1 := rel6.blk.frozen 1
        simp at n0 n1 n2 n3 n4 t0 t1 q0
        have lg := Soft.LtH.mk (b := g) (w := W6) (World.ownsRow.lt rel6.own0 g rfl).2
        have lbz := Soft.LtH.mk (b := w.heap.size) (w := W6) rel6.blk.lt
        have kk1 : (k : Int) < (k : Int) + 1 := by omega
        have ln_ := Soft.LtH.mk (b := RB + 1) (w := W6) (HasBlk.lt fr2.1)
        have REL6 := Lib.hid rel6; have GR1 := Lib.hid fr1; have GR2 := Lib.hid fr2
        have CF := Lib.hid (fun W hW => R2_Fill q (n5.a) (n5.b) (n5.c) (n5.d) (n5.e) W hW hqm.ok)
        clear rel6 fr1 fr2 lst c0 c1 c2 c3 s0 f0 lr ls REL5 FR1 FR2 AR5
        have HQM := Lib.hid hqm
        clear hqm
        generalize hfi : fiS q (n5.a) (n5.b) (n5.c) (n5.d) (n5.e) = f6 at *
        go_wp2_with fail
        (refine Soft.region1 [0, 1, 2, 3, 4, 5, 6, 7, 8] 9 [10, 11, 12] _ (by kernel_rfl) (by kernel_rfl) (by kernel_rfl) rfl rfl (by kernel_rfl) ?_; change Soft.wpSoft _ _ _ _ _ [_, _, _, _, _, _, _, _, _] _; (repeat (refine Soft.soft_step (fun K hK => ?_); go_simp; (try go_bits); first | (refine hK _ ?_; clear hK K) | (apply Exists.intro; refine ⟨fun x => ?_, hK _ ?_⟩; ((go_at_call 16; exact CF.out _ (by with_reducible repeat (first | exact hq6 | refine Ho.At.alloc ?_ _ | refine Ho.At.bw ?_ _ | refine Tk.At.alloc ?_ _ | refine Tk.At.bw ?_ _)))); clear hK K))); refine Soft.soft_nil ?_)
        refine ⟨fun b => .slice (some ⟨b, 0, none⟩) 1 1, .cells #[.int .i64 (f6).hold, .int .i64 (f6).state, .int .i64 ((f6).ull).lo, .int .i64 ((f6).ull).hi, .int .i64 ((f6).den).lo, .int .i64 ((f6).den).hi] 38, fun x => by go_simp, fun kb x7 hnew => ?_⟩
        change wpList _ _ _ [_, _, _] _ _
        go_wp2_with (at_builtin; go_loud (refine app_row rt_fill rfl (.tmp 56) (.tmp 64) rfl (w.heap.size + 1) vb F.length (F.flatMap fiC) rfl (REL6.out.call x7.below).own1 kb (fiC f6) rfl rfl (fun u hu => by simp [fiC] at hu; rcases hu with rfl | rfl | rfl | rfl | rfl | rfl <;> rfl) (fun jj uu huu => (hnew.cell jj).trans (by simpa [fiC] using huu)) (by omega) (by have := x7.below.size; have := REL6.out.blk.lt; omega) ?_); intro g3 c3 w3 ho3 hb3 hg3 hl3 hg4 hg5 hc4 hc5; have R7 := Lib.hid ((REL6.out.call x7.below).addF (q := f6) ho3 hb3 hg3 hl3); have z1 := Lib.hid ((GR1.out.same x7.below).addF (c := c3) f6 hg3 hl3); have z2 := Lib.hid ((GR2.out.same x7.below).addF (c := c3) f6 hg3 hl3); have z7 := HasBlk.frozen ((hb3.block w.heap.size (by omega)).trans (REL6.out.blk.below x7.below)) 1; have z8 := HasBlk.cell ((hb3.block w.heap.size (by omega)).trans (REL6.out.blk.below x7.below)) 1; simp at z7 z8)
        have h7 := R7.out
        have y1 := z1.out
        have y2 := z2.out
        rw [hF] at h7 y1 y2
        have rel7 := h7
        have fr1 := y1.set (p := ⟨w.heap.size, 1, none⟩) (by dsimp only; omega) (.slice (some ⟨g3, 0, none⟩) (k + 1) c3)
        have fr2 := y2.set (p := ⟨w.heap.size, 1, none⟩) (by dsimp only; omega) (.slice (some ⟨g3, 0, none⟩) (k + 1) c3)
        generalize w3.setCell ⟨w.heap.size, 1, none⟩ (.slice (some ⟨g3, 0, none⟩) (k + 1) c3) = W7 at *
        clear h7 y1 y2 R7 z1 z2 z7 z8 ho3 hb3 hg3 hl3 REL6 GR1 GR2 hnew x7 CF hq6 q0 q1 q2 q3 q4 q5 q6 q7 q8 q9 q10 q11 q12 q13 n0 n1 n2 n3 n4 t0 t1 f1 lg lbz ln_
        have lr := Soft.LtH.mk (b := RB) (w := W7) (HasBlk.lt fr1.1)
        have ls := Soft.LtH.mk (b := w.heap.size) (w := W7) rel7.blk.lt
        have c0 := HasBlk.cell fr1.1 0
        have c1 := HasBlk.cell fr1.1 1
        have c2 := HasBlk.cell fr1.1 2
        have cc3 := HasBlk.cell fr1.1 3
        have s2 := rel7.blk.cell 2
        have f2 := rel7.blk.frozen 2
        simp at c0 c1 c2 cc3 s2
        have aR7 : (⟨(k : Int), r.first, r.steps, r.vals⟩ : Rw).At W7 := ⟨⟨by dsimp only; omega, by dsimp only; omega⟩, HRW.out.first, HRW.out.steps.below rel7.bel, HRW.out.vals.below rel7.bel⟩
        have REL7 := Lib.hid rel7; have FR1 := Lib.hid fr1; have FR2 := Lib.hid fr2; have AR7 := Lib.hid aR7
        clear rel7 fr1 fr2 aR7
        have hgE : ∀ x, Value.slice (some ⟨g3, 0, none⟩) (k + 1) x = Value.slice (some ⟨g3, 0, none⟩) (k + 1) x := fun _ => rfl
        clear hgE
        go_wp2_with fail
        refine region_then (fun a a' W' => ∃ (u67 u68 u69 u70 u71 u72 u73 : Value) (t : Tk) (gt ct : Nat), a' = ((((((a.put (some 67) u67).put (some 68) u68).put (some 69) u69).put (some 70) u70).put (some 71) u71).put (some 72) u72).put (some 73) u73 ∧ TankMade ⟨(k : Int), r.first, r.steps, r.vals⟩ t ∧
          SumRel w W' (.slice (some ⟨g, 0, none⟩) (k + 1) cg) (.slice (some ⟨g3, 0, none⟩) (k + 1) c3) (.slice (some ⟨gt, 0, none⟩) (k + 1) ct) vd (H ++ [q]) (F ++ [f6]) (T ++ [t]) L ∧
          Free W' (rows4 (.slice (some ⟨g, 0, none⟩) (k + 1) cg) (.slice (some ⟨g3, 0, none⟩) (k + 1) c3) (.slice (some ⟨gt, 0, none⟩) (k + 1) ct) vd (H ++ [q]) (F ++ [f6]) (T ++ [t]) L) (RB + 1) (.cells #[.int .i64 (n5.a), .int .i64 (n5.b), .int .i64 (n5.c), .int .i64 (n5.d), .int .i64 (n5.e)] 25)) ?_ ?_
        · go_region_law (first | (go_simp; go_at_call 36; (with_reducible refine (R2_Tank_fresh ⟨(k : Int), r.first, r.steps, r.vals⟩ _ (AR7.out.below (by (repeat (first | with_reducible exact bel_refl _ | with_reducible refine bel_alloc ?_ _ | with_reducible refine bel_bw _ ?_ | with_reducible refine bel_drew ?_ | with_reducible refine bel_drewN _ ?_ | ((with_reducible refine bel_set ?_ ?_ _); rotate_left; focus (first | (simp; done) | omega | (simp; omega))) | refine bel_step ?_ (by with_reducible assumption)))))).mono ?_); rintro e w_ ⟨t, rfl, hta, htm, hb_, htf⟩; obtain ⟨y1, rfl⟩ := Soft.BW.mk hb_; clear hb_) | ((refine step_app_row rt_tank rfl (.tmp 68) (.tmp 71) rfl (w.heap.size + 1) vc T.length (T.flatMap tkC) rfl (REL7.out.call (show Below W7.heap.size W7 (y1.w.alloc (.cells #[.int .i64 (t).id, .int .i64 ((t).along).lo, .int .i64 ((t).along).hi, .slice ((t).vol).p ((t).vol).n ((t).vol).c, .slice ((t).sur).p ((t).sur).n ((t).sur).c, .slice ((t).hei).p ((t).hei).n ((t).hei).c] 62)) by (repeat (first | with_reducible exact bel_refl _ | with_reducible refine bel_alloc ?_ _ | with_reducible refine bel_bw _ ?_ | with_reducible refine bel_drew ?_ | with_reducible refine bel_drewN _ ?_ | ((with_reducible refine bel_set ?_ ?_ _); rotate_left; focus (first | (simp; done) | omega | (simp; omega))) | refine bel_step ?_ (by with_reducible assumption))))).own2 y1.w.heap.size (tkC t) rfl rfl (fun u hu => by simp [tkC] at hu; rcases hu with rfl | rfl | rfl | rfl | rfl | rfl <;> rfl) (fun jj uu huu => (HasBlk.cell (c := #[.int .i64 (t).id, .int .i64 ((t).along).lo, .int .i64 ((t).along).hi, .slice ((t).vol).p ((t).vol).n ((t).vol).c, .slice ((t).sur).p ((t).sur).n ((t).sur).c, .slice ((t).hei).p ((t).hei).n ((t).hei).c]) (t := 62) (Soft.heap_new y1.w _) jj).trans (by simpa [tkC] using huu)) (by omega) (by have := y1.below.size; have := REL7.out.blk.lt; simp at *; omega) ?_); intro g4 c4 w3 ho3 hb3 hg3 hl3 hg4 hg5 hc4 hc5; have R8 := Lib.hid (REL7.out.addT (q := t) (W := W7) (Y := y1.w.alloc (.cells #[.int .i64 (t).id, .int .i64 ((t).along).lo, .int .i64 ((t).along).hi, .slice ((t).vol).p ((t).vol).n ((t).vol).c, .slice ((t).sur).p ((t).sur).n ((t).sur).c, .slice ((t).hei).p ((t).hei).n ((t).hei).c] 62)) (w3 := w3) (by (repeat (first | with_reducible exact bel_refl _ | with_reducible refine bel_alloc ?_ _ | with_reducible refine bel_bw _ ?_ | with_reducible refine bel_drew ?_ | with_reducible refine bel_drewN _ ?_ | ((with_reducible refine bel_set ?_ ?_ _); rotate_left; focus (first | (simp; done) | omega | (simp; omega))) | refine bel_step ?_ (by with_reducible assumption)))) (hta.alloc _) htf ho3 hb3 hg3 hl3); have z1 := (FR1.out.same (show Below W7.heap.size W7 (y1.w.alloc (.cells #[.int .i64 (t).id, .int .i64 ((t).along).lo, .int .i64 ((t).along).hi, .slice ((t).vol).p ((t).vol).n ((t).vol).c, .slice ((t).sur).p ((t).sur).n ((t).sur).c, .slice ((t).hei).p ((t).hei).n ((t).hei).c] 62)) by (repeat (first | with_reducible exact bel_refl _ | with_reducible refine bel_alloc ?_ _ | with_reducible refine bel_bw _ ?_ | with_reducible refine bel_drew ?_ | with_reducible refine bel_drewN _ ?_ | ((with_reducible refine bel_set ?_ ?_ _); rotate_left; focus (first | (simp; done) | omega | (simp; omega))) | refine bel_step ?_ (by with_reducible assumption))))).addT (c := c4) t hg3 hl3; have z2 := (FR2.out.same (show Below W7.heap.size W7 (y1.w.alloc (.cells #[.int .i64 (t).id, .int .i64 ((t).along).lo, .int .i64 ((t).along).hi, .slice ((t).vol).p ((t).vol).n ((t).vol).c, .slice ((t).sur).p ((t).sur).n ((t).sur).c, .slice ((t).hei).p ((t).hei).n ((t).hei).c] 62)) by (repeat (first | with_reducible exact bel_refl _ | with_reducible refine bel_alloc ?_ _ | with_reducible refine bel_bw _ ?_ | with_reducible refine bel_drew ?_ | with_reducible refine bel_drewN _ ?_ | ((with_reducible refine bel_set ?_ ?_ _); rotate_left; focus (first | (simp; done) | omega | (simp; omega))) | refine bel_step ?_ (by with_reducible assumption))))).addT (c := c4) t hg3 hl3; have z3 := HasBlk.cell z1.1 0; have z4 := HasBlk.cell z1.1 1; have z5 := HasBlk.cell z1.1 2; have z6 := HasBlk.cell z1.1 3; have z7 := HasBlk.frozen ((hb3.block w.heap.size (by omega)).trans (REL7.out.blk.below (show Below W7.heap.size W7 (y1.w.alloc (.cells #[.int .i64 (t).id, .int .i64 ((t).along).lo, .int .i64 ((t).along).hi, .slice ((t).vol).p ((t).vol).n ((t).vol).c, .slice ((t).sur).p ((t).sur).n ((t).sur).c, .slice ((t).hei).p ((t).hei).n ((t).hei).c] 62)) by (repeat (first | with_reducible exact bel_refl _ | with_reducible refine bel_alloc ?_ _ | with_reducible refine bel_bw _ ?_ | with_reducible refine bel_drew ?_ | with_reducible refine bel_drewN _ ?_ | ((with_reducible refine bel_set ?_ ?_ _); rotate_left; focus (first | (simp; done) | omega | (simp; omega))) | refine bel_step ?_ (by with_reducible assumption)))))) 2; have z8 := HasBlk.cell ((hb3.block w.heap.size (by omega)).trans (REL7.out.blk.below (show Below W7.heap.size W7 (y1.w.alloc (.cells #[.int .i64 (t).id, .int .i64 ((t).along).lo, .int .i64 ((t).along).hi, .slice ((t).vol).p ((t).vol).n ((t).vol).c, .slice ((t).sur).p ((t).sur).n ((t).sur).c, .slice ((t).hei).p ((t).hei).n ((t).hei).c] 62)) by (repeat (first | with_reducible exact bel_refl _ | with_reducible refine bel_alloc ?_ _ | with_reducible refine bel_bw _ ?_ | with_reducible refine bel_drew ?_ | with_reducible refine bel_drewN _ ?_ | ((with_reducible refine bel_set ?_ ?_ _); rotate_left; focus (first | (simp; done) | omega | (simp; omega))) | refine bel_step ?_ (by with_reducible assumption)))))) 2; simp at z3 z4 z5 z6 z7 z8))
          all_goals
            have h8 := R8.out
            rw [hT] at h8 z2
            exact ⟨_, _, _, _, _, _, _, t, g4, c4, rfl, htm, h8, z2.set (by dsimp only; omega) _⟩
        · rintro a' W8 ⟨u67, u68, u69, u70, u71, u72, u73, t, gt, ct, rfl, htm, rel8, fr2⟩
          have ht8 := rel8.atT (q := t) (by simp)
          have lst := rel8.lastT hT
          have q0 := lst 0 _ rfl
          have q1 := lst 1 _ rfl
          have q2 := lst 2 _ rfl
          have q3 := lst 3 _ rfl
          have q4 := lst 4 _ rfl
          have q5 := lst 5 _ rfl
          have n0 := HasBlk.cell fr2.1 0
          have n1 := HasBlk.cell fr2.1 1
          have n2 := HasBlk.cell fr2.1 2
          have n3 := HasBlk.cell fr2.1 3
          have n4 := HasBlk.cell fr2.1 4
          have t2 := rel8.blk.cell 2
          have t3 := rel8.blk.cell 3
          have f3 := rel8.blk.frozen 3
          simp at n0 n1 n2 n3 n4 t2 t3 q0
          have lg := Soft.LtH.mk (b := gt) (w := W8) (World.ownsRow.lt rel8.own2 gt rfl).2
          have lbz := Soft.LtH.mk (b := w.heap.size) (w := W8) rel8.blk.lt
          have ln_ := Soft.LtH.mk (b := RB + 1) (w := W8) (HasBlk.lt fr2.1)
          have REL8 := Lib.hid rel8
          have CL := Lib.hid (fun W hW => R2_Level t (n5.a) (n5.b) (n5.c) (n5.d) (n5.e) W hW htm.ok)
          clear rel8 fr2 lst c0 c1 c2 cc3 s2 f2 lr ls REL7 FR1 FR2 AR7
          have HTM := Lib.hid htm
          clear htm
          generalize hlv : lvS t (n5.a) (n5.b) (n5.c) (n5.d) (n5.e) = f8 at *
          go_wp2_with fail
          (refine Soft.region1 [0, 1, 2, 3, 4, 5, 6, 7, 8] 9 [10, 11, 12] _ (by kernel_rfl) (by kernel_rfl) (by kernel_rfl) rfl rfl (by kernel_rfl) ?_; change Soft.wpSoft _ _ _ _ _ [_, _, _, _, _, _, _, _, _] _; (repeat (refine Soft.soft_step (fun K hK => ?_); go_simp; (try go_bits); first | (refine hK _ ?_; clear hK K) | (apply Exists.intro; refine ⟨fun x => ?_, hK _ ?_⟩; ((go_at_call 56; exact CL.out _ (by with_reducible repeat (first | exact ht8 | refine Ho.At.alloc ?_ _ | refine Ho.At.bw ?_ _ | refine Tk.At.alloc ?_ _ | refine Tk.At.bw ?_ _)))); clear hK K))); refine Soft.soft_nil ?_)
          refine ⟨fun b => .slice (some ⟨b, 0, none⟩) 1 1, .cells #[.int .i64 (f8).tank, .bool (f8).pressed, .int .i64 ((f8).snd).lo, .int .i64 ((f8).snd).hi, .int .i64 ((f8).den).lo, .int .i64 ((f8).den).hi] 91, fun x => by go_simp, fun kb x7 hnew => ?_⟩
          change wpList _ _ _ [_, _, _] _ _
          go_wp2_with (at_builtin; go_loud (refine app_row rt_level rfl (.tmp 75) (.tmp 83) rfl (w.heap.size + 1) vd L.length (L.flatMap lvC) rfl (REL8.out.call x7.below).own3 kb (lvC f8) rfl rfl (fun u hu => by simp [lvC] at hu; rcases hu with rfl | rfl | rfl | rfl | rfl | rfl <;> rfl) (fun jj uu huu => (hnew.cell jj).trans (by simpa [lvC] using huu)) (by omega) (by have := x7.below.size; have := REL8.out.blk.lt; omega) ?_); intro g5 c5 w3 ho3 hb3 hg3 hl3 hg4 hg5 hc4 hc5; have R9 := Lib.hid ((REL8.out.call x7.below).addL (q := f8) ho3 hb3 hg3 hl3); have z7 := HasBlk.frozen ((hb3.block w.heap.size (by omega)).trans (REL8.out.blk.below x7.below)) 3; have z8 := HasBlk.cell ((hb3.block w.heap.size (by omega)).trans (REL8.out.blk.below x7.below)) 3; simp at z7 z8)
          have h9 := R9.out
          rw [hLl] at h9
          go_roundw
          case rel => exact ⟨k + 1, _, _, _, _, _, _, _, _, by simp, by omega, by omega, ⟨by simp [hH], by simp [hF], by simp [hT], by simp [hLl]⟩, HGOOD.out.snoc (by omega) (by omega) (by omega) ⟨HQM.out.ok, by have := HQM.out.id; dsimp only at this; rw [this, hH]; omega⟩ (by rw [← hfi]; exact fiS_in HQM.out.ok _ _ _ _ _) ⟨HTM.out.ok, by have := HTM.out.id; dsimp only at this; rw [this, hT]; omega⟩ (by rw [← hlv]; exact lvS_in HTM.out.ok _ _ _ _ _), h9, fun h => absurd h (by omega)⟩
          case measure => simp [intOf]; omega
    · have d1 : (k : Int) < ln := by omega
      have d2 : ¬((k : Int) < 4) := by omega
      have hk0 : ¬(k = 0) := by omega
      rename World => W1
      obtain ⟨sa, rfl, ea, la, ra⟩ := rowsAt_own hoC (fun _ => rfl) hrel.own0
      obtain ⟨sb, rfl, eb, lb, rb⟩ := rowsAt_own fiC (fun _ => rfl) hrel.own1
      obtain ⟨sc, rfl, ec, lc_, rc⟩ := rowsAt_own tkC (fun _ => rfl) hrel.own2
      obtain ⟨sd, rfl, ed, ld, rd⟩ := rowsAt_own lvC (fun _ => rfl) hrel.own3
      obtain ⟨pa, na, ca, xa⟩ := sa
      obtain ⟨pb, nb, cb, xb⟩ := sb
      obtain ⟨pc, nc, cc, xc_⟩ := sc
      obtain ⟨pd, nd, cd, xd⟩ := sd
      dsimp only at ea eb ec ed la lb lc_ ld ra rb rc rd
      subst ea eb ec ed
      obtain rfl : k = na := by omega
      obtain rfl : k = nb := by omega
      obtain rfl : k = nc := by omega
      obtain rfl : k = nd := by omega
      have aH : HsAt W1 ⟨pa, k, ca, xa⟩ := ⟨la, ra, fun i hi => hrel.atH (by
        dsimp only at hi ⊢
        rw [show hv xa i = xa[i]'(by omega) by show xa[i]?.getD default = _; rw [List.getElem?_eq_getElem (show i < xa.length by omega)]; rfl]
        exact List.getElem_mem _)⟩
      have aF : FsAt W1 ⟨pb, k, cb, xb⟩ := ⟨lb, rb⟩
      have aT : TsAt W1 ⟨pc, k, cc, xc_⟩ := ⟨lc_, rc, fun i hi => hrel.atT (by
        dsimp only at hi ⊢
        rw [show tv xc_ i = xc_[i]'(by omega) by show xc_[i]?.getD default = _; rw [List.getElem?_eq_getElem (show i < xc_.length by omega)]; rfl]
        exact List.getElem_mem _)⟩
      have aL : LsAt W1 ⟨pd, k, cd, xd⟩ := ⟨ld, rd⟩
      obtain ⟨ga, oa, rfl, gla, _⟩ := ra.2.2 hk0
      obtain ⟨gb, ob, rfl, glb, _⟩ := rb.2.2 hk0
      have hfine : Fine xa xb xc_ xd k := ⟨by omega, by omega, by omega, by omega, by omega, fun i hi => by
        obtain ⟨g1, g2⟩ := hgood.h i (by omega)
        exact ⟨g2, fillErr_ok g1 (hgood.f i (by omega))⟩, fun i hi => by
        obtain ⟨g1, g2⟩ := hgood.t i (by omega)
        exact ⟨g2, levelErr_yes g1 (hgood.l i (by omega))⟩⟩
      obtain ⟨m, hm⟩ : ∃ m : Nat, cut % ((k : Int) + 1) = (m : Int) := ⟨(cut % ((k : Int) + 1)).toNat, by have := Int.emod_nonneg cut (show (k : Int) + 1 ≠ 0 by omega); omega⟩
      have hmk : m ≤ k := by
        have := Int.emod_lt_of_pos cut (show 0 < (k : Int) + 1 by omega)
        omega
      have SUMS := Lib.hid (sums_plain hfine hmk)
      have C1 := Lib.hid (fun W (hb : Below W1.heap.size W1 W) => hold_Load ⟨some ⟨ga, oa, none⟩, k, ca, xa⟩ ⟨some ⟨gb, ob, none⟩, k, cb, xb⟩ ⟨pc, k, cc, xc_⟩ ⟨pd, k, cd, xd⟩ W (aH.same hb) (aF.same hb) (aT.same hb) (aL.same hb))
      have C2 := Lib.hid (fun W (hb : Below W1.heap.size W1 W) => hold_Load ⟨some ⟨ga, oa, none⟩, m, ca, xa.take m⟩ ⟨some ⟨gb, ob, none⟩, m, cb, xb.take m⟩ ⟨none, 0, 0, []⟩ ⟨none, 0, 0, []⟩ W ((aH.take hmk).same hb) ((aF.take hmk).same hb) ⟨rfl, ⟨Nat.le_refl _, by dsimp only; omega, fun h => absurd rfl h⟩, fun i hi => absurd hi (Nat.not_lt_zero _)⟩ ⟨rfl, Nat.le_refl _, by dsimp only; omega, fun h => absurd rfl h⟩)
      obtain ⟨pda, hpda⟩ : ∃ P, (if ca = m then some (⟨ga, oa, none⟩ : Addr) else some ⟨ga, oa + m * 14, none⟩) = P := ⟨_, rfl⟩
      obtain ⟨pdb, hpdb⟩ : ∃ P, (if cb = m then some (⟨gb, ob, none⟩ : Addr) else some ⟨gb, ob + m * 6, none⟩) = P := ⟨_, rfl⟩
      have aHd := aH.dropIf hmk
      have aFd := aF.dropIf hmk
      rw [hpda] at aHd
      rw [hpdb] at aFd
      have C3 := Lib.hid (fun W (hb : Below W1.heap.size W1 W) => hold_Load ⟨pda, k - m, ca - m, xa.drop m⟩ ⟨pdb, k - m, cb - m, xb.drop m⟩ ⟨none, 0, 0, []⟩ ⟨none, 0, 0, []⟩ W (aHd.same hb) (aFd.same hb) ⟨rfl, ⟨Nat.le_refl _, by dsimp only; omega, fun h => absurd rfl h⟩, fun i hi => absurd hi (Nat.not_lt_zero _)⟩ ⟨rfl, Nat.le_refl _, by dsimp only; omega, fun h => absurd rfl h⟩)
      have C4 := Lib.hid (fun W (hb : Below W1.heap.size W1 W) => hold_Load ⟨none, 0, 0, []⟩ ⟨none, 0, 0, []⟩ ⟨pc, k, cc, xc_⟩ ⟨pd, k, cd, xd⟩ W ⟨rfl, ⟨Nat.le_refl _, by dsimp only; omega, fun h => absurd rfl h⟩, fun i hi => absurd hi (Nat.not_lt_zero _)⟩ ⟨rfl, Nat.le_refl _, by dsimp only; omega, fun h => absurd rfl h⟩ (aT.same hb) (aL.same hb))
      have t0 := hrel.blk.cell 0
      have t1 := hrel.blk.cell 1
      have t2 := hrel.blk.cell 2
      have t3 := hrel.blk.cell 3
      simp at t0 t1 t2 t3
      have hka : k ≤ ca ∧ ca ≤ 9223372036854775807 := ⟨ra.1, ra.2.1⟩
      have hkb : k ≤ cb ∧ cb ≤ 9223372036854775807 := ⟨rb.1, rb.2.1⟩
      have hkc : k ≤ cc ∧ cc ≤ 9223372036854775807 := ⟨rc.1, rc.2.1⟩
      have hkd : k ≤ cd ∧ cd ≤ 9223372036854775807 := ⟨rd.1, rd.2.1⟩
      have HBEL := Lib.hid (show Below w.heap.size w W1 ∧ w.heap.size < W1.heap.size from ⟨hrel.bel, hrel.blk.lt⟩)
      have AH := Lib.hid aH; have AF := Lib.hid aF
      have CM := Lib.hid hm.symm
      clear hrel hgood hfine la lb lc_ ld ra rb rc rd aH aF aT aL aHd aFd hH hF hT hLl HL HX hm
      generalize loadE xa xb xc_ xd = E1 at *
      generalize loadE (xa.take m) (xb.take m) [] [] = E2 at *
      generalize loadE (xa.drop m) (xb.drop m) [] [] = E3 at *
      generalize loadE [] [] xc_ xd = E4 at *
      obtain ⟨er3, ws3, ⟨sl3, su3⟩, ⟨hl3, hu3⟩⟩ := E3
      obtain ⟨er1, ws1, ⟨sl1, su1⟩, ⟨hl1, hu1⟩⟩ := E1
      obtain ⟨er2, ws2, ⟨sl2, su2⟩, ⟨hl2, hu2⟩⟩ := E2
      obtain ⟨er4, ws4, ⟨sl4, su4⟩, ⟨hl4, hu4⟩⟩ := E4
      obtain ⟨ez1, ez2, ez3, ez4, ews, eshi, esur, ec0, ea0, esa, esb, el1, el2, el3⟩ := SUMS.out
      dsimp only at ez1 ez2 ez3 ez4 ews eshi esur ec0 ea0 esa esb el1 el2 el3
      clear SUMS
      injection eshi with eshi1 eshi2
      injection esur with esur1 esur2
      injection ec0 with ec01 ec02
      injection ea0 with ea01 ea02
      have EWS := Lib.hid ews
      clear ews
      have EC1 := Lib.hid ec01
      have EC2 := Lib.hid ec02
      clear ec01 ec02
      subst ez1 ez2 ez3 ez4 eshi1 eshi2 esur1 esur2 ea01 ea02
      obtain ⟨⟨b1, b2⟩, b3, b4⟩ := esa
      obtain ⟨⟨b5, b6⟩, b7, b8⟩ := esb
      dsimp only at b1 b2 b3 b4 b5 b6 b7 b8
      go_wp2_with (first | (go_at_call 37; (with_reducible refine (R2_Mod cut ((k : Int) + 1) (m : Int) _ (by omega) (by omega) CM.out).mono ?_); rintro e w_ ⟨rfl, hw_⟩; subst w_) | (go_at_call 60; (with_reducible refine (C1.out _ (by (repeat (first | with_reducible exact bel_refl _ | with_reducible refine bel_alloc ?_ _ | with_reducible refine bel_bw _ ?_ | with_reducible refine bel_drew ?_ | with_reducible refine bel_drewN _ ?_ | ((with_reducible refine bel_set ?_ ?_ _); rotate_left; focus (first | (simp; done) | omega | (simp; omega))) | refine bel_step ?_ (by with_reducible assumption))))).mono ?_); rintro e w_ ⟨p1, c1, rfl, hw1, hb_, hn1⟩; obtain ⟨y1, rfl⟩ := Soft.BW.mk hb_; clear hb_; dsimp only at hw1; have LA1 := Lib.hid (ldAt_new (L := ⟨ws1, ⟨sl1, su1⟩, ⟨hl2 + hl3, hu2 + hu3⟩⟩) (t := 104) hw1 hn1); clear hw1))
      have belW : Below W1.heap.size W1 (y1.w.alloc (.cells #[.slice p1 ws1.length c1, .int .i64 sl1, .int .i64 su1, .int .i64 (hl2 + hl3), .int .i64 (hu2 + hu3)] 104)) := by (repeat (first | with_reducible exact bel_refl _ | with_reducible refine bel_alloc ?_ _ | with_reducible refine bel_bw _ ?_ | with_reducible refine bel_drew ?_ | with_reducible refine bel_drewN _ ?_ | ((with_reducible refine bel_set ?_ ?_ _); rotate_left; focus (first | (simp; done) | omega | (simp; omega))) | refine bel_step ?_ (by with_reducible assumption)))
      have la1 := LA1.out
      (try dsimp only at la1)
      clear LA1
      generalize (y1.w.alloc (.cells #[.slice p1 ws1.length c1, .int .i64 sl1, .int .i64 su1, .int .i64 (hl2 + hl3), .int .i64 (hu2 + hu3)] 104)) = W2 at *
      generalize y1.w.heap.size = K1 at *
      have s0 := (belW.cell (p := ⟨w.heap.size, 0, none⟩) HBEL.out.2).trans t0
      have s1 := (belW.cell (p := ⟨w.heap.size, 1, none⟩) HBEL.out.2).trans t1
      have i1 : (m : Int) ≤ (ca : Int) := by omega
      have i2 : (m : Int) ≤ (cb : Int) := by omega
      have i3 : (m : Int) ≤ (k : Int) := by omega
      have lb2 := Soft.LtH.mk (b := w.heap.size) (w := W2) (by have := belW.size; have := HBEL.out.2; omega)
      have nn0 : w.heap.size < W2.heap.size := by have := belW.size; have := HBEL.out.2; omega
      have nn1 : ¬(W2.heap.size = w.heap.size) := by omega
      have nn2 : ¬(w.heap.size = W2.heap.size) := by omega
      have BELW := Lib.hid belW
      have LA1 := Lib.hid la1
      clear belW la1 y1
      refine region_then (fun a a' W' => ∃ (u105 u106 u107 u108 u109 u110 u111 u112 u113 u104 u114 u115 : Value) (p2 : Option Addr) (c2 K2 : Nat), a' = ((((((((((((((a.put (some 105) u105).put (some 106) u106).put (some 107) u107).put (some 108) u108).put (some 109) u109).put (some 110) u110).put (some 111) u111).put (some 112) u112).put (some 113) u113).put (some 104) u104).put (some 114) u114).put (some 115) u115).put (some 14) (.pointer (some ⟨K2, 0, none⟩))).put (some 15) (.int .i64 0)) ∧ LdAt W' K2 p2 c2 ⟨ws2, ⟨0, 0⟩, ⟨hl2, hu2⟩⟩ ∧ Below W2.heap.size W2 W') ?_ ?_
      · go_region_held3 (fun W => W.cell? ⟨w.heap.size, 0, none⟩ = some (.slice (some ⟨ga, oa, none⟩) k ca) ∧ W.cell? ⟨w.heap.size, 1, none⟩ = some (.slice (some ⟨gb, ob, none⟩) k cb)) (first | (go_simp; done) | go_keep) (first | (go_at_call 60; (with_reducible refine (C2.out _ (bel_step BELW.out (by (repeat (first | with_reducible exact bel_refl _ | with_reducible refine bel_alloc ?_ _ | with_reducible refine bel_bw _ ?_ | with_reducible refine bel_drew ?_ | with_reducible refine bel_drewN _ ?_ | ((with_reducible refine bel_set ?_ ?_ _); rotate_left; focus (first | (simp; done) | omega | (simp; omega))) | refine bel_step ?_ (by with_reducible assumption)))))).mono ?_); rintro e w_ ⟨p_, c_, rfl, hw_, hb_, hn_⟩; obtain ⟨y_, rfl⟩ := Soft.BW.mk hb_; clear hb_; dsimp only at hw_))
        all_goals first
          | exact ⟨_, _, _, _, _, _, _, _, _, _, _, _, p_, c_, _, rfl, ldAt_new (L := ⟨ws2, ⟨0, 0⟩, ⟨hl2, hu2⟩⟩) hw_ hn_, by (repeat (first | with_reducible exact bel_refl _ | with_reducible refine bel_alloc ?_ _ | with_reducible refine bel_bw _ ?_ | with_reducible refine bel_drew ?_ | with_reducible refine bel_drewN _ ?_ | ((with_reducible refine bel_set ?_ ?_ _); rotate_left; focus (first | (simp; done) | omega | (simp; omega))) | refine bel_step ?_ (by with_reducible assumption)))⟩
          | exact ⟨_, _, _, _, _, _, _, _, _, _, _, _, p_, c_, _, rfl, ldAt_put (L := ⟨ws2, ⟨0, 0⟩, ⟨hl2, hu2⟩⟩) (HasBlk.below (W := (W2.alloc (.cells #[.slice none 0 0, .int .i64 0, .int .i64 0, .int .i64 0, .int .i64 0] 104)).drew) (Soft.heap_new W2 _) y_.below) hw_ hn_, by (repeat (first | with_reducible exact bel_refl _ | with_reducible refine bel_alloc ?_ _ | with_reducible refine bel_bw _ ?_ | with_reducible refine bel_drew ?_ | with_reducible refine bel_drewN _ ?_ | ((with_reducible refine bel_set ?_ ?_ _); rotate_left; focus (first | (simp; done) | omega | (simp; omega))) | refine bel_step ?_ (by with_reducible assumption)))⟩
      · rintro a' W3 ⟨u105, u106, u107, u108, u109, u110, u111, u112, u113, u104, u114, u115, p2, c2, K2, rfl, la2, B_⟩
        have s0' := (B_.cell (p := ⟨w.heap.size, 0, none⟩) nn0).trans s0
        have s1' := (B_.cell (p := ⟨w.heap.size, 1, none⟩) nn0).trans s1
        have BEL' := Lib.hid (bel_step BELW.out B_)
        have LA1' := Lib.hid (LA1.out.same B_)
        have LA2 := Lib.hid la2
        have nn0' : w.heap.size < W3.heap.size := Nat.lt_of_lt_of_le nn0 B_.size
        clear s0 s1 BELW nn0 nn1 nn2 lb2 B_ la2 LA1
        have LA1 := LA1'
        clear LA1'
        have s0 := s0'
        have s1 := s1'
        have BELW := BEL'
        have nn0 := nn0'
        clear s0' s1' BEL' nn0'
        have nn1 : ¬(W3.heap.size = w.heap.size) := by omega
        have nn2 : ¬(w.heap.size = W3.heap.size) := by omega
        have lb2 := Soft.LtH.mk (b := w.heap.size) (w := W3) nn0
        go_wp2_with fail
        refine region_then (fun a a' W' => ∃ (u117 u118 u119 u120 u121 u122 u123 u124 u125 u116 u126 u127 : Value) (p3 : Option Addr) (c3 K3 : Nat), a' = ((((((((((((((a.put (some 117) u117).put (some 118) u118).put (some 119) u119).put (some 120) u120).put (some 121) u121).put (some 122) u122).put (some 123) u123).put (some 124) u124).put (some 125) u125).put (some 116) u116).put (some 126) u126).put (some 127) u127).put (some 16) (.pointer (some ⟨K3, 0, none⟩))).put (some 17) (.int .i64 0)) ∧ LdAt W' K3 p3 c3 ⟨ws3, ⟨sl3, su3⟩, ⟨hl3, hu3⟩⟩ ∧ Below W3.heap.size W3 W') ?_ ?_
        · go_region_held3 (fun W => W.cell? ⟨w.heap.size, 0, none⟩ = some (.slice (some ⟨ga, oa, none⟩) k ca) ∧ W.cell? ⟨w.heap.size, 1, none⟩ = some (.slice (some ⟨gb, ob, none⟩) k cb)) (first | (go_simp; done) | go_keep) (first | (go_at_call 60; (with_reducible refine (C3.out _ (bel_step BELW.out (by (repeat (first | with_reducible exact bel_refl _ | with_reducible refine bel_alloc ?_ _ | with_reducible refine bel_bw _ ?_ | with_reducible refine bel_drew ?_ | with_reducible refine bel_drewN _ ?_ | ((with_reducible refine bel_set ?_ ?_ _); rotate_left; focus (first | (simp; done) | omega | (simp; omega))) | refine bel_step ?_ (by with_reducible assumption)))))).mono ?_); rintro e w_ ⟨p_, c_, rfl, hw_, hb_, hn_⟩; obtain ⟨y_, rfl⟩ := Soft.BW.mk hb_; clear hb_; dsimp only at hw_))
          all_goals first
            | exact ⟨_, _, _, _, _, _, _, _, _, _, _, _, p_, c_, _, rfl, ldAt_new (L := ⟨ws3, ⟨sl3, su3⟩, ⟨hl3, hu3⟩⟩) hw_ hn_, by (repeat (first | with_reducible exact bel_refl _ | with_reducible refine bel_alloc ?_ _ | with_reducible refine bel_bw _ ?_ | with_reducible refine bel_drew ?_ | with_reducible refine bel_drewN _ ?_ | ((with_reducible refine bel_set ?_ ?_ _); rotate_left; focus (first | (simp; done) | omega | (simp; omega))) | refine bel_step ?_ (by with_reducible assumption)))⟩
            | exact ⟨_, _, _, _, _, _, _, _, _, _, _, _, p_, c_, _, rfl, ldAt_put (L := ⟨ws3, ⟨sl3, su3⟩, ⟨hl3, hu3⟩⟩) (HasBlk.below (W := (W3.alloc (.cells #[.slice none 0 0, .int .i64 0, .int .i64 0, .int .i64 0, .int .i64 0] 104)).drew) (Soft.heap_new W3 _) y_.below) hw_ hn_, by (repeat (first | with_reducible exact bel_refl _ | with_reducible refine bel_alloc ?_ _ | with_reducible refine bel_bw _ ?_ | with_reducible refine bel_drew ?_ | with_reducible refine bel_drewN _ ?_ | ((with_reducible refine bel_set ?_ ?_ _); rotate_left; focus (first | (simp; done) | omega | (simp; omega))) | refine bel_step ?_ (by with_reducible assumption)))⟩
        · rintro a' W4 ⟨u117, u118, u119, u120, u121, u122, u123, u124, u125, u116, u126, u127, p3, c3, K3, rfl, la3, B_⟩
          have s0' := (B_.cell (p := ⟨w.heap.size, 0, none⟩) nn0).trans s0
          have s1' := (B_.cell (p := ⟨w.heap.size, 1, none⟩) nn0).trans s1
          have BEL' := Lib.hid (bel_step BELW.out B_)
          have LA1' := Lib.hid (LA1.out.same B_)
          have LA2' := Lib.hid (LA2.out.same B_)
          have LA3 := Lib.hid la3
          have nn0' : w.heap.size < W4.heap.size := Nat.lt_of_lt_of_le nn0 B_.size
          clear s0 s1 BELW nn0 nn1 nn2 lb2 B_ la3 LA1 LA2
          have LA1 := LA1'
          clear LA1'
          have LA2 := LA2'
          clear LA2'
          have s0 := s0'
          have s1 := s1'
          have BELW := BEL'
          have nn0 := nn0'
          clear s0' s1' BEL' nn0'
          have nn1 : ¬(W4.heap.size = w.heap.size) := by omega
          have nn2 : ¬(w.heap.size = W4.heap.size) := by omega
          have lb2 := Soft.LtH.mk (b := w.heap.size) (w := W4) nn0
          have s2 := (BELW.out.cell (p := ⟨w.heap.size, 2, none⟩) HBEL.out.2).trans t2
          have s3 := (BELW.out.cell (p := ⟨w.heap.size, 3, none⟩) HBEL.out.2).trans t3
          clear C1 C2 C3
          go_wp2_with (first
            | (go_at_call 60; (with_reducible refine (C4.out _ (bel_step BELW.out (by (repeat (first | with_reducible exact bel_refl _ | with_reducible refine bel_alloc ?_ _ | with_reducible refine bel_bw _ ?_ | with_reducible refine bel_drew ?_ | with_reducible refine bel_drewN _ ?_ | ((with_reducible refine bel_set ?_ ?_ _); rotate_left; focus (first | (simp; done) | omega | (simp; omega))) | refine bel_step ?_ (by with_reducible assumption)))))).mono ?_); rintro e w_ ⟨p4, c4, rfl, hw4, hb_, hn4⟩; obtain ⟨y4, rfl⟩ := Soft.BW.mk hb_; clear hb_; dsimp only at hw4; have la4 := ldAt_new (L := ⟨ws4, ⟨sl1, su1⟩, ⟨hl4, hu4⟩⟩) (t := 104) hw4 hn4; dsimp only at la4; have bel5 : Below W4.heap.size W4 (y4.w.alloc (.cells #[.slice p4 ws4.length c4, .int .i64 sl1, .int .i64 su1, .int .i64 hl4, .int .i64 hu4] 104)) := (by (repeat (first | with_reducible exact bel_refl _ | with_reducible refine bel_alloc ?_ _ | with_reducible refine bel_bw _ ?_ | with_reducible refine bel_drew ?_ | with_reducible refine bel_drewN _ ?_ | ((with_reducible refine bel_set ?_ ?_ _); rotate_left; focus (first | (simp; done) | omega | (simp; omega))) | refine bel_step ?_ (by with_reducible assumption)))); have bel0 : Below w.heap.size w (y4.w.alloc (.cells #[.slice p4 ws4.length c4, .int .i64 sl1, .int .i64 su1, .int .i64 hl4, .int .i64 hu4] 104)) := bel_step (bel_step HBEL.out.1 BELW.out) bel5; obtain ⟨W5, e5⟩ : ∃ W, y4.w.alloc (.cells #[.slice p4 ws4.length c4, .int .i64 sl1, .int .i64 su1, .int .i64 hl4, .int .i64 hu4] 104) = W := ⟨_, rfl⟩; rw [e5] at la4 bel5 bel0; have Q1 := Lib.hid (LA1.out.same bel5); have Q2 := Lib.hid (LA2.out.same bel5); have Q3 := Lib.hid (LA3.out.same bel5); have Q4 := Lib.hid la4; have B0 := Lib.hid bel0; clear la4 bel5 bel0 hw4 hn4; have q20 := Q2.out.c0; have q2l := Soft.LtH.mk Q2.out.lt; dsimp only at q20)
            | (at_builtin; (refine app_many rfl (.tmp 150) (.tmp 152) rfl W5.heap.size (.slice none 0 0) [] rfl (World.ownsRow_nil _ _ _ _) p2 ws2.length c2 ws2 rfl Q2.out.ws Q2.out.pn (by simp; omega) (Nat.le_refl _) ?_); intro v6 w6 ho6 hb6; have q30 := (Q3.out.same hb6).c0; have q3l := Soft.LtH.mk (Q3.out.same hb6).lt; dsimp only at q30)
            | (at_builtin; (refine app_many rfl (.tmp 154) (.tmp 156) rfl W5.heap.size v6 ([] ++ ws2) rfl ho6 p3 ws3.length c3 ws3 rfl (Q3.out.same hb6).ws (Q3.out.same hb6).pn (by simp; omega) hb6.size ?_); intro v7 w7 ho7 hb7; have q40 := (Q4.out.same (hb6.trans hb7)).c0; have q4l := Soft.LtH.mk (Q4.out.same (hb6.trans hb7)).lt; dsimp only at q40)
            | (at_builtin; (refine app_many rfl (.tmp 158) (.tmp 160) rfl W5.heap.size v7 ([] ++ ws2 ++ ws3) rfl ho7 p4 ws4.length c4 ws4 rfl (Q4.out.same (hb6.trans hb7)).ws (Q4.out.same (hb6.trans hb7)).pn (by simp; omega) (hb6.trans hb7).size ?_); intro v8 w8 ho8 hb8; have B8 := Lib.hid (hb6.trans (hb7.trans hb8)); obtain ⟨p8, c8, ev8, hw8, _⟩ := ho8.at0; obtain ⟨n8, hn8⟩ : ∃ n, ([] ++ ws2 ++ ws3 ++ ws4).length = n := ⟨_, rfl⟩; rw [hn8] at ev8 hw8; subst ev8; have r10 := (Q1.out.same B8.out).c0; have r11 := (Q1.out.same B8.out).c1; have r12 := (Q1.out.same B8.out).c2; have r13 := (Q1.out.same B8.out).c3; have r14 := (Q1.out.same B8.out).c4; dsimp only at r10 r11 r12 r13 r14; have r1l := Soft.LtH.mk (Q1.out.same B8.out).lt; have r20 := (Q2.out.same B8.out).c0; have r21 := (Q2.out.same B8.out).c1; have r22 := (Q2.out.same B8.out).c2; have r23 := (Q2.out.same B8.out).c3; have r24 := (Q2.out.same B8.out).c4; dsimp only at r20 r21 r22 r23 r24; have r2l := Soft.LtH.mk (Q2.out.same B8.out).lt; have r30 := (Q3.out.same B8.out).c0; have r31 := (Q3.out.same B8.out).c1; have r32 := (Q3.out.same B8.out).c2; have r33 := (Q3.out.same B8.out).c3; have r34 := (Q3.out.same B8.out).c4; dsimp only at r30 r31 r32 r33 r34; have r3l := Soft.LtH.mk (Q3.out.same B8.out).lt; have r40 := (Q4.out.same B8.out).c0; have r41 := (Q4.out.same B8.out).c1; have r42 := (Q4.out.same B8.out).c2; have r43 := (Q4.out.same B8.out).c3; have r44 := (Q4.out.same B8.out).c4; dsimp only at r40 r41 r42 r43 r44; have r4l := Soft.LtH.mk (Q4.out.same B8.out).lt;  have HW8 := Lib.hid hw8; have g1 : (hl4 == 0) = true := (by rw [EC1.out]; rfl); have g2 : (hu4 == 0) = true := (by rw [EC2.out]; rfl); have g3 : decide (hl4 = 0) = true := (by rw [EC1.out]; rfl); have g4 : decide (hu4 = 0) = true := (by rw [EC2.out]; rfl); clear hw8 ho8 ho7 ho6)
            | (go_at_call 61; (with_reducible refine (R2_SameWeights ⟨p1, ws1.length, c1, ws1⟩ ⟨p8, n8, c8, [] ++ ws2 ++ ws3 ++ ws4⟩ _ (Q1.out.same B8.out).ws HW8.out (by rw [EWS.out]; simp)).mono ?_); rintro e w_ ⟨rfl, hb_⟩; obtain ⟨y9, rfl⟩ := Soft.BW.mk hb_; clear hb_)
            | (go_at_call 23; (with_reducible refine (L2_sane _).mono ?_); rintro e w_ ⟨rfl, hb_⟩; obtain ⟨y10, rfl⟩ := Soft.BW.mk hb_; clear hb_))
      
          go_ret
          refine ⟨rfl, ?_⟩
          exact bel_step (bel_step B0.out (B8.out)) (by (repeat (first | with_reducible exact bel_refl _ | with_reducible refine bel_alloc ?_ _ | with_reducible refine bel_bw _ ?_ | with_reducible refine bel_drew ?_ | with_reducible refine bel_drewN _ ?_ | ((with_reducible refine bel_set ?_ ?_ _); rotate_left; focus (first | (simp; done) | omega | (simp; omega))) | refine bel_step ?_ (by with_reducible assumption))))

end Go.Proofs.Ytbjdgaeikihjbaa
