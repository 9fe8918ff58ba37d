/-
  The walk of the law HoldDrawn.
  Conditions: each theorem's own premises.
-/
import Derived.Test.YtbjdgaeikihjbaaDrau
import Derived.Test.YtbjdgaeikihjbaaNorm
import Derived.Test.YtbjdgaeikihjbaaSanf
import Derived.Test.YtbjdgaeikihjbaaTrut
import Derived.Deep.RegionHeld3
namespace Go.Proofs.Ytbjdgaeikihjbaa
set_option linter.unusedSimpArgs false
set_option linter.unusedVariables false
open Go.RowKit
set_option maxRecDepth 100000
set_option maxHeartbeats 20000000
attribute [local go_sem] Instr.field asAgg Soft.upon Soft.BW.cell_if Soft.BW.frozen_if Soft.cell_alloc_if Soft.frozen_alloc_if


theorem L2_HoldDrawn (r : Rw) (x0 x1 x2 x3 x4 : Int) (y : Tr) (w : World) (hr : r.At w) (hy : y.At w) :
    Calls Try.prog 9 #[.agg #[.int .i64 (r).id, .int .i64 (r).first, .slice (r).steps.p (r).steps.n (r).steps.c, .slice (r).vals.p (r).vals.n (r).vals.c], .agg #[.int .i64 x0, .int .i64 x1, .int .i64 x2, .int .i64 x3, .int .i64 x4], .agg #[.slice (y).c0.p (y).c0.n (y).c0.c, .slice (y).c1.p (y).c1.n (y).c1.c, .slice (y).c2.p (y).c2.n (y).c2.c, .int .i64 (y).place, .int .i64 (y).dense]] w fun e w' => e = .returned (.bool true) ∧ Below w.heap.size w w' := by
  have hy0 := hy.c0
  have tp3 := tdiv_i64 hy.place 3 (by omega)
  obtain ⟨yp1, yp2⟩ := hy.place
  obtain ⟨tp31, tp32⟩ := tp3
  go_enter Try.func9, Try.ntmps9
  go_wp2_with fail
  refine (R2_Hold r _ (((hr.alloc _).alloc _).alloc _)).mono ?_
  rintro e w1 ⟨h, rfl, hh, hm, hb1⟩
  obtain ⟨z1, rfl⟩ := Soft.BW.mk hb1
  clear hb1
  have hok := hm.ok
  have hF0 := fiS_in hok x0 x1 x2 x3 x4
  have HOK := Lib.hid hok
  have CFI : Hid (∀ W, h.At W → Calls Try.prog 16 #[.agg #[.int .i64 (h).id, .int .i64 ((h).along).lo, .int .i64 ((h).along).hi, .slice ((h).vol).p ((h).vol).n ((h).vol).c, .slice ((h).mom).p ((h).mom).n ((h).mom).c, .slice ((h).hei).p ((h).hei).n ((h).hei).c, .int .i64 ((h).tri).lo, .int .i64 ((h).tri).hi, .int .i64 ((h).unt).lo, .int .i64 ((h).unt).hi, .int .i64 ((h).v0).lo, .int .i64 ((h).v0).hi, .int .i64 ((h).h0).lo, .int .i64 ((h).h0).hi], .agg #[.int .i64 x0, .int .i64 x1, .int .i64 x2, .int .i64 x3, .int .i64 x4]] W fun e w' => e = .returned (.agg #[.int .i64 (fiS h x0 x1 x2 x3 x4).hold, .int .i64 (fiS h x0 x1 x2 x3 x4).state, .int .i64 ((fiS h x0 x1 x2 x3 x4).ull).lo, .int .i64 ((fiS h x0 x1 x2 x3 x4).ull).hi, .int .i64 ((fiS h x0 x1 x2 x3 x4).den).lo, .int .i64 ((fiS h x0 x1 x2 x3 x4).den).hi]) ∧ Below W.heap.size W w') := Lib.hid (fun W hW => R2_Fill h x0 x1 x2 x3 x4 W hW HOK.out)
  generalize fiS h x0 x1 x2 x3 x4 = f at *
  have hst := state_in hF0
  by_cases h3 : f.state = 3
  · obtain ⟨_, hpart, hden⟩ := fill_free hF0 (by omega)
    obtain ⟨p1, p2, p3⟩ := hpart
    have ht2 := hok.tabs.1
    have hend := ht2.ok.ends
    have hn : 1 ≤ h.vol.n := by rw [← hh.1.1]; exact ht2.ok.pos
    have hu := somS_in f.ull y.place p2
    have CU : Hid (∀ W, Calls Try.prog 19 #[.agg #[.int .i64 (f.ull).lo, .int .i64 (f.ull).hi], .int .i64 y.place] W fun e w' => e = .returned (.int .i64 (somS f.ull y.place)) ∧ Below W.heap.size W w') := Lib.hid (fun W => L2_somewhere _ _ W ⟨by omega, p2, by omega⟩)
    generalize somS f.ull y.place = u at *
    have hto := somS_in ⟨u, lastX h.vol.ps⟩ (y.place.tdiv 3) (by dsimp only; omega)
    have CT : Hid (∀ W, Calls Try.prog 19 #[.agg #[.int .i64 u, .int .i64 (lastX h.vol.ps)], .int .i64 (y.place.tdiv 3)] W fun e w' => e = .returned (.int .i64 (somS ⟨u, lastX h.vol.ps⟩ (y.place.tdiv 3))) ∧ Below W.heap.size W w') := Lib.hid (fun W => L2_somewhere ⟨u, lastX h.vol.ps⟩ (y.place.tdiv 3) W ⟨by dsimp only; omega, by dsimp only; omega, by dsimp only; omega⟩)
    dsimp only at hto
    generalize somS ⟨u, lastX h.vol.ps⟩ (y.place.tdiv 3) = to at *
    have hl0 := curS_in ht2.ok y.c0.xs
    have xu : firstX h.vol.ps ≤ u ∧ u ≤ lastX h.vol.ps := ⟨by omega, by omega⟩
    have xt : firstX h.vol.ps ≤ to ∧ to ≤ lastX h.vol.ps := ⟨by omega, by omega⟩
    have CVu := Lib.hid (fun W => R2_CurveAt h.vol y.c0 u W ht2 xu)
    have CVt := Lib.hid (fun W => R2_CurveAt h.vol y.c0 to W ht2 xt)
    have PP := Lib.hid (fun q (h2 : f.den.lo ≤ q ∧ q ≤ f.den.hi) (h3' : 0 ≤ valN h.vol.ps (curS h.vol.ps y.c0.xs h.vol.ps.length) u * valD h.vol.ps to - valN h.vol.ps (curS h.vol.ps y.c0.xs h.vol.ps.length) to * valD h.vol.ps u) => drawn_plain hm hF0 h3 hu hto hl0 h2 rfl h3')
    have va := val_bd hm.vol hm.xs.1 ht2 hl0 (x := u) xu.1 xu.2
    have vb := val_bd hm.vol hm.xs.1 ht2 hl0 (x := to) xt.1 xt.2
    have d3 : (f.state != 3) = false := by rw [h3]; rfl
    have hq := somS_in f.den y.dense hden.2.1
    have hv0 := hh.1
    have CS : Hid (∀ W, Calls Try.prog 24 #[.agg #[.int .i64 (f.den).lo, .int .i64 (f.den).hi], .int .i64 y.dense] W fun e w' => e = .returned (.int .i64 (somS f.den y.dense)) ∧ Below W.heap.size W w') := Lib.hid (fun W => L2_dense _ _ W ⟨by have := hden.1; omega, hden.2.1, by have := hden.2.2; omega⟩)
    clear hF0 hok hm hl0 hu hto hend p1 p2 p3 ht2 hst xu xt h3
    go_wp2_with (first | (go_at_call 16; (with_reducible refine (CFI.out _ (by with_reducible repeat (first | exact hh | refine Ho.At.alloc ?_ _ | refine Ho.At.bw ?_ _ | refine Tk.At.alloc ?_ _ | refine Tk.At.bw ?_ _))).mono ?_); rintro e w_ ⟨rfl, hb_⟩; obtain ⟨z2, rfl⟩ := Soft.BW.mk hb_; clear hb_) | (go_at_call 19; (with_reducible refine (CU.out _).mono ?_); rintro e w_ ⟨rfl, hb_⟩; obtain ⟨s1, rfl⟩ := Soft.BW.mk hb_; clear hb_))
    (refine Soft.region0 [0, 1, 2, 3, 4, 5, 6, 7, 8, 9] [] (by kernel_rfl) (by kernel_rfl) (by kernel_rfl) (by kernel_rfl) ?_; change Soft.wpSoft _ _ _ _ _ [_, _, _, _, _, _, _, _, _, _] _; (repeat (refine Soft.soft_step (fun K hK => ?_); go_simp; (try go_bits); first | (refine hK _ ?_; clear hK K) | (apply Exists.intro; refine ⟨fun x => ?_, hK _ ?_⟩; (first | (go_at_call 18; exact R2_Last h.vol _ (by repeat (first | exact hv0 | refine Tb.At.alloc ?_ _ | refine Tb.At.bw ?_ _)) hn) | (go_at_call 19; exact CT.out _)); clear hK K))); refine Soft.soft_nil ?_; intro xw; change wpList _ _ _ [] _ _)
    go_wp2_with (go_at_call 21; refine ((CVu.out _).1 (by repeat (first | exact hv0 | refine Tb.At.alloc ?_ _ | refine Tb.At.bw ?_ _)) (by with_reducible repeat (first | exact hy0 | refine Is.At.alloc ?_ _ | refine Is.At.bw ?_ _))).mono ?_; rintro e w_ ⟨cg, cn, cc, rfl, hcg, hcat, hb_⟩; obtain ⟨s2, rfl⟩ := Soft.BW.mk hb_; clear hb_ hcg)
    refine ((CVu.out _).2 _ _ _ (by repeat (first | exact hv0 | refine Tb.At.alloc ?_ _ | refine Tb.At.bw ?_ _)) (by with_reducible repeat (first | exact hcat | refine Is.At.alloc ?_ _ | refine Is.At.bw ?_ _))).mono ?_
    rintro e w_ ⟨rfl, hb_⟩
    obtain ⟨s3, rfl⟩ := Soft.BW.mk hb_
    clear hb_
    go_wp2_with fail
    refine ((CVt.out _).2 _ _ _ (by repeat (first | exact hv0 | refine Tb.At.alloc ?_ _ | refine Tb.At.bw ?_ _)) (by with_reducible repeat (first | exact hcat | refine Is.At.alloc ?_ _ | refine Is.At.bw ?_ _))).mono ?_
    rintro e w_ ⟨rfl, hb_⟩
    obtain ⟨s4, rfl⟩ := Soft.BW.mk hb_
    clear hb_ CVt CVu
    generalize valN h.vol.ps (curS h.vol.ps y.c0.xs h.vol.ps.length) u = A at *
    generalize valD h.vol.ps u = B at *
    generalize valN h.vol.ps (curS h.vol.ps y.c0.xs h.vol.ps.length) to = I at *
    generalize valD h.vol.ps to = J at *
    obtain ⟨A1, A2, B1, B2⟩ := va
    obtain ⟨I1, I2, J1, J2⟩ := vb
    have k1 : 0 ≤ I * B ∧ I * B ≤ 32000000 := ⟨Int.mul_nonneg I1 (by omega), by have := Int.mul_le_mul I2 B2 (by omega) (by omega); omega⟩
    have k2 : 0 ≤ A * J ∧ A * J ≤ 32000000 := ⟨Int.mul_nonneg A1 (by omega), by have := Int.mul_le_mul A2 J2 (by omega) (by omega); omega⟩
    obtain ⟨k11, k12⟩ := k1
    obtain ⟨k21, k22⟩ := k2
    by_cases hneg : A * J - I * B < 0
    · clear PP
      go_wp2_with ((go_at_call 23; (with_reducible refine (L2_sane _).mono ?_); rintro e w_ ⟨rfl, hb_⟩; obtain ⟨s5, rfl⟩ := Soft.BW.mk hb_; clear hb_))
      go_ret
      refine ⟨rfl, ?_⟩
      (repeat (first | with_reducible exact bel_refl _ | with_reducible refine bel_alloc ?_ _ | with_reducible refine bel_bw _ ?_ | with_reducible refine bel_drew ?_ | with_reducible refine bel_drewN _ ?_ | ((with_reducible refine bel_set ?_ ?_ _); rotate_left; focus (first | (simp; done) | omega | (simp; omega))) | refine bel_step ?_ (by with_reducible assumption)))
    · have hpos : 0 ≤ A * J - I * B := by omega
      obtain ⟨⟨n1, n2, n3, n4⟩, PO⟩ := PP.out _ hq hpos
      generalize somS f.den y.dense = q at *
      have CA : Hid (∀ W, Calls Try.prog 26 #[.int .i64 ((A * J - I * B) * q), .int .i64 (1000 * B * J)] W fun e w' => e = .returned (.agg #[.int .i64 ((aroS ((A * J - I * B) * q) (1000 * B * J))).lo, .int .i64 ((aroS ((A * J - I * B) * q) (1000 * B * J))).hi]) ∧ Below W.heap.size W w') := Lib.hid (fun W => L2_around _ _ W n1 n2 n3 n4)
      generalize aroS ((A * J - I * B) * q) (1000 * B * J) = m at *
      obtain ⟨g1, g2, g3, g4, g5⟩ := PO
      have CP : Hid (∀ W, h.At W → Calls Try.prog 49 #[.agg #[.int .i64 (h).id, .int .i64 ((h).along).lo, .int .i64 ((h).along).hi, .slice ((h).vol).p ((h).vol).n ((h).vol).c, .slice ((h).mom).p ((h).mom).n ((h).mom).c, .slice ((h).hei).p ((h).hei).n ((h).hei).c, .int .i64 ((h).tri).lo, .int .i64 ((h).tri).hi, .int .i64 ((h).unt).lo, .int .i64 ((h).unt).hi, .int .i64 ((h).v0).lo, .int .i64 ((h).v0).hi, .int .i64 ((h).h0).lo, .int .i64 ((h).h0).hi], .agg #[.int .i64 (f).hold, .int .i64 (f).state, .int .i64 ((f).ull).lo, .int .i64 ((f).ull).hi, .int .i64 ((f).den).lo, .int .i64 ((f).den).hi], .agg #[.int .i64 (m).lo, .int .i64 (m).hi]] W fun e w' => e = .returned (.tuple #[.agg #[.int .i64 (drawE h f m).1.hold, .int .i64 3, .int .i64 (drawE h f m).1.ull.lo, .int .i64 (drawE h f m).1.ull.hi, .int .i64 f.den.lo, .int .i64 f.den.hi], .int .i64 0]) ∧ Below W.heap.size W w') := Lib.hid (fun W hW => by have := hold_Draw h f m W hW; rwa [g1, g2, g5] at this)
      clear g1 g2 g5
      generalize drawE h f m = ge at *
      obtain ⟨⟨gh, gs, ⟨gl, gu⟩, gd⟩, ger⟩ := ge
      dsimp only at g3 g4 CP
      obtain ⟨q1_, q2_⟩ := hq
      clear PP
      have hnd : decide (A * J - I * B < 0) = false := decide_eq_false hneg
      go_wp2_with ((go_at_call 24; (with_reducible refine (CS.out _).mono ?_); rintro e w_ ⟨rfl, hb_⟩; obtain ⟨s6, rfl⟩ := Soft.BW.mk hb_; clear hb_))
      (refine Soft.region1e 13 15 [0, 1, 2, 3, 4, 5, 6, 7, 8, 9, 10, 11, 12, 13] 14 [15, 16] _ (by kernel_rfl) (by kernel_rfl) (by intro _ _ _ _ _ _ h; dsimp +zetaDelta only [Exit.then] at h ⊢; exact Soft.bodyPost_put h) (by kernel_rfl) (by kernel_rfl) (by decide) rfl rfl (by kernel_rfl) ?_; change Soft.wpSoft _ _ _ _ _ [_, _, _, _, _, _, _, _, _, _, _, _, _, _] _; (repeat (refine Soft.soft_step (fun K hK => ?_); go_simp; (try go_bits); first | (refine hK _ ?_; clear hK K) | (apply Exists.intro; refine ⟨fun x => ?_, hK _ ?_⟩; (first | (go_at_call 26; exact CA.out _) | (go_at_call 49; exact CP.out _ (by with_reducible repeat (first | exact hh | refine Ho.At.alloc ?_ _ | refine Ho.At.bw ?_ _ | refine Tk.At.alloc ?_ _ | refine Tk.At.bw ?_ _)))); clear hK K))); refine Soft.soft_nil ?_)
      refine ⟨fun b => .pointer (some ⟨b, 0, none⟩), .cells #[.int .i64 0, .int .i64 0, .int .i64 0, .int .i64 0, .int .i64 0, .int .i64 0] 38, fun x => by go_simp, fun kb xx hnew => ?_⟩
      change wpList _ _ _ [_, _] _ _
      obtain ⟨N, x', rfl, ex⟩ := newSplit hnew
      rw [ex]
      clear hnew ex xx
      refine wpList_store_row rfl 38 _ _ rfl N.w.heap.size _ rfl rfl 38 _ (HasBlk.below (Soft.heap_new N.w _) x'.below) (by kernel_rfl) rfl (by kernel_rfl) ?_
      obtain ⟨x2, ex2, ex3⟩ := bwStore x' #[.int .i64 gh, .int .i64 3, .int .i64 gl, .int .i64 gu, .int .i64 f.den.lo, .int .i64 f.den.hi]
      rw [ex2]
      clear ex2 ex3
      go_wp2_with ((go_at_call 23; (with_reducible refine (L2_sane _).mono ?_); rintro e w_ ⟨rfl, hb_⟩; obtain ⟨s9, rfl⟩ := Soft.BW.mk hb_; clear hb_))
      go_ret
      refine ⟨rfl, ?_⟩
      (repeat (first | with_reducible exact bel_refl _ | with_reducible refine bel_alloc ?_ _ | with_reducible refine bel_bw _ ?_ | with_reducible refine bel_drew ?_ | with_reducible refine bel_drewN _ ?_ | ((with_reducible refine bel_set ?_ ?_ _); rotate_left; focus (first | (simp; done) | omega | (simp; omega))) | refine bel_step ?_ (by with_reducible assumption)))
  · have d3 : (f.state != 3) = true := bne_iff_ne.2 h3
    clear hF0 hok hm h3 hst
    go_wp2_with (first | (go_at_call 16; (with_reducible refine (CFI.out _ (by with_reducible repeat (first | exact hh | refine Ho.At.alloc ?_ _ | refine Ho.At.bw ?_ _ | refine Tk.At.alloc ?_ _ | refine Tk.At.bw ?_ _))).mono ?_); rintro e w_ ⟨rfl, hb_⟩; obtain ⟨z2, rfl⟩ := Soft.BW.mk hb_; clear hb_) | (go_at_call 23; (with_reducible refine (L2_sane _).mono ?_); rintro e w_ ⟨rfl, hb_⟩; obtain ⟨s1, rfl⟩ := Soft.BW.mk hb_; clear hb_))
    go_ret
    refine ⟨rfl, ?_⟩
    (repeat (first | with_reducible exact bel_refl _ | with_reducible refine bel_alloc ?_ _ | with_reducible refine bel_bw _ ?_ | with_reducible refine bel_drew ?_ | with_reducible refine bel_drewN _ ?_ | ((with_reducible refine bel_set ?_ ?_ _); rotate_left; focus (first | (simp; done) | omega | (simp; omega))) | refine bel_step ?_ (by with_reducible assumption)))

end Go.Proofs.Ytbjdgaeikihjbaa
