/-
  The walk of the law HoldBounds.
  Conditions: each theorem's own premises.
-/
import Derived.Test.YtbjdgaeikihjbaaLbou
import Derived.Test.YtbjdgaeikihjbaaSanf
import Derived.Test.YtbjdgaeikihjbaaTrut
import Derived.Deep.RegionHeld3
namespace Go.Proofs.Ytbjdgaeikihjbaa
set_option linter.unusedSimpArgs false
set_option linter.unusedVariables false
open Go.RowKit
set_option maxRecDepth 100000
set_option maxHeartbeats 20000000
attribute [local go_sem] Instr.field asAgg Soft.upon Soft.BW.cell_if Soft.BW.frozen_if Soft.cell_alloc_if Soft.frozen_alloc_if




theorem within_true (r : Rg) (n d : Int) (W : World) (h : WithinS r n d) (hr : RgIn r 0 3000000000) (hd : 0 ≤ d ∧ d ≤ 100000) :
    Calls Try.prog 35 #[.agg #[.int .i64 (r).lo, .int .i64 (r).hi], .int .i64 n, .int .i64 d] W fun e w' => e = .returned (.bool true) ∧ Below W.heap.size W w' :=
  R2_Within r n d W true (decide_eq_true (show r.lo * d ≤ n ∧ n ≤ r.hi * d from h)).symm (small_mul hr.a (by have := hr.b; have := hr.c; omega) hd.1 hd.2) (small_mul (by have := hr.a; have := hr.b; omega) hr.c hd.1 hd.2)

theorem L2_HoldBounds (r : Rw) (x0 x1 x2 x3 x4 : Int) (y : Tr) (w : World) (hr : r.At w) (hy : y.At w) :
    Calls Try.prog 4 #[.agg #[.int .i64 (r).id, .int .i64 (r).first, .slice (r).steps.p (r).steps.n (r).steps.c, .slice (r).vals.p (r).vals.n (r).vals.c], .agg #[.int .i64 x0, .int .i64 x1, .int .i64 x2, .int .i64 x3, .int .i64 x4], .agg #[.slice (y).c0.p (y).c0.n (y).c0.c, .slice (y).c1.p (y).c1.n (y).c1.c, .slice (y).c2.p (y).c2.n (y).c2.c, .int .i64 (y).place, .int .i64 (y).dense]] w fun e w' => e = .returned (.bool true) ∧ Below w.heap.size w w' := by
  have hy0 := hy.c0
  have hy1 := hy.c1
  have hy2 := hy.c2
  go_enter Try.func4, Try.ntmps4
  go_wp2_with fail
  refine (R2_Hold r _ (((hr.alloc _).alloc _).alloc _)).mono ?_
  rintro e w1 ⟨h, rfl, hh, hm, hb1⟩
  obtain ⟨z1, rfl⟩ := Soft.BW.mk hb1
  clear hb1
  have hok := hm.ok
  have hF0 := fiS_in hok x0 x1 x2 x3 x4
  have HOK := Lib.hid hok
  have CFI : Hid (∀ W, h.At W → Calls Try.prog 16 #[.agg #[.int .i64 (h).id, .int .i64 ((h).along).lo, .int .i64 ((h).along).hi, .slice ((h).vol).p ((h).vol).n ((h).vol).c, .slice ((h).mom).p ((h).mom).n ((h).mom).c, .slice ((h).hei).p ((h).hei).n ((h).hei).c, .int .i64 ((h).tri).lo, .int .i64 ((h).tri).hi, .int .i64 ((h).unt).lo, .int .i64 ((h).unt).hi, .int .i64 ((h).v0).lo, .int .i64 ((h).v0).hi, .int .i64 ((h).h0).lo, .int .i64 ((h).h0).hi], .agg #[.int .i64 x0, .int .i64 x1, .int .i64 x2, .int .i64 x3, .int .i64 x4]] W fun e w' => e = .returned (.agg #[.int .i64 (fiS h x0 x1 x2 x3 x4).hold, .int .i64 (fiS h x0 x1 x2 x3 x4).state, .int .i64 ((fiS h x0 x1 x2 x3 x4).ull).lo, .int .i64 ((fiS h x0 x1 x2 x3 x4).ull).hi, .int .i64 ((fiS h x0 x1 x2 x3 x4).den).lo, .int .i64 ((fiS h x0 x1 x2 x3 x4).den).hi]) ∧ Below W.heap.size W w') := Lib.hid (fun W hW => R2_Fill h x0 x1 x2 x3 x4 W hW HOK.out)
  generalize fiS h x0 x1 x2 x3 x4 = f at *
  have hst := state_in hF0
  by_cases h3 : 3 ≤ f.state
  · obtain ⟨_, hpart, hden⟩ := fill_free hF0 h3
    have hu := somS_in f.ull y.place hpart.2.1
    have hq := somS_in f.den y.dense hden.2.1
    have hend := hok.tabs.1.ok.ends
    have CU : Hid (∀ W, Calls Try.prog 19 #[.agg #[.int .i64 (f.ull).lo, .int .i64 (f.ull).hi], .int .i64 y.place] W fun e w' => e = .returned (.int .i64 (somS f.ull y.place)) ∧ Below W.heap.size W w') := Lib.hid (fun W => L2_somewhere _ _ W ⟨by have := hpart.1; omega, hpart.2.1, by have := hpart.2.2; omega⟩)
    have CD : Hid (∀ W, Calls Try.prog 24 #[.agg #[.int .i64 (f.den).lo, .int .i64 (f.den).hi], .int .i64 y.dense] W fun e w' => e = .returned (.int .i64 (somS f.den y.dense)) ∧ Below W.heap.size W w') := Lib.hid (fun W => L2_dense _ _ W ⟨by have := hden.1; omega, hden.2.1, by have := hden.2.2; omega⟩)
    generalize somS f.ull y.place = u at *
    generalize somS f.den y.dense = q at *
    obtain ⟨t1, ⟨t2, s2⟩, ⟨t3, s3⟩⟩ := hok.tabs
    have hl0 := curS_in t1.ok y.c0.xs
    have hl1 := curS_in t2.ok y.c1.xs
    have hl2 := curS_in t3.ok y.c2.xs
    have BO := Lib.hid (fun m hmm => bounds_plain hm hF0 h3 hu hl0 hl1 hl2 hq (m := m) hmm)
    have x1_ : firstX h.vol.ps ≤ u ∧ u ≤ lastX h.vol.ps := ⟨by have := hpart.1; omega, by have := hpart.2.2; omega⟩
    have x2_ : firstX h.mom.ps ≤ u ∧ u ≤ lastX h.mom.ps := by rw [s2.1, s2.2]; exact x1_
    have x3_ : firstX h.hei.ps ≤ u ∧ u ≤ lastX h.hei.ps := by rw [s3.1, s3.2]; exact x1_
    have CV0 := Lib.hid (fun W => R2_CurveAt h.vol y.c0 u W t1 x1_)
    have CV1 := Lib.hid (fun W => R2_CurveAt h.mom y.c1 u W t2 x2_)
    have CV2 := Lib.hid (fun W => R2_CurveAt h.hei y.c2 u W t3 x3_)
    have H3 := Lib.hid h3
    have hf3 : Hid (true = decide (3 ≤ f.state ∧ f.state ≤ 5)) := Lib.hid (by rw [decide_eq_true]; exact ⟨h3, hst.2⟩)
    have hden2 : 0 ≤ q ∧ q ≤ 2000 := by obtain ⟨e1, e2, e3⟩ := hden; omega
    obtain ⟨hq1, hq2⟩ := hden2
    clear hF0 hok hm hl0 hl1 hl2 hq hu hend hpart hden t1 t2 t3 s2 s3 x1_ x2_ x3_ h3 hst
    have hv0 := hh.1
    have hv1 := hh.2.1
    have hv2 := hh.2.2
    by_cases h33 : f.state = 3
    · have d3 : (f.state != 3) = false := by rw [h33]; rfl
      have BO' := Lib.hid (BO.out (valN h.mom.ps (curS h.mom.ps y.c1.xs h.mom.ps.length) u) (if_pos h33).symm)
      clear BO h33
      go_wp2_with (first | (go_at_call 16; (with_reducible refine (CFI.out _ (by with_reducible repeat (first | exact hh | refine Ho.At.alloc ?_ _ | refine Ho.At.bw ?_ _ | refine Tk.At.alloc ?_ _ | refine Tk.At.bw ?_ _))).mono ?_); rintro e w_ ⟨rfl, hb_⟩; obtain ⟨z2, rfl⟩ := Soft.BW.mk hb_; clear hb_) | (go_at_call 28; (with_reducible refine (R2_Free f.state _ true hf3.out).mono ?_); rintro e w_ ⟨rfl, hw_⟩; subst w_) | (go_at_call 19; (with_reducible refine (CU.out _).mono ?_); rintro e w_ ⟨rfl, hb_⟩; obtain ⟨s1, rfl⟩ := Soft.BW.mk hb_; clear hb_) | (go_at_call 24; (with_reducible refine (CD.out _).mono ?_); rintro e w_ ⟨rfl, hb_⟩; obtain ⟨s2, rfl⟩ := Soft.BW.mk hb_; clear hb_))
      go_region_held3 (fun W => W.cell? ⟨z1.w.heap.size, 3, none⟩ = some (.slice h.vol.p h.vol.n h.vol.c) ∧ W.cell? ⟨w.heap.size + 1 + 1, 0, none⟩ = some (.slice y.c0.p y.c0.n y.c0.c))
      (first | (go_simp; done) | go_keep)
      (first | (go_at_call 21; refine (((CV0).out _).1 (by with_reducible repeat (first | exact hv0 | refine Tb.At.alloc ?_ _ | refine Tb.At.bw ?_ _ | refine Tb.At.drew ?_)) (by with_reducible repeat (first | exact hy0 | refine Is.At.alloc ?_ _ | refine Is.At.bw ?_ _ | refine Is.At.drew ?_))).mono ?_; rintro e w_ ⟨cg, cn, cc, rfl, hcg, hcat, hb_⟩; obtain ⟨s3, rfl⟩ := Soft.BW.mk hb_; clear hb_ hcg) | (go_at_call 22; refine (((CV0).out _).2 _ _ _ (by with_reducible repeat (first | exact hv0 | refine Tb.At.alloc ?_ _ | refine Tb.At.bw ?_ _ | refine Tb.At.drew ?_)) (by with_reducible repeat (first | exact hcat | refine Is.At.alloc ?_ _ | refine Is.At.bw ?_ _ | refine Is.At.drew ?_))).mono ?_; rintro e w_ ⟨rfl, hb_⟩; obtain ⟨s4, rfl⟩ := Soft.BW.mk hb_; clear hb_))
      go_wp2_with fail
      go_region_held3 (fun W => W.cell? ⟨z1.w.heap.size, 4, none⟩ = some (.slice h.mom.p h.mom.n h.mom.c) ∧ W.cell? ⟨w.heap.size + 1 + 1, 1, none⟩ = some (.slice y.c1.p y.c1.n y.c1.c))
      (first | (go_simp; done) | go_keep)
      (first | (go_at_call 21; refine (((CV1).out _).1 (by with_reducible repeat (first | exact hv1 | refine Tb.At.alloc ?_ _ | refine Tb.At.bw ?_ _ | refine Tb.At.drew ?_)) (by with_reducible repeat (first | exact hy1 | refine Is.At.alloc ?_ _ | refine Is.At.bw ?_ _ | refine Is.At.drew ?_))).mono ?_; rintro e w_ ⟨cg, cn, cc, rfl, hcg, hcat, hb_⟩; obtain ⟨s5, rfl⟩ := Soft.BW.mk hb_; clear hb_ hcg) | (go_at_call 22; refine (((CV1).out _).2 _ _ _ (by with_reducible repeat (first | exact hv1 | refine Tb.At.alloc ?_ _ | refine Tb.At.bw ?_ _ | refine Tb.At.drew ?_)) (by with_reducible repeat (first | exact hcat | refine Is.At.alloc ?_ _ | refine Is.At.bw ?_ _ | refine Is.At.drew ?_))).mono ?_; rintro e w_ ⟨rfl, hb_⟩; obtain ⟨s6, rfl⟩ := Soft.BW.mk hb_; clear hb_))
      go_wp2_with fail
      go_region_held3 (fun W => W.cell? ⟨z1.w.heap.size, 5, none⟩ = some (.slice h.hei.p h.hei.n h.hei.c) ∧ W.cell? ⟨w.heap.size + 1 + 1, 2, none⟩ = some (.slice y.c2.p y.c2.n y.c2.c))
      (first | (go_simp; done) | go_keep)
      (first | (go_at_call 21; refine (((CV2).out _).1 (by with_reducible repeat (first | exact hv2 | refine Tb.At.alloc ?_ _ | refine Tb.At.bw ?_ _ | refine Tb.At.drew ?_)) (by with_reducible repeat (first | exact hy2 | refine Is.At.alloc ?_ _ | refine Is.At.bw ?_ _ | refine Is.At.drew ?_))).mono ?_; rintro e w_ ⟨cg, cn, cc, rfl, hcg, hcat, hb_⟩; obtain ⟨s7, rfl⟩ := Soft.BW.mk hb_; clear hb_ hcg) | (go_at_call 22; refine (((CV2).out _).2 _ _ _ (by with_reducible repeat (first | exact hv2 | refine Tb.At.alloc ?_ _ | refine Tb.At.bw ?_ _ | refine Tb.At.drew ?_)) (by with_reducible repeat (first | exact hcat | refine Is.At.alloc ?_ _ | refine Is.At.bw ?_ _ | refine Is.At.drew ?_))).mono ?_; rintro e w_ ⟨rfl, hb_⟩; obtain ⟨s8, rfl⟩ := Soft.BW.mk hb_; clear hb_))
      clear CV0 CV1 CV2 CU CD
      generalize valN h.vol.ps (curS h.vol.ps y.c0.xs h.vol.ps.length) u = v at *
      generalize valD h.vol.ps u = n at *
      generalize valN h.mom.ps (curS h.mom.ps y.c1.xs h.mom.ps.length) u = m0 at *
      generalize valD h.mom.ps u = o at *
      generalize valN h.hei.ps (curS h.hei.ps y.c2.xs h.hei.ps.length) u = z at *
      generalize valD h.hei.ps u = p at *
      obtain ⟨be, ba, bb, bc, bg, bi, bw, ra, rb, rc, rg_, ri, ⟨⟨v1, v2⟩, n1, n2⟩, ⟨⟨o1, o2⟩, o3, o4⟩, ⟨⟨p1, p2⟩, p3, p4⟩⟩ := BO'.out
      have CA : Hid (∀ W, h.At W → Calls Try.prog 29 #[.agg #[.int .i64 (h).id, .int .i64 ((h).along).lo, .int .i64 ((h).along).hi, .slice ((h).vol).p ((h).vol).n ((h).vol).c, .slice ((h).mom).p ((h).mom).n ((h).mom).c, .slice ((h).hei).p ((h).hei).n ((h).hei).c, .int .i64 ((h).tri).lo, .int .i64 ((h).tri).hi, .int .i64 ((h).unt).lo, .int .i64 ((h).unt).hi, .int .i64 ((h).v0).lo, .int .i64 ((h).v0).hi, .int .i64 ((h).h0).lo, .int .i64 ((h).h0).hi], .agg #[.int .i64 (f).hold, .int .i64 (f).state, .int .i64 ((f).ull).lo, .int .i64 ((f).ull).hi, .int .i64 ((f).den).lo, .int .i64 ((f).den).hi]] W fun e w' => e = .returned (.tuple #[.agg #[.int .i64 (volE h f).lo, .int .i64 (volE h f).hi], .int .i64 0]) ∧ Below W.heap.size W w') := Lib.hid (fun W hW => by have := hold_Volume h f W hW; rwa [be] at this)
      have CB : Hid (∀ W, h.At W → Calls Try.prog 30 #[.agg #[.int .i64 (h).id, .int .i64 ((h).along).lo, .int .i64 ((h).along).hi, .slice ((h).vol).p ((h).vol).n ((h).vol).c, .slice ((h).mom).p ((h).mom).n ((h).mom).c, .slice ((h).hei).p ((h).hei).n ((h).hei).c, .int .i64 ((h).tri).lo, .int .i64 ((h).tri).hi, .int .i64 ((h).unt).lo, .int .i64 ((h).unt).hi, .int .i64 ((h).v0).lo, .int .i64 ((h).v0).hi, .int .i64 ((h).h0).lo, .int .i64 ((h).h0).hi], .agg #[.int .i64 (f).hold, .int .i64 (f).state, .int .i64 ((f).ull).lo, .int .i64 ((f).ull).hi, .int .i64 ((f).den).lo, .int .i64 ((f).den).hi]] W fun e w' => e = .returned (.tuple #[.agg #[.int .i64 (massE h f).lo, .int .i64 (massE h f).hi], .int .i64 0]) ∧ Below W.heap.size W w') := Lib.hid (fun W hW => by have := hold_Mass h f W hW; rwa [be] at this)
      have CC : Hid (∀ W, h.At W → Calls Try.prog 31 #[.agg #[.int .i64 (h).id, .int .i64 ((h).along).lo, .int .i64 ((h).along).hi, .slice ((h).vol).p ((h).vol).n ((h).vol).c, .slice ((h).mom).p ((h).mom).n ((h).mom).c, .slice ((h).hei).p ((h).hei).n ((h).hei).c, .int .i64 ((h).tri).lo, .int .i64 ((h).tri).hi, .int .i64 ((h).unt).lo, .int .i64 ((h).unt).hi, .int .i64 ((h).v0).lo, .int .i64 ((h).v0).hi, .int .i64 ((h).h0).lo, .int .i64 ((h).h0).hi], .agg #[.int .i64 (f).hold, .int .i64 (f).state, .int .i64 ((f).ull).lo, .int .i64 ((f).ull).hi, .int .i64 ((f).den).lo, .int .i64 ((f).den).hi]] W fun e w' => e = .returned (.tuple #[.agg #[.int .i64 (momE h f).lo, .int .i64 (momE h f).hi], .int .i64 0]) ∧ Below W.heap.size W w') := Lib.hid (fun W hW => by have := hold_Moment h f W hW; rwa [be] at this)
      have CG : Hid (∀ W, h.At W → Calls Try.prog 32 #[.agg #[.int .i64 (h).id, .int .i64 ((h).along).lo, .int .i64 ((h).along).hi, .slice ((h).vol).p ((h).vol).n ((h).vol).c, .slice ((h).mom).p ((h).mom).n ((h).mom).c, .slice ((h).hei).p ((h).hei).n ((h).hei).c, .int .i64 ((h).tri).lo, .int .i64 ((h).tri).hi, .int .i64 ((h).unt).lo, .int .i64 ((h).unt).hi, .int .i64 ((h).v0).lo, .int .i64 ((h).v0).hi, .int .i64 ((h).h0).lo, .int .i64 ((h).h0).hi], .agg #[.int .i64 (f).hold, .int .i64 (f).state, .int .i64 ((f).ull).lo, .int .i64 ((f).ull).hi, .int .i64 ((f).den).lo, .int .i64 ((f).den).hi]] W fun e w' => e = .returned (.tuple #[.agg #[.int .i64 (heelE h f).lo, .int .i64 (heelE h f).hi], .int .i64 0]) ∧ Below W.heap.size W w') := Lib.hid (fun W hW => by have := hold_Heel h f W hW; rwa [be] at this)
      have CI : Hid (∀ W, h.At W → Calls Try.prog 33 #[.agg #[.int .i64 (h).id, .int .i64 ((h).along).lo, .int .i64 ((h).along).hi, .slice ((h).vol).p ((h).vol).n ((h).vol).c, .slice ((h).mom).p ((h).mom).n ((h).mom).c, .slice ((h).hei).p ((h).hei).n ((h).hei).c, .int .i64 ((h).tri).lo, .int .i64 ((h).tri).hi, .int .i64 ((h).unt).lo, .int .i64 ((h).unt).hi, .int .i64 ((h).v0).lo, .int .i64 ((h).v0).hi, .int .i64 ((h).h0).lo, .int .i64 ((h).h0).hi], .agg #[.int .i64 (f).hold, .int .i64 (f).state, .int .i64 ((f).ull).lo, .int .i64 ((f).ull).hi, .int .i64 ((f).den).lo, .int .i64 ((f).den).hi]] W fun e w' => e = .returned (.tuple #[.agg #[.int .i64 (heightE h f).lo, .int .i64 (heightE h f).hi], .int .i64 0]) ∧ Below W.heap.size W w') := Lib.hid (fun W hW => by have := hold_Height h f W hW; rwa [be] at this)
      have CW : Hid (∀ W, h.At W → Calls Try.prog 34 #[.agg #[.int .i64 (h).id, .int .i64 ((h).along).lo, .int .i64 ((h).along).hi, .slice ((h).vol).p ((h).vol).n ((h).vol).c, .slice ((h).mom).p ((h).mom).n ((h).mom).c, .slice ((h).hei).p ((h).hei).n ((h).hei).c, .int .i64 ((h).tri).lo, .int .i64 ((h).tri).hi, .int .i64 ((h).unt).lo, .int .i64 ((h).unt).hi, .int .i64 ((h).v0).lo, .int .i64 ((h).v0).hi, .int .i64 ((h).h0).lo, .int .i64 ((h).h0).hi], .agg #[.int .i64 (f).hold, .int .i64 (f).state, .int .i64 ((f).ull).lo, .int .i64 ((f).ull).hi, .int .i64 ((f).den).lo, .int .i64 ((f).den).hi]] W fun e w' => e = .returned (.tuple #[.agg #[.int .i64 (((⟨massE h f, h.along, heightE h f⟩ : Wt)).mass).lo, .int .i64 (((⟨massE h f, h.along, heightE h f⟩ : Wt)).mass).hi, .int .i64 (((⟨massE h f, h.along, heightE h f⟩ : Wt)).along).lo, .int .i64 (((⟨massE h f, h.along, heightE h f⟩ : Wt)).along).hi, .int .i64 (((⟨massE h f, h.along, heightE h f⟩ : Wt)).high).lo, .int .i64 (((⟨massE h f, h.along, heightE h f⟩ : Wt)).high).hi], .int .i64 0]) ∧ Below W.heap.size W w') := Lib.hid (fun W hW => by have := hold_Weight h f W hW; rwa [be, bw] at this)
      clear be bw
      generalize volE h f = A at *
      generalize massE h f = B at *
      generalize momE h f = C at *
      generalize heelE h f = G at *
      generalize heightE h f = I at *
      have g1 := Int.mul_nonneg v1 hq1
      have g2 : v * q ≤ 1600000000 := by have := Int.mul_le_mul v2 hq2 hq1 (by omega); omega
      have g3 := Int.mul_nonneg o1 hq1
      have g4 : m0 * q ≤ 1600000000 := by have := Int.mul_le_mul o2 hq2 hq1 (by omega); omega
      have WA := Lib.hid (fun W => within_true A v n W ba (ra.mono (by omega) (by omega)) (by omega))
      have WB := Lib.hid (fun W => within_true B (v * q) (1000 * n) W bb (rb.mono (by omega) (by omega)) (by omega))
      have WC := Lib.hid (fun W => within_true C m0 o W bc (rc.mono (by omega) (by omega)) (by omega))
      have WG := Lib.hid (fun W => within_true G (m0 * q) (1000 * o) W bg (rg_.mono (by omega) (by omega)) (by omega))
      have WI := Lib.hid (fun W => within_true I z p W bi (ri.mono (by omega) (by omega)) (by omega))
      clear BO' ba bb bc bg bi ra rb rc rg_ ri
      go_wp2_with (first | (go_at_call 29; (with_reducible refine (CA.out _ (by with_reducible repeat (first | exact hh | refine Ho.At.alloc ?_ _ | refine Ho.At.bw ?_ _ | refine Tk.At.alloc ?_ _ | refine Tk.At.bw ?_ _ | refine Ho.At.drew ?_ | refine Tk.At.drew ?_))).mono ?_); rintro e w_ ⟨rfl, hb_⟩; obtain ⟨a1, rfl⟩ := Soft.BW.mk hb_; clear hb_) | (go_at_call 30; (with_reducible refine (CB.out _ (by with_reducible repeat (first | exact hh | refine Ho.At.alloc ?_ _ | refine Ho.At.bw ?_ _ | refine Tk.At.alloc ?_ _ | refine Tk.At.bw ?_ _ | refine Ho.At.drew ?_ | refine Tk.At.drew ?_))).mono ?_); rintro e w_ ⟨rfl, hb_⟩; obtain ⟨a2, rfl⟩ := Soft.BW.mk hb_; clear hb_) | (go_at_call 31; (with_reducible refine (CC.out _ (by with_reducible repeat (first | exact hh | refine Ho.At.alloc ?_ _ | refine Ho.At.bw ?_ _ | refine Tk.At.alloc ?_ _ | refine Tk.At.bw ?_ _ | refine Ho.At.drew ?_ | refine Tk.At.drew ?_))).mono ?_); rintro e w_ ⟨rfl, hb_⟩; obtain ⟨a3, rfl⟩ := Soft.BW.mk hb_; clear hb_) | (go_at_call 32; (with_reducible refine (CG.out _ (by with_reducible repeat (first | exact hh | refine Ho.At.alloc ?_ _ | refine Ho.At.bw ?_ _ | refine Tk.At.alloc ?_ _ | refine Tk.At.bw ?_ _ | refine Ho.At.drew ?_ | refine Tk.At.drew ?_))).mono ?_); rintro e w_ ⟨rfl, hb_⟩; obtain ⟨a4, rfl⟩ := Soft.BW.mk hb_; clear hb_) | (go_at_call 33; (with_reducible refine (CI.out _ (by with_reducible repeat (first | exact hh | refine Ho.At.alloc ?_ _ | refine Ho.At.bw ?_ _ | refine Tk.At.alloc ?_ _ | refine Tk.At.bw ?_ _ | refine Ho.At.drew ?_ | refine Tk.At.drew ?_))).mono ?_); rintro e w_ ⟨rfl, hb_⟩; obtain ⟨a5, rfl⟩ := Soft.BW.mk hb_; clear hb_) | (go_at_call 34; (with_reducible refine (CW.out _ (by with_reducible repeat (first | exact hh | refine Ho.At.alloc ?_ _ | refine Ho.At.bw ?_ _ | refine Tk.At.alloc ?_ _ | refine Tk.At.bw ?_ _ | refine Ho.At.drew ?_ | refine Tk.At.drew ?_))).mono ?_); rintro e w_ ⟨rfl, hb_⟩; obtain ⟨a6, rfl⟩ := Soft.BW.mk hb_; clear hb_) | (go_at_call 35; (with_reducible refine (WA.out _).mono ?_); rintro e w_ ⟨rfl, hb_⟩; obtain ⟨b1, rfl⟩ := Soft.BW.mk hb_; clear hb_) | (go_at_call 35; (with_reducible refine (WB.out _).mono ?_); rintro e w_ ⟨rfl, hb_⟩; obtain ⟨b2, rfl⟩ := Soft.BW.mk hb_; clear hb_) | (go_at_call 35; (with_reducible refine (WC.out _).mono ?_); rintro e w_ ⟨rfl, hb_⟩; obtain ⟨b3, rfl⟩ := Soft.BW.mk hb_; clear hb_) | (go_at_call 35; (with_reducible refine (WG.out _).mono ?_); rintro e w_ ⟨rfl, hb_⟩; obtain ⟨b4, rfl⟩ := Soft.BW.mk hb_; clear hb_) | (go_at_call 35; (with_reducible refine (WI.out _).mono ?_); rintro e w_ ⟨rfl, hb_⟩; obtain ⟨b5, rfl⟩ := Soft.BW.mk hb_; clear hb_) | (go_at_call 23; (with_reducible refine (L2_sane _).mono ?_); rintro e w_ ⟨rfl, hb_⟩; obtain ⟨b6, rfl⟩ := Soft.BW.mk hb_; clear hb_))
      go_ret
      refine ⟨rfl, ?_⟩
      (repeat (first | with_reducible exact bel_refl _ | with_reducible refine bel_alloc ?_ _ | with_reducible refine bel_bw _ ?_ | with_reducible refine bel_drew ?_ | with_reducible refine bel_drewN _ ?_ | ((with_reducible refine bel_set ?_ ?_ _); rotate_left; focus (first | (simp; done) | omega | (simp; omega))) | refine bel_step ?_ (by with_reducible assumption)))
    · have d3 : (f.state != 3) = true := bne_iff_ne.2 h33
      have BO' := Lib.hid (BO.out 0 (if_neg h33).symm)
      clear BO h33
      go_wp2_with (first | (go_at_call 16; (with_reducible refine (CFI.out _ (by with_reducible repeat (first | exact hh | refine Ho.At.alloc ?_ _ | refine Ho.At.bw ?_ _ | refine Tk.At.alloc ?_ _ | refine Tk.At.bw ?_ _))).mono ?_); rintro e w_ ⟨rfl, hb_⟩; obtain ⟨z2, rfl⟩ := Soft.BW.mk hb_; clear hb_) | (go_at_call 28; (with_reducible refine (R2_Free f.state _ true hf3.out).mono ?_); rintro e w_ ⟨rfl, hw_⟩; subst w_) | (go_at_call 19; (with_reducible refine (CU.out _).mono ?_); rintro e w_ ⟨rfl, hb_⟩; obtain ⟨s1, rfl⟩ := Soft.BW.mk hb_; clear hb_) | (go_at_call 24; (with_reducible refine (CD.out _).mono ?_); rintro e w_ ⟨rfl, hb_⟩; obtain ⟨s2, rfl⟩ := Soft.BW.mk hb_; clear hb_))
      go_region_held3 (fun W => W.cell? ⟨z1.w.heap.size, 3, none⟩ = some (.slice h.vol.p h.vol.n h.vol.c) ∧ W.cell? ⟨w.heap.size + 1 + 1, 0, none⟩ = some (.slice y.c0.p y.c0.n y.c0.c))
      (first | (go_simp; done) | go_keep)
      (first | (go_at_call 21; refine (((CV0).out _).1 (by with_reducible repeat (first | exact hv0 | refine Tb.At.alloc ?_ _ | refine Tb.At.bw ?_ _ | refine Tb.At.drew ?_)) (by with_reducible repeat (first | exact hy0 | refine Is.At.alloc ?_ _ | refine Is.At.bw ?_ _ | refine Is.At.drew ?_))).mono ?_; rintro e w_ ⟨cg, cn, cc, rfl, hcg, hcat, hb_⟩; obtain ⟨s3, rfl⟩ := Soft.BW.mk hb_; clear hb_ hcg) | (go_at_call 22; refine (((CV0).out _).2 _ _ _ (by with_reducible repeat (first | exact hv0 | refine Tb.At.alloc ?_ _ | refine Tb.At.bw ?_ _ | refine Tb.At.drew ?_)) (by with_reducible repeat (first | exact hcat | refine Is.At.alloc ?_ _ | refine Is.At.bw ?_ _ | refine Is.At.drew ?_))).mono ?_; rintro e w_ ⟨rfl, hb_⟩; obtain ⟨s4, rfl⟩ := Soft.BW.mk hb_; clear hb_))
      go_wp2_with fail
      go_region_held3 (fun W => W.cell? ⟨z1.w.heap.size, 4, none⟩ = some (.slice h.mom.p h.mom.n h.mom.c) ∧ W.cell? ⟨w.heap.size + 1 + 1, 1, none⟩ = some (.slice y.c1.p y.c1.n y.c1.c))
      (first | (go_simp; done) | go_keep)
      (first | (go_at_call 21; refine (((CV1).out _).1 (by with_reducible repeat (first | exact hv1 | refine Tb.At.alloc ?_ _ | refine Tb.At.bw ?_ _ | refine Tb.At.drew ?_)) (by with_reducible repeat (first | exact hy1 | refine Is.At.alloc ?_ _ | refine Is.At.bw ?_ _ | refine Is.At.drew ?_))).mono ?_; rintro e w_ ⟨cg, cn, cc, rfl, hcg, hcat, hb_⟩; obtain ⟨s5, rfl⟩ := Soft.BW.mk hb_; clear hb_ hcg) | (go_at_call 22; refine (((CV1).out _).2 _ _ _ (by with_reducible repeat (first | exact hv1 | refine Tb.At.alloc ?_ _ | refine Tb.At.bw ?_ _ | refine Tb.At.drew ?_)) (by with_reducible repeat (first | exact hcat | refine Is.At.alloc ?_ _ | refine Is.At.bw ?_ _ | refine Is.At.drew ?_))).mono ?_; rintro e w_ ⟨rfl, hb_⟩; obtain ⟨s6, rfl⟩ := Soft.BW.mk hb_; clear hb_))
      go_wp2_with fail
      go_region_held3 (fun W => W.cell? ⟨z1.w.heap.size, 5, none⟩ = some (.slice h.hei.p h.hei.n h.hei.c) ∧ W.cell? ⟨w.heap.size + 1 + 1, 2, none⟩ = some (.slice y.c2.p y.c2.n y.c2.c))
      (first | (go_simp; done) | go_keep)
      (first | (go_at_call 21; refine (((CV2).out _).1 (by with_reducible repeat (first | exact hv2 | refine Tb.At.alloc ?_ _ | refine Tb.At.bw ?_ _ | refine Tb.At.drew ?_)) (by with_reducible repeat (first | exact hy2 | refine Is.At.alloc ?_ _ | refine Is.At.bw ?_ _ | refine Is.At.drew ?_))).mono ?_; rintro e w_ ⟨cg, cn, cc, rfl, hcg, hcat, hb_⟩; obtain ⟨s7, rfl⟩ := Soft.BW.mk hb_; clear hb_ hcg) | (go_at_call 22; refine (((CV2).out _).2 _ _ _ (by with_reducible repeat (first | exact hv2 | refine Tb.At.alloc ?_ _ | refine Tb.At.bw ?_ _ | refine Tb.At.drew ?_)) (by with_reducible repeat (first | exact hcat | refine Is.At.alloc ?_ _ | refine Is.At.bw ?_ _ | refine Is.At.drew ?_))).mono ?_; rintro e w_ ⟨rfl, hb_⟩; obtain ⟨s8, rfl⟩ := Soft.BW.mk hb_; clear hb_))
      clear CV0 CV1 CV2 CU CD
      generalize valN h.vol.ps (curS h.vol.ps y.c0.xs h.vol.ps.length) u = v at *
      generalize valD h.vol.ps u = n at *
      generalize valN h.mom.ps (curS h.mom.ps y.c1.xs h.mom.ps.length) u = m0 at *
      generalize valD h.mom.ps u = o at *
      generalize valN h.hei.ps (curS h.hei.ps y.c2.xs h.hei.ps.length) u = z at *
      generalize valD h.hei.ps u = p at *
      obtain ⟨be, ba, bb, bc, bg, bi, bw, ra, rb, rc, rg_, ri, ⟨⟨v1, v2⟩, n1, n2⟩, ⟨⟨o1, o2⟩, o3, o4⟩, ⟨⟨p1, p2⟩, p3, p4⟩⟩ := BO'.out
      have CA : Hid (∀ W, h.At W → Calls Try.prog 29 #[.agg #[.int .i64 (h).id, .int .i64 ((h).along).lo, .int .i64 ((h).along).hi, .slice ((h).vol).p ((h).vol).n ((h).vol).c, .slice ((h).mom).p ((h).mom).n ((h).mom).c, .slice ((h).hei).p ((h).hei).n ((h).hei).c, .int .i64 ((h).tri).lo, .int .i64 ((h).tri).hi, .int .i64 ((h).unt).lo, .int .i64 ((h).unt).hi, .int .i64 ((h).v0).lo, .int .i64 ((h).v0).hi, .int .i64 ((h).h0).lo, .int .i64 ((h).h0).hi], .agg #[.int .i64 (f).hold, .int .i64 (f).state, .int .i64 ((f).ull).lo, .int .i64 ((f).ull).hi, .int .i64 ((f).den).lo, .int .i64 ((f).den).hi]] W fun e w' => e = .returned (.tuple #[.agg #[.int .i64 (volE h f).lo, .int .i64 (volE h f).hi], .int .i64 0]) ∧ Below W.heap.size W w') := Lib.hid (fun W hW => by have := hold_Volume h f W hW; rwa [be] at this)
      have CB : Hid (∀ W, h.At W → Calls Try.prog 30 #[.agg #[.int .i64 (h).id, .int .i64 ((h).along).lo, .int .i64 ((h).along).hi, .slice ((h).vol).p ((h).vol).n ((h).vol).c, .slice ((h).mom).p ((h).mom).n ((h).mom).c, .slice ((h).hei).p ((h).hei).n ((h).hei).c, .int .i64 ((h).tri).lo, .int .i64 ((h).tri).hi, .int .i64 ((h).unt).lo, .int .i64 ((h).unt).hi, .int .i64 ((h).v0).lo, .int .i64 ((h).v0).hi, .int .i64 ((h).h0).lo, .int .i64 ((h).h0).hi], .agg #[.int .i64 (f).hold, .int .i64 (f).state, .int .i64 ((f).ull).lo, .int .i64 ((f).ull).hi, .int .i64 ((f).den).lo, .int .i64 ((f).den).hi]] W fun e w' => e = .returned (.tuple #[.agg #[.int .i64 (massE h f).lo, .int .i64 (massE h f).hi], .int .i64 0]) ∧ Below W.heap.size W w') := Lib.hid (fun W hW => by have := hold_Mass h f W hW; rwa [be] at this)
      have CC : Hid (∀ W, h.At W → Calls Try.prog 31 #[.agg #[.int .i64 (h).id, .int .i64 ((h).along).lo, .int .i64 ((h).along).hi, .slice ((h).vol).p ((h).vol).n ((h).vol).c, .slice ((h).mom).p ((h).mom).n ((h).mom).c, .slice ((h).hei).p ((h).hei).n ((h).hei).c, .int .i64 ((h).tri).lo, .int .i64 ((h).tri).hi, .int .i64 ((h).unt).lo, .int .i64 ((h).unt).hi, .int .i64 ((h).v0).lo, .int .i64 ((h).v0).hi, .int .i64 ((h).h0).lo, .int .i64 ((h).h0).hi], .agg #[.int .i64 (f).hold, .int .i64 (f).state, .int .i64 ((f).ull).lo, .int .i64 ((f).ull).hi, .int .i64 ((f).den).lo, .int .i64 ((f).den).hi]] W fun e w' => e = .returned (.tuple #[.agg #[.int .i64 (momE h f).lo, .int .i64 (momE h f).hi], .int .i64 0]) ∧ Below W.heap.size W w') := Lib.hid (fun W hW => by have := hold_Moment h f W hW; rwa [be] at this)
      have CG : Hid (∀ W, h.At W → Calls Try.prog 32 #[.agg #[.int .i64 (h).id, .int .i64 ((h).along).lo, .int .i64 ((h).along).hi, .slice ((h).vol).p ((h).vol).n ((h).vol).c, .slice ((h).mom).p ((h).mom).n ((h).mom).c, .slice ((h).hei).p ((h).hei).n ((h).hei).c, .int .i64 ((h).tri).lo, .int .i64 ((h).tri).hi, .int .i64 ((h).unt).lo, .int .i64 ((h).unt).hi, .int .i64 ((h).v0).lo, .int .i64 ((h).v0).hi, .int .i64 ((h).h0).lo, .int .i64 ((h).h0).hi], .agg #[.int .i64 (f).hold, .int .i64 (f).state, .int .i64 ((f).ull).lo, .int .i64 ((f).ull).hi, .int .i64 ((f).den).lo, .int .i64 ((f).den).hi]] W fun e w' => e = .returned (.tuple #[.agg #[.int .i64 (heelE h f).lo, .int .i64 (heelE h f).hi], .int .i64 0]) ∧ Below W.heap.size W w') := Lib.hid (fun W hW => by have := hold_Heel h f W hW; rwa [be] at this)
      have CI : Hid (∀ W, h.At W → Calls Try.prog 33 #[.agg #[.int .i64 (h).id, .int .i64 ((h).along).lo, .int .i64 ((h).along).hi, .slice ((h).vol).p ((h).vol).n ((h).vol).c, .slice ((h).mom).p ((h).mom).n ((h).mom).c, .slice ((h).hei).p ((h).hei).n ((h).hei).c, .int .i64 ((h).tri).lo, .int .i64 ((h).tri).hi, .int .i64 ((h).unt).lo, .int .i64 ((h).unt).hi, .int .i64 ((h).v0).lo, .int .i64 ((h).v0).hi, .int .i64 ((h).h0).lo, .int .i64 ((h).h0).hi], .agg #[.int .i64 (f).hold, .int .i64 (f).state, .int .i64 ((f).ull).lo, .int .i64 ((f).ull).hi, .int .i64 ((f).den).lo, .int .i64 ((f).den).hi]] W fun e w' => e = .returned (.tuple #[.agg #[.int .i64 (heightE h f).lo, .int .i64 (heightE h f).hi], .int .i64 0]) ∧ Below W.heap.size W w') := Lib.hid (fun W hW => by have := hold_Height h f W hW; rwa [be] at this)
      have CW : Hid (∀ W, h.At W → Calls Try.prog 34 #[.agg #[.int .i64 (h).id, .int .i64 ((h).along).lo, .int .i64 ((h).along).hi, .slice ((h).vol).p ((h).vol).n ((h).vol).c, .slice ((h).mom).p ((h).mom).n ((h).mom).c, .slice ((h).hei).p ((h).hei).n ((h).hei).c, .int .i64 ((h).tri).lo, .int .i64 ((h).tri).hi, .int .i64 ((h).unt).lo, .int .i64 ((h).unt).hi, .int .i64 ((h).v0).lo, .int .i64 ((h).v0).hi, .int .i64 ((h).h0).lo, .int .i64 ((h).h0).hi], .agg #[.int .i64 (f).hold, .int .i64 (f).state, .int .i64 ((f).ull).lo, .int .i64 ((f).ull).hi, .int .i64 ((f).den).lo, .int .i64 ((f).den).hi]] W fun e w' => e = .returned (.tuple #[.agg #[.int .i64 (((⟨massE h f, h.along, heightE h f⟩ : Wt)).mass).lo, .int .i64 (((⟨massE h f, h.along, heightE h f⟩ : Wt)).mass).hi, .int .i64 (((⟨massE h f, h.along, heightE h f⟩ : Wt)).along).lo, .int .i64 (((⟨massE h f, h.along, heightE h f⟩ : Wt)).along).hi, .int .i64 (((⟨massE h f, h.along, heightE h f⟩ : Wt)).high).lo, .int .i64 (((⟨massE h f, h.along, heightE h f⟩ : Wt)).high).hi], .int .i64 0]) ∧ Below W.heap.size W w') := Lib.hid (fun W hW => by have := hold_Weight h f W hW; rwa [be, bw] at this)
      clear be bw
      generalize volE h f = A at *
      generalize massE h f = B at *
      generalize momE h f = C at *
      generalize heelE h f = G at *
      generalize heightE h f = I at *
      have g1 := Int.mul_nonneg v1 hq1
      have g2 : v * q ≤ 1600000000 := by have := Int.mul_le_mul v2 hq2 hq1 (by omega); omega
      have g3 := Int.mul_nonneg o1 hq1
      have g4 : 0 * q ≤ 1600000000 := by have := Int.mul_le_mul o2 hq2 hq1 (by omega); omega
      have WA := Lib.hid (fun W => within_true A v n W ba (ra.mono (by omega) (by omega)) (by omega))
      have WB := Lib.hid (fun W => within_true B (v * q) (1000 * n) W bb (rb.mono (by omega) (by omega)) (by omega))
      have WC := Lib.hid (fun W => within_true C 0 o W bc (rc.mono (by omega) (by omega)) (by omega))
      have WG := Lib.hid (fun W => within_true G (0) (1000 * o) W (by rw [Int.zero_mul] at bg; exact bg) (rg_.mono (by omega) (by omega)) (by omega))
      have WI := Lib.hid (fun W => within_true I z p W bi (ri.mono (by omega) (by omega)) (by omega))
      clear BO' ba bb bc bg bi ra rb rc rg_ ri
      go_wp2_with (first | (go_at_call 29; (with_reducible refine (CA.out _ (by with_reducible repeat (first | exact hh | refine Ho.At.alloc ?_ _ | refine Ho.At.bw ?_ _ | refine Tk.At.alloc ?_ _ | refine Tk.At.bw ?_ _ | refine Ho.At.drew ?_ | refine Tk.At.drew ?_))).mono ?_); rintro e w_ ⟨rfl, hb_⟩; obtain ⟨a1, rfl⟩ := Soft.BW.mk hb_; clear hb_) | (go_at_call 30; (with_reducible refine (CB.out _ (by with_reducible repeat (first | exact hh | refine Ho.At.alloc ?_ _ | refine Ho.At.bw ?_ _ | refine Tk.At.alloc ?_ _ | refine Tk.At.bw ?_ _ | refine Ho.At.drew ?_ | refine Tk.At.drew ?_))).mono ?_); rintro e w_ ⟨rfl, hb_⟩; obtain ⟨a2, rfl⟩ := Soft.BW.mk hb_; clear hb_) | (go_at_call 31; (with_reducible refine (CC.out _ (by with_reducible repeat (first | exact hh | refine Ho.At.alloc ?_ _ | refine Ho.At.bw ?_ _ | refine Tk.At.alloc ?_ _ | refine Tk.At.bw ?_ _ | refine Ho.At.drew ?_ | refine Tk.At.drew ?_))).mono ?_); rintro e w_ ⟨rfl, hb_⟩; obtain ⟨a3, rfl⟩ := Soft.BW.mk hb_; clear hb_) | (go_at_call 32; (with_reducible refine (CG.out _ (by with_reducible repeat (first | exact hh | refine Ho.At.alloc ?_ _ | refine Ho.At.bw ?_ _ | refine Tk.At.alloc ?_ _ | refine Tk.At.bw ?_ _ | refine Ho.At.drew ?_ | refine Tk.At.drew ?_))).mono ?_); rintro e w_ ⟨rfl, hb_⟩; obtain ⟨a4, rfl⟩ := Soft.BW.mk hb_; clear hb_) | (go_at_call 33; (with_reducible refine (CI.out _ (by with_reducible repeat (first | exact hh | refine Ho.At.alloc ?_ _ | refine Ho.At.bw ?_ _ | refine Tk.At.alloc ?_ _ | refine Tk.At.bw ?_ _ | refine Ho.At.drew ?_ | refine Tk.At.drew ?_))).mono ?_); rintro e w_ ⟨rfl, hb_⟩; obtain ⟨a5, rfl⟩ := Soft.BW.mk hb_; clear hb_) | (go_at_call 34; (with_reducible refine (CW.out _ (by with_reducible repeat (first | exact hh | refine Ho.At.alloc ?_ _ | refine Ho.At.bw ?_ _ | refine Tk.At.alloc ?_ _ | refine Tk.At.bw ?_ _ | refine Ho.At.drew ?_ | refine Tk.At.drew ?_))).mono ?_); rintro e w_ ⟨rfl, hb_⟩; obtain ⟨a6, rfl⟩ := Soft.BW.mk hb_; clear hb_) | (go_at_call 35; (with_reducible refine (WA.out _).mono ?_); rintro e w_ ⟨rfl, hb_⟩; obtain ⟨b1, rfl⟩ := Soft.BW.mk hb_; clear hb_) | (go_at_call 35; (with_reducible refine (WB.out _).mono ?_); rintro e w_ ⟨rfl, hb_⟩; obtain ⟨b2, rfl⟩ := Soft.BW.mk hb_; clear hb_) | (go_at_call 35; (with_reducible refine (WC.out _).mono ?_); rintro e w_ ⟨rfl, hb_⟩; obtain ⟨b3, rfl⟩ := Soft.BW.mk hb_; clear hb_) | (go_at_call 35; (with_reducible refine (WG.out _).mono ?_); rintro e w_ ⟨rfl, hb_⟩; obtain ⟨b4, rfl⟩ := Soft.BW.mk hb_; clear hb_) | (go_at_call 35; (with_reducible refine (WI.out _).mono ?_); rintro e w_ ⟨rfl, hb_⟩; obtain ⟨b5, rfl⟩ := Soft.BW.mk hb_; clear hb_) | (go_at_call 23; (with_reducible refine (L2_sane _).mono ?_); rintro e w_ ⟨rfl, hb_⟩; obtain ⟨b6, rfl⟩ := Soft.BW.mk hb_; clear hb_))
      go_ret
      refine ⟨rfl, ?_⟩
      (repeat (first | with_reducible exact bel_refl _ | with_reducible refine bel_alloc ?_ _ | with_reducible refine bel_bw _ ?_ | with_reducible refine bel_drew ?_ | with_reducible refine bel_drewN _ ?_ | ((with_reducible refine bel_set ?_ ?_ _); rotate_left; focus (first | (simp; done) | omega | (simp; omega))) | refine bel_step ?_ (by with_reducible assumption)))
  · have hf3 : Hid (false = decide (3 ≤ f.state ∧ f.state ≤ 5)) := Lib.hid (by rw [eq_comm, decide_eq_false_iff_not]; omega)
    clear hF0 hok hm h3 hst
    go_wp2_with (first | (go_at_call 16; (with_reducible refine (CFI.out _ (by with_reducible repeat (first | exact hh | refine Ho.At.alloc ?_ _ | refine Ho.At.bw ?_ _ | refine Tk.At.alloc ?_ _ | refine Tk.At.bw ?_ _))).mono ?_); rintro e w_ ⟨rfl, hb_⟩; obtain ⟨z2, rfl⟩ := Soft.BW.mk hb_; clear hb_) | (go_at_call 28; (with_reducible refine (R2_Free f.state _ false hf3.out).mono ?_); rintro e w_ ⟨rfl, hw_⟩; subst w_) | (go_at_call 23; (with_reducible refine (L2_sane _).mono ?_); rintro e w_ ⟨rfl, hb_⟩; obtain ⟨s1, rfl⟩ := Soft.BW.mk hb_; clear hb_))
    go_ret
    refine ⟨rfl, ?_⟩
    (repeat (first | with_reducible exact bel_refl _ | with_reducible refine bel_alloc ?_ _ | with_reducible refine bel_bw _ ?_ | with_reducible refine bel_drew ?_ | with_reducible refine bel_drewN _ ?_ | ((with_reducible refine bel_set ?_ ?_ _); rotate_left; focus (first | (simp; done) | omega | (simp; omega))) | refine bel_step ?_ (by with_reducible assumption)))

end Go.Proofs.Ytbjdgaeikihjbaa
