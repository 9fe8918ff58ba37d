/-
  The walk of the law HoldLevels.
  Conditions: each theorem's own premises.
-/
import Derived.Test.YtbjdgaeikihjbaaLev
import Derived.Test.YtbjdgaeikihjbaaSanf
import Derived.Test.YtbjdgaeikihjbaaTrut
import Derived.Deep.RegionHeld3
namespace Go.Proofs.Ytbjdgaeikihjbaa
set_option linter.unusedSimpArgs false
set_option linter.unusedVariables false
open Go.RowKit
set_option maxRecDepth 100000
set_option maxHeartbeats 20000000
attribute [local go_sem] Instr.field asAgg Soft.upon Soft.BW.cell_if Soft.BW.frozen_if Soft.cell_alloc_if Soft.frozen_alloc_if




theorem within_true (r : Rg) (n d : Int) (W : World) (h : WithinS r n d) (hr : RgIn r 0 3000000000) (hd : 0 ≤ d ∧ d ≤ 100000) :
    Calls Try.prog 35 #[.agg #[.int .i64 (r).lo, .int .i64 (r).hi], .int .i64 n, .int .i64 d] W fun e w' => e = .returned (.bool true) ∧ Below W.heap.size W w' :=
  R2_Within r n d W true (decide_eq_true (show r.lo * d ≤ n ∧ n ≤ r.hi * d from h)).symm (small_mul hr.a (by have := hr.b; have := hr.c; omega) hd.1 hd.2) (small_mul (by have := hr.a; have := hr.b; omega) hr.c hd.1 hd.2)

theorem L2_HoldLevels (r : Rw) (x0 x1 x2 x3 x4 : Int) (y : Tr) (w : World) (hr : r.At w) (hy : y.At w) :
    Calls Try.prog 13 #[.agg #[.int .i64 (r).id, .int .i64 (r).first, .slice (r).steps.p (r).steps.n (r).steps.c, .slice (r).vals.p (r).vals.n (r).vals.c], .agg #[.int .i64 x0, .int .i64 x1, .int .i64 x2, .int .i64 x3, .int .i64 x4], .agg #[.slice (y).c0.p (y).c0.n (y).c0.c, .slice (y).c1.p (y).c1.n (y).c1.c, .slice (y).c2.p (y).c2.n (y).c2.c, .int .i64 (y).place, .int .i64 (y).dense]] w fun e w' => e = .returned (.bool true) ∧ Below w.heap.size w w' := by
  have hy0 := hy.c0
  have hy1 := hy.c1
  have hy2 := hy.c2
  go_enter Try.func13, Try.ntmps13
  go_wp2_with fail
  refine (R2_Tank r _ (((hr.alloc _).alloc _).alloc _)).mono ?_
  rintro e w1 ⟨t, rfl, ht, hm, hb1⟩
  obtain ⟨z1, rfl⟩ := Soft.BW.mk hb1
  clear hb1
  have hok := hm.ok
  have hL0 := lvS_in hok x0 x1 x2 x3 x4
  have HOK := Lib.hid hok
  have CLV : Hid (∀ W, t.At W → Calls Try.prog 56 #[.agg #[.int .i64 (t).id, .int .i64 ((t).along).lo, .int .i64 ((t).along).hi, .slice ((t).vol).p ((t).vol).n ((t).vol).c, .slice ((t).sur).p ((t).sur).n ((t).sur).c, .slice ((t).hei).p ((t).hei).n ((t).hei).c], .agg #[.int .i64 x0, .int .i64 x1, .int .i64 x2, .int .i64 x3, .int .i64 x4]] W fun e w' => e = .returned (.agg #[.int .i64 (lvS t x0 x1 x2 x3 x4).tank, .bool (lvS t x0 x1 x2 x3 x4).pressed, .int .i64 ((lvS t x0 x1 x2 x3 x4).snd).lo, .int .i64 ((lvS t x0 x1 x2 x3 x4).snd).hi, .int .i64 ((lvS t x0 x1 x2 x3 x4).den).lo, .int .i64 ((lvS t x0 x1 x2 x3 x4).den).hi]) ∧ Below W.heap.size W w') := Lib.hid (fun W hW => R2_Level t x0 x1 x2 x3 x4 W hW HOK.out)
  generalize lvS t x0 x1 x2 x3 x4 = l at *
  obtain ⟨lt, lp, lsn, ld⟩ := l
  have hden := hL0.2.1
  have hpart : isPart lsn (firstX t.vol.ps) (lastX t.vol.ps) := hL0.2.2.1
  dsimp only at hden CLV
  have hu := somS_in lsn y.place hpart.2.1
  have hq := somS_in ld y.dense hden.2.1
  have hend := hok.tabs.1.ok.ends
  have CU : Hid (∀ W, Calls Try.prog 19 #[.agg #[.int .i64 (lsn).lo, .int .i64 (lsn).hi], .int .i64 y.place] W fun e w' => e = .returned (.int .i64 (somS lsn y.place)) ∧ Below W.heap.size W w') := Lib.hid (fun W => L2_somewhere _ _ W ⟨by have := hpart.1; omega, hpart.2.1, by have := hpart.2.2; omega⟩)
  have CD : Hid (∀ W, Calls Try.prog 24 #[.agg #[.int .i64 (ld).lo, .int .i64 (ld).hi], .int .i64 y.dense] W fun e w' => e = .returned (.int .i64 (somS ld y.dense)) ∧ Below W.heap.size W w') := Lib.hid (fun W => L2_dense _ _ W ⟨by have := hden.1; omega, hden.2.1, by have := hden.2.2; omega⟩)
  generalize somS lsn y.place = u at *
  generalize somS ld y.dense = q at *
  obtain ⟨t1, ⟨t2, s2⟩, ⟨t3, s3⟩⟩ := hok.tabs
  have hl0 := curS_in t1.ok y.c0.xs
  have hl1 := curS_in t2.ok y.c1.xs
  have hl2 := curS_in t3.ok y.c2.xs
  have BO := Lib.hid (fun m hmm => levels_plain hm hL0 hu hl0 hl1 hl2 hq (m := m) hmm)
  have x1_ : firstX t.vol.ps ≤ u ∧ u ≤ lastX t.vol.ps := ⟨by have := hpart.1; omega, by have := hpart.2.2; omega⟩
  have x2_ : firstX t.sur.ps ≤ u ∧ u ≤ lastX t.sur.ps := by rw [s2.1, s2.2]; exact x1_
  have x3_ : firstX t.hei.ps ≤ u ∧ u ≤ lastX t.hei.ps := by rw [s3.1, s3.2]; exact x1_
  have CV0 := Lib.hid (fun W => R2_CurveAt t.vol y.c0 u W t1 x1_)
  have CV1 := Lib.hid (fun W => R2_CurveAt t.sur y.c1 u W t2 x2_)
  have CV2 := Lib.hid (fun W => R2_CurveAt t.hei y.c2 u W t3 x3_)
  have hden2 : 0 ≤ q ∧ q ≤ 2000 := by obtain ⟨e1, e2, e3⟩ := hden; omega
  obtain ⟨hq1, hq2⟩ := hden2
  clear hL0 hok hm hl0 hl1 hl2 hq hu hend hpart hden t1 t2 t3 s2 s3 x1_ x2_ x3_
  have hv0 := ht.1
  have hv1 := ht.2.1
  have hv2 := ht.2.2
  by_cases hz : valN t.vol.ps (curS t.vol.ps y.c0.xs t.vol.ps.length) u = 0
  · have dz : (valN t.vol.ps (curS t.vol.ps y.c0.xs t.vol.ps.length) u == 0) = true := by rw [hz]; rfl
    have BO' := BO.out 0 (if_pos (.inr hz)).symm
    clear BO hz
    cases lp
    · have BO' := Lib.hid BO'
      go_wp2_with (first | (go_at_call 56; (with_reducible refine (CLV.out _ (by with_reducible repeat (first | exact ht | refine Ho.At.alloc ?_ _ | refine Ho.At.bw ?_ _ | refine Tk.At.alloc ?_ _ | refine Tk.At.bw ?_ _))).mono ?_); rintro e w_ ⟨rfl, hb_⟩; obtain ⟨z2, rfl⟩ := Soft.BW.mk hb_; clear hb_) | (go_at_call 19; (with_reducible refine (CU.out _).mono ?_); rintro e w_ ⟨rfl, hb_⟩; obtain ⟨s1, rfl⟩ := Soft.BW.mk hb_; clear hb_) | (go_at_call 24; (with_reducible refine (CD.out _).mono ?_); rintro e w_ ⟨rfl, hb_⟩; obtain ⟨s2, rfl⟩ := Soft.BW.mk hb_; clear hb_))
      go_region_held3 (fun W => W.cell? ⟨z1.w.heap.size, 3, none⟩ = some (.slice t.vol.p t.vol.n t.vol.c) ∧ W.cell? ⟨w.heap.size + 1 + 1, 0, none⟩ = some (.slice y.c0.p y.c0.n y.c0.c))
      (first | (go_simp; done) | go_keep)
      (first | (go_at_call 21; refine (((CV0).out _).1 (by with_reducible repeat (first | exact hv0 | refine Tb.At.alloc ?_ _ | refine Tb.At.bw ?_ _ | refine Tb.At.drew ?_)) (by with_reducible repeat (first | exact hy0 | refine Is.At.alloc ?_ _ | refine Is.At.bw ?_ _ | refine Is.At.drew ?_))).mono ?_; rintro e w_ ⟨cg, cn, cc, rfl, hcg, hcat, hb_⟩; obtain ⟨s3, rfl⟩ := Soft.BW.mk hb_; clear hb_ hcg) | (go_at_call 22; refine (((CV0).out _).2 _ _ _ (by with_reducible repeat (first | exact hv0 | refine Tb.At.alloc ?_ _ | refine Tb.At.bw ?_ _ | refine Tb.At.drew ?_)) (by with_reducible repeat (first | exact hcat | refine Is.At.alloc ?_ _ | refine Is.At.bw ?_ _ | refine Is.At.drew ?_))).mono ?_; rintro e w_ ⟨rfl, hb_⟩; obtain ⟨s4, rfl⟩ := Soft.BW.mk hb_; clear hb_))
      go_wp2_with fail
      go_region_held3 (fun W => W.cell? ⟨z1.w.heap.size, 4, none⟩ = some (.slice t.sur.p t.sur.n t.sur.c) ∧ W.cell? ⟨w.heap.size + 1 + 1, 1, none⟩ = some (.slice y.c1.p y.c1.n y.c1.c))
      (first | (go_simp; done) | go_keep)
      (first | (go_at_call 21; refine (((CV1).out _).1 (by with_reducible repeat (first | exact hv1 | refine Tb.At.alloc ?_ _ | refine Tb.At.bw ?_ _ | refine Tb.At.drew ?_)) (by with_reducible repeat (first | exact hy1 | refine Is.At.alloc ?_ _ | refine Is.At.bw ?_ _ | refine Is.At.drew ?_))).mono ?_; rintro e w_ ⟨cg, cn, cc, rfl, hcg, hcat, hb_⟩; obtain ⟨s5, rfl⟩ := Soft.BW.mk hb_; clear hb_ hcg) | (go_at_call 22; refine (((CV1).out _).2 _ _ _ (by with_reducible repeat (first | exact hv1 | refine Tb.At.alloc ?_ _ | refine Tb.At.bw ?_ _ | refine Tb.At.drew ?_)) (by with_reducible repeat (first | exact hcat | refine Is.At.alloc ?_ _ | refine Is.At.bw ?_ _ | refine Is.At.drew ?_))).mono ?_; rintro e w_ ⟨rfl, hb_⟩; obtain ⟨s6, rfl⟩ := Soft.BW.mk hb_; clear hb_))
      go_wp2_with fail
      go_region_held3 (fun W => W.cell? ⟨z1.w.heap.size, 5, none⟩ = some (.slice t.hei.p t.hei.n t.hei.c) ∧ W.cell? ⟨w.heap.size + 1 + 1, 2, none⟩ = some (.slice y.c2.p y.c2.n y.c2.c))
      (first | (go_simp; done) | go_keep)
      (first | (go_at_call 21; refine (((CV2).out _).1 (by with_reducible repeat (first | exact hv2 | refine Tb.At.alloc ?_ _ | refine Tb.At.bw ?_ _ | refine Tb.At.drew ?_)) (by with_reducible repeat (first | exact hy2 | refine Is.At.alloc ?_ _ | refine Is.At.bw ?_ _ | refine Is.At.drew ?_))).mono ?_; rintro e w_ ⟨cg, cn, cc, rfl, hcg, hcat, hb_⟩; obtain ⟨s7, rfl⟩ := Soft.BW.mk hb_; clear hb_ hcg) | (go_at_call 22; refine (((CV2).out _).2 _ _ _ (by with_reducible repeat (first | exact hv2 | refine Tb.At.alloc ?_ _ | refine Tb.At.bw ?_ _ | refine Tb.At.drew ?_)) (by with_reducible repeat (first | exact hcat | refine Is.At.alloc ?_ _ | refine Is.At.bw ?_ _ | refine Is.At.drew ?_))).mono ?_; rintro e w_ ⟨rfl, hb_⟩; obtain ⟨s8, rfl⟩ := Soft.BW.mk hb_; clear hb_))
      clear CV0 CV1 CV2 CU CD
      generalize valN t.vol.ps (curS t.vol.ps y.c0.xs t.vol.ps.length) u = v at *
      generalize valD t.vol.ps u = n at *
      generalize valN t.sur.ps (curS t.sur.ps y.c1.xs t.sur.ps.length) u = m0 at *
      generalize valD t.sur.ps u = o at *
      generalize valN t.hei.ps (curS t.hei.ps y.c2.xs t.hei.ps.length) u = z at *
      generalize valD t.hei.ps u = p at *
      obtain ⟨be, ba, bi, bw, bs, bp, ra, ri, rs, ⟨⟨v1, v2⟩, n1, n2⟩, ⟨⟨o1, o2⟩, o3, o4⟩, ⟨⟨p1, p2⟩, p3, p4⟩⟩ := BO'.out
      have CA : Hid (∀ W, t.At W → Calls Try.prog 57 #[.agg #[.int .i64 (t).id, .int .i64 ((t).along).lo, .int .i64 ((t).along).hi, .slice ((t).vol).p ((t).vol).n ((t).vol).c, .slice ((t).sur).p ((t).sur).n ((t).sur).c, .slice ((t).hei).p ((t).hei).n ((t).hei).c], .agg #[.int .i64 ((⟨lt, false, lsn, ld⟩ : Lv)).tank, .bool ((⟨lt, false, lsn, ld⟩ : Lv)).pressed, .int .i64 (((⟨lt, false, lsn, ld⟩ : Lv)).snd).lo, .int .i64 (((⟨lt, false, lsn, ld⟩ : Lv)).snd).hi, .int .i64 (((⟨lt, false, lsn, ld⟩ : Lv)).den).lo, .int .i64 (((⟨lt, false, lsn, ld⟩ : Lv)).den).hi]] W fun e w' => e = .returned (.tuple #[.agg #[.int .i64 (liqE t ⟨lt, false, lsn, ld⟩).lo, .int .i64 (liqE t ⟨lt, false, lsn, ld⟩).hi], .int .i64 0]) ∧ Below W.heap.size W w') := Lib.hid (fun W hW => by have := hold_Liquid t ⟨lt, false, lsn, ld⟩ W hW; rwa [be] at this)
      have CB : Hid (∀ W, t.At W → Calls Try.prog 58 #[.agg #[.int .i64 (t).id, .int .i64 ((t).along).lo, .int .i64 ((t).along).hi, .slice ((t).vol).p ((t).vol).n ((t).vol).c, .slice ((t).sur).p ((t).sur).n ((t).sur).c, .slice ((t).hei).p ((t).hei).n ((t).hei).c], .agg #[.int .i64 ((⟨lt, false, lsn, ld⟩ : Lv)).tank, .bool ((⟨lt, false, lsn, ld⟩ : Lv)).pressed, .int .i64 (((⟨lt, false, lsn, ld⟩ : Lv)).snd).lo, .int .i64 (((⟨lt, false, lsn, ld⟩ : Lv)).snd).hi, .int .i64 (((⟨lt, false, lsn, ld⟩ : Lv)).den).lo, .int .i64 (((⟨lt, false, lsn, ld⟩ : Lv)).den).hi]] W fun e w' => e = .returned (.tuple #[.agg #[.int .i64 (srfE t ⟨lt, false, lsn, ld⟩).lo, .int .i64 (srfE t ⟨lt, false, lsn, ld⟩).hi], .int .i64 0]) ∧ Below W.heap.size W w') := Lib.hid (fun W hW => by have := hold_Surface t ⟨lt, false, lsn, ld⟩ W hW; rwa [be] at this)
      have CW : Hid (∀ W, t.At W → Calls Try.prog 59 #[.agg #[.int .i64 (t).id, .int .i64 ((t).along).lo, .int .i64 ((t).along).hi, .slice ((t).vol).p ((t).vol).n ((t).vol).c, .slice ((t).sur).p ((t).sur).n ((t).sur).c, .slice ((t).hei).p ((t).hei).n ((t).hei).c], .agg #[.int .i64 ((⟨lt, false, lsn, ld⟩ : Lv)).tank, .bool ((⟨lt, false, lsn, ld⟩ : Lv)).pressed, .int .i64 (((⟨lt, false, lsn, ld⟩ : Lv)).snd).lo, .int .i64 (((⟨lt, false, lsn, ld⟩ : Lv)).snd).hi, .int .i64 (((⟨lt, false, lsn, ld⟩ : Lv)).den).lo, .int .i64 (((⟨lt, false, lsn, ld⟩ : Lv)).den).hi]] W fun e w' => e = .returned (.tuple #[.agg #[.int .i64 (((⟨liqE t ⟨lt, false, lsn, ld⟩, t.along, (overE t.hei.ps lsn).1⟩ : Wt)).mass).lo, .int .i64 (((⟨liqE t ⟨lt, false, lsn, ld⟩, t.along, (overE t.hei.ps lsn).1⟩ : Wt)).mass).hi, .int .i64 (((⟨liqE t ⟨lt, false, lsn, ld⟩, t.along, (overE t.hei.ps lsn).1⟩ : Wt)).along).lo, .int .i64 (((⟨liqE t ⟨lt, false, lsn, ld⟩, t.along, (overE t.hei.ps lsn).1⟩ : Wt)).along).hi, .int .i64 (((⟨liqE t ⟨lt, false, lsn, ld⟩, t.along, (overE t.hei.ps lsn).1⟩ : Wt)).high).lo, .int .i64 (((⟨liqE t ⟨lt, false, lsn, ld⟩, t.along, (overE t.hei.ps lsn).1⟩ : Wt)).high).hi], .int .i64 0]) ∧ Below W.heap.size W w') := Lib.hid (fun W hW => by have := hold_Ballast t ⟨lt, false, lsn, ld⟩ W hW; rwa [be, bw] at this)
      clear be bw
      generalize liqE t ⟨lt, false, lsn, ld⟩ = A at *
      generalize hS : srfE t ⟨lt, false, lsn, ld⟩ = S at *
      dsimp only at bi ri
      generalize (overE t.hei.ps lsn).1 = I at *
      have HBP := Lib.hid bp
      have g1 := Int.mul_nonneg v1 hq1
      have g2 : v * q ≤ 1600000000 := by have := Int.mul_le_mul v2 hq2 hq1 (by omega); omega
      have g3 := Int.mul_nonneg o1 hq1
      have g4 : 0 * q ≤ 1600000000 := by have := Int.mul_le_mul o2 hq2 hq1 (by omega); omega
      have WA := Lib.hid (fun W => within_true A (v * q) (1000 * n) W ba (ra.mono (by omega) (by omega)) (by omega))
      have WI := Lib.hid (fun W => within_true I z p W bi (ri.mono (by omega) (by omega)) (by omega))
      have WS := Lib.hid (fun W => within_true S (0) (1000 * o) W (by rw [Int.zero_mul] at bs; exact bs) (rs.mono (by omega) (by omega)) (by omega))
      clear BO' ba bi bs ra ri rs hS bp
      skip
      go_wp2_with (first | (go_at_call 57; (with_reducible refine (CA.out _ (by with_reducible repeat (first | exact ht | refine Ho.At.alloc ?_ _ | refine Ho.At.bw ?_ _ | refine Tk.At.alloc ?_ _ | refine Tk.At.bw ?_ _ | refine Ho.At.drew ?_ | refine Tk.At.drew ?_))).mono ?_); rintro e w_ ⟨rfl, hb_⟩; obtain ⟨a1, rfl⟩ := Soft.BW.mk hb_; clear hb_) | (go_at_call 58; (with_reducible refine (CB.out _ (by with_reducible repeat (first | exact ht | refine Ho.At.alloc ?_ _ | refine Ho.At.bw ?_ _ | refine Tk.At.alloc ?_ _ | refine Tk.At.bw ?_ _ | refine Ho.At.drew ?_ | refine Tk.At.drew ?_))).mono ?_); rintro e w_ ⟨rfl, hb_⟩; obtain ⟨a2, rfl⟩ := Soft.BW.mk hb_; clear hb_) | (go_at_call 59; (with_reducible refine (CW.out _ (by with_reducible repeat (first | exact ht | refine Ho.At.alloc ?_ _ | refine Ho.At.bw ?_ _ | refine Tk.At.alloc ?_ _ | refine Tk.At.bw ?_ _ | refine Ho.At.drew ?_ | refine Tk.At.drew ?_))).mono ?_); rintro e w_ ⟨rfl, hb_⟩; obtain ⟨a6, rfl⟩ := Soft.BW.mk hb_; clear hb_) | (go_at_call 35; (with_reducible refine (WA.out _).mono ?_); rintro e w_ ⟨rfl, hb_⟩; obtain ⟨b1, rfl⟩ := Soft.BW.mk hb_; clear hb_) | (go_at_call 35; (with_reducible refine (WI.out _).mono ?_); rintro e w_ ⟨rfl, hb_⟩; obtain ⟨b2, rfl⟩ := Soft.BW.mk hb_; clear hb_) | (go_at_call 35; (with_reducible refine (WS.out _).mono ?_); rintro e w_ ⟨rfl, hb_⟩; obtain ⟨b3, rfl⟩ := Soft.BW.mk hb_; clear hb_) | (go_at_call 23; (with_reducible refine (L2_sane _).mono ?_); rintro e w_ ⟨rfl, hb_⟩; obtain ⟨b6, rfl⟩ := Soft.BW.mk hb_; clear hb_))
      go_ret
      refine ⟨rfl, ?_⟩
      (repeat (first | with_reducible exact bel_refl _ | with_reducible refine bel_alloc ?_ _ | with_reducible refine bel_bw _ ?_ | with_reducible refine bel_drew ?_ | with_reducible refine bel_drewN _ ?_ | ((with_reducible refine bel_set ?_ ?_ _); rotate_left; focus (first | (simp; done) | omega | (simp; omega))) | refine bel_step ?_ (by with_reducible assumption)))
    · have BO' := Lib.hid BO'
      go_wp2_with (first | (go_at_call 56; (with_reducible refine (CLV.out _ (by with_reducible repeat (first | exact ht | refine Ho.At.alloc ?_ _ | refine Ho.At.bw ?_ _ | refine Tk.At.alloc ?_ _ | refine Tk.At.bw ?_ _))).mono ?_); rintro e w_ ⟨rfl, hb_⟩; obtain ⟨z2, rfl⟩ := Soft.BW.mk hb_; clear hb_) | (go_at_call 19; (with_reducible refine (CU.out _).mono ?_); rintro e w_ ⟨rfl, hb_⟩; obtain ⟨s1, rfl⟩ := Soft.BW.mk hb_; clear hb_) | (go_at_call 24; (with_reducible refine (CD.out _).mono ?_); rintro e w_ ⟨rfl, hb_⟩; obtain ⟨s2, rfl⟩ := Soft.BW.mk hb_; clear hb_))
      go_region_held3 (fun W => W.cell? ⟨z1.w.heap.size, 3, none⟩ = some (.slice t.vol.p t.vol.n t.vol.c) ∧ W.cell? ⟨w.heap.size + 1 + 1, 0, none⟩ = some (.slice y.c0.p y.c0.n y.c0.c))
      (first | (go_simp; done) | go_keep)
      (first | (go_at_call 21; refine (((CV0).out _).1 (by with_reducible repeat (first | exact hv0 | refine Tb.At.alloc ?_ _ | refine Tb.At.bw ?_ _ | refine Tb.At.drew ?_)) (by with_reducible repeat (first | exact hy0 | refine Is.At.alloc ?_ _ | refine Is.At.bw ?_ _ | refine Is.At.drew ?_))).mono ?_; rintro e w_ ⟨cg, cn, cc, rfl, hcg, hcat, hb_⟩; obtain ⟨s3, rfl⟩ := Soft.BW.mk hb_; clear hb_ hcg) | (go_at_call 22; refine (((CV0).out _).2 _ _ _ (by with_reducible repeat (first | exact hv0 | refine Tb.At.alloc ?_ _ | refine Tb.At.bw ?_ _ | refine Tb.At.drew ?_)) (by with_reducible repeat (first | exact hcat | refine Is.At.alloc ?_ _ | refine Is.At.bw ?_ _ | refine Is.At.drew ?_))).mono ?_; rintro e w_ ⟨rfl, hb_⟩; obtain ⟨s4, rfl⟩ := Soft.BW.mk hb_; clear hb_))
      go_wp2_with fail
      go_region_held3 (fun W => W.cell? ⟨z1.w.heap.size, 4, none⟩ = some (.slice t.sur.p t.sur.n t.sur.c) ∧ W.cell? ⟨w.heap.size + 1 + 1, 1, none⟩ = some (.slice y.c1.p y.c1.n y.c1.c))
      (first | (go_simp; done) | go_keep)
      (first | (go_at_call 21; refine (((CV1).out _).1 (by with_reducible repeat (first | exact hv1 | refine Tb.At.alloc ?_ _ | refine Tb.At.bw ?_ _ | refine Tb.At.drew ?_)) (by with_reducible repeat (first | exact hy1 | refine Is.At.alloc ?_ _ | refine Is.At.bw ?_ _ | refine Is.At.drew ?_))).mono ?_; rintro e w_ ⟨cg, cn, cc, rfl, hcg, hcat, hb_⟩; obtain ⟨s5, rfl⟩ := Soft.BW.mk hb_; clear hb_ hcg) | (go_at_call 22; refine (((CV1).out _).2 _ _ _ (by with_reducible repeat (first | exact hv1 | refine Tb.At.alloc ?_ _ | refine Tb.At.bw ?_ _ | refine Tb.At.drew ?_)) (by with_reducible repeat (first | exact hcat | refine Is.At.alloc ?_ _ | refine Is.At.bw ?_ _ | refine Is.At.drew ?_))).mono ?_; rintro e w_ ⟨rfl, hb_⟩; obtain ⟨s6, rfl⟩ := Soft.BW.mk hb_; clear hb_))
      go_wp2_with fail
      go_region_held3 (fun W => W.cell? ⟨z1.w.heap.size, 5, none⟩ = some (.slice t.hei.p t.hei.n t.hei.c) ∧ W.cell? ⟨w.heap.size + 1 + 1, 2, none⟩ = some (.slice y.c2.p y.c2.n y.c2.c))
      (first | (go_simp; done) | go_keep)
      (first | (go_at_call 21; refine (((CV2).out _).1 (by with_reducible repeat (first | exact hv2 | refine Tb.At.alloc ?_ _ | refine Tb.At.bw ?_ _ | refine Tb.At.drew ?_)) (by with_reducible repeat (first | exact hy2 | refine Is.At.alloc ?_ _ | refine Is.At.bw ?_ _ | refine Is.At.drew ?_))).mono ?_; rintro e w_ ⟨cg, cn, cc, rfl, hcg, hcat, hb_⟩; obtain ⟨s7, rfl⟩ := Soft.BW.mk hb_; clear hb_ hcg) | (go_at_call 22; refine (((CV2).out _).2 _ _ _ (by with_reducible repeat (first | exact hv2 | refine Tb.At.alloc ?_ _ | refine Tb.At.bw ?_ _ | refine Tb.At.drew ?_)) (by with_reducible repeat (first | exact hcat | refine Is.At.alloc ?_ _ | refine Is.At.bw ?_ _ | refine Is.At.drew ?_))).mono ?_; rintro e w_ ⟨rfl, hb_⟩; obtain ⟨s8, rfl⟩ := Soft.BW.mk hb_; clear hb_))
      clear CV0 CV1 CV2 CU CD
      generalize valN t.vol.ps (curS t.vol.ps y.c0.xs t.vol.ps.length) u = v at *
      generalize valD t.vol.ps u = n at *
      generalize valN t.sur.ps (curS t.sur.ps y.c1.xs t.sur.ps.length) u = m0 at *
      generalize valD t.sur.ps u = o at *
      generalize valN t.hei.ps (curS t.hei.ps y.c2.xs t.hei.ps.length) u = z at *
      generalize valD t.hei.ps u = p at *
      obtain ⟨be, ba, bi, bw, bs, bp, ra, ri, rs, ⟨⟨v1, v2⟩, n1, n2⟩, ⟨⟨o1, o2⟩, o3, o4⟩, ⟨⟨p1, p2⟩, p3, p4⟩⟩ := BO'.out
      have CA : Hid (∀ W, t.At W → Calls Try.prog 57 #[.agg #[.int .i64 (t).id, .int .i64 ((t).along).lo, .int .i64 ((t).along).hi, .slice ((t).vol).p ((t).vol).n ((t).vol).c, .slice ((t).sur).p ((t).sur).n ((t).sur).c, .slice ((t).hei).p ((t).hei).n ((t).hei).c], .agg #[.int .i64 ((⟨lt, true, lsn, ld⟩ : Lv)).tank, .bool ((⟨lt, true, lsn, ld⟩ : Lv)).pressed, .int .i64 (((⟨lt, true, lsn, ld⟩ : Lv)).snd).lo, .int .i64 (((⟨lt, true, lsn, ld⟩ : Lv)).snd).hi, .int .i64 (((⟨lt, true, lsn, ld⟩ : Lv)).den).lo, .int .i64 (((⟨lt, true, lsn, ld⟩ : Lv)).den).hi]] W fun e w' => e = .returned (.tuple #[.agg #[.int .i64 (liqE t ⟨lt, true, lsn, ld⟩).lo, .int .i64 (liqE t ⟨lt, true, lsn, ld⟩).hi], .int .i64 0]) ∧ Below W.heap.size W w') := Lib.hid (fun W hW => by have := hold_Liquid t ⟨lt, true, lsn, ld⟩ W hW; rwa [be] at this)
      have CB : Hid (∀ W, t.At W → Calls Try.prog 58 #[.agg #[.int .i64 (t).id, .int .i64 ((t).along).lo, .int .i64 ((t).along).hi, .slice ((t).vol).p ((t).vol).n ((t).vol).c, .slice ((t).sur).p ((t).sur).n ((t).sur).c, .slice ((t).hei).p ((t).hei).n ((t).hei).c], .agg #[.int .i64 ((⟨lt, true, lsn, ld⟩ : Lv)).tank, .bool ((⟨lt, true, lsn, ld⟩ : Lv)).pressed, .int .i64 (((⟨lt, true, lsn, ld⟩ : Lv)).snd).lo, .int .i64 (((⟨lt, true, lsn, ld⟩ : Lv)).snd).hi, .int .i64 (((⟨lt, true, lsn, ld⟩ : Lv)).den).lo, .int .i64 (((⟨lt, true, lsn, ld⟩ : Lv)).den).hi]] W fun e w' => e = .returned (.tuple #[.agg #[.int .i64 (srfE t ⟨lt, true, lsn, ld⟩).lo, .int .i64 (srfE t ⟨lt, true, lsn, ld⟩).hi], .int .i64 0]) ∧ Below W.heap.size W w') := Lib.hid (fun W hW => by have := hold_Surface t ⟨lt, true, lsn, ld⟩ W hW; rwa [be] at this)
      have CW : Hid (∀ W, t.At W → Calls Try.prog 59 #[.agg #[.int .i64 (t).id, .int .i64 ((t).along).lo, .int .i64 ((t).along).hi, .slice ((t).vol).p ((t).vol).n ((t).vol).c, .slice ((t).sur).p ((t).sur).n ((t).sur).c, .slice ((t).hei).p ((t).hei).n ((t).hei).c], .agg #[.int .i64 ((⟨lt, true, lsn, ld⟩ : Lv)).tank, .bool ((⟨lt, true, lsn, ld⟩ : Lv)).pressed, .int .i64 (((⟨lt, true, lsn, ld⟩ : Lv)).snd).lo, .int .i64 (((⟨lt, true, lsn, ld⟩ : Lv)).snd).hi, .int .i64 (((⟨lt, true, lsn, ld⟩ : Lv)).den).lo, .int .i64 (((⟨lt, true, lsn, ld⟩ : Lv)).den).hi]] W fun e w' => e = .returned (.tuple #[.agg #[.int .i64 (((⟨liqE t ⟨lt, true, lsn, ld⟩, t.along, (overE t.hei.ps lsn).1⟩ : Wt)).mass).lo, .int .i64 (((⟨liqE t ⟨lt, true, lsn, ld⟩, t.along, (overE t.hei.ps lsn).1⟩ : Wt)).mass).hi, .int .i64 (((⟨liqE t ⟨lt, true, lsn, ld⟩, t.along, (overE t.hei.ps lsn).1⟩ : Wt)).along).lo, .int .i64 (((⟨liqE t ⟨lt, true, lsn, ld⟩, t.along, (overE t.hei.ps lsn).1⟩ : Wt)).along).hi, .int .i64 (((⟨liqE t ⟨lt, true, lsn, ld⟩, t.along, (overE t.hei.ps lsn).1⟩ : Wt)).high).lo, .int .i64 (((⟨liqE t ⟨lt, true, lsn, ld⟩, t.along, (overE t.hei.ps lsn).1⟩ : Wt)).high).hi], .int .i64 0]) ∧ Below W.heap.size W w') := Lib.hid (fun W hW => by have := hold_Ballast t ⟨lt, true, lsn, ld⟩ W hW; rwa [be, bw] at this)
      clear be bw
      generalize liqE t ⟨lt, true, lsn, ld⟩ = A at *
      generalize hS : srfE t ⟨lt, true, lsn, ld⟩ = S at *
      dsimp only at bi ri
      generalize (overE t.hei.ps lsn).1 = I at *
      have HBP := Lib.hid bp
      have g1 := Int.mul_nonneg v1 hq1
      have g2 : v * q ≤ 1600000000 := by have := Int.mul_le_mul v2 hq2 hq1 (by omega); omega
      have g3 := Int.mul_nonneg o1 hq1
      have g4 : 0 * q ≤ 1600000000 := by have := Int.mul_le_mul o2 hq2 hq1 (by omega); omega
      have WA := Lib.hid (fun W => within_true A (v * q) (1000 * n) W ba (ra.mono (by omega) (by omega)) (by omega))
      have WI := Lib.hid (fun W => within_true I z p W bi (ri.mono (by omega) (by omega)) (by omega))
      have WS := Lib.hid (fun W => within_true S (0) (1000 * o) W (by rw [Int.zero_mul] at bs; exact bs) (rs.mono (by omega) (by omega)) (by omega))
      clear BO' ba bi bs ra ri rs hS bp
      (have hs0 := HBP.out rfl; subst hs0)
      go_wp2_with (first | (go_at_call 57; (with_reducible refine (CA.out _ (by with_reducible repeat (first | exact ht | refine Ho.At.alloc ?_ _ | refine Ho.At.bw ?_ _ | refine Tk.At.alloc ?_ _ | refine Tk.At.bw ?_ _ | refine Ho.At.drew ?_ | refine Tk.At.drew ?_))).mono ?_); rintro e w_ ⟨rfl, hb_⟩; obtain ⟨a1, rfl⟩ := Soft.BW.mk hb_; clear hb_) | (go_at_call 58; (with_reducible refine (CB.out _ (by with_reducible repeat (first | exact ht | refine Ho.At.alloc ?_ _ | refine Ho.At.bw ?_ _ | refine Tk.At.alloc ?_ _ | refine Tk.At.bw ?_ _ | refine Ho.At.drew ?_ | refine Tk.At.drew ?_))).mono ?_); rintro e w_ ⟨rfl, hb_⟩; obtain ⟨a2, rfl⟩ := Soft.BW.mk hb_; clear hb_) | (go_at_call 59; (with_reducible refine (CW.out _ (by with_reducible repeat (first | exact ht | refine Ho.At.alloc ?_ _ | refine Ho.At.bw ?_ _ | refine Tk.At.alloc ?_ _ | refine Tk.At.bw ?_ _ | refine Ho.At.drew ?_ | refine Tk.At.drew ?_))).mono ?_); rintro e w_ ⟨rfl, hb_⟩; obtain ⟨a6, rfl⟩ := Soft.BW.mk hb_; clear hb_) | (go_at_call 35; (with_reducible refine (WA.out _).mono ?_); rintro e w_ ⟨rfl, hb_⟩; obtain ⟨b1, rfl⟩ := Soft.BW.mk hb_; clear hb_) | (go_at_call 35; (with_reducible refine (WI.out _).mono ?_); rintro e w_ ⟨rfl, hb_⟩; obtain ⟨b2, rfl⟩ := Soft.BW.mk hb_; clear hb_) | (go_at_call 35; (with_reducible refine (WS.out _).mono ?_); rintro e w_ ⟨rfl, hb_⟩; obtain ⟨b3, rfl⟩ := Soft.BW.mk hb_; clear hb_) | (go_at_call 23; (with_reducible refine (L2_sane _).mono ?_); rintro e w_ ⟨rfl, hb_⟩; obtain ⟨b6, rfl⟩ := Soft.BW.mk hb_; clear hb_))
      go_ret
      refine ⟨rfl, ?_⟩
      (repeat (first | with_reducible exact bel_refl _ | with_reducible refine bel_alloc ?_ _ | with_reducible refine bel_bw _ ?_ | with_reducible refine bel_drew ?_ | with_reducible refine bel_drewN _ ?_ | ((with_reducible refine bel_set ?_ ?_ _); rotate_left; focus (first | (simp; done) | omega | (simp; omega))) | refine bel_step ?_ (by with_reducible assumption)))
  · have dz : (valN t.vol.ps (curS t.vol.ps y.c0.xs t.vol.ps.length) u == 0) = false := by rw [beq_eq_false_iff_ne]; exact hz
    cases lp
    · have BO' := BO.out (valN t.sur.ps (curS t.sur.ps y.c1.xs t.sur.ps.length) u) (by rw [if_neg]; rintro (e | e); exact absurd e (by simp); exact hz e)
      clear BO hz
      have BO' := Lib.hid BO'
      go_wp2_with (first | (go_at_call 56; (with_reducible refine (CLV.out _ (by with_reducible repeat (first | exact ht | refine Ho.At.alloc ?_ _ | refine Ho.At.bw ?_ _ | refine Tk.At.alloc ?_ _ | refine Tk.At.bw ?_ _))).mono ?_); rintro e w_ ⟨rfl, hb_⟩; obtain ⟨z2, rfl⟩ := Soft.BW.mk hb_; clear hb_) | (go_at_call 19; (with_reducible refine (CU.out _).mono ?_); rintro e w_ ⟨rfl, hb_⟩; obtain ⟨s1, rfl⟩ := Soft.BW.mk hb_; clear hb_) | (go_at_call 24; (with_reducible refine (CD.out _).mono ?_); rintro e w_ ⟨rfl, hb_⟩; obtain ⟨s2, rfl⟩ := Soft.BW.mk hb_; clear hb_))
      go_region_held3 (fun W => W.cell? ⟨z1.w.heap.size, 3, none⟩ = some (.slice t.vol.p t.vol.n t.vol.c) ∧ W.cell? ⟨w.heap.size + 1 + 1, 0, none⟩ = some (.slice y.c0.p y.c0.n y.c0.c))
      (first | (go_simp; done) | go_keep)
      (first | (go_at_call 21; refine (((CV0).out _).1 (by with_reducible repeat (first | exact hv0 | refine Tb.At.alloc ?_ _ | refine Tb.At.bw ?_ _ | refine Tb.At.drew ?_)) (by with_reducible repeat (first | exact hy0 | refine Is.At.alloc ?_ _ | refine Is.At.bw ?_ _ | refine Is.At.drew ?_))).mono ?_; rintro e w_ ⟨cg, cn, cc, rfl, hcg, hcat, hb_⟩; obtain ⟨s3, rfl⟩ := Soft.BW.mk hb_; clear hb_ hcg) | (go_at_call 22; refine (((CV0).out _).2 _ _ _ (by with_reducible repeat (first | exact hv0 | refine Tb.At.alloc ?_ _ | refine Tb.At.bw ?_ _ | refine Tb.At.drew ?_)) (by with_reducible repeat (first | exact hcat | refine Is.At.alloc ?_ _ | refine Is.At.bw ?_ _ | refine Is.At.drew ?_))).mono ?_; rintro e w_ ⟨rfl, hb_⟩; obtain ⟨s4, rfl⟩ := Soft.BW.mk hb_; clear hb_))
      go_wp2_with fail
      go_region_held3 (fun W => W.cell? ⟨z1.w.heap.size, 4, none⟩ = some (.slice t.sur.p t.sur.n t.sur.c) ∧ W.cell? ⟨w.heap.size + 1 + 1, 1, none⟩ = some (.slice y.c1.p y.c1.n y.c1.c))
      (first | (go_simp; done) | go_keep)
      (first | (go_at_call 21; refine (((CV1).out _).1 (by with_reducible repeat (first | exact hv1 | refine Tb.At.alloc ?_ _ | refine Tb.At.bw ?_ _ | refine Tb.At.drew ?_)) (by with_reducible repeat (first | exact hy1 | refine Is.At.alloc ?_ _ | refine Is.At.bw ?_ _ | refine Is.At.drew ?_))).mono ?_; rintro e w_ ⟨cg, cn, cc, rfl, hcg, hcat, hb_⟩; obtain ⟨s5, rfl⟩ := Soft.BW.mk hb_; clear hb_ hcg) | (go_at_call 22; refine (((CV1).out _).2 _ _ _ (by with_reducible repeat (first | exact hv1 | refine Tb.At.alloc ?_ _ | refine Tb.At.bw ?_ _ | refine Tb.At.drew ?_)) (by with_reducible repeat (first | exact hcat | refine Is.At.alloc ?_ _ | refine Is.At.bw ?_ _ | refine Is.At.drew ?_))).mono ?_; rintro e w_ ⟨rfl, hb_⟩; obtain ⟨s6, rfl⟩ := Soft.BW.mk hb_; clear hb_))
      go_wp2_with fail
      go_region_held3 (fun W => W.cell? ⟨z1.w.heap.size, 5, none⟩ = some (.slice t.hei.p t.hei.n t.hei.c) ∧ W.cell? ⟨w.heap.size + 1 + 1, 2, none⟩ = some (.slice y.c2.p y.c2.n y.c2.c))
      (first | (go_simp; done) | go_keep)
      (first | (go_at_call 21; refine (((CV2).out _).1 (by with_reducible repeat (first | exact hv2 | refine Tb.At.alloc ?_ _ | refine Tb.At.bw ?_ _ | refine Tb.At.drew ?_)) (by with_reducible repeat (first | exact hy2 | refine Is.At.alloc ?_ _ | refine Is.At.bw ?_ _ | refine Is.At.drew ?_))).mono ?_; rintro e w_ ⟨cg, cn, cc, rfl, hcg, hcat, hb_⟩; obtain ⟨s7, rfl⟩ := Soft.BW.mk hb_; clear hb_ hcg) | (go_at_call 22; refine (((CV2).out _).2 _ _ _ (by with_reducible repeat (first | exact hv2 | refine Tb.At.alloc ?_ _ | refine Tb.At.bw ?_ _ | refine Tb.At.drew ?_)) (by with_reducible repeat (first | exact hcat | refine Is.At.alloc ?_ _ | refine Is.At.bw ?_ _ | refine Is.At.drew ?_))).mono ?_; rintro e w_ ⟨rfl, hb_⟩; obtain ⟨s8, rfl⟩ := Soft.BW.mk hb_; clear hb_))
      clear CV0 CV1 CV2 CU CD
      generalize valN t.vol.ps (curS t.vol.ps y.c0.xs t.vol.ps.length) u = v at *
      generalize valD t.vol.ps u = n at *
      generalize valN t.sur.ps (curS t.sur.ps y.c1.xs t.sur.ps.length) u = m0 at *
      generalize valD t.sur.ps u = o at *
      generalize valN t.hei.ps (curS t.hei.ps y.c2.xs t.hei.ps.length) u = z at *
      generalize valD t.hei.ps u = p at *
      obtain ⟨be, ba, bi, bw, bs, bp, ra, ri, rs, ⟨⟨v1, v2⟩, n1, n2⟩, ⟨⟨o1, o2⟩, o3, o4⟩, ⟨⟨p1, p2⟩, p3, p4⟩⟩ := BO'.out
      have CA : Hid (∀ W, t.At W → Calls Try.prog 57 #[.agg #[.int .i64 (t).id, .int .i64 ((t).along).lo, .int .i64 ((t).along).hi, .slice ((t).vol).p ((t).vol).n ((t).vol).c, .slice ((t).sur).p ((t).sur).n ((t).sur).c, .slice ((t).hei).p ((t).hei).n ((t).hei).c], .agg #[.int .i64 ((⟨lt, false, lsn, ld⟩ : Lv)).tank, .bool ((⟨lt, false, lsn, ld⟩ : Lv)).pressed, .int .i64 (((⟨lt, false, lsn, ld⟩ : Lv)).snd).lo, .int .i64 (((⟨lt, false, lsn, ld⟩ : Lv)).snd).hi, .int .i64 (((⟨lt, false, lsn, ld⟩ : Lv)).den).lo, .int .i64 (((⟨lt, false, lsn, ld⟩ : Lv)).den).hi]] W fun e w' => e = .returned (.tuple #[.agg #[.int .i64 (liqE t ⟨lt, false, lsn, ld⟩).lo, .int .i64 (liqE t ⟨lt, false, lsn, ld⟩).hi], .int .i64 0]) ∧ Below W.heap.size W w') := Lib.hid (fun W hW => by have := hold_Liquid t ⟨lt, false, lsn, ld⟩ W hW; rwa [be] at this)
      have CB : Hid (∀ W, t.At W → Calls Try.prog 58 #[.agg #[.int .i64 (t).id, .int .i64 ((t).along).lo, .int .i64 ((t).along).hi, .slice ((t).vol).p ((t).vol).n ((t).vol).c, .slice ((t).sur).p ((t).sur).n ((t).sur).c, .slice ((t).hei).p ((t).hei).n ((t).hei).c], .agg #[.int .i64 ((⟨lt, false, lsn, ld⟩ : Lv)).tank, .bool ((⟨lt, false, lsn, ld⟩ : Lv)).pressed, .int .i64 (((⟨lt, false, lsn, ld⟩ : Lv)).snd).lo, .int .i64 (((⟨lt, false, lsn, ld⟩ : Lv)).snd).hi, .int .i64 (((⟨lt, false, lsn, ld⟩ : Lv)).den).lo, .int .i64 (((⟨lt, false, lsn, ld⟩ : Lv)).den).hi]] W fun e w' => e = .returned (.tuple #[.agg #[.int .i64 (srfE t ⟨lt, false, lsn, ld⟩).lo, .int .i64 (srfE t ⟨lt, false, lsn, ld⟩).hi], .int .i64 0]) ∧ Below W.heap.size W w') := Lib.hid (fun W hW => by have := hold_Surface t ⟨lt, false, lsn, ld⟩ W hW; rwa [be] at this)
      have CW : Hid (∀ W, t.At W → Calls Try.prog 59 #[.agg #[.int .i64 (t).id, .int .i64 ((t).along).lo, .int .i64 ((t).along).hi, .slice ((t).vol).p ((t).vol).n ((t).vol).c, .slice ((t).sur).p ((t).sur).n ((t).sur).c, .slice ((t).hei).p ((t).hei).n ((t).hei).c], .agg #[.int .i64 ((⟨lt, false, lsn, ld⟩ : Lv)).tank, .bool ((⟨lt, false, lsn, ld⟩ : Lv)).pressed, .int .i64 (((⟨lt, false, lsn, ld⟩ : Lv)).snd).lo, .int .i64 (((⟨lt, false, lsn, ld⟩ : Lv)).snd).hi, .int .i64 (((⟨lt, false, lsn, ld⟩ : Lv)).den).lo, .int .i64 (((⟨lt, false, lsn, ld⟩ : Lv)).den).hi]] W fun e w' => e = .returned (.tuple #[.agg #[.int .i64 (((⟨liqE t ⟨lt, false, lsn, ld⟩, t.along, (overE t.hei.ps lsn).1⟩ : Wt)).mass).lo, .int .i64 (((⟨liqE t ⟨lt, false, lsn, ld⟩, t.along, (overE t.hei.ps lsn).1⟩ : Wt)).mass).hi, .int .i64 (((⟨liqE t ⟨lt, false, lsn, ld⟩, t.along, (overE t.hei.ps lsn).1⟩ : Wt)).along).lo, .int .i64 (((⟨liqE t ⟨lt, false, lsn, ld⟩, t.along, (overE t.hei.ps lsn).1⟩ : Wt)).along).hi, .int .i64 (((⟨liqE t ⟨lt, false, lsn, ld⟩, t.along, (overE t.hei.ps lsn).1⟩ : Wt)).high).lo, .int .i64 (((⟨liqE t ⟨lt, false, lsn, ld⟩, t.along, (overE t.hei.ps lsn).1⟩ : Wt)).high).hi], .int .i64 0]) ∧ Below W.heap.size W w') := Lib.hid (fun W hW => by have := hold_Ballast t ⟨lt, false, lsn, ld⟩ W hW; rwa [be, bw] at this)
      clear be bw
      generalize liqE t ⟨lt, false, lsn, ld⟩ = A at *
      generalize hS : srfE t ⟨lt, false, lsn, ld⟩ = S at *
      dsimp only at bi ri
      generalize (overE t.hei.ps lsn).1 = I at *
      have HBP := Lib.hid bp
      have g1 := Int.mul_nonneg v1 hq1
      have g2 : v * q ≤ 1600000000 := by have := Int.mul_le_mul v2 hq2 hq1 (by omega); omega
      have g3 := Int.mul_nonneg o1 hq1
      have g4 : m0 * q ≤ 1600000000 := by have := Int.mul_le_mul o2 hq2 hq1 (by omega); omega
      have WA := Lib.hid (fun W => within_true A (v * q) (1000 * n) W ba (ra.mono (by omega) (by omega)) (by omega))
      have WI := Lib.hid (fun W => within_true I z p W bi (ri.mono (by omega) (by omega)) (by omega))
      have WS := Lib.hid (fun W => within_true S (m0 * q) (1000 * o) W bs (rs.mono (by omega) (by omega)) (by omega))
      clear BO' ba bi bs ra ri rs hS bp
      skip
      go_wp2_with (first | (go_at_call 57; (with_reducible refine (CA.out _ (by with_reducible repeat (first | exact ht | refine Ho.At.alloc ?_ _ | refine Ho.At.bw ?_ _ | refine Tk.At.alloc ?_ _ | refine Tk.At.bw ?_ _ | refine Ho.At.drew ?_ | refine Tk.At.drew ?_))).mono ?_); rintro e w_ ⟨rfl, hb_⟩; obtain ⟨a1, rfl⟩ := Soft.BW.mk hb_; clear hb_) | (go_at_call 58; (with_reducible refine (CB.out _ (by with_reducible repeat (first | exact ht | refine Ho.At.alloc ?_ _ | refine Ho.At.bw ?_ _ | refine Tk.At.alloc ?_ _ | refine Tk.At.bw ?_ _ | refine Ho.At.drew ?_ | refine Tk.At.drew ?_))).mono ?_); rintro e w_ ⟨rfl, hb_⟩; obtain ⟨a2, rfl⟩ := Soft.BW.mk hb_; clear hb_) | (go_at_call 59; (with_reducible refine (CW.out _ (by with_reducible repeat (first | exact ht | refine Ho.At.alloc ?_ _ | refine Ho.At.bw ?_ _ | refine Tk.At.alloc ?_ _ | refine Tk.At.bw ?_ _ | refine Ho.At.drew ?_ | refine Tk.At.drew ?_))).mono ?_); rintro e w_ ⟨rfl, hb_⟩; obtain ⟨a6, rfl⟩ := Soft.BW.mk hb_; clear hb_) | (go_at_call 35; (with_reducible refine (WA.out _).mono ?_); rintro e w_ ⟨rfl, hb_⟩; obtain ⟨b1, rfl⟩ := Soft.BW.mk hb_; clear hb_) | (go_at_call 35; (with_reducible refine (WI.out _).mono ?_); rintro e w_ ⟨rfl, hb_⟩; obtain ⟨b2, rfl⟩ := Soft.BW.mk hb_; clear hb_) | (go_at_call 35; (with_reducible refine (WS.out _).mono ?_); rintro e w_ ⟨rfl, hb_⟩; obtain ⟨b3, rfl⟩ := Soft.BW.mk hb_; clear hb_) | (go_at_call 23; (with_reducible refine (L2_sane _).mono ?_); rintro e w_ ⟨rfl, hb_⟩; obtain ⟨b6, rfl⟩ := Soft.BW.mk hb_; clear hb_))
      go_ret
      refine ⟨rfl, ?_⟩
      (repeat (first | with_reducible exact bel_refl _ | with_reducible refine bel_alloc ?_ _ | with_reducible refine bel_bw _ ?_ | with_reducible refine bel_drew ?_ | with_reducible refine bel_drewN _ ?_ | ((with_reducible refine bel_set ?_ ?_ _); rotate_left; focus (first | (simp; done) | omega | (simp; omega))) | refine bel_step ?_ (by with_reducible assumption)))
    · have BO' := BO.out 0 (by rw [if_pos (.inl rfl)])
      clear BO hz
      have BO' := Lib.hid BO'
      go_wp2_with (first | (go_at_call 56; (with_reducible refine (CLV.out _ (by with_reducible repeat (first | exact ht | refine Ho.At.alloc ?_ _ | refine Ho.At.bw ?_ _ | refine Tk.At.alloc ?_ _ | refine Tk.At.bw ?_ _))).mono ?_); rintro e w_ ⟨rfl, hb_⟩; obtain ⟨z2, rfl⟩ := Soft.BW.mk hb_; clear hb_) | (go_at_call 19; (with_reducible refine (CU.out _).mono ?_); rintro e w_ ⟨rfl, hb_⟩; obtain ⟨s1, rfl⟩ := Soft.BW.mk hb_; clear hb_) | (go_at_call 24; (with_reducible refine (CD.out _).mono ?_); rintro e w_ ⟨rfl, hb_⟩; obtain ⟨s2, rfl⟩ := Soft.BW.mk hb_; clear hb_))
      go_region_held3 (fun W => W.cell? ⟨z1.w.heap.size, 3, none⟩ = some (.slice t.vol.p t.vol.n t.vol.c) ∧ W.cell? ⟨w.heap.size + 1 + 1, 0, none⟩ = some (.slice y.c0.p y.c0.n y.c0.c))
      (first | (go_simp; done) | go_keep)
      (first | (go_at_call 21; refine (((CV0).out _).1 (by with_reducible repeat (first | exact hv0 | refine Tb.At.alloc ?_ _ | refine Tb.At.bw ?_ _ | refine Tb.At.drew ?_)) (by with_reducible repeat (first | exact hy0 | refine Is.At.alloc ?_ _ | refine Is.At.bw ?_ _ | refine Is.At.drew ?_))).mono ?_; rintro e w_ ⟨cg, cn, cc, rfl, hcg, hcat, hb_⟩; obtain ⟨s3, rfl⟩ := Soft.BW.mk hb_; clear hb_ hcg) | (go_at_call 22; refine (((CV0).out _).2 _ _ _ (by with_reducible repeat (first | exact hv0 | refine Tb.At.alloc ?_ _ | refine Tb.At.bw ?_ _ | refine Tb.At.drew ?_)) (by with_reducible repeat (first | exact hcat | refine Is.At.alloc ?_ _ | refine Is.At.bw ?_ _ | refine Is.At.drew ?_))).mono ?_; rintro e w_ ⟨rfl, hb_⟩; obtain ⟨s4, rfl⟩ := Soft.BW.mk hb_; clear hb_))
      go_wp2_with fail
      go_region_held3 (fun W => W.cell? ⟨z1.w.heap.size, 4, none⟩ = some (.slice t.sur.p t.sur.n t.sur.c) ∧ W.cell? ⟨w.heap.size + 1 + 1, 1, none⟩ = some (.slice y.c1.p y.c1.n y.c1.c))
      (first | (go_simp; done) | go_keep)
      (first | (go_at_call 21; refine (((CV1).out _).1 (by with_reducible repeat (first | exact hv1 | refine Tb.At.alloc ?_ _ | refine Tb.At.bw ?_ _ | refine Tb.At.drew ?_)) (by with_reducible repeat (first | exact hy1 | refine Is.At.alloc ?_ _ | refine Is.At.bw ?_ _ | refine Is.At.drew ?_))).mono ?_; rintro e w_ ⟨cg, cn, cc, rfl, hcg, hcat, hb_⟩; obtain ⟨s5, rfl⟩ := Soft.BW.mk hb_; clear hb_ hcg) | (go_at_call 22; refine (((CV1).out _).2 _ _ _ (by with_reducible repeat (first | exact hv1 | refine Tb.At.alloc ?_ _ | refine Tb.At.bw ?_ _ | refine Tb.At.drew ?_)) (by with_reducible repeat (first | exact hcat | refine Is.At.alloc ?_ _ | refine Is.At.bw ?_ _ | refine Is.At.drew ?_))).mono ?_; rintro e w_ ⟨rfl, hb_⟩; obtain ⟨s6, rfl⟩ := Soft.BW.mk hb_; clear hb_))
      go_wp2_with fail
      go_region_held3 (fun W => W.cell? ⟨z1.w.heap.size, 5, none⟩ = some (.slice t.hei.p t.hei.n t.hei.c) ∧ W.cell? ⟨w.heap.size + 1 + 1, 2, none⟩ = some (.slice y.c2.p y.c2.n y.c2.c))
      (first | (go_simp; done) | go_keep)
      (first | (go_at_call 21; refine (((CV2).out _).1 (by with_reducible repeat (first | exact hv2 | refine Tb.At.alloc ?_ _ | refine Tb.At.bw ?_ _ | refine Tb.At.drew ?_)) (by with_reducible repeat (first | exact hy2 | refine Is.At.alloc ?_ _ | refine Is.At.bw ?_ _ | refine Is.At.drew ?_))).mono ?_; rintro e w_ ⟨cg, cn, cc, rfl, hcg, hcat, hb_⟩; obtain ⟨s7, rfl⟩ := Soft.BW.mk hb_; clear hb_ hcg) | (go_at_call 22; refine (((CV2).out _).2 _ _ _ (by with_reducible repeat (first | exact hv2 | refine Tb.At.alloc ?_ _ | refine Tb.At.bw ?_ _ | refine Tb.At.drew ?_)) (by with_reducible repeat (first | exact hcat | refine Is.At.alloc ?_ _ | refine Is.At.bw ?_ _ | refine Is.At.drew ?_))).mono ?_; rintro e w_ ⟨rfl, hb_⟩; obtain ⟨s8, rfl⟩ := Soft.BW.mk hb_; clear hb_))
      clear CV0 CV1 CV2 CU CD
      generalize valN t.vol.ps (curS t.vol.ps y.c0.xs t.vol.ps.length) u = v at *
      generalize valD t.vol.ps u = n at *
      generalize valN t.sur.ps (curS t.sur.ps y.c1.xs t.sur.ps.length) u = m0 at *
      generalize valD t.sur.ps u = o at *
      generalize valN t.hei.ps (curS t.hei.ps y.c2.xs t.hei.ps.length) u = z at *
      generalize valD t.hei.ps u = p at *
      obtain ⟨be, ba, bi, bw, bs, bp, ra, ri, rs, ⟨⟨v1, v2⟩, n1, n2⟩, ⟨⟨o1, o2⟩, o3, o4⟩, ⟨⟨p1, p2⟩, p3, p4⟩⟩ := BO'.out
      have CA : Hid (∀ W, t.At W → Calls Try.prog 57 #[.agg #[.int .i64 (t).id, .int .i64 ((t).along).lo, .int .i64 ((t).along).hi, .slice ((t).vol).p ((t).vol).n ((t).vol).c, .slice ((t).sur).p ((t).sur).n ((t).sur).c, .slice ((t).hei).p ((t).hei).n ((t).hei).c], .agg #[.int .i64 ((⟨lt, true, lsn, ld⟩ : Lv)).tank, .bool ((⟨lt, true, lsn, ld⟩ : Lv)).pressed, .int .i64 (((⟨lt, true, lsn, ld⟩ : Lv)).snd).lo, .int .i64 (((⟨lt, true, lsn, ld⟩ : Lv)).snd).hi, .int .i64 (((⟨lt, true, lsn, ld⟩ : Lv)).den).lo, .int .i64 (((⟨lt, true, lsn, ld⟩ : Lv)).den).hi]] W fun e w' => e = .returned (.tuple #[.agg #[.int .i64 (liqE t ⟨lt, true, lsn, ld⟩).lo, .int .i64 (liqE t ⟨lt, true, lsn, ld⟩).hi], .int .i64 0]) ∧ Below W.heap.size W w') := Lib.hid (fun W hW => by have := hold_Liquid t ⟨lt, true, lsn, ld⟩ W hW; rwa [be] at this)
      have CB : Hid (∀ W, t.At W → Calls Try.prog 58 #[.agg #[.int .i64 (t).id, .int .i64 ((t).along).lo, .int .i64 ((t).along).hi, .slice ((t).vol).p ((t).vol).n ((t).vol).c, .slice ((t).sur).p ((t).sur).n ((t).sur).c, .slice ((t).hei).p ((t).hei).n ((t).hei).c], .agg #[.int .i64 ((⟨lt, true, lsn, ld⟩ : Lv)).tank, .bool ((⟨lt, true, lsn, ld⟩ : Lv)).pressed, .int .i64 (((⟨lt, true, lsn, ld⟩ : Lv)).snd).lo, .int .i64 (((⟨lt, true, lsn, ld⟩ : Lv)).snd).hi, .int .i64 (((⟨lt, true, lsn, ld⟩ : Lv)).den).lo, .int .i64 (((⟨lt, true, lsn, ld⟩ : Lv)).den).hi]] W fun e w' => e = .returned (.tuple #[.agg #[.int .i64 (srfE t ⟨lt, true, lsn, ld⟩).lo, .int .i64 (srfE t ⟨lt, true, lsn, ld⟩).hi], .int .i64 0]) ∧ Below W.heap.size W w') := Lib.hid (fun W hW => by have := hold_Surface t ⟨lt, true, lsn, ld⟩ W hW; rwa [be] at this)
      have CW : Hid (∀ W, t.At W → Calls Try.prog 59 #[.agg #[.int .i64 (t).id, .int .i64 ((t).along).lo, .int .i64 ((t).along).hi, .slice ((t).vol).p ((t).vol).n ((t).vol).c, .slice ((t).sur).p ((t).sur).n ((t).sur).c, .slice ((t).hei).p ((t).hei).n ((t).hei).c], .agg #[.int .i64 ((⟨lt, true, lsn, ld⟩ : Lv)).tank, .bool ((⟨lt, true, lsn, ld⟩ : Lv)).pressed, .int .i64 (((⟨lt, true, lsn, ld⟩ : Lv)).snd).lo, .int .i64 (((⟨lt, true, lsn, ld⟩ : Lv)).snd).hi, .int .i64 (((⟨lt, true, lsn, ld⟩ : Lv)).den).lo, .int .i64 (((⟨lt, true, lsn, ld⟩ : Lv)).den).hi]] W fun e w' => e = .returned (.tuple #[.agg #[.int .i64 (((⟨liqE t ⟨lt, true, lsn, ld⟩, t.along, (overE t.hei.ps lsn).1⟩ : Wt)).mass).lo, .int .i64 (((⟨liqE t ⟨lt, true, lsn, ld⟩, t.along, (overE t.hei.ps lsn).1⟩ : Wt)).mass).hi, .int .i64 (((⟨liqE t ⟨lt, true, lsn, ld⟩, t.along, (overE t.hei.ps lsn).1⟩ : Wt)).along).lo, .int .i64 (((⟨liqE t ⟨lt, true, lsn, ld⟩, t.along, (overE t.hei.ps lsn).1⟩ : Wt)).along).hi, .int .i64 (((⟨liqE t ⟨lt, true, lsn, ld⟩, t.along, (overE t.hei.ps lsn).1⟩ : Wt)).high).lo, .int .i64 (((⟨liqE t ⟨lt, true, lsn, ld⟩, t.along, (overE t.hei.ps lsn).1⟩ : Wt)).high).hi], .int .i64 0]) ∧ Below W.heap.size W w') := Lib.hid (fun W hW => by have := hold_Ballast t ⟨lt, true, lsn, ld⟩ W hW; rwa [be, bw] at this)
      clear be bw
      generalize liqE t ⟨lt, true, lsn, ld⟩ = A at *
      generalize hS : srfE t ⟨lt, true, lsn, ld⟩ = S at *
      dsimp only at bi ri
      generalize (overE t.hei.ps lsn).1 = I at *
      have HBP := Lib.hid bp
      have g1 := Int.mul_nonneg v1 hq1
      have g2 : v * q ≤ 1600000000 := by have := Int.mul_le_mul v2 hq2 hq1 (by omega); omega
      have g3 := Int.mul_nonneg o1 hq1
      have g4 : 0 * q ≤ 1600000000 := by have := Int.mul_le_mul o2 hq2 hq1 (by omega); omega
      have WA := Lib.hid (fun W => within_true A (v * q) (1000 * n) W ba (ra.mono (by omega) (by omega)) (by omega))
      have WI := Lib.hid (fun W => within_true I z p W bi (ri.mono (by omega) (by omega)) (by omega))
      have WS := Lib.hid (fun W => within_true S (0) (1000 * o) W (by rw [Int.zero_mul] at bs; exact bs) (rs.mono (by omega) (by omega)) (by omega))
      clear BO' ba bi bs ra ri rs hS bp
      (have hs0 := HBP.out rfl; subst hs0)
      go_wp2_with (first | (go_at_call 57; (with_reducible refine (CA.out _ (by with_reducible repeat (first | exact ht | refine Ho.At.alloc ?_ _ | refine Ho.At.bw ?_ _ | refine Tk.At.alloc ?_ _ | refine Tk.At.bw ?_ _ | refine Ho.At.drew ?_ | refine Tk.At.drew ?_))).mono ?_); rintro e w_ ⟨rfl, hb_⟩; obtain ⟨a1, rfl⟩ := Soft.BW.mk hb_; clear hb_) | (go_at_call 58; (with_reducible refine (CB.out _ (by with_reducible repeat (first | exact ht | refine Ho.At.alloc ?_ _ | refine Ho.At.bw ?_ _ | refine Tk.At.alloc ?_ _ | refine Tk.At.bw ?_ _ | refine Ho.At.drew ?_ | refine Tk.At.drew ?_))).mono ?_); rintro e w_ ⟨rfl, hb_⟩; obtain ⟨a2, rfl⟩ := Soft.BW.mk hb_; clear hb_) | (go_at_call 59; (with_reducible refine (CW.out _ (by with_reducible repeat (first | exact ht | refine Ho.At.alloc ?_ _ | refine Ho.At.bw ?_ _ | refine Tk.At.alloc ?_ _ | refine Tk.At.bw ?_ _ | refine Ho.At.drew ?_ | refine Tk.At.drew ?_))).mono ?_); rintro e w_ ⟨rfl, hb_⟩; obtain ⟨a6, rfl⟩ := Soft.BW.mk hb_; clear hb_) | (go_at_call 35; (with_reducible refine (WA.out _).mono ?_); rintro e w_ ⟨rfl, hb_⟩; obtain ⟨b1, rfl⟩ := Soft.BW.mk hb_; clear hb_) | (go_at_call 35; (with_reducible refine (WI.out _).mono ?_); rintro e w_ ⟨rfl, hb_⟩; obtain ⟨b2, rfl⟩ := Soft.BW.mk hb_; clear hb_) | (go_at_call 35; (with_reducible refine (WS.out _).mono ?_); rintro e w_ ⟨rfl, hb_⟩; obtain ⟨b3, rfl⟩ := Soft.BW.mk hb_; clear hb_) | (go_at_call 23; (with_reducible refine (L2_sane _).mono ?_); rintro e w_ ⟨rfl, hb_⟩; obtain ⟨b6, rfl⟩ := Soft.BW.mk hb_; clear hb_))
      go_ret
      refine ⟨rfl, ?_⟩
      (repeat (first | with_reducible exact bel_refl _ | with_reducible refine bel_alloc ?_ _ | with_reducible refine bel_bw _ ?_ | with_reducible refine bel_drew ?_ | with_reducible refine bel_drewN _ ?_ | ((with_reducible refine bel_set ?_ ?_ _); rotate_left; focus (first | (simp; done) | omega | (simp; omega))) | refine bel_step ?_ (by with_reducible assumption)))

end Go.Proofs.Ytbjdgaeikihjbaa
