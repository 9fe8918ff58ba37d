/-
  The walk of the law HoldInverts.
  Conditions: each theorem's own premises.
-/
import Derived.Test.YtbjdgaeikihjbaaLinv
import Derived.Test.YtbjdgaeikihjbaaTnk
import Derived.Test.YtbjdgaeikihjbaaNorm
import Derived.Test.YtbjdgaeikihjbaaSanf
import Derived.Test.YtbjdgaeikihjbaaTrut
import Derived.Deep.RegionHeld3
namespace Go.Proofs.Ytbjdgaeikihjbaa
set_option linter.unusedSimpArgs false
set_option linter.unusedVariables false
open Go.RowKit
set_option maxRecDepth 100000
set_option maxHeartbeats 20000000
attribute [local go_sem] Instr.field asAgg Soft.upon Soft.BW.cell_if Soft.BW.frozen_if Soft.cell_alloc_if Soft.frozen_alloc_if



theorem L2_HoldInverts (r : Rw) (y : Tr) (v0 v1 : Int) (w : World) (hr : r.At w) (hy : y.At w) :
    Calls Try.prog 5 #[.agg #[.int .i64 (r).id, .int .i64 (r).first, .slice (r).steps.p (r).steps.n (r).steps.c, .slice (r).vals.p (r).vals.n (r).vals.c], .agg #[.slice (y).c0.p (y).c0.n (y).c0.c, .slice (y).c1.p (y).c1.n (y).c1.c, .slice (y).c2.p (y).c2.n (y).c2.c, .int .i64 (y).place, .int .i64 (y).dense], .agg #[.int .i64 v0, .int .i64 v1]] w fun e w' => e = .returned (.bool true) ∧ Below w.heap.size w w' := by
  have hy0 := hy.c0
  have hy1 := hy.c1
  have td7 := tdiv_i64 hy.dense 7 (by omega)
  obtain ⟨yd1, yd2⟩ := hy.dense
  obtain ⟨td71, td72⟩ := td7
  obtain ⟨k0, hk0⟩ : ∃ z, z = v0 % 5 := ⟨_, rfl⟩
  have k01 := Int.emod_nonneg v0 (show (5 : Int) ≠ 0 by omega)
  have k02 := Int.emod_lt_of_pos v0 (show (0 : Int) < 5 by omega)
  rw [← hk0] at k01 k02
  have HK := Lib.hid hk0; clear hk0
  go_enter Try.func5, Try.ntmps5
  go_wp2_with fail
  refine (R2_Hold r _ (((hr.alloc _).alloc _).alloc _)).mono ?_
  rintro e w1 ⟨h, rfl, hh, hm, hb1⟩
  obtain ⟨z1, rfl⟩ := Soft.BW.mk hb1
  clear hb1
  go_wp2_with fail
  refine (R2_Tank r _ (((((hr.alloc _).alloc _).alloc _).bw z1).alloc _)).mono ?_
  rintro e w1 ⟨t, rfl, ht, hmt, hb1⟩
  obtain ⟨z2, rfl⟩ := Soft.BW.mk hb1
  clear hb1
  have hok := hm.ok
  have htk := hmt.ok
  have ha2 := hok.tabs.1
  have hb2 := htk.tabs.1
  have hae := ha2.ok.ends
  have hbe := hb2.ok.ends
  have han : 1 ≤ h.vol.n := by rw [← hh.1.1]; exact ha2.ok.pos
  have hbn : 1 ≤ t.vol.n := by rw [← ht.1.1]; exact hb2.ok.pos
  have hu := somS_in ⟨firstX h.vol.ps, lastX h.vol.ps⟩ y.place hae.2.1
  have hs := somS_in ⟨firstX t.vol.ps, lastX t.vol.ps⟩ y.place hbe.2.1
  have CU : Hid (∀ W, Calls Try.prog 19 #[.agg #[.int .i64 (firstX h.vol.ps), .int .i64 (lastX h.vol.ps)], .int .i64 y.place] W fun e w' => e = .returned (.int .i64 (somS ⟨firstX h.vol.ps, lastX h.vol.ps⟩ y.place)) ∧ Below W.heap.size W w') := Lib.hid (fun W => L2_somewhere ⟨firstX h.vol.ps, lastX h.vol.ps⟩ _ W ⟨by dsimp only; omega, by dsimp only; omega, by dsimp only; omega⟩)
  have CS : Hid (∀ W, Calls Try.prog 19 #[.agg #[.int .i64 (firstX t.vol.ps), .int .i64 (lastX t.vol.ps)], .int .i64 y.place] W fun e w' => e = .returned (.int .i64 (somS ⟨firstX t.vol.ps, lastX t.vol.ps⟩ y.place)) ∧ Below W.heap.size W w') := Lib.hid (fun W => L2_somewhere ⟨firstX t.vol.ps, lastX t.vol.ps⟩ _ W ⟨by dsimp only; omega, by dsimp only; omega, by dsimp only; omega⟩)
  dsimp only at hu hs
  generalize somS ⟨firstX h.vol.ps, lastX h.vol.ps⟩ y.place = u at *
  generalize somS ⟨firstX t.vol.ps, lastX t.vol.ps⟩ y.place = s at *
  have hrho := denS_in y.dense v1
  have hq := somS_in (denS y.dense v1) (y.dense.tdiv 7) hrho.2.1
  have CDE : Hid (∀ W, Calls Try.prog 17 #[.int .i64 y.dense, .int .i64 v1] W fun e w' => e = .returned (.agg #[.int .i64 ((denS y.dense v1)).lo, .int .i64 ((denS y.dense v1)).hi]) ∧ Below W.heap.size W w') := Lib.hid (fun W => R2_Density _ _ W)
  have CD : Hid (∀ W, Calls Try.prog 24 #[.agg #[.int .i64 ((denS y.dense v1)).lo, .int .i64 ((denS y.dense v1)).hi], .int .i64 (y.dense.tdiv 7)] W fun e w' => e = .returned (.int .i64 (somS (denS y.dense v1) (y.dense.tdiv 7))) ∧ Below W.heap.size W w') := Lib.hid (fun W => L2_dense _ _ W ⟨by have := hrho.1; omega, hrho.2.1, by have := hrho.2.2; omega⟩)
  generalize denS y.dense v1 = rho at *
  generalize somS rho (y.dense.tdiv 7) = q at *
  have hl0 := curS_in ha2.ok y.c0.xs
  have hl1 := curS_in hb2.ok y.c1.xs
  have CVu := Lib.hid (fun W => R2_CurveAt h.vol y.c0 u W ha2 hu)
  have CVs := Lib.hid (fun W => R2_CurveAt t.vol y.c1 s W hb2 hs)
  have va := val_bd hm.vol hm.xs.1 ha2 hl0 (x := u) hu.1 hu.2
  have vb := val_bd hmt.vol hmt.xs.1 hb2 hl1 (x := s) hs.1 hs.2
  have AU := ask_ok hm.vol hm.xs.1 ha2 hl0 hu.1 hu.2 hrho hq (k := k0) (by omega)
  have AS := ask_ok hmt.vol hmt.xs.1 hb2 hl1 hs.1 hs.2 hrho hq (k := 0) (by omega)
  obtain ⟨uE, u1, u2⟩ := ull_has hm hu.1 hu.2 AU
  obtain ⟨sE, s1', s2'⟩ := snd_has htk hs.1 hs.2 AS
  have eS : moreHi (aroS (valN t.vol.ps (curS t.vol.ps y.c1.xs t.vol.ps.length) s * q) (1000 * valD t.vol.ps s)) 0 = aroS (valN t.vol.ps (curS t.vol.ps y.c1.xs t.vol.ps.length) s * q) (1000 * valD t.vol.ps s) := by simp [moreHi]
  rw [eS] at sE s1' s2'
  obtain ⟨n1, n2, n3, n4, _, _, _⟩ := AU
  obtain ⟨m1, m2, m3, m4, _, _, _⟩ := AS
  have hv0 := hh.1
  have hv1 := ht.1
  have CUL : Hid (∀ W, h.At W → Calls Try.prog 38 #[.agg #[.int .i64 (h).id, .int .i64 ((h).along).lo, .int .i64 ((h).along).hi, .slice ((h).vol).p ((h).vol).n ((h).vol).c, .slice ((h).mom).p ((h).mom).n ((h).mom).c, .slice ((h).hei).p ((h).hei).n ((h).hei).c, .int .i64 ((h).tri).lo, .int .i64 ((h).tri).hi, .int .i64 ((h).unt).lo, .int .i64 ((h).unt).hi, .int .i64 ((h).v0).lo, .int .i64 ((h).v0).hi, .int .i64 ((h).h0).lo, .int .i64 ((h).h0).hi], .agg #[.int .i64 (aroS (valN h.vol.ps (curS h.vol.ps y.c0.xs h.vol.ps.length) u * q) (1000 * valD h.vol.ps u)).lo, .int .i64 ((aroS (valN h.vol.ps (curS h.vol.ps y.c0.xs h.vol.ps.length) u * q) (1000 * valD h.vol.ps u)).hi + k0)], .agg #[.int .i64 (rho).lo, .int .i64 (rho).hi]] W fun e w' => e = .returned (.tuple #[.agg #[.int .i64 ((ullE h (moreHi (aroS (valN h.vol.ps (curS h.vol.ps y.c0.xs h.vol.ps.length) u * q) (1000 * valD h.vol.ps u)) k0) rho).1).lo, .int .i64 ((ullE h (moreHi (aroS (valN h.vol.ps (curS h.vol.ps y.c0.xs h.vol.ps.length) u * q) (1000 * valD h.vol.ps u)) k0) rho).1).hi], .int .i64 0]) ∧ Below W.heap.size W w') := Lib.hid (fun W hW => by
    have := hold_Ullage h (moreHi (aroS (valN h.vol.ps (curS h.vol.ps y.c0.xs h.vol.ps.length) u * q) (1000 * valD h.vol.ps u)) k0) rho W hW
    rwa [uE] at this)
  have CSN : Hid (∀ W, t.At W → Calls Try.prog 39 #[.agg #[.int .i64 (t).id, .int .i64 ((t).along).lo, .int .i64 ((t).along).hi, .slice ((t).vol).p ((t).vol).n ((t).vol).c, .slice ((t).sur).p ((t).sur).n ((t).sur).c, .slice ((t).hei).p ((t).hei).n ((t).hei).c], .agg #[.int .i64 ((aroS (valN t.vol.ps (curS t.vol.ps y.c1.xs t.vol.ps.length) s * q) (1000 * valD t.vol.ps s))).lo, .int .i64 ((aroS (valN t.vol.ps (curS t.vol.ps y.c1.xs t.vol.ps.length) s * q) (1000 * valD t.vol.ps s))).hi], .agg #[.int .i64 (rho).lo, .int .i64 (rho).hi]] W fun e w' => e = .returned (.tuple #[.agg #[.int .i64 ((sndE t (aroS (valN t.vol.ps (curS t.vol.ps y.c1.xs t.vol.ps.length) s * q) (1000 * valD t.vol.ps s)) rho).1).lo, .int .i64 ((sndE t (aroS (valN t.vol.ps (curS t.vol.ps y.c1.xs t.vol.ps.length) s * q) (1000 * valD t.vol.ps s)) rho).1).hi], .int .i64 0]) ∧ Below W.heap.size W w') := Lib.hid (fun W hW => by
    have := hold_Sounding t (aroS (valN t.vol.ps (curS t.vol.ps y.c1.xs t.vol.ps.length) s * q) (1000 * valD t.vol.ps s)) rho W hW
    rwa [sE] at this)
  have CA0 : Hid (∀ W, Calls Try.prog 26 #[.int .i64 (valN h.vol.ps (curS h.vol.ps y.c0.xs h.vol.ps.length) u * q), .int .i64 (1000 * valD h.vol.ps u)] W fun e w' => e = .returned (.agg #[.int .i64 ((aroS (valN h.vol.ps (curS h.vol.ps y.c0.xs h.vol.ps.length) u * q) (1000 * valD h.vol.ps u))).lo, .int .i64 ((aroS (valN h.vol.ps (curS h.vol.ps y.c0.xs h.vol.ps.length) u * q) (1000 * valD h.vol.ps u))).hi]) ∧ Below W.heap.size W w') := Lib.hid (fun W => L2_around _ _ W n1 n2 n3 n4)
  have CA1 : Hid (∀ W, Calls Try.prog 26 #[.int .i64 (valN t.vol.ps (curS t.vol.ps y.c1.xs t.vol.ps.length) s * q), .int .i64 (1000 * valD t.vol.ps s)] W fun e w' => e = .returned (.agg #[.int .i64 ((aroS (valN t.vol.ps (curS t.vol.ps y.c1.xs t.vol.ps.length) s * q) (1000 * valD t.vol.ps s))).lo, .int .i64 ((aroS (valN t.vol.ps (curS t.vol.ps y.c1.xs t.vol.ps.length) s * q) (1000 * valD t.vol.ps s))).hi]) ∧ Below W.heap.size W w') := Lib.hid (fun W => L2_around _ _ W m1 m2 m3 m4)
  generalize ullE h (moreHi (aroS (valN h.vol.ps (curS h.vol.ps y.c0.xs h.vol.ps.length) u * q) (1000 * valD h.vol.ps u)) k0) rho = ua at *
  generalize sndE t (aroS (valN t.vol.ps (curS t.vol.ps y.c1.xs t.vol.ps.length) s * q) (1000 * valD t.vol.ps s)) rho = sa at *
  obtain ⟨⟨ual, uau⟩, uae⟩ := ua
  obtain ⟨⟨sal, sau⟩, sae⟩ := sa
  have ar : -9000000000000000000 ≤ (aroS (valN h.vol.ps (curS h.vol.ps y.c0.xs h.vol.ps.length) u * q) (1000 * valD h.vol.ps u)).hi ∧ (aroS (valN h.vol.ps (curS h.vol.ps y.c0.xs h.vol.ps.length) u * q) (1000 * valD h.vol.ps u)).hi ≤ 9000000000000000000 := by
    have e1 := Int.ediv_nonneg n1 (show 0 ≤ 1000 * valD h.vol.ps u by omega)
    have e2 := Int.ediv_le_self (1000 * valD h.vol.ps u) n1
    unfold aroS
    split <;> (dsimp only; omega)
  dsimp only at u1 u2 s1' s2' CUL CSN
  clear hok htk ha2 hb2 hae hbe hu hs hl0 hl1 hm hmt eS uE sE n3 n4 m3 m4 hrho hq
  obtain ⟨A1, A2, B1, B2⟩ := va
  obtain ⟨I1, I2, J1, J2⟩ := vb
  obtain ⟨ar1, ar2⟩ := ar
  have hv0 := hh.1
  have hv1 := ht.1
  go_wp2_with fail
  (refine Soft.region1 [0, 1, 2, 3, 4, 5, 6] 7 [8] _ (by kernel_rfl) (by kernel_rfl) (by kernel_rfl) rfl rfl (by kernel_rfl) ?_; change Soft.wpSoft _ _ _ _ _ [_, _, _, _, _, _, _] _; (repeat (refine Soft.soft_step (fun K hK => ?_); go_simp; (try go_bits); first | (refine hK _ ?_; clear hK K) | (apply Exists.intro; refine ⟨fun x => ?_, hK _ ?_⟩; (first | (go_at_call 20; exact R2_First h.vol _ (by repeat (first | exact hv0 | refine Tb.At.alloc ?_ _ | refine Tb.At.bw ?_ _)) han) | (go_at_call 18; exact R2_Last h.vol _ (by repeat (first | exact hv0 | refine Tb.At.alloc ?_ _ | refine Tb.At.bw ?_ _)) han)); clear hK K))); refine Soft.soft_nil ?_)
  refine ⟨fun b => .pointer (some ⟨b, 0, none⟩), .cells #[.int .i64 0, .int .i64 0] 30, fun x => by go_simp, fun kb xx hnew => ?_⟩
  change wpList _ _ _ [_] _ _
  obtain ⟨N3, x3, rfl, ex⟩ := newSplit hnew
  rw [ex]
  clear hnew ex xx
  refine wpList_store_row rfl 30 _ _ rfl N3.w.heap.size _ rfl rfl 30 _ (HasBlk.below (Soft.heap_new N3.w _) x3.below) (by kernel_rfl) rfl (by kernel_rfl) ?_
  obtain ⟨q3, ex2, ex3⟩ := bwStore x3 #[.int .i64 (firstX h.vol.ps), .int .i64 (lastX h.vol.ps)]
  rw [ex2]
  clear ex2 ex3 x3
  go_wp2_with (first | (go_at_call 19; (with_reducible refine (CU.out _).mono ?_); rintro e w_ ⟨rfl, hb_⟩; obtain ⟨s1, rfl⟩ := Soft.BW.mk hb_; clear hb_) | (go_at_call 17; (with_reducible refine (CDE.out _).mono ?_); rintro e w_ ⟨rfl, hb_⟩; obtain ⟨s2, rfl⟩ := Soft.BW.mk hb_; clear hb_) | (go_at_call 24; (with_reducible refine (CD.out _).mono ?_); rintro e w_ ⟨rfl, hb_⟩; obtain ⟨s3, rfl⟩ := Soft.BW.mk hb_; clear hb_))
  go_region_held3 (fun W => W.cell? ⟨z1.w.heap.size, 3, none⟩ = some (.slice h.vol.p h.vol.n h.vol.c) ∧ W.cell? ⟨w.heap.size + 1, 0, none⟩ = some (.slice y.c0.p y.c0.n y.c0.c))
    (first | (go_simp; done) | go_keep)
    (first | (go_at_call 21; refine ((CVu.out _).1 (by with_reducible repeat (first | exact hv0 | refine Tb.At.alloc ?_ _ | refine Tb.At.bw ?_ _ | refine Tb.At.drew ?_)) (by with_reducible repeat (first | exact hy0 | refine Is.At.alloc ?_ _ | refine Is.At.bw ?_ _ | refine Is.At.drew ?_))).mono ?_; rintro e w_ ⟨cg, cn, cc, rfl, hcg, hcat, hb_⟩; obtain ⟨sC, rfl⟩ := Soft.BW.mk hb_; clear hb_ hcg) | (go_at_call 22; refine ((CVu.out _).2 _ _ _ (by with_reducible repeat (first | exact hv0 | refine Tb.At.alloc ?_ _ | refine Tb.At.bw ?_ _ | refine Tb.At.drew ?_)) (by with_reducible repeat (first | exact hcat | refine Is.At.alloc ?_ _ | refine Is.At.bw ?_ _ | refine Is.At.drew ?_))).mono ?_; rintro e w_ ⟨rfl, hb_⟩; obtain ⟨sV, rfl⟩ := Soft.BW.mk hb_; clear hb_))
  clear CVu
  generalize valN h.vol.ps (curS h.vol.ps y.c0.xs h.vol.ps.length) u = A at *
  generalize valD h.vol.ps u = B at *
  go_wp2_with ((go_at_call 26; (with_reducible refine (CA0.out _).mono ?_); rintro e w_ ⟨rfl, hb_⟩; obtain ⟨s4, rfl⟩ := Soft.BW.mk hb_; clear hb_))
  clear CA0
  generalize aroS (A * q) (1000 * B) = m at *
  (refine Soft.region0 [0, 1, 2, 3, 4, 5, 6] [7] (by kernel_rfl) (by kernel_rfl) (by kernel_rfl) (by kernel_rfl) ?_; change Soft.wpSoft _ _ _ _ _ [_, _, _, _, _, _, _] _; (repeat (refine Soft.soft_step (fun K hK => ?_); go_simp; (try go_bits); first | (refine hK _ ?_; clear hK K) | (apply Exists.intro; refine ⟨fun x => ?_, hK _ ?_⟩; ((go_at_call 37; exact Calls.bel (R2_Mod _ _ k0 _ (by omega) (by omega) HK.out))); clear hK K))); refine Soft.soft_nil ?_; intro xw; change wpList _ _ _ [_] _ _)
  change wpList _ _ _ [_] _ _
  obtain ⟨x9, ex9, ex8⟩ := bwPut xw 1 (.int .i64 (m.hi + k0)) _ rfl
  clear ex8
  go_wp2_with ((go_at_call 38; (with_reducible refine (CUL.out _ (by with_reducible repeat (first | exact hh | refine Ho.At.alloc ?_ _ | refine Ho.At.bw ?_ _ | refine Tk.At.alloc ?_ _ | refine Tk.At.bw ?_ _ | refine Ho.At.drew ?_ | refine Tk.At.drew ?_))).mono ?_); rintro e w_ ⟨rfl, hb_⟩; obtain ⟨s5, rfl⟩ := Soft.BW.mk hb_; clear hb_))
  clear ex9 CUL
  (refine Soft.region0 [0, 1, 2, 3, 4, 5, 6, 7, 8, 9, 10] [] (by kernel_rfl) (by kernel_rfl) (by kernel_rfl) (by kernel_rfl) ?_; change Soft.wpSoft _ _ _ _ _ [_, _, _, _, _, _, _, _, _, _, _] _; (repeat (refine Soft.soft_step (fun K hK => ?_); go_simp; (try go_bits); first | (refine hK _ ?_; clear hK K) | (apply Exists.intro; refine ⟨fun x => ?_, hK _ ?_⟩; (first | (go_at_call 20; exact R2_First t.vol _ (by with_reducible repeat (first | exact hv1 | refine Tb.At.alloc ?_ _ | refine Tb.At.bw ?_ _ | refine Tb.At.drew ?_)) hbn) | (go_at_call 18; exact R2_Last t.vol _ (by with_reducible repeat (first | exact hv1 | refine Tb.At.alloc ?_ _ | refine Tb.At.bw ?_ _ | refine Tb.At.drew ?_)) hbn) | (go_at_call 19; exact CS.out _)); clear hK K))); refine Soft.soft_nil ?_; intro xw; change wpList _ _ _ [] _ _)
  change wpList _ _ _ [] _ _
  go_wp2_with fail
  go_region_held3 (fun W => W.cell? ⟨z2.w.heap.size, 3, none⟩ = some (.slice t.vol.p t.vol.n t.vol.c) ∧ W.cell? ⟨w.heap.size + 1, 1, none⟩ = some (.slice y.c1.p y.c1.n y.c1.c))
    (first | (go_simp; done) | go_keep)
    (first | (go_at_call 21; refine ((CVs.out _).1 (by with_reducible repeat (first | exact hv1 | refine Tb.At.alloc ?_ _ | refine Tb.At.bw ?_ _ | refine Tb.At.drew ?_)) (by with_reducible repeat (first | exact hy1 | refine Is.At.alloc ?_ _ | refine Is.At.bw ?_ _ | refine Is.At.drew ?_))).mono ?_; rintro e w_ ⟨cg, cn, cc, rfl, hcg, hcat, hb_⟩; obtain ⟨sC', rfl⟩ := Soft.BW.mk hb_; clear hb_ hcg) | (go_at_call 22; refine ((CVs.out _).2 _ _ _ (by with_reducible repeat (first | exact hv1 | refine Tb.At.alloc ?_ _ | refine Tb.At.bw ?_ _ | refine Tb.At.drew ?_)) (by with_reducible repeat (first | exact hcat | refine Is.At.alloc ?_ _ | refine Is.At.bw ?_ _ | refine Is.At.drew ?_))).mono ?_; rintro e w_ ⟨rfl, hb_⟩; obtain ⟨sV', rfl⟩ := Soft.BW.mk hb_; clear hb_))
  clear CVs
  generalize valN t.vol.ps (curS t.vol.ps y.c1.xs t.vol.ps.length) s = I at *
  generalize valD t.vol.ps s = J at *
  generalize aroS (I * q) (1000 * J) = mm at *
  go_wp2_with fail
  (refine Soft.region1e 11 13 [0, 1, 2, 3, 4, 5, 6, 7, 8, 9, 10, 11] 12 [13, 14] _ (by kernel_rfl) (by kernel_rfl) (by intro _ _ _ _ _ _ h; dsimp +zetaDelta only [Exit.then] at h ⊢; exact Soft.bodyPost_put h) (by kernel_rfl) (by kernel_rfl) (by decide) rfl rfl (by kernel_rfl) ?_; change Soft.wpSoft _ _ _ _ _ [_, _, _, _, _, _, _, _, _, _, _, _] _; (repeat (refine Soft.soft_step (fun K hK => ?_); go_simp; (try go_bits); first | (refine hK _ ?_; clear hK K) | (apply Exists.intro; refine ⟨fun x => ?_, hK _ ?_⟩; (first | (go_at_call 26; exact CA1.out _) | (go_at_call 39; exact CSN.out _ (by with_reducible repeat (first | exact ht | refine Ho.At.alloc ?_ _ | refine Ho.At.bw ?_ _ | refine Tk.At.alloc ?_ _ | refine Tk.At.bw ?_ _ | refine Ho.At.drew ?_ | refine Tk.At.drew ?_)))); clear hK K))); refine Soft.soft_nil ?_)
  refine ⟨fun b => .pointer (some ⟨b, 0, none⟩), .cells #[.int .i64 0, .int .i64 0] 30, fun x => by go_simp, fun kb xx hnew => ?_⟩
  change wpList _ _ _ [_, _] _ _
  obtain ⟨N13, x13, rfl, ex⟩ := newSplit hnew
  rw [ex]
  clear hnew ex xx
  refine wpList_store_row rfl 30 _ _ rfl N13.w.heap.size _ rfl rfl 30 _ (HasBlk.below (Soft.heap_new N13.w _) x13.below) (by kernel_rfl) rfl (by kernel_rfl) ?_
  obtain ⟨q13, ex2, ex3⟩ := bwStore x13 #[.int .i64 sal, .int .i64 sau]
  rw [ex2]
  clear ex2 ex3 x13
  go_wp2_with ((go_at_call 23; (with_reducible refine (L2_sane _).mono ?_); rintro e w_ ⟨rfl, hb_⟩; obtain ⟨s9, rfl⟩ := Soft.BW.mk hb_; clear hb_))
  go_ret
  refine ⟨rfl, ?_⟩
  (repeat (first | with_reducible exact bel_refl _ | with_reducible refine bel_alloc ?_ _ | with_reducible refine bel_bw _ ?_ | with_reducible refine bel_drew ?_ | with_reducible refine bel_drewN _ ?_ | ((with_reducible refine bel_set ?_ ?_ _); rotate_left; focus (first | (simp; done) | omega | (simp; omega))) | refine bel_step ?_ (by with_reducible assumption)))

end Go.Proofs.Ytbjdgaeikihjbaa
