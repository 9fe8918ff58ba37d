/-
  The walk of the law HoldPoured.
  Conditions: each theorem's own premises.
-/
import Derived.Test.YtbjdgaeikihjbaaLpou
import Derived.Test.YtbjdgaeikihjbaaSanf
import Derived.Test.YtbjdgaeikihjbaaTrut
namespace Go.Proofs.Ytbjdgaeikihjbaa
set_option linter.unusedSimpArgs false
set_option linter.unusedVariables false
open Go.RowKit
set_option maxRecDepth 100000
set_option maxHeartbeats 20000000
attribute [local go_sem] Instr.field asAgg Soft.upon Soft.BW.cell_if Soft.BW.frozen_if Soft.cell_alloc_if Soft.frozen_alloc_if



/-- What lies in the world that the law has come to. -/


theorem L2_HoldPoured (r : Rw) (x0 x1 x2 x3 x4 : Int) (y : Tr) (w : World) (hr : r.At w) (hy : y.At w) :
    Calls Try.prog 3 #[.agg #[.int .i64 (r).id, .int .i64 (r).first, .slice (r).steps.p (r).steps.n (r).steps.c, .slice (r).vals.p (r).vals.n (r).vals.c], .agg #[.int .i64 x0, .int .i64 x1, .int .i64 x2, .int .i64 x3, .int .i64 x4], .agg #[.slice (y).c0.p (y).c0.n (y).c0.c, .slice (y).c1.p (y).c1.n (y).c1.c, .slice (y).c2.p (y).c2.n (y).c2.c, .int .i64 (y).place, .int .i64 (y).dense]] w fun e w' => e = .returned (.bool true) ∧ Below w.heap.size w w' := by
  have hyc := hy.c0
  obtain ⟨yp1, yp2⟩ := hy.place
  obtain ⟨yd1, yd2⟩ := hy.dense
  have tp3 := tdiv_i64 hy.place 3 (by omega)
  have td5 := tdiv_i64 hy.dense 5 (by omega)
  have td11 := tdiv_i64 hy.dense 11 (by omega)
  obtain ⟨tp31, tp32⟩ := tp3
  obtain ⟨td51, td52⟩ := td5
  obtain ⟨td111, td112⟩ := td11
  go_enter Try.func3, Try.ntmps3
  go_wp2_with fail
  refine (R2_Hold r _ (((hr.alloc _).alloc _).alloc _)).mono ?_
  rintro e w1 ⟨h, rfl, hh, hm, hb1⟩
  obtain ⟨z1, rfl⟩ := Soft.BW.mk hb1
  clear hb1
  have hok := hm.ok
  have hF0 := fiS_in hok x0 x1 x2 x3 x4
  have HOK := Lib.hid hok
  have CFI : Hid (∀ W, h.At W → Calls Try.prog 16 #[.agg #[.int .i64 (h).id, .int .i64 ((h).along).lo, .int .i64 ((h).along).hi, .slice ((h).vol).p ((h).vol).n ((h).vol).c, .slice ((h).mom).p ((h).mom).n ((h).mom).c, .slice ((h).hei).p ((h).hei).n ((h).hei).c, .int .i64 ((h).tri).lo, .int .i64 ((h).tri).hi, .int .i64 ((h).unt).lo, .int .i64 ((h).unt).hi, .int .i64 ((h).v0).lo, .int .i64 ((h).v0).hi, .int .i64 ((h).h0).lo, .int .i64 ((h).h0).hi], .agg #[.int .i64 x0, .int .i64 x1, .int .i64 x2, .int .i64 x3, .int .i64 x4]] W fun e w' => e = .returned (.agg #[.int .i64 (fiS h x0 x1 x2 x3 x4).hold, .int .i64 (fiS h x0 x1 x2 x3 x4).state, .int .i64 ((fiS h x0 x1 x2 x3 x4).ull).lo, .int .i64 ((fiS h x0 x1 x2 x3 x4).ull).hi, .int .i64 ((fiS h x0 x1 x2 x3 x4).den).lo, .int .i64 ((fiS h x0 x1 x2 x3 x4).den).hi]) ∧ Below W.heap.size W w') := Lib.hid (fun W hW => R2_Fill h x0 x1 x2 x3 x4 W hW HOK.out)
  generalize fiS h x0 x1 x2 x3 x4 = f0 at *
  have hden : (f0.den.lo = 0 ∧ f0.den.hi = 0 ∧ f0.ull.lo = 0 ∧ f0.ull.hi = 0) ∨ (100 ≤ f0.den.lo) := by
    obtain ⟨_, ⟨_, e1, e2⟩ | ⟨_, _, e⟩ | ⟨_, _, e⟩⟩ := hF0
    · left; rw [e1, e2]; exact ⟨rfl, rfl, rfl, rfl⟩
    · right; exact e.1
    · right; exact e.1
  have hkz : z1.w.heap.size + 1 ≤ (z1.w.alloc (.cells #[.int .i64 (h).id, .int .i64 ((h).along).lo, .int .i64 ((h).along).hi, .slice ((h).vol).p ((h).vol).n ((h).vol).c, .slice ((h).mom).p ((h).mom).n ((h).mom).c, .slice ((h).hei).p ((h).hei).n ((h).hei).c, .int .i64 ((h).tri).lo, .int .i64 ((h).tri).hi, .int .i64 ((h).unt).lo, .int .i64 ((h).unt).hi, .int .i64 ((h).v0).lo, .int .i64 ((h).v0).hi, .int .i64 ((h).h0).lo, .int .i64 ((h).h0).hi] 35)).heap.size := by simp
  have hn : 1 ≤ h.vol.n := by rw [← hh.1.1]; exact hok.tabs.1.ok.pos
  have hl0 := hok.tabs.1.ok.ends
  obtain ⟨hl1, hl2, hl3⟩ := hl0
  rcases hden with ⟨q1, q2, q3, q4⟩ | q1
  · obtain ⟨fh, fs, ⟨ul, uh⟩, ⟨dl, dh⟩⟩ := f0
    dsimp only at *
    subst q1 q2 q3 q4
    have hD := denS_in x3 x4
    have CDE : Hid (∀ W, Calls Try.prog 17 #[.int .i64 x3, .int .i64 x4] W fun e w' => e = .returned (.agg #[.int .i64 ((denS x3 x4)).lo, .int .i64 ((denS x3 x4)).hi]) ∧ Below W.heap.size W w') := Lib.hid (fun W => R2_Density _ _ W)
    generalize denS x3 x4 = D at *
    have hfi : FillIn h ⟨fh, 3, ⟨lastX h.vol.ps, lastX h.vol.ps⟩, D⟩ := by
      obtain ⟨a, _⟩ := hF0
      exact ⟨a, .inr (.inr ⟨⟨by dsimp only; omega, by dsimp only; omega⟩, ⟨hl2, Int.le_refl _, Int.le_refl _⟩, hD⟩)⟩
    go_wp2_with (first | (go_at_call 16; (with_reducible refine (CFI.out _ (by with_reducible repeat (first | exact hh | refine Ho.At.alloc ?_ _ | refine Ho.At.bw ?_ _ | refine Tk.At.alloc ?_ _ | refine Tk.At.bw ?_ _))).mono ?_); rintro e w_ ⟨rfl, hb_⟩; obtain ⟨z2, rfl⟩ := Soft.BW.mk hb_; clear hb_) | (go_at_call 17; (with_reducible refine (CDE.out _).mono ?_); rintro e w_ ⟨rfl, hb_⟩; obtain ⟨z3, rfl⟩ := Soft.BW.mk hb_; clear hb_))
    have zs := z2.below.size
    have zs1 := z1.below.size
    have zs3 := z3.below.size
    simp at zs zs1 zs3
    have E0 : HasBlk ((z3.w.setCell ⟨z2.w.heap.size, 4, none⟩ (.int .i64 D.lo)).setCell ⟨z2.w.heap.size, 5, none⟩ (.int .i64 D.hi)) z2.w.heap.size #[.int .i64 ((⟨fh, 3, ⟨0, 0⟩, D⟩ : Fi)).hold, .int .i64 ((⟨fh, 3, ⟨0, 0⟩, D⟩ : Fi)).state, .int .i64 (((⟨fh, 3, ⟨0, 0⟩, D⟩ : Fi)).ull).lo, .int .i64 (((⟨fh, 3, ⟨0, 0⟩, D⟩ : Fi)).ull).hi, .int .i64 (((⟨fh, 3, ⟨0, 0⟩, D⟩ : Fi)).den).lo, .int .i64 (((⟨fh, 3, ⟨0, 0⟩, D⟩ : Fi)).den).hi] 38 := ((HasBlk.below (c := #[.int .i64 ((⟨fh, 3, ⟨0, 0⟩, ⟨0, 0⟩⟩ : Fi)).hold, .int .i64 ((⟨fh, 3, ⟨0, 0⟩, ⟨0, 0⟩⟩ : Fi)).state, .int .i64 (((⟨fh, 3, ⟨0, 0⟩, ⟨0, 0⟩⟩ : Fi)).ull).lo, .int .i64 (((⟨fh, 3, ⟨0, 0⟩, ⟨0, 0⟩⟩ : Fi)).ull).hi, .int .i64 (((⟨fh, 3, ⟨0, 0⟩, ⟨0, 0⟩⟩ : Fi)).den).lo, .int .i64 (((⟨fh, 3, ⟨0, 0⟩, ⟨0, 0⟩⟩ : Fi)).den).hi]) (Soft.heap_new _ _) z3.below).put 4 _).put 5 _
    have BA : Below (z1.w.alloc (.cells #[.int .i64 (h).id, .int .i64 ((h).along).lo, .int .i64 ((h).along).hi, .slice ((h).vol).p ((h).vol).n ((h).vol).c, .slice ((h).mom).p ((h).mom).n ((h).mom).c, .slice ((h).hei).p ((h).hei).n ((h).hei).c, .int .i64 ((h).tri).lo, .int .i64 ((h).tri).hi, .int .i64 ((h).unt).lo, .int .i64 ((h).unt).hi, .int .i64 ((h).v0).lo, .int .i64 ((h).v0).hi, .int .i64 ((h).h0).lo, .int .i64 ((h).h0).hi] 35)).heap.size (z1.w.alloc (.cells #[.int .i64 (h).id, .int .i64 ((h).along).lo, .int .i64 ((h).along).hi, .slice ((h).vol).p ((h).vol).n ((h).vol).c, .slice ((h).mom).p ((h).mom).n ((h).mom).c, .slice ((h).hei).p ((h).hei).n ((h).hei).c, .int .i64 ((h).tri).lo, .int .i64 ((h).tri).hi, .int .i64 ((h).unt).lo, .int .i64 ((h).unt).hi, .int .i64 ((h).v0).lo, .int .i64 ((h).v0).hi, .int .i64 ((h).h0).lo, .int .i64 ((h).h0).hi] 35)) ((z3.w.setCell ⟨z2.w.heap.size, 4, none⟩ (.int .i64 D.lo)).setCell ⟨z2.w.heap.size, 5, none⟩ (.int .i64 D.hi)) := by (repeat (first | with_reducible exact bel_refl _ | with_reducible refine bel_alloc ?_ _ | with_reducible refine bel_bw _ ?_ | with_reducible refine bel_drew ?_ | with_reducible refine bel_drewN _ ?_ | ((with_reducible refine bel_set ?_ ?_ _); rotate_left; focus (first | (simp; done) | omega | (simp; omega))) | refine bel_step ?_ (by with_reducible assumption)))
    have E1 : HasBlk ((z3.w.setCell ⟨z2.w.heap.size, 4, none⟩ (.int .i64 D.lo)).setCell ⟨z2.w.heap.size, 5, none⟩ (.int .i64 D.hi)) z1.w.heap.size #[.int .i64 (h).id, .int .i64 ((h).along).lo, .int .i64 ((h).along).hi, .slice ((h).vol).p ((h).vol).n ((h).vol).c, .slice ((h).mom).p ((h).mom).n ((h).mom).c, .slice ((h).hei).p ((h).hei).n ((h).hei).c, .int .i64 ((h).tri).lo, .int .i64 ((h).tri).hi, .int .i64 ((h).unt).lo, .int .i64 ((h).unt).hi, .int .i64 ((h).v0).lo, .int .i64 ((h).v0).hi, .int .i64 ((h).h0).lo, .int .i64 ((h).h0).hi] 35 := HasBlk.below (Soft.heap_new _ _) BA
    have F2 : HasBlk (z1.w.alloc (.cells #[.int .i64 (h).id, .int .i64 ((h).along).lo, .int .i64 ((h).along).hi, .slice ((h).vol).p ((h).vol).n ((h).vol).c, .slice ((h).mom).p ((h).mom).n ((h).mom).c, .slice ((h).hei).p ((h).hei).n ((h).hei).c, .int .i64 ((h).tri).lo, .int .i64 ((h).tri).hi, .int .i64 ((h).unt).lo, .int .i64 ((h).unt).hi, .int .i64 ((h).v0).lo, .int .i64 ((h).v0).hi, .int .i64 ((h).h0).lo, .int .i64 ((h).h0).hi] 35)) (w.heap.size + 1 + 1) #[.slice y.c0.p y.c0.n y.c0.c, .slice y.c1.p y.c1.n y.c1.c, .slice y.c2.p y.c2.n y.c2.c, .int .i64 y.place, .int .i64 y.dense] 28 := (by simp only [HasBlk, Soft.BW.heap_if, Soft.heap_alloc_if, Soft.heap_new, Soft.heap_new1, Soft.heap_new2, Soft.heap_new3, Soft.heap_new4, Soft.heap_new5])
    have E2 : HasBlk ((z3.w.setCell ⟨z2.w.heap.size, 4, none⟩ (.int .i64 D.lo)).setCell ⟨z2.w.heap.size, 5, none⟩ (.int .i64 D.hi)) (w.heap.size + 1 + 1) #[.slice y.c0.p y.c0.n y.c0.c, .slice y.c1.p y.c1.n y.c1.c, .slice y.c2.p y.c2.n y.c2.c, .int .i64 y.place, .int .i64 y.dense] 28 := F2.below BA
    have F3 : h.At (z1.w.alloc (.cells #[.int .i64 (h).id, .int .i64 ((h).along).lo, .int .i64 ((h).along).hi, .slice ((h).vol).p ((h).vol).n ((h).vol).c, .slice ((h).mom).p ((h).mom).n ((h).mom).c, .slice ((h).hei).p ((h).hei).n ((h).hei).c, .int .i64 ((h).tri).lo, .int .i64 ((h).tri).hi, .int .i64 ((h).unt).lo, .int .i64 ((h).unt).hi, .int .i64 ((h).v0).lo, .int .i64 ((h).v0).hi, .int .i64 ((h).h0).lo, .int .i64 ((h).h0).hi] 35)) := (by with_reducible repeat (first | exact hh | refine Ho.At.alloc ?_ _ | refine Ho.At.bw ?_ _ | refine Tk.At.alloc ?_ _ | refine Tk.At.bw ?_ _))
    have E3 : h.At ((z3.w.setCell ⟨z2.w.heap.size, 4, none⟩ (.int .i64 D.lo)).setCell ⟨z2.w.heap.size, 5, none⟩ (.int .i64 D.hi)) := ⟨F3.1.same BA, F3.2.1.same BA, F3.2.2.same BA⟩
    have F4 : y.c0.At (z1.w.alloc (.cells #[.int .i64 (h).id, .int .i64 ((h).along).lo, .int .i64 ((h).along).hi, .slice ((h).vol).p ((h).vol).n ((h).vol).c, .slice ((h).mom).p ((h).mom).n ((h).mom).c, .slice ((h).hei).p ((h).hei).n ((h).hei).c, .int .i64 ((h).tri).lo, .int .i64 ((h).tri).hi, .int .i64 ((h).unt).lo, .int .i64 ((h).unt).hi, .int .i64 ((h).v0).lo, .int .i64 ((h).v0).hi, .int .i64 ((h).h0).lo, .int .i64 ((h).h0).hi] 35)) := (by with_reducible repeat (first | exact hyc | refine Is.At.alloc ?_ _ | refine Is.At.bw ?_ _))
    have E4 : y.c0.At ((z3.w.setCell ⟨z2.w.heap.size, 4, none⟩ (.int .i64 D.lo)).setCell ⟨z2.w.heap.size, 5, none⟩ (.int .i64 D.hi)) := F4.below BA
    have F5 : Below w.heap.size w (z1.w.alloc (.cells #[.int .i64 (h).id, .int .i64 ((h).along).lo, .int .i64 ((h).along).hi, .slice ((h).vol).p ((h).vol).n ((h).vol).c, .slice ((h).mom).p ((h).mom).n ((h).mom).c, .slice ((h).hei).p ((h).hei).n ((h).hei).c, .int .i64 ((h).tri).lo, .int .i64 ((h).tri).hi, .int .i64 ((h).unt).lo, .int .i64 ((h).unt).hi, .int .i64 ((h).v0).lo, .int .i64 ((h).v0).hi, .int .i64 ((h).h0).lo, .int .i64 ((h).h0).hi] 35)) := by (repeat (first | with_reducible exact bel_refl _ | with_reducible refine bel_alloc ?_ _ | with_reducible refine bel_bw _ ?_ | with_reducible refine bel_drew ?_ | with_reducible refine bel_drewN _ ?_ | ((with_reducible refine bel_set ?_ ?_ _); rotate_left; focus (first | (simp; done) | omega | (simp; omega))) | refine bel_step ?_ (by with_reducible assumption)))
    have E5 : Below w.heap.size w ((z3.w.setCell ⟨z2.w.heap.size, 4, none⟩ (.int .i64 D.lo)).setCell ⟨z2.w.heap.size, 5, none⟩ (.int .i64 D.hi)) := bel_step F5 BA
    clear F2 F3 F4 F5
    generalize (z3.w.setCell ⟨z2.w.heap.size, 4, none⟩ (.int .i64 D.lo)).setCell ⟨z2.w.heap.size, 5, none⟩ (.int .i64 D.hi) = W7 at *
    clear CDE
    have i0 := Soft.LtH.mk (w := W7) E0.lt
    have i1 := Soft.LtH.mk (w := W7) E1.lt
    have e02 := E0.cell 2
    have e03 := E0.cell 3
    have f02 := E0.frozen 2
    have f03 := E0.frozen 3
    have e13 := E1.cell 3
    have i2 := Soft.LtH.mk (w := W7) E2.lt
    have e23 := E2.cell 3
    simp at e02 e03 e13 e23
    have n1 : ¬(w.heap.size + 1 + 1 = z2.w.heap.size) := by omega
    have n2 : ¬(z2.w.heap.size = w.heap.size + 1 + 1) := by omega
    have H0 := Lib.hid E0; have H1 := Lib.hid E1; have H2 := Lib.hid E2; have H3 := Lib.hid E3; have H4 := Lib.hid E4; have H5 := Lib.hid E5; have HA := Lib.hid BA
    clear E0 E1 E2 E3 E4 E5 BA
    (refine Soft.region0 [0, 1, 2, 3, 4, 5, 6, 7] [8] (by kernel_rfl) (by kernel_rfl) (by kernel_rfl) (by kernel_rfl) ?_; change Soft.wpSoft _ _ _ _ _ [_, _, _, _, _, _, _, _] _; (repeat (refine Soft.soft_step (fun K hK => ?_); go_simp; (try go_bits); first | (refine hK _ ?_; clear hK K) | (apply Exists.intro; refine ⟨fun x => ?_, hK _ ?_⟩; (first | (go_at_call 18; exact R2_Last h.vol _ (by repeat (first | exact H3.out.1 | refine Tb.At.alloc ?_ _ | refine Tb.At.bw ?_ _)) hn)); clear hK K))); refine Soft.soft_nil ?_; intro xw; change wpList _ _ _ [_] _ _)
    change wpList _ _ _ [_] _ _
    go_wp2_with fail
    have G0 : HasBlk ((xw.w.setCell ⟨z2.w.heap.size, 2, none⟩ (.int .i64 (lastX h.vol.ps))).setCell ⟨z2.w.heap.size, 3, none⟩ (.int .i64 (lastX h.vol.ps))) z2.w.heap.size #[.int .i64 ((⟨fh, 3, ⟨lastX h.vol.ps, lastX h.vol.ps⟩, D⟩ : Fi)).hold, .int .i64 ((⟨fh, 3, ⟨lastX h.vol.ps, lastX h.vol.ps⟩, D⟩ : Fi)).state, .int .i64 (((⟨fh, 3, ⟨lastX h.vol.ps, lastX h.vol.ps⟩, D⟩ : Fi)).ull).lo, .int .i64 (((⟨fh, 3, ⟨lastX h.vol.ps, lastX h.vol.ps⟩, D⟩ : Fi)).ull).hi, .int .i64 (((⟨fh, 3, ⟨lastX h.vol.ps, lastX h.vol.ps⟩, D⟩ : Fi)).den).lo, .int .i64 (((⟨fh, 3, ⟨lastX h.vol.ps, lastX h.vol.ps⟩, D⟩ : Fi)).den).hi] 38 := ((H0.out.below xw.below).put 2 _).put 3 _
    have G1 : HasBlk ((xw.w.setCell ⟨z2.w.heap.size, 2, none⟩ (.int .i64 (lastX h.vol.ps))).setCell ⟨z2.w.heap.size, 3, none⟩ (.int .i64 (lastX h.vol.ps))) z1.w.heap.size #[.int .i64 (h).id, .int .i64 ((h).along).lo, .int .i64 ((h).along).hi, .slice ((h).vol).p ((h).vol).n ((h).vol).c, .slice ((h).mom).p ((h).mom).n ((h).mom).c, .slice ((h).hei).p ((h).hei).n ((h).hei).c, .int .i64 ((h).tri).lo, .int .i64 ((h).tri).hi, .int .i64 ((h).unt).lo, .int .i64 ((h).unt).hi, .int .i64 ((h).v0).lo, .int .i64 ((h).v0).hi, .int .i64 ((h).h0).lo, .int .i64 ((h).h0).hi] 35 := ((H1.out.below xw.below).set_other (by dsimp only; omega) _).set_other (by dsimp only; omega) _
    have G2 : HasBlk ((xw.w.setCell ⟨z2.w.heap.size, 2, none⟩ (.int .i64 (lastX h.vol.ps))).setCell ⟨z2.w.heap.size, 3, none⟩ (.int .i64 (lastX h.vol.ps))) (w.heap.size + 1 + 1) #[.slice y.c0.p y.c0.n y.c0.c, .slice y.c1.p y.c1.n y.c1.c, .slice y.c2.p y.c2.n y.c2.c, .int .i64 y.place, .int .i64 y.dense] 28 := ((H2.out.below xw.below).set_other (by dsimp only; omega) _).set_other (by dsimp only; omega) _
    have GA : Below (z1.w.alloc (.cells #[.int .i64 (h).id, .int .i64 ((h).along).lo, .int .i64 ((h).along).hi, .slice ((h).vol).p ((h).vol).n ((h).vol).c, .slice ((h).mom).p ((h).mom).n ((h).mom).c, .slice ((h).hei).p ((h).hei).n ((h).hei).c, .int .i64 ((h).tri).lo, .int .i64 ((h).tri).hi, .int .i64 ((h).unt).lo, .int .i64 ((h).unt).hi, .int .i64 ((h).v0).lo, .int .i64 ((h).v0).hi, .int .i64 ((h).h0).lo, .int .i64 ((h).h0).hi] 35)).heap.size (z1.w.alloc (.cells #[.int .i64 (h).id, .int .i64 ((h).along).lo, .int .i64 ((h).along).hi, .slice ((h).vol).p ((h).vol).n ((h).vol).c, .slice ((h).mom).p ((h).mom).n ((h).mom).c, .slice ((h).hei).p ((h).hei).n ((h).hei).c, .int .i64 ((h).tri).lo, .int .i64 ((h).tri).hi, .int .i64 ((h).unt).lo, .int .i64 ((h).unt).hi, .int .i64 ((h).v0).lo, .int .i64 ((h).v0).hi, .int .i64 ((h).h0).lo, .int .i64 ((h).h0).hi] 35)) ((xw.w.setCell ⟨z2.w.heap.size, 2, none⟩ (.int .i64 (lastX h.vol.ps))).setCell ⟨z2.w.heap.size, 3, none⟩ (.int .i64 (lastX h.vol.ps))) := bel_set (bel_set (bel_bw xw HA.out) (by simp; omega) _) (by simp; omega) _
    have F3 : h.At (z1.w.alloc (.cells #[.int .i64 (h).id, .int .i64 ((h).along).lo, .int .i64 ((h).along).hi, .slice ((h).vol).p ((h).vol).n ((h).vol).c, .slice ((h).mom).p ((h).mom).n ((h).mom).c, .slice ((h).hei).p ((h).hei).n ((h).hei).c, .int .i64 ((h).tri).lo, .int .i64 ((h).tri).hi, .int .i64 ((h).unt).lo, .int .i64 ((h).unt).hi, .int .i64 ((h).v0).lo, .int .i64 ((h).v0).hi, .int .i64 ((h).h0).lo, .int .i64 ((h).h0).hi] 35)) := (by with_reducible repeat (first | exact hh | refine Ho.At.alloc ?_ _ | refine Ho.At.bw ?_ _ | refine Tk.At.alloc ?_ _ | refine Tk.At.bw ?_ _))
    have F4 : y.c0.At (z1.w.alloc (.cells #[.int .i64 (h).id, .int .i64 ((h).along).lo, .int .i64 ((h).along).hi, .slice ((h).vol).p ((h).vol).n ((h).vol).c, .slice ((h).mom).p ((h).mom).n ((h).mom).c, .slice ((h).hei).p ((h).hei).n ((h).hei).c, .int .i64 ((h).tri).lo, .int .i64 ((h).tri).hi, .int .i64 ((h).unt).lo, .int .i64 ((h).unt).hi, .int .i64 ((h).v0).lo, .int .i64 ((h).v0).hi, .int .i64 ((h).h0).lo, .int .i64 ((h).h0).hi] 35)) := (by with_reducible repeat (first | exact hyc | refine Is.At.alloc ?_ _ | refine Is.At.bw ?_ _))
    have F5 : Below w.heap.size w (z1.w.alloc (.cells #[.int .i64 (h).id, .int .i64 ((h).along).lo, .int .i64 ((h).along).hi, .slice ((h).vol).p ((h).vol).n ((h).vol).c, .slice ((h).mom).p ((h).mom).n ((h).mom).c, .slice ((h).hei).p ((h).hei).n ((h).hei).c, .int .i64 ((h).tri).lo, .int .i64 ((h).tri).hi, .int .i64 ((h).unt).lo, .int .i64 ((h).unt).hi, .int .i64 ((h).v0).lo, .int .i64 ((h).v0).hi, .int .i64 ((h).h0).lo, .int .i64 ((h).h0).hi] 35)) := by (repeat (first | with_reducible exact bel_refl _ | with_reducible refine bel_alloc ?_ _ | with_reducible refine bel_bw _ ?_ | with_reducible refine bel_drew ?_ | with_reducible refine bel_drewN _ ?_ | ((with_reducible refine bel_set ?_ ?_ _); rotate_left; focus (first | (simp; done) | omega | (simp; omega))) | refine bel_step ?_ (by with_reducible assumption)))
    clear e02 e03 f02 f03 e13 e23 i0 i1 i2 H0 H1 H2 H3 H4 H5 HA n1 n2
    generalize (xw.w.setCell ⟨z2.w.heap.size, 2, none⟩ (.int .i64 (lastX h.vol.ps))).setCell ⟨z2.w.heap.size, 3, none⟩ (.int .i64 (lastX h.vol.ps)) = W8 at *
    have E0 := G0
    have E1 := G1
    have E2 := G2
    have E3 : h.At W8 := ⟨F3.1.same GA, F3.2.1.same GA, F3.2.2.same GA⟩
    have E4 : y.c0.At W8 := F4.below GA
    have E5 : Below w.heap.size w W8 := bel_step F5 GA
    clear F3 F4 F5 G0 G1 G2 GA hyc CFI hn hl1 hl2 hl3
    have hpart : isPart (⟨lastX h.vol.ps, lastX h.vol.ps⟩ : Rg) (firstX h.vol.ps) (lastX h.vol.ps) := by
      obtain ⟨_, ⟨e, _⟩ | ⟨e, _⟩ | ⟨_, hp, _⟩⟩ := hfi
      · dsimp only at e; omega
      · dsimp only at e; omega
      · exact hp
    have ht2 := hok.tabs.1
    have hend := ht2.ok.ends
    obtain ⟨p1, p2, p3⟩ := hpart
    have hu := somS_in (⟨lastX h.vol.ps, lastX h.vol.ps⟩ : Rg) y.place p2
    have CU : Hid (∀ W, Calls Try.prog 19 #[.agg #[.int .i64 ((⟨lastX h.vol.ps, lastX h.vol.ps⟩ : Rg)).lo, .int .i64 ((⟨lastX h.vol.ps, lastX h.vol.ps⟩ : Rg)).hi], .int .i64 y.place] W fun e w' => e = .returned (.int .i64 (somS (⟨lastX h.vol.ps, lastX h.vol.ps⟩ : Rg) y.place)) ∧ Below W.heap.size W w') := Lib.hid (fun W => L2_somewhere (⟨lastX h.vol.ps, lastX h.vol.ps⟩ : Rg) y.place W ⟨by omega, p2, by omega⟩)
    generalize somS (⟨lastX h.vol.ps, lastX h.vol.ps⟩ : Rg) y.place = u at *
    have hto := somS_in ⟨firstX h.vol.ps, u⟩ (y.place.tdiv 3) (by dsimp only; omega)
    have CT : Hid (∀ W, Calls Try.prog 19 #[.agg #[.int .i64 (firstX h.vol.ps), .int .i64 u], .int .i64 (y.place.tdiv 3)] W fun e w' => e = .returned (.int .i64 (somS ⟨firstX h.vol.ps, u⟩ (y.place.tdiv 3))) ∧ Below W.heap.size W w') := Lib.hid (fun W => L2_somewhere ⟨firstX h.vol.ps, u⟩ (y.place.tdiv 3) W ⟨by dsimp only; omega, by dsimp only; omega, by dsimp only; omega⟩)
    dsimp only at hto
    generalize somS ⟨firstX h.vol.ps, u⟩ (y.place.tdiv 3) = to at *
    have hl := curS_in ht2.ok y.c0.xs
    have hn : 1 ≤ h.vol.n := by rw [← hh.1.1]; exact ht2.ok.pos
    have CC : Hid (∀ W, h.vol.At W → y.c0.At W → Calls Try.prog 21 #[.agg #[.slice (h.vol).p (h.vol).n (h.vol).c], .slice y.c0.p y.c0.n y.c0.c] W (CurvePost h.vol.ps y.c0.xs W)) := Lib.hid (fun W h1 h2 => R2_Curve h.vol y.c0 W h1 h2 ht2.ok)
    have HM := Lib.hid hm; have HFI := Lib.hid hfi; have HT2 := Lib.hid ht2; have HL := Lib.hid hl
    obtain ⟨u1, u2⟩ := hu
    obtain ⟨to1, to2⟩ := hto
    have va := val_bd hm.vol hm.xs.1 ht2 hl (x := u) (by omega) (by omega)
    have vb := val_bd hm.vol hm.xs.1 ht2 hl (x := to) (by omega) (by omega)
    have PP := Lib.hid (fun rho q (h1 : isDen rho) (h2 : rho.lo ≤ q ∧ q ≤ rho.hi) (h3 : 0 ≤ valN h.vol.ps (curS h.vol.ps y.c0.xs h.vol.ps.length) to * valD h.vol.ps u - valN h.vol.ps (curS h.vol.ps y.c0.xs h.vol.ps.length) u * valD h.vol.ps to) => poured_plain hm hfi rfl ⟨u1, u2⟩ ⟨to1, to2⟩ hl h1 h2 rfl h3)
    have CV : Hid (∀ (s : Is) x W, s.xs = curS h.vol.ps y.c0.xs h.vol.ps.length → s.At W → h.vol.At W → firstX h.vol.ps ≤ x ∧ x ≤ lastX h.vol.ps → Calls Try.prog 22 #[.agg #[.slice (h.vol).p (h.vol).n (h.vol).c], .slice s.p s.n s.c, .int .i64 x] W fun e w' => e = .returned (.tuple #[.int .i64 (valN h.vol.ps (curS h.vol.ps y.c0.xs h.vol.ps.length) x), .int .i64 (valD h.vol.ps x)]) ∧ Below W.heap.size W w') := Lib.hid (fun s x W e hs hv hx => by
      have := R2_Value h.vol s x W hv hs HT2.out (by rw [e]; exact HL.out) hx
      rwa [e] at this)
    clear hm hfi ht2 hl hF0 hok
    generalize hcur : curS h.vol.ps y.c0.xs h.vol.ps.length = l at *
    have HC := Lib.hid hcur
    clear hcur
    have i0 := Soft.LtH.mk (w := W8) E0.lt
    have i1 := Soft.LtH.mk (w := W8) E1.lt
    have i2 := Soft.LtH.mk (w := W8) E2.lt
    have e00 := E0.cell 0
    have e01 := E0.cell 1
    have e02 := E0.cell 2
    have e03 := E0.cell 3
    have e04 := E0.cell 4
    have e05 := E0.cell 5
    have e13 := E1.cell 3
    have e20 := E2.cell 0
    have e23 := E2.cell 3
    have e24 := E2.cell 4
    simp at e00 e01 e02 e03 e04 e05 e13 e20 e23 e24
    have HE1 := Lib.hid E1; have HE0 := Lib.hid E0
    have BB := Lib.hid E5
    clear E0 E1 E2 E5
    refine (CU.out _).mono ?_
    rintro e w_ ⟨rfl, hb_⟩
    obtain ⟨s1, rfl⟩ := Soft.BW.mk hb_
    clear hb_
    go_wp2_with fail
    (refine Soft.region0 [0, 1, 2, 3, 4, 5, 6, 7, 8, 9] [] (by kernel_rfl) (by kernel_rfl) (by kernel_rfl) (by kernel_rfl) ?_; change Soft.wpSoft _ _ _ _ _ [_, _, _, _, _, _, _, _, _, _] _; (repeat (refine Soft.soft_step (fun K hK => ?_); go_simp; (try go_bits); first | (refine hK _ ?_; clear hK K) | (apply Exists.intro; refine ⟨fun x => ?_, hK _ ?_⟩; (first | (go_at_call 20; exact R2_First h.vol _ (by repeat (first | exact E3.1 | refine Tb.At.alloc ?_ _ | refine Tb.At.bw ?_ _)) hn) | (go_at_call 19; exact CT.out _)); clear hK K))); refine Soft.soft_nil ?_; intro xw; change wpList _ _ _ [] _ _)
    go_wp2_with (go_at_call 21; refine (CC.out _ (by repeat (first | exact E3.1 | refine Tb.At.alloc ?_ _ | refine Tb.At.bw ?_ _)) (by with_reducible repeat (first | exact E4 | refine Is.At.alloc ?_ _ | refine Is.At.bw ?_ _))).mono ?_; rintro e w_ ⟨cg, cn, cc, rfl, hcg, hcat, hb_⟩; obtain ⟨s2, rfl⟩ := Soft.BW.mk hb_; clear hb_ hcg)
    refine (CV.out ⟨some ⟨cg, 0, none⟩, cn, cc, curS h.vol.ps y.c0.xs h.vol.ps.length⟩ _ _ HC.out (by with_reducible repeat (first | exact hcat | refine Is.At.alloc ?_ _ | refine Is.At.bw ?_ _)) (by repeat (first | exact E3.1 | refine Tb.At.alloc ?_ _ | refine Tb.At.bw ?_ _)) (by omega)).mono ?_
    rintro e w_ ⟨rfl, hb_⟩
    obtain ⟨s3, rfl⟩ := Soft.BW.mk hb_
    clear hb_
    go_wp2_with fail
    refine (CV.out ⟨some ⟨cg, 0, none⟩, cn, cc, curS h.vol.ps y.c0.xs h.vol.ps.length⟩ _ _ HC.out (by with_reducible repeat (first | exact hcat | refine Is.At.alloc ?_ _ | refine Is.At.bw ?_ _)) (by repeat (first | exact E3.1 | refine Tb.At.alloc ?_ _ | refine Tb.At.bw ?_ _)) (by omega)).mono ?_
    rintro e w_ ⟨rfl, hb_⟩
    obtain ⟨s4, rfl⟩ := Soft.BW.mk hb_
    clear hb_ CV
    generalize valN h.vol.ps l u = A at *
    generalize valD h.vol.ps u = B at *
    generalize valN h.vol.ps l to = I at *
    generalize valD h.vol.ps to = J at *
    obtain ⟨A1, A2, B1, B2⟩ := va
    obtain ⟨I1, I2, J1, J2⟩ := vb
    have k1 : 0 ≤ I * B ∧ I * B ≤ 32000000 := ⟨Int.mul_nonneg I1 (by omega), by have := Int.mul_le_mul I2 B2 (by omega) (by omega); omega⟩
    have k2 : 0 ≤ A * J ∧ A * J ≤ 32000000 := ⟨Int.mul_nonneg A1 (by omega), by have := Int.mul_le_mul A2 J2 (by omega) (by omega); omega⟩
    obtain ⟨k11, k12⟩ := k1
    obtain ⟨k21, k22⟩ := k2
    by_cases hneg : I * B - A * J < 0
    · clear PP
      go_wp2_with ((go_at_call 23; (with_reducible refine (L2_sane _).mono ?_); rintro e w_ ⟨rfl, hb_⟩; obtain ⟨s5, rfl⟩ := Soft.BW.mk hb_; clear hb_))
      go_ret
      refine ⟨rfl, ?_⟩
      (repeat (first | with_reducible exact bel_refl _ | with_reducible refine bel_alloc ?_ _ | with_reducible refine bel_bw _ ?_ | with_reducible refine bel_drew ?_ | with_reducible refine bel_drewN _ ?_ | ((with_reducible refine bel_set ?_ ?_ _); rotate_left; focus (first | (simp; done) | omega | (simp; omega))) | refine bel_step ?_ (by with_reducible assumption)))
      exact BB.out
    · have hpos : 0 ≤ I * B - A * J := by omega
      have hrho := denS_in y.dense (y.dense.tdiv 5)
      have hq := somS_in (denS y.dense (y.dense.tdiv 5)) (y.dense.tdiv 11) hrho.2.1
      obtain ⟨⟨n1, n2, n3, n4⟩, PO⟩ := PP.out _ _ hrho hq hpos
      have CD : Hid (∀ W, Calls Try.prog 17 #[.int .i64 y.dense, .int .i64 (y.dense.tdiv 5)] W fun e w' => e = .returned (.agg #[.int .i64 ((denS y.dense (y.dense.tdiv 5))).lo, .int .i64 ((denS y.dense (y.dense.tdiv 5))).hi]) ∧ Below W.heap.size W w') := Lib.hid (fun W => R2_Density _ _ W)
      have CS : Hid (∀ W, Calls Try.prog 24 #[.agg #[.int .i64 ((denS y.dense (y.dense.tdiv 5))).lo, .int .i64 ((denS y.dense (y.dense.tdiv 5))).hi], .int .i64 (y.dense.tdiv 11)] W fun e w' => e = .returned (.int .i64 (somS (denS y.dense (y.dense.tdiv 5)) (y.dense.tdiv 11))) ∧ Below W.heap.size W w') := Lib.hid (fun W => L2_dense _ _ W ⟨by have := hrho.1; omega, hrho.2.1, by have := hrho.2.2; omega⟩)
      generalize denS y.dense (y.dense.tdiv 5) = rho at *
      generalize somS rho (y.dense.tdiv 11) = q at *
      have CA : Hid (∀ W, Calls Try.prog 26 #[.int .i64 ((I * B - A * J) * q), .int .i64 (1000 * B * J)] W fun e w' => e = .returned (.agg #[.int .i64 ((aroS ((I * B - A * J) * q) (1000 * B * J))).lo, .int .i64 ((aroS ((I * B - A * J) * q) (1000 * B * J))).hi]) ∧ Below W.heap.size W w') := Lib.hid (fun W => L2_around _ _ W n1 n2 n3 n4)
      generalize aroS ((I * B - A * J) * q) (1000 * B * J) = m at *
      have CP : Hid (∀ W, h.At W → Calls Try.prog 25 #[.agg #[.int .i64 (h).id, .int .i64 ((h).along).lo, .int .i64 ((h).along).hi, .slice ((h).vol).p ((h).vol).n ((h).vol).c, .slice ((h).mom).p ((h).mom).n ((h).mom).c, .slice ((h).hei).p ((h).hei).n ((h).hei).c, .int .i64 ((h).tri).lo, .int .i64 ((h).tri).hi, .int .i64 ((h).unt).lo, .int .i64 ((h).unt).hi, .int .i64 ((h).v0).lo, .int .i64 ((h).v0).hi, .int .i64 ((h).h0).lo, .int .i64 ((h).h0).hi], .agg #[.int .i64 ((⟨fh, 3, ⟨lastX h.vol.ps, lastX h.vol.ps⟩, D⟩ : Fi)).hold, .int .i64 ((⟨fh, 3, ⟨lastX h.vol.ps, lastX h.vol.ps⟩, D⟩ : Fi)).state, .int .i64 (((⟨fh, 3, ⟨lastX h.vol.ps, lastX h.vol.ps⟩, D⟩ : Fi)).ull).lo, .int .i64 (((⟨fh, 3, ⟨lastX h.vol.ps, lastX h.vol.ps⟩, D⟩ : Fi)).ull).hi, .int .i64 (((⟨fh, 3, ⟨lastX h.vol.ps, lastX h.vol.ps⟩, D⟩ : Fi)).den).lo, .int .i64 (((⟨fh, 3, ⟨lastX h.vol.ps, lastX h.vol.ps⟩, D⟩ : Fi)).den).hi], .agg #[.int .i64 (m).lo, .int .i64 (m).hi], .agg #[.int .i64 (rho).lo, .int .i64 (rho).hi]] W fun e w' => e = .returned (.tuple #[.agg #[.int .i64 ((pourE h (⟨fh, 3, ⟨lastX h.vol.ps, lastX h.vol.ps⟩, D⟩ : Fi) m rho).1).hold, .int .i64 ((pourE h (⟨fh, 3, ⟨lastX h.vol.ps, lastX h.vol.ps⟩, D⟩ : Fi) m rho).1).state, .int .i64 (((pourE h (⟨fh, 3, ⟨lastX h.vol.ps, lastX h.vol.ps⟩, D⟩ : Fi) m rho).1).ull).lo, .int .i64 (((pourE h (⟨fh, 3, ⟨lastX h.vol.ps, lastX h.vol.ps⟩, D⟩ : Fi) m rho).1).ull).hi, .int .i64 (((pourE h (⟨fh, 3, ⟨lastX h.vol.ps, lastX h.vol.ps⟩, D⟩ : Fi) m rho).1).den).lo, .int .i64 (((pourE h (⟨fh, 3, ⟨lastX h.vol.ps, lastX h.vol.ps⟩, D⟩ : Fi) m rho).1).den).hi], .int .i64 (pourE h (⟨fh, 3, ⟨lastX h.vol.ps, lastX h.vol.ps⟩, D⟩ : Fi) m rho).2]) ∧ Below W.heap.size W w') := Lib.hid (fun W hW => hold_Pour h (⟨fh, 3, ⟨lastX h.vol.ps, lastX h.vol.ps⟩, D⟩ : Fi) m rho W hW)
      obtain ⟨g1, g2, g3, g4, g5, g6⟩ := PO
      generalize pourE h (⟨fh, 3, ⟨lastX h.vol.ps, lastX h.vol.ps⟩, D⟩ : Fi) m rho = ge at *
      obtain ⟨⟨gh, gs, ⟨gl, gu⟩, gd⟩, ger⟩ := ge
      dsimp only at g1 g2 g3 g4 g5 g6
      subst g1 g2
      obtain ⟨rh1, rh2, rh3⟩ := hrho
      obtain ⟨q1_, q2_⟩ := hq
      clear PP
      have hnd : decide (I * B - A * J < 0) = false := decide_eq_false hneg
      go_wp2_with (first | (go_at_call 17; (with_reducible refine (CD.out _).mono ?_); rintro e w_ ⟨rfl, hb_⟩; obtain ⟨s5, rfl⟩ := Soft.BW.mk hb_; clear hb_) | (go_at_call 24; (with_reducible refine (CS.out _).mono ?_); rintro e w_ ⟨rfl, hb_⟩; obtain ⟨s6, rfl⟩ := Soft.BW.mk hb_; clear hb_))
      have hb0 := HE1.out.cell 0
      have hb1 := HE1.out.cell 1
      have hb2 := HE1.out.cell 2
      have hb3 := HE1.out.cell 3
      have hb4 := HE1.out.cell 4
      have hb5 := HE1.out.cell 5
      have hb6 := HE1.out.cell 6
      have hb7 := HE1.out.cell 7
      have hb8 := HE1.out.cell 8
      have hb9 := HE1.out.cell 9
      have hb10 := HE1.out.cell 10
      have hb11 := HE1.out.cell 11
      have hb12 := HE1.out.cell 12
      have hb13 := HE1.out.cell 13
      simp at hb0 hb1 hb2 hb3 hb4 hb5 hb6 hb7 hb8 hb9 hb10 hb11 hb12 hb13
      (refine Soft.region1e 14 16 [0, 1, 2, 3, 4, 5, 6, 7, 8, 9, 10, 11, 12, 13, 14] 15 [16, 17] _ (by kernel_rfl) (by kernel_rfl) (by intro _ _ _ _ _ _ h; dsimp +zetaDelta only [Exit.then] at h ⊢; exact Soft.bodyPost_put h) (by kernel_rfl) (by kernel_rfl) (by decide) rfl rfl (by kernel_rfl) ?_; change Soft.wpSoft _ _ _ _ _ [_, _, _, _, _, _, _, _, _, _, _, _, _, _, _] _; (repeat (refine Soft.soft_step (fun K hK => ?_); go_simp; (try go_bits); first | (refine hK _ ?_; clear hK K) | (apply Exists.intro; refine ⟨fun x => ?_, hK _ ?_⟩; (first | (go_at_call 26; exact CA.out _) | (go_at_call 25; exact CP.out _ (by with_reducible repeat (first | exact E3 | refine Ho.At.alloc ?_ _ | refine Ho.At.bw ?_ _ | refine Tk.At.alloc ?_ _ | refine Tk.At.bw ?_ _)))); clear hK K))); refine Soft.soft_nil ?_)
      refine ⟨fun b => .pointer (some ⟨b, 0, none⟩), .cells #[.int .i64 0, .int .i64 0, .int .i64 0, .int .i64 0, .int .i64 0, .int .i64 0] 38, fun x => by go_simp, fun kb xx hnew => ?_⟩
      change wpList _ _ _ [_, _] _ _
      have ka0 := hnew.le
      have sz1 := s1.below.size
      have szx := xw.below.size
      have sz2 := s2.below.size
      have sz3 := s3.below.size
      have sz4 := s4.below.size
      have sz5 := s5.below.size
      have sz6 := s6.below.size
      have sl8 := i0.lt
      simp at ka0 sz6
      have C0 : HasBlk xx.w z2.w.heap.size #[.int .i64 ((⟨fh, 3, ⟨lastX h.vol.ps, lastX h.vol.ps⟩, D⟩ : Fi)).hold, .int .i64 ((⟨fh, 3, ⟨lastX h.vol.ps, lastX h.vol.ps⟩, D⟩ : Fi)).state, .int .i64 (((⟨fh, 3, ⟨lastX h.vol.ps, lastX h.vol.ps⟩, D⟩ : Fi)).ull).lo, .int .i64 (((⟨fh, 3, ⟨lastX h.vol.ps, lastX h.vol.ps⟩, D⟩ : Fi)).ull).hi, .int .i64 (((⟨fh, 3, ⟨lastX h.vol.ps, lastX h.vol.ps⟩, D⟩ : Fi)).den).lo, .int .i64 (((⟨fh, 3, ⟨lastX h.vol.ps, lastX h.vol.ps⟩, D⟩ : Fi)).den).hi] 38 := (by have := HE0.out; simp only [HasBlk, Soft.BW.heap_if, Soft.heap_alloc_if]; exact this)
      have C1 : HasBlk xx.w s5.w.heap.size #[.int .i64 (rho).lo, .int .i64 (rho).hi] 30 := (by simp only [HasBlk, Soft.BW.heap_if, Soft.heap_alloc_if, Soft.heap_new, Soft.heap_new1, Soft.heap_new2, Soft.heap_new3, Soft.heap_new4, Soft.heap_new5])
      have CX := hnew.at_
      have CE : Below w.heap.size w xx.w := by (repeat (first | with_reducible exact bel_refl _ | with_reducible refine bel_alloc ?_ _ | with_reducible refine bel_bw _ ?_ | with_reducible refine bel_drew ?_ | with_reducible refine bel_drewN _ ?_ | ((with_reducible refine bel_set ?_ ?_ _); rotate_left; focus (first | (simp; done) | omega | (simp; omega))) | refine bel_step ?_ (by with_reducible assumption))); exact BB.out
      have wz : w.heap.size ≤ kb := by have := i2.lt; omega
      refine wpList_store_row rfl 38 _ _ rfl kb _ rfl rfl 38 _ CX (by kernel_rfl) rfl (by kernel_rfl) ?_
      have D0 := HasBlk.rowx C0 (show z2.w.heap.size ≠ kb by omega) #[.int .i64 ((⟨gh, 3, ⟨gl, gu⟩, gd⟩ : Fi)).hold, .int .i64 ((⟨gh, 3, ⟨gl, gu⟩, gd⟩ : Fi)).state, .int .i64 (((⟨gh, 3, ⟨gl, gu⟩, gd⟩ : Fi)).ull).lo, .int .i64 (((⟨gh, 3, ⟨gl, gu⟩, gd⟩ : Fi)).ull).hi, .int .i64 (((⟨gh, 3, ⟨gl, gu⟩, gd⟩ : Fi)).den).lo, .int .i64 (((⟨gh, 3, ⟨gl, gu⟩, gd⟩ : Fi)).den).hi]
      have D1 := HasBlk.rowx C1 (show s5.w.heap.size ≠ kb by omega) #[.int .i64 ((⟨gh, 3, ⟨gl, gu⟩, gd⟩ : Fi)).hold, .int .i64 ((⟨gh, 3, ⟨gl, gu⟩, gd⟩ : Fi)).state, .int .i64 (((⟨gh, 3, ⟨gl, gu⟩, gd⟩ : Fi)).ull).lo, .int .i64 (((⟨gh, 3, ⟨gl, gu⟩, gd⟩ : Fi)).ull).hi, .int .i64 (((⟨gh, 3, ⟨gl, gu⟩, gd⟩ : Fi)).den).lo, .int .i64 (((⟨gh, 3, ⟨gl, gu⟩, gd⟩ : Fi)).den).hi]
      have DA : HasBlk (xx.w.setRow kb #[.int .i64 ((⟨gh, 3, ⟨gl, gu⟩, gd⟩ : Fi)).hold, .int .i64 ((⟨gh, 3, ⟨gl, gu⟩, gd⟩ : Fi)).state, .int .i64 (((⟨gh, 3, ⟨gl, gu⟩, gd⟩ : Fi)).ull).lo, .int .i64 (((⟨gh, 3, ⟨gl, gu⟩, gd⟩ : Fi)).ull).hi, .int .i64 (((⟨gh, 3, ⟨gl, gu⟩, gd⟩ : Fi)).den).lo, .int .i64 (((⟨gh, 3, ⟨gl, gu⟩, gd⟩ : Fi)).den).hi]) kb #[.int .i64 ((⟨gh, 3, ⟨gl, gu⟩, gd⟩ : Fi)).hold, .int .i64 ((⟨gh, 3, ⟨gl, gu⟩, gd⟩ : Fi)).state, .int .i64 (((⟨gh, 3, ⟨gl, gu⟩, gd⟩ : Fi)).ull).lo, .int .i64 (((⟨gh, 3, ⟨gl, gu⟩, gd⟩ : Fi)).ull).hi, .int .i64 (((⟨gh, 3, ⟨gl, gu⟩, gd⟩ : Fi)).den).lo, .int .i64 (((⟨gh, 3, ⟨gl, gu⟩, gd⟩ : Fi)).den).hi] 38 := setRow_heap _ _ _ _ _ _ CX
      have DE := below_setRow (g := kb) CE wz #[.int .i64 ((⟨gh, 3, ⟨gl, gu⟩, gd⟩ : Fi)).hold, .int .i64 ((⟨gh, 3, ⟨gl, gu⟩, gd⟩ : Fi)).state, .int .i64 (((⟨gh, 3, ⟨gl, gu⟩, gd⟩ : Fi)).ull).lo, .int .i64 (((⟨gh, 3, ⟨gl, gu⟩, gd⟩ : Fi)).ull).hi, .int .i64 (((⟨gh, 3, ⟨gl, gu⟩, gd⟩ : Fi)).den).lo, .int .i64 (((⟨gh, 3, ⟨gl, gu⟩, gd⟩ : Fi)).den).hi]
      have d0 := D0.cell 4
      have d1 := D0.cell 5
      have d2 := D1.cell 0
      have d3 := D1.cell 1
      have d4 := DA.cell 1
      have d5 := DA.cell 2
      have d6 := DA.cell 3
      have d7 := DA.cell 4
      have d8 := DA.cell 5
      simp at d0 d1 d2 d3 d4 d5 d6 d7 d8
      clear C0 C1 CX CE
      generalize xx.w.setRow kb #[.int .i64 ((⟨gh, 3, ⟨gl, gu⟩, gd⟩ : Fi)).hold, .int .i64 ((⟨gh, 3, ⟨gl, gu⟩, gd⟩ : Fi)).state, .int .i64 (((⟨gh, 3, ⟨gl, gu⟩, gd⟩ : Fi)).ull).lo, .int .i64 (((⟨gh, 3, ⟨gl, gu⟩, gd⟩ : Fi)).ull).hi, .int .i64 (((⟨gh, 3, ⟨gl, gu⟩, gd⟩ : Fi)).den).lo, .int .i64 (((⟨gh, 3, ⟨gl, gu⟩, gd⟩ : Fi)).den).hi] = W9 at *
      have iz := Soft.LtH.mk (w := W9) D0.lt
      have iy := Soft.LtH.mk (w := W9) D1.lt
      have ix := Soft.LtH.mk (w := W9) DA.lt
      clear D0 D1 DA
      have HDE := Lib.hid DE
      clear DE
      go_wp2_with (first | (go_at_call 27; (with_reducible refine (R2_Inside (D) gd _ true (decide_eq_true g5).symm).mono ?_); rintro e w_ ⟨rfl, hb_⟩; obtain ⟨s7, rfl⟩ := Soft.BW.mk hb_; clear hb_) | (go_at_call 27; (with_reducible refine (R2_Inside rho gd _ true (decide_eq_true g6).symm).mono ?_); rintro e w_ ⟨rfl, hb_⟩; obtain ⟨s8, rfl⟩ := Soft.BW.mk hb_; clear hb_) | (go_at_call 23; (with_reducible refine (L2_sane _).mono ?_); rintro e w_ ⟨rfl, hb_⟩; obtain ⟨s9, rfl⟩ := Soft.BW.mk hb_; clear hb_))
      go_ret
      refine ⟨rfl, ?_⟩
      (repeat (first | with_reducible exact bel_refl _ | with_reducible refine bel_alloc ?_ _ | with_reducible refine bel_bw _ ?_ | with_reducible refine bel_drew ?_ | with_reducible refine bel_drewN _ ?_ | ((with_reducible refine bel_set ?_ ?_ _); rotate_left; focus (first | (simp; done) | omega | (simp; omega))) | refine bel_step ?_ (by with_reducible assumption)))
      exact HDE.out
  · have q1' : ¬(f0.den.lo = 0) := by omega
    by_cases q3 : f0.ull.lo = 0
    · by_cases q4 : f0.ull.hi = 0
      · obtain ⟨fh, fs, ⟨ul, uh⟩, D⟩ := f0
        dsimp only at *
        subst q3 q4
        have hfi : FillIn h ⟨fh, 3, ⟨lastX h.vol.ps, lastX h.vol.ps⟩, D⟩ := by
          obtain ⟨a, ⟨_, _, e2⟩ | ⟨_, e1, e⟩ | ⟨e0, e1, e⟩⟩ := hF0
          · have : D = ⟨0, 0⟩ := e2
            rw [this] at q1; exact absurd q1 (by decide)
          · exact ⟨a, .inr (.inr ⟨⟨by dsimp only; omega, by dsimp only; omega⟩, ⟨hl2, Int.le_refl _, Int.le_refl _⟩, e⟩)⟩
          · exact ⟨a, .inr (.inr ⟨⟨by dsimp only; omega, by dsimp only; omega⟩, ⟨hl2, Int.le_refl _, Int.le_refl _⟩, e⟩)⟩
        go_wp2_with ((go_at_call 16; (with_reducible refine (CFI.out _ (by with_reducible repeat (first | exact hh | refine Ho.At.alloc ?_ _ | refine Ho.At.bw ?_ _ | refine Tk.At.alloc ?_ _ | refine Tk.At.bw ?_ _))).mono ?_); rintro e w_ ⟨rfl, hb_⟩; obtain ⟨z2, rfl⟩ := Soft.BW.mk hb_; clear hb_))
        have zs := z2.below.size
        have zs1 := z1.below.size
        simp at zs zs1
        have E0 : HasBlk (z2.w.alloc (.cells #[.int .i64 ((⟨fh, 3, ⟨0, 0⟩, D⟩ : Fi)).hold, .int .i64 ((⟨fh, 3, ⟨0, 0⟩, D⟩ : Fi)).state, .int .i64 (((⟨fh, 3, ⟨0, 0⟩, D⟩ : Fi)).ull).lo, .int .i64 (((⟨fh, 3, ⟨0, 0⟩, D⟩ : Fi)).ull).hi, .int .i64 (((⟨fh, 3, ⟨0, 0⟩, D⟩ : Fi)).den).lo, .int .i64 (((⟨fh, 3, ⟨0, 0⟩, D⟩ : Fi)).den).hi] 38)) z2.w.heap.size #[.int .i64 ((⟨fh, 3, ⟨0, 0⟩, D⟩ : Fi)).hold, .int .i64 ((⟨fh, 3, ⟨0, 0⟩, D⟩ : Fi)).state, .int .i64 (((⟨fh, 3, ⟨0, 0⟩, D⟩ : Fi)).ull).lo, .int .i64 (((⟨fh, 3, ⟨0, 0⟩, D⟩ : Fi)).ull).hi, .int .i64 (((⟨fh, 3, ⟨0, 0⟩, D⟩ : Fi)).den).lo, .int .i64 (((⟨fh, 3, ⟨0, 0⟩, D⟩ : Fi)).den).hi] 38 := Soft.heap_new _ _
        have BA : Below (z1.w.alloc (.cells #[.int .i64 (h).id, .int .i64 ((h).along).lo, .int .i64 ((h).along).hi, .slice ((h).vol).p ((h).vol).n ((h).vol).c, .slice ((h).mom).p ((h).mom).n ((h).mom).c, .slice ((h).hei).p ((h).hei).n ((h).hei).c, .int .i64 ((h).tri).lo, .int .i64 ((h).tri).hi, .int .i64 ((h).unt).lo, .int .i64 ((h).unt).hi, .int .i64 ((h).v0).lo, .int .i64 ((h).v0).hi, .int .i64 ((h).h0).lo, .int .i64 ((h).h0).hi] 35)).heap.size (z1.w.alloc (.cells #[.int .i64 (h).id, .int .i64 ((h).along).lo, .int .i64 ((h).along).hi, .slice ((h).vol).p ((h).vol).n ((h).vol).c, .slice ((h).mom).p ((h).mom).n ((h).mom).c, .slice ((h).hei).p ((h).hei).n ((h).hei).c, .int .i64 ((h).tri).lo, .int .i64 ((h).tri).hi, .int .i64 ((h).unt).lo, .int .i64 ((h).unt).hi, .int .i64 ((h).v0).lo, .int .i64 ((h).v0).hi, .int .i64 ((h).h0).lo, .int .i64 ((h).h0).hi] 35)) (z2.w.alloc (.cells #[.int .i64 ((⟨fh, 3, ⟨0, 0⟩, D⟩ : Fi)).hold, .int .i64 ((⟨fh, 3, ⟨0, 0⟩, D⟩ : Fi)).state, .int .i64 (((⟨fh, 3, ⟨0, 0⟩, D⟩ : Fi)).ull).lo, .int .i64 (((⟨fh, 3, ⟨0, 0⟩, D⟩ : Fi)).ull).hi, .int .i64 (((⟨fh, 3, ⟨0, 0⟩, D⟩ : Fi)).den).lo, .int .i64 (((⟨fh, 3, ⟨0, 0⟩, D⟩ : Fi)).den).hi] 38)) := by (repeat (first | with_reducible exact bel_refl _ | with_reducible refine bel_alloc ?_ _ | with_reducible refine bel_bw _ ?_ | with_reducible refine bel_drew ?_ | with_reducible refine bel_drewN _ ?_ | ((with_reducible refine bel_set ?_ ?_ _); rotate_left; focus (first | (simp; done) | omega | (simp; omega))) | refine bel_step ?_ (by with_reducible assumption)))
        have E1 : HasBlk (z2.w.alloc (.cells #[.int .i64 ((⟨fh, 3, ⟨0, 0⟩, D⟩ : Fi)).hold, .int .i64 ((⟨fh, 3, ⟨0, 0⟩, D⟩ : Fi)).state, .int .i64 (((⟨fh, 3, ⟨0, 0⟩, D⟩ : Fi)).ull).lo, .int .i64 (((⟨fh, 3, ⟨0, 0⟩, D⟩ : Fi)).ull).hi, .int .i64 (((⟨fh, 3, ⟨0, 0⟩, D⟩ : Fi)).den).lo, .int .i64 (((⟨fh, 3, ⟨0, 0⟩, D⟩ : Fi)).den).hi] 38)) z1.w.heap.size #[.int .i64 (h).id, .int .i64 ((h).along).lo, .int .i64 ((h).along).hi, .slice ((h).vol).p ((h).vol).n ((h).vol).c, .slice ((h).mom).p ((h).mom).n ((h).mom).c, .slice ((h).hei).p ((h).hei).n ((h).hei).c, .int .i64 ((h).tri).lo, .int .i64 ((h).tri).hi, .int .i64 ((h).unt).lo, .int .i64 ((h).unt).hi, .int .i64 ((h).v0).lo, .int .i64 ((h).v0).hi, .int .i64 ((h).h0).lo, .int .i64 ((h).h0).hi] 35 := HasBlk.below (Soft.heap_new _ _) BA
        have F2 : HasBlk (z1.w.alloc (.cells #[.int .i64 (h).id, .int .i64 ((h).along).lo, .int .i64 ((h).along).hi, .slice ((h).vol).p ((h).vol).n ((h).vol).c, .slice ((h).mom).p ((h).mom).n ((h).mom).c, .slice ((h).hei).p ((h).hei).n ((h).hei).c, .int .i64 ((h).tri).lo, .int .i64 ((h).tri).hi, .int .i64 ((h).unt).lo, .int .i64 ((h).unt).hi, .int .i64 ((h).v0).lo, .int .i64 ((h).v0).hi, .int .i64 ((h).h0).lo, .int .i64 ((h).h0).hi] 35)) (w.heap.size + 1 + 1) #[.slice y.c0.p y.c0.n y.c0.c, .slice y.c1.p y.c1.n y.c1.c, .slice y.c2.p y.c2.n y.c2.c, .int .i64 y.place, .int .i64 y.dense] 28 := (by simp only [HasBlk, Soft.BW.heap_if, Soft.heap_alloc_if, Soft.heap_new, Soft.heap_new1, Soft.heap_new2, Soft.heap_new3, Soft.heap_new4, Soft.heap_new5])
        have E2 : HasBlk (z2.w.alloc (.cells #[.int .i64 ((⟨fh, 3, ⟨0, 0⟩, D⟩ : Fi)).hold, .int .i64 ((⟨fh, 3, ⟨0, 0⟩, D⟩ : Fi)).state, .int .i64 (((⟨fh, 3, ⟨0, 0⟩, D⟩ : Fi)).ull).lo, .int .i64 (((⟨fh, 3, ⟨0, 0⟩, D⟩ : Fi)).ull).hi, .int .i64 (((⟨fh, 3, ⟨0, 0⟩, D⟩ : Fi)).den).lo, .int .i64 (((⟨fh, 3, ⟨0, 0⟩, D⟩ : Fi)).den).hi] 38)) (w.heap.size + 1 + 1) #[.slice y.c0.p y.c0.n y.c0.c, .slice y.c1.p y.c1.n y.c1.c, .slice y.c2.p y.c2.n y.c2.c, .int .i64 y.place, .int .i64 y.dense] 28 := F2.below BA
        have F3 : h.At (z1.w.alloc (.cells #[.int .i64 (h).id, .int .i64 ((h).along).lo, .int .i64 ((h).along).hi, .slice ((h).vol).p ((h).vol).n ((h).vol).c, .slice ((h).mom).p ((h).mom).n ((h).mom).c, .slice ((h).hei).p ((h).hei).n ((h).hei).c, .int .i64 ((h).tri).lo, .int .i64 ((h).tri).hi, .int .i64 ((h).unt).lo, .int .i64 ((h).unt).hi, .int .i64 ((h).v0).lo, .int .i64 ((h).v0).hi, .int .i64 ((h).h0).lo, .int .i64 ((h).h0).hi] 35)) := (by with_reducible repeat (first | exact hh | refine Ho.At.alloc ?_ _ | refine Ho.At.bw ?_ _ | refine Tk.At.alloc ?_ _ | refine Tk.At.bw ?_ _))
        have E3 : h.At (z2.w.alloc (.cells #[.int .i64 ((⟨fh, 3, ⟨0, 0⟩, D⟩ : Fi)).hold, .int .i64 ((⟨fh, 3, ⟨0, 0⟩, D⟩ : Fi)).state, .int .i64 (((⟨fh, 3, ⟨0, 0⟩, D⟩ : Fi)).ull).lo, .int .i64 (((⟨fh, 3, ⟨0, 0⟩, D⟩ : Fi)).ull).hi, .int .i64 (((⟨fh, 3, ⟨0, 0⟩, D⟩ : Fi)).den).lo, .int .i64 (((⟨fh, 3, ⟨0, 0⟩, D⟩ : Fi)).den).hi] 38)) := ⟨F3.1.same BA, F3.2.1.same BA, F3.2.2.same BA⟩
        have F4 : y.c0.At (z1.w.alloc (.cells #[.int .i64 (h).id, .int .i64 ((h).along).lo, .int .i64 ((h).along).hi, .slice ((h).vol).p ((h).vol).n ((h).vol).c, .slice ((h).mom).p ((h).mom).n ((h).mom).c, .slice ((h).hei).p ((h).hei).n ((h).hei).c, .int .i64 ((h).tri).lo, .int .i64 ((h).tri).hi, .int .i64 ((h).unt).lo, .int .i64 ((h).unt).hi, .int .i64 ((h).v0).lo, .int .i64 ((h).v0).hi, .int .i64 ((h).h0).lo, .int .i64 ((h).h0).hi] 35)) := (by with_reducible repeat (first | exact hyc | refine Is.At.alloc ?_ _ | refine Is.At.bw ?_ _))
        have E4 : y.c0.At (z2.w.alloc (.cells #[.int .i64 ((⟨fh, 3, ⟨0, 0⟩, D⟩ : Fi)).hold, .int .i64 ((⟨fh, 3, ⟨0, 0⟩, D⟩ : Fi)).state, .int .i64 (((⟨fh, 3, ⟨0, 0⟩, D⟩ : Fi)).ull).lo, .int .i64 (((⟨fh, 3, ⟨0, 0⟩, D⟩ : Fi)).ull).hi, .int .i64 (((⟨fh, 3, ⟨0, 0⟩, D⟩ : Fi)).den).lo, .int .i64 (((⟨fh, 3, ⟨0, 0⟩, D⟩ : Fi)).den).hi] 38)) := F4.below BA
        have F5 : Below w.heap.size w (z1.w.alloc (.cells #[.int .i64 (h).id, .int .i64 ((h).along).lo, .int .i64 ((h).along).hi, .slice ((h).vol).p ((h).vol).n ((h).vol).c, .slice ((h).mom).p ((h).mom).n ((h).mom).c, .slice ((h).hei).p ((h).hei).n ((h).hei).c, .int .i64 ((h).tri).lo, .int .i64 ((h).tri).hi, .int .i64 ((h).unt).lo, .int .i64 ((h).unt).hi, .int .i64 ((h).v0).lo, .int .i64 ((h).v0).hi, .int .i64 ((h).h0).lo, .int .i64 ((h).h0).hi] 35)) := by (repeat (first | with_reducible exact bel_refl _ | with_reducible refine bel_alloc ?_ _ | with_reducible refine bel_bw _ ?_ | with_reducible refine bel_drew ?_ | with_reducible refine bel_drewN _ ?_ | ((with_reducible refine bel_set ?_ ?_ _); rotate_left; focus (first | (simp; done) | omega | (simp; omega))) | refine bel_step ?_ (by with_reducible assumption)))
        have E5 : Below w.heap.size w (z2.w.alloc (.cells #[.int .i64 ((⟨fh, 3, ⟨0, 0⟩, D⟩ : Fi)).hold, .int .i64 ((⟨fh, 3, ⟨0, 0⟩, D⟩ : Fi)).state, .int .i64 (((⟨fh, 3, ⟨0, 0⟩, D⟩ : Fi)).ull).lo, .int .i64 (((⟨fh, 3, ⟨0, 0⟩, D⟩ : Fi)).ull).hi, .int .i64 (((⟨fh, 3, ⟨0, 0⟩, D⟩ : Fi)).den).lo, .int .i64 (((⟨fh, 3, ⟨0, 0⟩, D⟩ : Fi)).den).hi] 38)) := bel_step F5 BA
        clear F2 F3 F4 F5
        generalize z2.w.alloc (.cells #[.int .i64 ((⟨fh, 3, ⟨0, 0⟩, D⟩ : Fi)).hold, .int .i64 ((⟨fh, 3, ⟨0, 0⟩, D⟩ : Fi)).state, .int .i64 (((⟨fh, 3, ⟨0, 0⟩, D⟩ : Fi)).ull).lo, .int .i64 (((⟨fh, 3, ⟨0, 0⟩, D⟩ : Fi)).ull).hi, .int .i64 (((⟨fh, 3, ⟨0, 0⟩, D⟩ : Fi)).den).lo, .int .i64 (((⟨fh, 3, ⟨0, 0⟩, D⟩ : Fi)).den).hi] 38) = W7 at *
        have i0 := Soft.LtH.mk (w := W7) E0.lt
        have i1 := Soft.LtH.mk (w := W7) E1.lt
        have e02 := E0.cell 2
        have e03 := E0.cell 3
        have f02 := E0.frozen 2
        have f03 := E0.frozen 3
        have e13 := E1.cell 3
        have i2 := Soft.LtH.mk (w := W7) E2.lt
        have e23 := E2.cell 3
        simp at e02 e03 e13 e23
        have n1 : ¬(w.heap.size + 1 + 1 = z2.w.heap.size) := by omega
        have n2 : ¬(z2.w.heap.size = w.heap.size + 1 + 1) := by omega
        have H0 := Lib.hid E0; have H1 := Lib.hid E1; have H2 := Lib.hid E2; have H3 := Lib.hid E3; have H4 := Lib.hid E4; have H5 := Lib.hid E5; have HA := Lib.hid BA
        clear E0 E1 E2 E3 E4 E5 BA
        (refine Soft.region0 [0, 1, 2, 3, 4, 5, 6, 7] [8] (by kernel_rfl) (by kernel_rfl) (by kernel_rfl) (by kernel_rfl) ?_; change Soft.wpSoft _ _ _ _ _ [_, _, _, _, _, _, _, _] _; (repeat (refine Soft.soft_step (fun K hK => ?_); go_simp; (try go_bits); first | (refine hK _ ?_; clear hK K) | (apply Exists.intro; refine ⟨fun x => ?_, hK _ ?_⟩; (first | (go_at_call 18; exact R2_Last h.vol _ (by repeat (first | exact H3.out.1 | refine Tb.At.alloc ?_ _ | refine Tb.At.bw ?_ _)) hn)); clear hK K))); refine Soft.soft_nil ?_; intro xw; change wpList _ _ _ [_] _ _)
        change wpList _ _ _ [_] _ _
        go_wp2_with fail
        have G0 : HasBlk ((xw.w.setCell ⟨z2.w.heap.size, 2, none⟩ (.int .i64 (lastX h.vol.ps))).setCell ⟨z2.w.heap.size, 3, none⟩ (.int .i64 (lastX h.vol.ps))) z2.w.heap.size #[.int .i64 ((⟨fh, 3, ⟨lastX h.vol.ps, lastX h.vol.ps⟩, D⟩ : Fi)).hold, .int .i64 ((⟨fh, 3, ⟨lastX h.vol.ps, lastX h.vol.ps⟩, D⟩ : Fi)).state, .int .i64 (((⟨fh, 3, ⟨lastX h.vol.ps, lastX h.vol.ps⟩, D⟩ : Fi)).ull).lo, .int .i64 (((⟨fh, 3, ⟨lastX h.vol.ps, lastX h.vol.ps⟩, D⟩ : Fi)).ull).hi, .int .i64 (((⟨fh, 3, ⟨lastX h.vol.ps, lastX h.vol.ps⟩, D⟩ : Fi)).den).lo, .int .i64 (((⟨fh, 3, ⟨lastX h.vol.ps, lastX h.vol.ps⟩, D⟩ : Fi)).den).hi] 38 := ((H0.out.below xw.below).put 2 _).put 3 _
        have G1 : HasBlk ((xw.w.setCell ⟨z2.w.heap.size, 2, none⟩ (.int .i64 (lastX h.vol.ps))).setCell ⟨z2.w.heap.size, 3, none⟩ (.int .i64 (lastX h.vol.ps))) z1.w.heap.size #[.int .i64 (h).id, .int .i64 ((h).along).lo, .int .i64 ((h).along).hi, .slice ((h).vol).p ((h).vol).n ((h).vol).c, .slice ((h).mom).p ((h).mom).n ((h).mom).c, .slice ((h).hei).p ((h).hei).n ((h).hei).c, .int .i64 ((h).tri).lo, .int .i64 ((h).tri).hi, .int .i64 ((h).unt).lo, .int .i64 ((h).unt).hi, .int .i64 ((h).v0).lo, .int .i64 ((h).v0).hi, .int .i64 ((h).h0).lo, .int .i64 ((h).h0).hi] 35 := ((H1.out.below xw.below).set_other (by dsimp only; omega) _).set_other (by dsimp only; omega) _
        have G2 : HasBlk ((xw.w.setCell ⟨z2.w.heap.size, 2, none⟩ (.int .i64 (lastX h.vol.ps))).setCell ⟨z2.w.heap.size, 3, none⟩ (.int .i64 (lastX h.vol.ps))) (w.heap.size + 1 + 1) #[.slice y.c0.p y.c0.n y.c0.c, .slice y.c1.p y.c1.n y.c1.c, .slice y.c2.p y.c2.n y.c2.c, .int .i64 y.place, .int .i64 y.dense] 28 := ((H2.out.below xw.below).set_other (by dsimp only; omega) _).set_other (by dsimp only; omega) _
        have GA : Below (z1.w.alloc (.cells #[.int .i64 (h).id, .int .i64 ((h).along).lo, .int .i64 ((h).along).hi, .slice ((h).vol).p ((h).vol).n ((h).vol).c, .slice ((h).mom).p ((h).mom).n ((h).mom).c, .slice ((h).hei).p ((h).hei).n ((h).hei).c, .int .i64 ((h).tri).lo, .int .i64 ((h).tri).hi, .int .i64 ((h).unt).lo, .int .i64 ((h).unt).hi, .int .i64 ((h).v0).lo, .int .i64 ((h).v0).hi, .int .i64 ((h).h0).lo, .int .i64 ((h).h0).hi] 35)).heap.size (z1.w.alloc (.cells #[.int .i64 (h).id, .int .i64 ((h).along).lo, .int .i64 ((h).along).hi, .slice ((h).vol).p ((h).vol).n ((h).vol).c, .slice ((h).mom).p ((h).mom).n ((h).mom).c, .slice ((h).hei).p ((h).hei).n ((h).hei).c, .int .i64 ((h).tri).lo, .int .i64 ((h).tri).hi, .int .i64 ((h).unt).lo, .int .i64 ((h).unt).hi, .int .i64 ((h).v0).lo, .int .i64 ((h).v0).hi, .int .i64 ((h).h0).lo, .int .i64 ((h).h0).hi] 35)) ((xw.w.setCell ⟨z2.w.heap.size, 2, none⟩ (.int .i64 (lastX h.vol.ps))).setCell ⟨z2.w.heap.size, 3, none⟩ (.int .i64 (lastX h.vol.ps))) := bel_set (bel_set (bel_bw xw HA.out) (by simp; omega) _) (by simp; omega) _
        have F3 : h.At (z1.w.alloc (.cells #[.int .i64 (h).id, .int .i64 ((h).along).lo, .int .i64 ((h).along).hi, .slice ((h).vol).p ((h).vol).n ((h).vol).c, .slice ((h).mom).p ((h).mom).n ((h).mom).c, .slice ((h).hei).p ((h).hei).n ((h).hei).c, .int .i64 ((h).tri).lo, .int .i64 ((h).tri).hi, .int .i64 ((h).unt).lo, .int .i64 ((h).unt).hi, .int .i64 ((h).v0).lo, .int .i64 ((h).v0).hi, .int .i64 ((h).h0).lo, .int .i64 ((h).h0).hi] 35)) := (by with_reducible repeat (first | exact hh | refine Ho.At.alloc ?_ _ | refine Ho.At.bw ?_ _ | refine Tk.At.alloc ?_ _ | refine Tk.At.bw ?_ _))
        have F4 : y.c0.At (z1.w.alloc (.cells #[.int .i64 (h).id, .int .i64 ((h).along).lo, .int .i64 ((h).along).hi, .slice ((h).vol).p ((h).vol).n ((h).vol).c, .slice ((h).mom).p ((h).mom).n ((h).mom).c, .slice ((h).hei).p ((h).hei).n ((h).hei).c, .int .i64 ((h).tri).lo, .int .i64 ((h).tri).hi, .int .i64 ((h).unt).lo, .int .i64 ((h).unt).hi, .int .i64 ((h).v0).lo, .int .i64 ((h).v0).hi, .int .i64 ((h).h0).lo, .int .i64 ((h).h0).hi] 35)) := (by with_reducible repeat (first | exact hyc | refine Is.At.alloc ?_ _ | refine Is.At.bw ?_ _))
        have F5 : Below w.heap.size w (z1.w.alloc (.cells #[.int .i64 (h).id, .int .i64 ((h).along).lo, .int .i64 ((h).along).hi, .slice ((h).vol).p ((h).vol).n ((h).vol).c, .slice ((h).mom).p ((h).mom).n ((h).mom).c, .slice ((h).hei).p ((h).hei).n ((h).hei).c, .int .i64 ((h).tri).lo, .int .i64 ((h).tri).hi, .int .i64 ((h).unt).lo, .int .i64 ((h).unt).hi, .int .i64 ((h).v0).lo, .int .i64 ((h).v0).hi, .int .i64 ((h).h0).lo, .int .i64 ((h).h0).hi] 35)) := by (repeat (first | with_reducible exact bel_refl _ | with_reducible refine bel_alloc ?_ _ | with_reducible refine bel_bw _ ?_ | with_reducible refine bel_drew ?_ | with_reducible refine bel_drewN _ ?_ | ((with_reducible refine bel_set ?_ ?_ _); rotate_left; focus (first | (simp; done) | omega | (simp; omega))) | refine bel_step ?_ (by with_reducible assumption)))
        clear e02 e03 f02 f03 e13 e23 i0 i1 i2 H0 H1 H2 H3 H4 H5 HA n1 n2
        generalize (xw.w.setCell ⟨z2.w.heap.size, 2, none⟩ (.int .i64 (lastX h.vol.ps))).setCell ⟨z2.w.heap.size, 3, none⟩ (.int .i64 (lastX h.vol.ps)) = W8 at *
        have E0 := G0
        have E1 := G1
        have E2 := G2
        have E3 : h.At W8 := ⟨F3.1.same GA, F3.2.1.same GA, F3.2.2.same GA⟩
        have E4 : y.c0.At W8 := F4.below GA
        have E5 : Below w.heap.size w W8 := bel_step F5 GA
        clear F3 F4 F5 G0 G1 G2 GA hyc CFI hn hl1 hl2 hl3
        have hpart : isPart (⟨lastX h.vol.ps, lastX h.vol.ps⟩ : Rg) (firstX h.vol.ps) (lastX h.vol.ps) := by
          obtain ⟨_, ⟨e, _⟩ | ⟨e, _⟩ | ⟨_, hp, _⟩⟩ := hfi
          · dsimp only at e; omega
          · dsimp only at e; omega
          · exact hp
        have ht2 := hok.tabs.1
        have hend := ht2.ok.ends
        obtain ⟨p1, p2, p3⟩ := hpart
        have hu := somS_in (⟨lastX h.vol.ps, lastX h.vol.ps⟩ : Rg) y.place p2
        have CU : Hid (∀ W, Calls Try.prog 19 #[.agg #[.int .i64 ((⟨lastX h.vol.ps, lastX h.vol.ps⟩ : Rg)).lo, .int .i64 ((⟨lastX h.vol.ps, lastX h.vol.ps⟩ : Rg)).hi], .int .i64 y.place] W fun e w' => e = .returned (.int .i64 (somS (⟨lastX h.vol.ps, lastX h.vol.ps⟩ : Rg) y.place)) ∧ Below W.heap.size W w') := Lib.hid (fun W => L2_somewhere (⟨lastX h.vol.ps, lastX h.vol.ps⟩ : Rg) y.place W ⟨by omega, p2, by omega⟩)
        generalize somS (⟨lastX h.vol.ps, lastX h.vol.ps⟩ : Rg) y.place = u at *
        have hto := somS_in ⟨firstX h.vol.ps, u⟩ (y.place.tdiv 3) (by dsimp only; omega)
        have CT : Hid (∀ W, Calls Try.prog 19 #[.agg #[.int .i64 (firstX h.vol.ps), .int .i64 u], .int .i64 (y.place.tdiv 3)] W fun e w' => e = .returned (.int .i64 (somS ⟨firstX h.vol.ps, u⟩ (y.place.tdiv 3))) ∧ Below W.heap.size W w') := Lib.hid (fun W => L2_somewhere ⟨firstX h.vol.ps, u⟩ (y.place.tdiv 3) W ⟨by dsimp only; omega, by dsimp only; omega, by dsimp only; omega⟩)
        dsimp only at hto
        generalize somS ⟨firstX h.vol.ps, u⟩ (y.place.tdiv 3) = to at *
        have hl := curS_in ht2.ok y.c0.xs
        have hn : 1 ≤ h.vol.n := by rw [← hh.1.1]; exact ht2.ok.pos
        have CC : Hid (∀ W, h.vol.At W → y.c0.At W → Calls Try.prog 21 #[.agg #[.slice (h.vol).p (h.vol).n (h.vol).c], .slice y.c0.p y.c0.n y.c0.c] W (CurvePost h.vol.ps y.c0.xs W)) := Lib.hid (fun W h1 h2 => R2_Curve h.vol y.c0 W h1 h2 ht2.ok)
        have HM := Lib.hid hm; have HFI := Lib.hid hfi; have HT2 := Lib.hid ht2; have HL := Lib.hid hl
        obtain ⟨u1, u2⟩ := hu
        obtain ⟨to1, to2⟩ := hto
        have va := val_bd hm.vol hm.xs.1 ht2 hl (x := u) (by omega) (by omega)
        have vb := val_bd hm.vol hm.xs.1 ht2 hl (x := to) (by omega) (by omega)
        have PP := Lib.hid (fun rho q (h1 : isDen rho) (h2 : rho.lo ≤ q ∧ q ≤ rho.hi) (h3 : 0 ≤ valN h.vol.ps (curS h.vol.ps y.c0.xs h.vol.ps.length) to * valD h.vol.ps u - valN h.vol.ps (curS h.vol.ps y.c0.xs h.vol.ps.length) u * valD h.vol.ps to) => poured_plain hm hfi rfl ⟨u1, u2⟩ ⟨to1, to2⟩ hl h1 h2 rfl h3)
        have CV : Hid (∀ (s : Is) x W, s.xs = curS h.vol.ps y.c0.xs h.vol.ps.length → s.At W → h.vol.At W → firstX h.vol.ps ≤ x ∧ x ≤ lastX h.vol.ps → Calls Try.prog 22 #[.agg #[.slice (h.vol).p (h.vol).n (h.vol).c], .slice s.p s.n s.c, .int .i64 x] W fun e w' => e = .returned (.tuple #[.int .i64 (valN h.vol.ps (curS h.vol.ps y.c0.xs h.vol.ps.length) x), .int .i64 (valD h.vol.ps x)]) ∧ Below W.heap.size W w') := Lib.hid (fun s x W e hs hv hx => by
          have := R2_Value h.vol s x W hv hs HT2.out (by rw [e]; exact HL.out) hx
          rwa [e] at this)
        clear hm hfi ht2 hl hF0 hok
        generalize hcur : curS h.vol.ps y.c0.xs h.vol.ps.length = l at *
        have HC := Lib.hid hcur
        clear hcur
        have i0 := Soft.LtH.mk (w := W8) E0.lt
        have i1 := Soft.LtH.mk (w := W8) E1.lt
        have i2 := Soft.LtH.mk (w := W8) E2.lt
        have e00 := E0.cell 0
        have e01 := E0.cell 1
        have e02 := E0.cell 2
        have e03 := E0.cell 3
        have e04 := E0.cell 4
        have e05 := E0.cell 5
        have e13 := E1.cell 3
        have e20 := E2.cell 0
        have e23 := E2.cell 3
        have e24 := E2.cell 4
        simp at e00 e01 e02 e03 e04 e05 e13 e20 e23 e24
        have HE1 := Lib.hid E1; have HE0 := Lib.hid E0
        have BB := Lib.hid E5
        clear E0 E1 E2 E5
        refine (CU.out _).mono ?_
        rintro e w_ ⟨rfl, hb_⟩
        obtain ⟨s1, rfl⟩ := Soft.BW.mk hb_
        clear hb_
        go_wp2_with fail
        (refine Soft.region0 [0, 1, 2, 3, 4, 5, 6, 7, 8, 9] [] (by kernel_rfl) (by kernel_rfl) (by kernel_rfl) (by kernel_rfl) ?_; change Soft.wpSoft _ _ _ _ _ [_, _, _, _, _, _, _, _, _, _] _; (repeat (refine Soft.soft_step (fun K hK => ?_); go_simp; (try go_bits); first | (refine hK _ ?_; clear hK K) | (apply Exists.intro; refine ⟨fun x => ?_, hK _ ?_⟩; (first | (go_at_call 20; exact R2_First h.vol _ (by repeat (first | exact E3.1 | refine Tb.At.alloc ?_ _ | refine Tb.At.bw ?_ _)) hn) | (go_at_call 19; exact CT.out _)); clear hK K))); refine Soft.soft_nil ?_; intro xw; change wpList _ _ _ [] _ _)
        go_wp2_with (go_at_call 21; refine (CC.out _ (by repeat (first | exact E3.1 | refine Tb.At.alloc ?_ _ | refine Tb.At.bw ?_ _)) (by with_reducible repeat (first | exact E4 | refine Is.At.alloc ?_ _ | refine Is.At.bw ?_ _))).mono ?_; rintro e w_ ⟨cg, cn, cc, rfl, hcg, hcat, hb_⟩; obtain ⟨s2, rfl⟩ := Soft.BW.mk hb_; clear hb_ hcg)
        refine (CV.out ⟨some ⟨cg, 0, none⟩, cn, cc, curS h.vol.ps y.c0.xs h.vol.ps.length⟩ _ _ HC.out (by with_reducible repeat (first | exact hcat | refine Is.At.alloc ?_ _ | refine Is.At.bw ?_ _)) (by repeat (first | exact E3.1 | refine Tb.At.alloc ?_ _ | refine Tb.At.bw ?_ _)) (by omega)).mono ?_
        rintro e w_ ⟨rfl, hb_⟩
        obtain ⟨s3, rfl⟩ := Soft.BW.mk hb_
        clear hb_
        go_wp2_with fail
        refine (CV.out ⟨some ⟨cg, 0, none⟩, cn, cc, curS h.vol.ps y.c0.xs h.vol.ps.length⟩ _ _ HC.out (by with_reducible repeat (first | exact hcat | refine Is.At.alloc ?_ _ | refine Is.At.bw ?_ _)) (by repeat (first | exact E3.1 | refine Tb.At.alloc ?_ _ | refine Tb.At.bw ?_ _)) (by omega)).mono ?_
        rintro e w_ ⟨rfl, hb_⟩
        obtain ⟨s4, rfl⟩ := Soft.BW.mk hb_
        clear hb_ CV
        generalize valN h.vol.ps l u = A at *
        generalize valD h.vol.ps u = B at *
        generalize valN h.vol.ps l to = I at *
        generalize valD h.vol.ps to = J at *
        obtain ⟨A1, A2, B1, B2⟩ := va
        obtain ⟨I1, I2, J1, J2⟩ := vb
        have k1 : 0 ≤ I * B ∧ I * B ≤ 32000000 := ⟨Int.mul_nonneg I1 (by omega), by have := Int.mul_le_mul I2 B2 (by omega) (by omega); omega⟩
        have k2 : 0 ≤ A * J ∧ A * J ≤ 32000000 := ⟨Int.mul_nonneg A1 (by omega), by have := Int.mul_le_mul A2 J2 (by omega) (by omega); omega⟩
        obtain ⟨k11, k12⟩ := k1
        obtain ⟨k21, k22⟩ := k2
        by_cases hneg : I * B - A * J < 0
        · clear PP
          go_wp2_with ((go_at_call 23; (with_reducible refine (L2_sane _).mono ?_); rintro e w_ ⟨rfl, hb_⟩; obtain ⟨s5, rfl⟩ := Soft.BW.mk hb_; clear hb_))
          go_ret
          refine ⟨rfl, ?_⟩
          (repeat (first | with_reducible exact bel_refl _ | with_reducible refine bel_alloc ?_ _ | with_reducible refine bel_bw _ ?_ | with_reducible refine bel_drew ?_ | with_reducible refine bel_drewN _ ?_ | ((with_reducible refine bel_set ?_ ?_ _); rotate_left; focus (first | (simp; done) | omega | (simp; omega))) | refine bel_step ?_ (by with_reducible assumption)))
          exact BB.out
        · have hpos : 0 ≤ I * B - A * J := by omega
          have hrho := denS_in y.dense (y.dense.tdiv 5)
          have hq := somS_in (denS y.dense (y.dense.tdiv 5)) (y.dense.tdiv 11) hrho.2.1
          obtain ⟨⟨n1, n2, n3, n4⟩, PO⟩ := PP.out _ _ hrho hq hpos
          have CD : Hid (∀ W, Calls Try.prog 17 #[.int .i64 y.dense, .int .i64 (y.dense.tdiv 5)] W fun e w' => e = .returned (.agg #[.int .i64 ((denS y.dense (y.dense.tdiv 5))).lo, .int .i64 ((denS y.dense (y.dense.tdiv 5))).hi]) ∧ Below W.heap.size W w') := Lib.hid (fun W => R2_Density _ _ W)
          have CS : Hid (∀ W, Calls Try.prog 24 #[.agg #[.int .i64 ((denS y.dense (y.dense.tdiv 5))).lo, .int .i64 ((denS y.dense (y.dense.tdiv 5))).hi], .int .i64 (y.dense.tdiv 11)] W fun e w' => e = .returned (.int .i64 (somS (denS y.dense (y.dense.tdiv 5)) (y.dense.tdiv 11))) ∧ Below W.heap.size W w') := Lib.hid (fun W => L2_dense _ _ W ⟨by have := hrho.1; omega, hrho.2.1, by have := hrho.2.2; omega⟩)
          generalize denS y.dense (y.dense.tdiv 5) = rho at *
          generalize somS rho (y.dense.tdiv 11) = q at *
          have CA : Hid (∀ W, Calls Try.prog 26 #[.int .i64 ((I * B - A * J) * q), .int .i64 (1000 * B * J)] W fun e w' => e = .returned (.agg #[.int .i64 ((aroS ((I * B - A * J) * q) (1000 * B * J))).lo, .int .i64 ((aroS ((I * B - A * J) * q) (1000 * B * J))).hi]) ∧ Below W.heap.size W w') := Lib.hid (fun W => L2_around _ _ W n1 n2 n3 n4)
          generalize aroS ((I * B - A * J) * q) (1000 * B * J) = m at *
          have CP : Hid (∀ W, h.At W → Calls Try.prog 25 #[.agg #[.int .i64 (h).id, .int .i64 ((h).along).lo, .int .i64 ((h).along).hi, .slice ((h).vol).p ((h).vol).n ((h).vol).c, .slice ((h).mom).p ((h).mom).n ((h).mom).c, .slice ((h).hei).p ((h).hei).n ((h).hei).c, .int .i64 ((h).tri).lo, .int .i64 ((h).tri).hi, .int .i64 ((h).unt).lo, .int .i64 ((h).unt).hi, .int .i64 ((h).v0).lo, .int .i64 ((h).v0).hi, .int .i64 ((h).h0).lo, .int .i64 ((h).h0).hi], .agg #[.int .i64 ((⟨fh, 3, ⟨lastX h.vol.ps, lastX h.vol.ps⟩, D⟩ : Fi)).hold, .int .i64 ((⟨fh, 3, ⟨lastX h.vol.ps, lastX h.vol.ps⟩, D⟩ : Fi)).state, .int .i64 (((⟨fh, 3, ⟨lastX h.vol.ps, lastX h.vol.ps⟩, D⟩ : Fi)).ull).lo, .int .i64 (((⟨fh, 3, ⟨lastX h.vol.ps, lastX h.vol.ps⟩, D⟩ : Fi)).ull).hi, .int .i64 (((⟨fh, 3, ⟨lastX h.vol.ps, lastX h.vol.ps⟩, D⟩ : Fi)).den).lo, .int .i64 (((⟨fh, 3, ⟨lastX h.vol.ps, lastX h.vol.ps⟩, D⟩ : Fi)).den).hi], .agg #[.int .i64 (m).lo, .int .i64 (m).hi], .agg #[.int .i64 (rho).lo, .int .i64 (rho).hi]] W fun e w' => e = .returned (.tuple #[.agg #[.int .i64 ((pourE h (⟨fh, 3, ⟨lastX h.vol.ps, lastX h.vol.ps⟩, D⟩ : Fi) m rho).1).hold, .int .i64 ((pourE h (⟨fh, 3, ⟨lastX h.vol.ps, lastX h.vol.ps⟩, D⟩ : Fi) m rho).1).state, .int .i64 (((pourE h (⟨fh, 3, ⟨lastX h.vol.ps, lastX h.vol.ps⟩, D⟩ : Fi) m rho).1).ull).lo, .int .i64 (((pourE h (⟨fh, 3, ⟨lastX h.vol.ps, lastX h.vol.ps⟩, D⟩ : Fi) m rho).1).ull).hi, .int .i64 (((pourE h (⟨fh, 3, ⟨lastX h.vol.ps, lastX h.vol.ps⟩, D⟩ : Fi) m rho).1).den).lo, .int .i64 (((pourE h (⟨fh, 3, ⟨lastX h.vol.ps, lastX h.vol.ps⟩, D⟩ : Fi) m rho).1).den).hi], .int .i64 (pourE h (⟨fh, 3, ⟨lastX h.vol.ps, lastX h.vol.ps⟩, D⟩ : Fi) m rho).2]) ∧ Below W.heap.size W w') := Lib.hid (fun W hW => hold_Pour h (⟨fh, 3, ⟨lastX h.vol.ps, lastX h.vol.ps⟩, D⟩ : Fi) m rho W hW)
          obtain ⟨g1, g2, g3, g4, g5, g6⟩ := PO
          generalize pourE h (⟨fh, 3, ⟨lastX h.vol.ps, lastX h.vol.ps⟩, D⟩ : Fi) m rho = ge at *
          obtain ⟨⟨gh, gs, ⟨gl, gu⟩, gd⟩, ger⟩ := ge
          dsimp only at g1 g2 g3 g4 g5 g6
          subst g1 g2
          obtain ⟨rh1, rh2, rh3⟩ := hrho
          obtain ⟨q1_, q2_⟩ := hq
          clear PP
          have hnd : decide (I * B - A * J < 0) = false := decide_eq_false hneg
          go_wp2_with (first | (go_at_call 17; (with_reducible refine (CD.out _).mono ?_); rintro e w_ ⟨rfl, hb_⟩; obtain ⟨s5, rfl⟩ := Soft.BW.mk hb_; clear hb_) | (go_at_call 24; (with_reducible refine (CS.out _).mono ?_); rintro e w_ ⟨rfl, hb_⟩; obtain ⟨s6, rfl⟩ := Soft.BW.mk hb_; clear hb_))
          have hb0 := HE1.out.cell 0
          have hb1 := HE1.out.cell 1
          have hb2 := HE1.out.cell 2
          have hb3 := HE1.out.cell 3
          have hb4 := HE1.out.cell 4
          have hb5 := HE1.out.cell 5
          have hb6 := HE1.out.cell 6
          have hb7 := HE1.out.cell 7
          have hb8 := HE1.out.cell 8
          have hb9 := HE1.out.cell 9
          have hb10 := HE1.out.cell 10
          have hb11 := HE1.out.cell 11
          have hb12 := HE1.out.cell 12
          have hb13 := HE1.out.cell 13
          simp at hb0 hb1 hb2 hb3 hb4 hb5 hb6 hb7 hb8 hb9 hb10 hb11 hb12 hb13
          (refine Soft.region1e 14 16 [0, 1, 2, 3, 4, 5, 6, 7, 8, 9, 10, 11, 12, 13, 14] 15 [16, 17] _ (by kernel_rfl) (by kernel_rfl) (by intro _ _ _ _ _ _ h; dsimp +zetaDelta only [Exit.then] at h ⊢; exact Soft.bodyPost_put h) (by kernel_rfl) (by kernel_rfl) (by decide) rfl rfl (by kernel_rfl) ?_; change Soft.wpSoft _ _ _ _ _ [_, _, _, _, _, _, _, _, _, _, _, _, _, _, _] _; (repeat (refine Soft.soft_step (fun K hK => ?_); go_simp; (try go_bits); first | (refine hK _ ?_; clear hK K) | (apply Exists.intro; refine ⟨fun x => ?_, hK _ ?_⟩; (first | (go_at_call 26; exact CA.out _) | (go_at_call 25; exact CP.out _ (by with_reducible repeat (first | exact E3 | refine Ho.At.alloc ?_ _ | refine Ho.At.bw ?_ _ | refine Tk.At.alloc ?_ _ | refine Tk.At.bw ?_ _)))); clear hK K))); refine Soft.soft_nil ?_)
          refine ⟨fun b => .pointer (some ⟨b, 0, none⟩), .cells #[.int .i64 0, .int .i64 0, .int .i64 0, .int .i64 0, .int .i64 0, .int .i64 0] 38, fun x => by go_simp, fun kb xx hnew => ?_⟩
          change wpList _ _ _ [_, _] _ _
          have ka0 := hnew.le
          have sz1 := s1.below.size
          have szx := xw.below.size
          have sz2 := s2.below.size
          have sz3 := s3.below.size
          have sz4 := s4.below.size
          have sz5 := s5.below.size
          have sz6 := s6.below.size
          have sl8 := i0.lt
          simp at ka0 sz6
          have C0 : HasBlk xx.w z2.w.heap.size #[.int .i64 ((⟨fh, 3, ⟨lastX h.vol.ps, lastX h.vol.ps⟩, D⟩ : Fi)).hold, .int .i64 ((⟨fh, 3, ⟨lastX h.vol.ps, lastX h.vol.ps⟩, D⟩ : Fi)).state, .int .i64 (((⟨fh, 3, ⟨lastX h.vol.ps, lastX h.vol.ps⟩, D⟩ : Fi)).ull).lo, .int .i64 (((⟨fh, 3, ⟨lastX h.vol.ps, lastX h.vol.ps⟩, D⟩ : Fi)).ull).hi, .int .i64 (((⟨fh, 3, ⟨lastX h.vol.ps, lastX h.vol.ps⟩, D⟩ : Fi)).den).lo, .int .i64 (((⟨fh, 3, ⟨lastX h.vol.ps, lastX h.vol.ps⟩, D⟩ : Fi)).den).hi] 38 := (by have := HE0.out; simp only [HasBlk, Soft.BW.heap_if, Soft.heap_alloc_if]; exact this)
          have C1 : HasBlk xx.w s5.w.heap.size #[.int .i64 (rho).lo, .int .i64 (rho).hi] 30 := (by simp only [HasBlk, Soft.BW.heap_if, Soft.heap_alloc_if, Soft.heap_new, Soft.heap_new1, Soft.heap_new2, Soft.heap_new3, Soft.heap_new4, Soft.heap_new5])
          have CX := hnew.at_
          have CE : Below w.heap.size w xx.w := by (repeat (first | with_reducible exact bel_refl _ | with_reducible refine bel_alloc ?_ _ | with_reducible refine bel_bw _ ?_ | with_reducible refine bel_drew ?_ | with_reducible refine bel_drewN _ ?_ | ((with_reducible refine bel_set ?_ ?_ _); rotate_left; focus (first | (simp; done) | omega | (simp; omega))) | refine bel_step ?_ (by with_reducible assumption))); exact BB.out
          have wz : w.heap.size ≤ kb := by have := i2.lt; omega
          refine wpList_store_row rfl 38 _ _ rfl kb _ rfl rfl 38 _ CX (by kernel_rfl) rfl (by kernel_rfl) ?_
          have D0 := HasBlk.rowx C0 (show z2.w.heap.size ≠ kb by omega) #[.int .i64 ((⟨gh, 3, ⟨gl, gu⟩, gd⟩ : Fi)).hold, .int .i64 ((⟨gh, 3, ⟨gl, gu⟩, gd⟩ : Fi)).state, .int .i64 (((⟨gh, 3, ⟨gl, gu⟩, gd⟩ : Fi)).ull).lo, .int .i64 (((⟨gh, 3, ⟨gl, gu⟩, gd⟩ : Fi)).ull).hi, .int .i64 (((⟨gh, 3, ⟨gl, gu⟩, gd⟩ : Fi)).den).lo, .int .i64 (((⟨gh, 3, ⟨gl, gu⟩, gd⟩ : Fi)).den).hi]
          have D1 := HasBlk.rowx C1 (show s5.w.heap.size ≠ kb by omega) #[.int .i64 ((⟨gh, 3, ⟨gl, gu⟩, gd⟩ : Fi)).hold, .int .i64 ((⟨gh, 3, ⟨gl, gu⟩, gd⟩ : Fi)).state, .int .i64 (((⟨gh, 3, ⟨gl, gu⟩, gd⟩ : Fi)).ull).lo, .int .i64 (((⟨gh, 3, ⟨gl, gu⟩, gd⟩ : Fi)).ull).hi, .int .i64 (((⟨gh, 3, ⟨gl, gu⟩, gd⟩ : Fi)).den).lo, .int .i64 (((⟨gh, 3, ⟨gl, gu⟩, gd⟩ : Fi)).den).hi]
          have DA : HasBlk (xx.w.setRow kb #[.int .i64 ((⟨gh, 3, ⟨gl, gu⟩, gd⟩ : Fi)).hold, .int .i64 ((⟨gh, 3, ⟨gl, gu⟩, gd⟩ : Fi)).state, .int .i64 (((⟨gh, 3, ⟨gl, gu⟩, gd⟩ : Fi)).ull).lo, .int .i64 (((⟨gh, 3, ⟨gl, gu⟩, gd⟩ : Fi)).ull).hi, .int .i64 (((⟨gh, 3, ⟨gl, gu⟩, gd⟩ : Fi)).den).lo, .int .i64 (((⟨gh, 3, ⟨gl, gu⟩, gd⟩ : Fi)).den).hi]) kb #[.int .i64 ((⟨gh, 3, ⟨gl, gu⟩, gd⟩ : Fi)).hold, .int .i64 ((⟨gh, 3, ⟨gl, gu⟩, gd⟩ : Fi)).state, .int .i64 (((⟨gh, 3, ⟨gl, gu⟩, gd⟩ : Fi)).ull).lo, .int .i64 (((⟨gh, 3, ⟨gl, gu⟩, gd⟩ : Fi)).ull).hi, .int .i64 (((⟨gh, 3, ⟨gl, gu⟩, gd⟩ : Fi)).den).lo, .int .i64 (((⟨gh, 3, ⟨gl, gu⟩, gd⟩ : Fi)).den).hi] 38 := setRow_heap _ _ _ _ _ _ CX
          have DE := below_setRow (g := kb) CE wz #[.int .i64 ((⟨gh, 3, ⟨gl, gu⟩, gd⟩ : Fi)).hold, .int .i64 ((⟨gh, 3, ⟨gl, gu⟩, gd⟩ : Fi)).state, .int .i64 (((⟨gh, 3, ⟨gl, gu⟩, gd⟩ : Fi)).ull).lo, .int .i64 (((⟨gh, 3, ⟨gl, gu⟩, gd⟩ : Fi)).ull).hi, .int .i64 (((⟨gh, 3, ⟨gl, gu⟩, gd⟩ : Fi)).den).lo, .int .i64 (((⟨gh, 3, ⟨gl, gu⟩, gd⟩ : Fi)).den).hi]
          have d0 := D0.cell 4
          have d1 := D0.cell 5
          have d2 := D1.cell 0
          have d3 := D1.cell 1
          have d4 := DA.cell 1
          have d5 := DA.cell 2
          have d6 := DA.cell 3
          have d7 := DA.cell 4
          have d8 := DA.cell 5
          simp at d0 d1 d2 d3 d4 d5 d6 d7 d8
          clear C0 C1 CX CE
          generalize xx.w.setRow kb #[.int .i64 ((⟨gh, 3, ⟨gl, gu⟩, gd⟩ : Fi)).hold, .int .i64 ((⟨gh, 3, ⟨gl, gu⟩, gd⟩ : Fi)).state, .int .i64 (((⟨gh, 3, ⟨gl, gu⟩, gd⟩ : Fi)).ull).lo, .int .i64 (((⟨gh, 3, ⟨gl, gu⟩, gd⟩ : Fi)).ull).hi, .int .i64 (((⟨gh, 3, ⟨gl, gu⟩, gd⟩ : Fi)).den).lo, .int .i64 (((⟨gh, 3, ⟨gl, gu⟩, gd⟩ : Fi)).den).hi] = W9 at *
          have iz := Soft.LtH.mk (w := W9) D0.lt
          have iy := Soft.LtH.mk (w := W9) D1.lt
          have ix := Soft.LtH.mk (w := W9) DA.lt
          clear D0 D1 DA
          have HDE := Lib.hid DE
          clear DE
          go_wp2_with (first | (go_at_call 27; (with_reducible refine (R2_Inside (D) gd _ true (decide_eq_true g5).symm).mono ?_); rintro e w_ ⟨rfl, hb_⟩; obtain ⟨s7, rfl⟩ := Soft.BW.mk hb_; clear hb_) | (go_at_call 27; (with_reducible refine (R2_Inside rho gd _ true (decide_eq_true g6).symm).mono ?_); rintro e w_ ⟨rfl, hb_⟩; obtain ⟨s8, rfl⟩ := Soft.BW.mk hb_; clear hb_) | (go_at_call 23; (with_reducible refine (L2_sane _).mono ?_); rintro e w_ ⟨rfl, hb_⟩; obtain ⟨s9, rfl⟩ := Soft.BW.mk hb_; clear hb_))
          go_ret
          refine ⟨rfl, ?_⟩
          (repeat (first | with_reducible exact bel_refl _ | with_reducible refine bel_alloc ?_ _ | with_reducible refine bel_bw _ ?_ | with_reducible refine bel_drew ?_ | with_reducible refine bel_drewN _ ?_ | ((with_reducible refine bel_set ?_ ?_ _); rotate_left; focus (first | (simp; done) | omega | (simp; omega))) | refine bel_step ?_ (by with_reducible assumption)))
          exact HDE.out
      · obtain ⟨fh, fs, ⟨ul, uh⟩, D⟩ := f0
        dsimp only at *
        subst q3
        have q5 : ¬((0 : Int) = 0 ∧ uh = 0) := fun e => q4 e.2
        have hfi : FillIn h ⟨fh, 3, ⟨0, uh⟩, D⟩ := by
          obtain ⟨a, ⟨_, e1, e2⟩ | ⟨_, e1, e⟩ | ⟨e0, e1, e⟩⟩ := hF0
          · cases e1; exact absurd ⟨rfl, rfl⟩ q5
          · cases e1; exact absurd ⟨rfl, rfl⟩ q5
          · exact ⟨a, .inr (.inr ⟨⟨by dsimp only; omega, by dsimp only; omega⟩, e1, e⟩)⟩
        go_wp2_with ((go_at_call 16; (with_reducible refine (CFI.out _ (by with_reducible repeat (first | exact hh | refine Ho.At.alloc ?_ _ | refine Ho.At.bw ?_ _ | refine Tk.At.alloc ?_ _ | refine Tk.At.bw ?_ _))).mono ?_); rintro e w_ ⟨rfl, hb_⟩; obtain ⟨z2, rfl⟩ := Soft.BW.mk hb_; clear hb_))
        have zs := z2.below.size
        have zs1 := z1.below.size
        simp at zs zs1
        have E0 : HasBlk (z2.w.alloc (.cells #[.int .i64 ((⟨fh, 3, ⟨0, uh⟩, D⟩ : Fi)).hold, .int .i64 ((⟨fh, 3, ⟨0, uh⟩, D⟩ : Fi)).state, .int .i64 (((⟨fh, 3, ⟨0, uh⟩, D⟩ : Fi)).ull).lo, .int .i64 (((⟨fh, 3, ⟨0, uh⟩, D⟩ : Fi)).ull).hi, .int .i64 (((⟨fh, 3, ⟨0, uh⟩, D⟩ : Fi)).den).lo, .int .i64 (((⟨fh, 3, ⟨0, uh⟩, D⟩ : Fi)).den).hi] 38)) z2.w.heap.size #[.int .i64 ((⟨fh, 3, ⟨0, uh⟩, D⟩ : Fi)).hold, .int .i64 ((⟨fh, 3, ⟨0, uh⟩, D⟩ : Fi)).state, .int .i64 (((⟨fh, 3, ⟨0, uh⟩, D⟩ : Fi)).ull).lo, .int .i64 (((⟨fh, 3, ⟨0, uh⟩, D⟩ : Fi)).ull).hi, .int .i64 (((⟨fh, 3, ⟨0, uh⟩, D⟩ : Fi)).den).lo, .int .i64 (((⟨fh, 3, ⟨0, uh⟩, D⟩ : Fi)).den).hi] 38 := Soft.heap_new _ _
        have BA : Below (z1.w.alloc (.cells #[.int .i64 (h).id, .int .i64 ((h).along).lo, .int .i64 ((h).along).hi, .slice ((h).vol).p ((h).vol).n ((h).vol).c, .slice ((h).mom).p ((h).mom).n ((h).mom).c, .slice ((h).hei).p ((h).hei).n ((h).hei).c, .int .i64 ((h).tri).lo, .int .i64 ((h).tri).hi, .int .i64 ((h).unt).lo, .int .i64 ((h).unt).hi, .int .i64 ((h).v0).lo, .int .i64 ((h).v0).hi, .int .i64 ((h).h0).lo, .int .i64 ((h).h0).hi] 35)).heap.size (z1.w.alloc (.cells #[.int .i64 (h).id, .int .i64 ((h).along).lo, .int .i64 ((h).along).hi, .slice ((h).vol).p ((h).vol).n ((h).vol).c, .slice ((h).mom).p ((h).mom).n ((h).mom).c, .slice ((h).hei).p ((h).hei).n ((h).hei).c, .int .i64 ((h).tri).lo, .int .i64 ((h).tri).hi, .int .i64 ((h).unt).lo, .int .i64 ((h).unt).hi, .int .i64 ((h).v0).lo, .int .i64 ((h).v0).hi, .int .i64 ((h).h0).lo, .int .i64 ((h).h0).hi] 35)) (z2.w.alloc (.cells #[.int .i64 ((⟨fh, 3, ⟨0, uh⟩, D⟩ : Fi)).hold, .int .i64 ((⟨fh, 3, ⟨0, uh⟩, D⟩ : Fi)).state, .int .i64 (((⟨fh, 3, ⟨0, uh⟩, D⟩ : Fi)).ull).lo, .int .i64 (((⟨fh, 3, ⟨0, uh⟩, D⟩ : Fi)).ull).hi, .int .i64 (((⟨fh, 3, ⟨0, uh⟩, D⟩ : Fi)).den).lo, .int .i64 (((⟨fh, 3, ⟨0, uh⟩, D⟩ : Fi)).den).hi] 38)) := by (repeat (first | with_reducible exact bel_refl _ | with_reducible refine bel_alloc ?_ _ | with_reducible refine bel_bw _ ?_ | with_reducible refine bel_drew ?_ | with_reducible refine bel_drewN _ ?_ | ((with_reducible refine bel_set ?_ ?_ _); rotate_left; focus (first | (simp; done) | omega | (simp; omega))) | refine bel_step ?_ (by with_reducible assumption)))
        have E1 : HasBlk (z2.w.alloc (.cells #[.int .i64 ((⟨fh, 3, ⟨0, uh⟩, D⟩ : Fi)).hold, .int .i64 ((⟨fh, 3, ⟨0, uh⟩, D⟩ : Fi)).state, .int .i64 (((⟨fh, 3, ⟨0, uh⟩, D⟩ : Fi)).ull).lo, .int .i64 (((⟨fh, 3, ⟨0, uh⟩, D⟩ : Fi)).ull).hi, .int .i64 (((⟨fh, 3, ⟨0, uh⟩, D⟩ : Fi)).den).lo, .int .i64 (((⟨fh, 3, ⟨0, uh⟩, D⟩ : Fi)).den).hi] 38)) z1.w.heap.size #[.int .i64 (h).id, .int .i64 ((h).along).lo, .int .i64 ((h).along).hi, .slice ((h).vol).p ((h).vol).n ((h).vol).c, .slice ((h).mom).p ((h).mom).n ((h).mom).c, .slice ((h).hei).p ((h).hei).n ((h).hei).c, .int .i64 ((h).tri).lo, .int .i64 ((h).tri).hi, .int .i64 ((h).unt).lo, .int .i64 ((h).unt).hi, .int .i64 ((h).v0).lo, .int .i64 ((h).v0).hi, .int .i64 ((h).h0).lo, .int .i64 ((h).h0).hi] 35 := HasBlk.below (Soft.heap_new _ _) BA
        have F2 : HasBlk (z1.w.alloc (.cells #[.int .i64 (h).id, .int .i64 ((h).along).lo, .int .i64 ((h).along).hi, .slice ((h).vol).p ((h).vol).n ((h).vol).c, .slice ((h).mom).p ((h).mom).n ((h).mom).c, .slice ((h).hei).p ((h).hei).n ((h).hei).c, .int .i64 ((h).tri).lo, .int .i64 ((h).tri).hi, .int .i64 ((h).unt).lo, .int .i64 ((h).unt).hi, .int .i64 ((h).v0).lo, .int .i64 ((h).v0).hi, .int .i64 ((h).h0).lo, .int .i64 ((h).h0).hi] 35)) (w.heap.size + 1 + 1) #[.slice y.c0.p y.c0.n y.c0.c, .slice y.c1.p y.c1.n y.c1.c, .slice y.c2.p y.c2.n y.c2.c, .int .i64 y.place, .int .i64 y.dense] 28 := (by simp only [HasBlk, Soft.BW.heap_if, Soft.heap_alloc_if, Soft.heap_new, Soft.heap_new1, Soft.heap_new2, Soft.heap_new3, Soft.heap_new4, Soft.heap_new5])
        have E2 : HasBlk (z2.w.alloc (.cells #[.int .i64 ((⟨fh, 3, ⟨0, uh⟩, D⟩ : Fi)).hold, .int .i64 ((⟨fh, 3, ⟨0, uh⟩, D⟩ : Fi)).state, .int .i64 (((⟨fh, 3, ⟨0, uh⟩, D⟩ : Fi)).ull).lo, .int .i64 (((⟨fh, 3, ⟨0, uh⟩, D⟩ : Fi)).ull).hi, .int .i64 (((⟨fh, 3, ⟨0, uh⟩, D⟩ : Fi)).den).lo, .int .i64 (((⟨fh, 3, ⟨0, uh⟩, D⟩ : Fi)).den).hi] 38)) (w.heap.size + 1 + 1) #[.slice y.c0.p y.c0.n y.c0.c, .slice y.c1.p y.c1.n y.c1.c, .slice y.c2.p y.c2.n y.c2.c, .int .i64 y.place, .int .i64 y.dense] 28 := F2.below BA
        have F3 : h.At (z1.w.alloc (.cells #[.int .i64 (h).id, .int .i64 ((h).along).lo, .int .i64 ((h).along).hi, .slice ((h).vol).p ((h).vol).n ((h).vol).c, .slice ((h).mom).p ((h).mom).n ((h).mom).c, .slice ((h).hei).p ((h).hei).n ((h).hei).c, .int .i64 ((h).tri).lo, .int .i64 ((h).tri).hi, .int .i64 ((h).unt).lo, .int .i64 ((h).unt).hi, .int .i64 ((h).v0).lo, .int .i64 ((h).v0).hi, .int .i64 ((h).h0).lo, .int .i64 ((h).h0).hi] 35)) := (by with_reducible repeat (first | exact hh | refine Ho.At.alloc ?_ _ | refine Ho.At.bw ?_ _ | refine Tk.At.alloc ?_ _ | refine Tk.At.bw ?_ _))
        have E3 : h.At (z2.w.alloc (.cells #[.int .i64 ((⟨fh, 3, ⟨0, uh⟩, D⟩ : Fi)).hold, .int .i64 ((⟨fh, 3, ⟨0, uh⟩, D⟩ : Fi)).state, .int .i64 (((⟨fh, 3, ⟨0, uh⟩, D⟩ : Fi)).ull).lo, .int .i64 (((⟨fh, 3, ⟨0, uh⟩, D⟩ : Fi)).ull).hi, .int .i64 (((⟨fh, 3, ⟨0, uh⟩, D⟩ : Fi)).den).lo, .int .i64 (((⟨fh, 3, ⟨0, uh⟩, D⟩ : Fi)).den).hi] 38)) := ⟨F3.1.same BA, F3.2.1.same BA, F3.2.2.same BA⟩
        have F4 : y.c0.At (z1.w.alloc (.cells #[.int .i64 (h).id, .int .i64 ((h).along).lo, .int .i64 ((h).along).hi, .slice ((h).vol).p ((h).vol).n ((h).vol).c, .slice ((h).mom).p ((h).mom).n ((h).mom).c, .slice ((h).hei).p ((h).hei).n ((h).hei).c, .int .i64 ((h).tri).lo, .int .i64 ((h).tri).hi, .int .i64 ((h).unt).lo, .int .i64 ((h).unt).hi, .int .i64 ((h).v0).lo, .int .i64 ((h).v0).hi, .int .i64 ((h).h0).lo, .int .i64 ((h).h0).hi] 35)) := (by with_reducible repeat (first | exact hyc | refine Is.At.alloc ?_ _ | refine Is.At.bw ?_ _))
        have E4 : y.c0.At (z2.w.alloc (.cells #[.int .i64 ((⟨fh, 3, ⟨0, uh⟩, D⟩ : Fi)).hold, .int .i64 ((⟨fh, 3, ⟨0, uh⟩, D⟩ : Fi)).state, .int .i64 (((⟨fh, 3, ⟨0, uh⟩, D⟩ : Fi)).ull).lo, .int .i64 (((⟨fh, 3, ⟨0, uh⟩, D⟩ : Fi)).ull).hi, .int .i64 (((⟨fh, 3, ⟨0, uh⟩, D⟩ : Fi)).den).lo, .int .i64 (((⟨fh, 3, ⟨0, uh⟩, D⟩ : Fi)).den).hi] 38)) := F4.below BA
        have F5 : Below w.heap.size w (z1.w.alloc (.cells #[.int .i64 (h).id, .int .i64 ((h).along).lo, .int .i64 ((h).along).hi, .slice ((h).vol).p ((h).vol).n ((h).vol).c, .slice ((h).mom).p ((h).mom).n ((h).mom).c, .slice ((h).hei).p ((h).hei).n ((h).hei).c, .int .i64 ((h).tri).lo, .int .i64 ((h).tri).hi, .int .i64 ((h).unt).lo, .int .i64 ((h).unt).hi, .int .i64 ((h).v0).lo, .int .i64 ((h).v0).hi, .int .i64 ((h).h0).lo, .int .i64 ((h).h0).hi] 35)) := by (repeat (first | with_reducible exact bel_refl _ | with_reducible refine bel_alloc ?_ _ | with_reducible refine bel_bw _ ?_ | with_reducible refine bel_drew ?_ | with_reducible refine bel_drewN _ ?_ | ((with_reducible refine bel_set ?_ ?_ _); rotate_left; focus (first | (simp; done) | omega | (simp; omega))) | refine bel_step ?_ (by with_reducible assumption)))
        have E5 : Below w.heap.size w (z2.w.alloc (.cells #[.int .i64 ((⟨fh, 3, ⟨0, uh⟩, D⟩ : Fi)).hold, .int .i64 ((⟨fh, 3, ⟨0, uh⟩, D⟩ : Fi)).state, .int .i64 (((⟨fh, 3, ⟨0, uh⟩, D⟩ : Fi)).ull).lo, .int .i64 (((⟨fh, 3, ⟨0, uh⟩, D⟩ : Fi)).ull).hi, .int .i64 (((⟨fh, 3, ⟨0, uh⟩, D⟩ : Fi)).den).lo, .int .i64 (((⟨fh, 3, ⟨0, uh⟩, D⟩ : Fi)).den).hi] 38)) := bel_step F5 BA
        clear F2 F3 F4 F5
        generalize z2.w.alloc (.cells #[.int .i64 ((⟨fh, 3, ⟨0, uh⟩, D⟩ : Fi)).hold, .int .i64 ((⟨fh, 3, ⟨0, uh⟩, D⟩ : Fi)).state, .int .i64 (((⟨fh, 3, ⟨0, uh⟩, D⟩ : Fi)).ull).lo, .int .i64 (((⟨fh, 3, ⟨0, uh⟩, D⟩ : Fi)).ull).hi, .int .i64 (((⟨fh, 3, ⟨0, uh⟩, D⟩ : Fi)).den).lo, .int .i64 (((⟨fh, 3, ⟨0, uh⟩, D⟩ : Fi)).den).hi] 38) = W8 at *
        clear hyc CFI BA hn hl1 hl2 hl3 q5
        have hpart : isPart (⟨0, uh⟩ : Rg) (firstX h.vol.ps) (lastX h.vol.ps) := by
          obtain ⟨_, ⟨e, _⟩ | ⟨e, _⟩ | ⟨_, hp, _⟩⟩ := hfi
          · dsimp only at e; omega
          · dsimp only at e; omega
          · exact hp
        have ht2 := hok.tabs.1
        have hend := ht2.ok.ends
        obtain ⟨p1, p2, p3⟩ := hpart
        have hu := somS_in (⟨0, uh⟩ : Rg) y.place p2
        have CU : Hid (∀ W, Calls Try.prog 19 #[.agg #[.int .i64 ((⟨0, uh⟩ : Rg)).lo, .int .i64 ((⟨0, uh⟩ : Rg)).hi], .int .i64 y.place] W fun e w' => e = .returned (.int .i64 (somS (⟨0, uh⟩ : Rg) y.place)) ∧ Below W.heap.size W w') := Lib.hid (fun W => L2_somewhere (⟨0, uh⟩ : Rg) y.place W ⟨by omega, p2, by omega⟩)
        generalize somS (⟨0, uh⟩ : Rg) y.place = u at *
        have hto := somS_in ⟨firstX h.vol.ps, u⟩ (y.place.tdiv 3) (by dsimp only; omega)
        have CT : Hid (∀ W, Calls Try.prog 19 #[.agg #[.int .i64 (firstX h.vol.ps), .int .i64 u], .int .i64 (y.place.tdiv 3)] W fun e w' => e = .returned (.int .i64 (somS ⟨firstX h.vol.ps, u⟩ (y.place.tdiv 3))) ∧ Below W.heap.size W w') := Lib.hid (fun W => L2_somewhere ⟨firstX h.vol.ps, u⟩ (y.place.tdiv 3) W ⟨by dsimp only; omega, by dsimp only; omega, by dsimp only; omega⟩)
        dsimp only at hto
        generalize somS ⟨firstX h.vol.ps, u⟩ (y.place.tdiv 3) = to at *
        have hl := curS_in ht2.ok y.c0.xs
        have hn : 1 ≤ h.vol.n := by rw [← hh.1.1]; exact ht2.ok.pos
        have CC : Hid (∀ W, h.vol.At W → y.c0.At W → Calls Try.prog 21 #[.agg #[.slice (h.vol).p (h.vol).n (h.vol).c], .slice y.c0.p y.c0.n y.c0.c] W (CurvePost h.vol.ps y.c0.xs W)) := Lib.hid (fun W h1 h2 => R2_Curve h.vol y.c0 W h1 h2 ht2.ok)
        have HM := Lib.hid hm; have HFI := Lib.hid hfi; have HT2 := Lib.hid ht2; have HL := Lib.hid hl
        obtain ⟨u1, u2⟩ := hu
        obtain ⟨to1, to2⟩ := hto
        have va := val_bd hm.vol hm.xs.1 ht2 hl (x := u) (by omega) (by omega)
        have vb := val_bd hm.vol hm.xs.1 ht2 hl (x := to) (by omega) (by omega)
        have PP := Lib.hid (fun rho q (h1 : isDen rho) (h2 : rho.lo ≤ q ∧ q ≤ rho.hi) (h3 : 0 ≤ valN h.vol.ps (curS h.vol.ps y.c0.xs h.vol.ps.length) to * valD h.vol.ps u - valN h.vol.ps (curS h.vol.ps y.c0.xs h.vol.ps.length) u * valD h.vol.ps to) => poured_plain hm hfi rfl ⟨u1, u2⟩ ⟨to1, to2⟩ hl h1 h2 rfl h3)
        have CV : Hid (∀ (s : Is) x W, s.xs = curS h.vol.ps y.c0.xs h.vol.ps.length → s.At W → h.vol.At W → firstX h.vol.ps ≤ x ∧ x ≤ lastX h.vol.ps → Calls Try.prog 22 #[.agg #[.slice (h.vol).p (h.vol).n (h.vol).c], .slice s.p s.n s.c, .int .i64 x] W fun e w' => e = .returned (.tuple #[.int .i64 (valN h.vol.ps (curS h.vol.ps y.c0.xs h.vol.ps.length) x), .int .i64 (valD h.vol.ps x)]) ∧ Below W.heap.size W w') := Lib.hid (fun s x W e hs hv hx => by
          have := R2_Value h.vol s x W hv hs HT2.out (by rw [e]; exact HL.out) hx
          rwa [e] at this)
        clear hm hfi ht2 hl hF0 hok
        generalize hcur : curS h.vol.ps y.c0.xs h.vol.ps.length = l at *
        have HC := Lib.hid hcur
        clear hcur
        have i0 := Soft.LtH.mk (w := W8) E0.lt
        have i1 := Soft.LtH.mk (w := W8) E1.lt
        have i2 := Soft.LtH.mk (w := W8) E2.lt
        have e00 := E0.cell 0
        have e01 := E0.cell 1
        have e02 := E0.cell 2
        have e03 := E0.cell 3
        have e04 := E0.cell 4
        have e05 := E0.cell 5
        have e13 := E1.cell 3
        have e20 := E2.cell 0
        have e23 := E2.cell 3
        have e24 := E2.cell 4
        simp at e00 e01 e02 e03 e04 e05 e13 e20 e23 e24
        have HE1 := Lib.hid E1; have HE0 := Lib.hid E0
        have BB := Lib.hid E5
        clear E0 E1 E2 E5
        refine (CU.out _).mono ?_
        rintro e w_ ⟨rfl, hb_⟩
        obtain ⟨s1, rfl⟩ := Soft.BW.mk hb_
        clear hb_
        go_wp2_with fail
        (refine Soft.region0 [0, 1, 2, 3, 4, 5, 6, 7, 8, 9] [] (by kernel_rfl) (by kernel_rfl) (by kernel_rfl) (by kernel_rfl) ?_; change Soft.wpSoft _ _ _ _ _ [_, _, _, _, _, _, _, _, _, _] _; (repeat (refine Soft.soft_step (fun K hK => ?_); go_simp; (try go_bits); first | (refine hK _ ?_; clear hK K) | (apply Exists.intro; refine ⟨fun x => ?_, hK _ ?_⟩; (first | (go_at_call 20; exact R2_First h.vol _ (by repeat (first | exact E3.1 | refine Tb.At.alloc ?_ _ | refine Tb.At.bw ?_ _)) hn) | (go_at_call 19; exact CT.out _)); clear hK K))); refine Soft.soft_nil ?_; intro xw; change wpList _ _ _ [] _ _)
        go_wp2_with (go_at_call 21; refine (CC.out _ (by repeat (first | exact E3.1 | refine Tb.At.alloc ?_ _ | refine Tb.At.bw ?_ _)) (by with_reducible repeat (first | exact E4 | refine Is.At.alloc ?_ _ | refine Is.At.bw ?_ _))).mono ?_; rintro e w_ ⟨cg, cn, cc, rfl, hcg, hcat, hb_⟩; obtain ⟨s2, rfl⟩ := Soft.BW.mk hb_; clear hb_ hcg)
        refine (CV.out ⟨some ⟨cg, 0, none⟩, cn, cc, curS h.vol.ps y.c0.xs h.vol.ps.length⟩ _ _ HC.out (by with_reducible repeat (first | exact hcat | refine Is.At.alloc ?_ _ | refine Is.At.bw ?_ _)) (by repeat (first | exact E3.1 | refine Tb.At.alloc ?_ _ | refine Tb.At.bw ?_ _)) (by omega)).mono ?_
        rintro e w_ ⟨rfl, hb_⟩
        obtain ⟨s3, rfl⟩ := Soft.BW.mk hb_
        clear hb_
        go_wp2_with fail
        refine (CV.out ⟨some ⟨cg, 0, none⟩, cn, cc, curS h.vol.ps y.c0.xs h.vol.ps.length⟩ _ _ HC.out (by with_reducible repeat (first | exact hcat | refine Is.At.alloc ?_ _ | refine Is.At.bw ?_ _)) (by repeat (first | exact E3.1 | refine Tb.At.alloc ?_ _ | refine Tb.At.bw ?_ _)) (by omega)).mono ?_
        rintro e w_ ⟨rfl, hb_⟩
        obtain ⟨s4, rfl⟩ := Soft.BW.mk hb_
        clear hb_ CV
        generalize valN h.vol.ps l u = A at *
        generalize valD h.vol.ps u = B at *
        generalize valN h.vol.ps l to = I at *
        generalize valD h.vol.ps to = J at *
        obtain ⟨A1, A2, B1, B2⟩ := va
        obtain ⟨I1, I2, J1, J2⟩ := vb
        have k1 : 0 ≤ I * B ∧ I * B ≤ 32000000 := ⟨Int.mul_nonneg I1 (by omega), by have := Int.mul_le_mul I2 B2 (by omega) (by omega); omega⟩
        have k2 : 0 ≤ A * J ∧ A * J ≤ 32000000 := ⟨Int.mul_nonneg A1 (by omega), by have := Int.mul_le_mul A2 J2 (by omega) (by omega); omega⟩
        obtain ⟨k11, k12⟩ := k1
        obtain ⟨k21, k22⟩ := k2
        by_cases hneg : I * B - A * J < 0
        · clear PP
          go_wp2_with ((go_at_call 23; (with_reducible refine (L2_sane _).mono ?_); rintro e w_ ⟨rfl, hb_⟩; obtain ⟨s5, rfl⟩ := Soft.BW.mk hb_; clear hb_))
          go_ret
          refine ⟨rfl, ?_⟩
          (repeat (first | with_reducible exact bel_refl _ | with_reducible refine bel_alloc ?_ _ | with_reducible refine bel_bw _ ?_ | with_reducible refine bel_drew ?_ | with_reducible refine bel_drewN _ ?_ | ((with_reducible refine bel_set ?_ ?_ _); rotate_left; focus (first | (simp; done) | omega | (simp; omega))) | refine bel_step ?_ (by with_reducible assumption)))
          exact BB.out
        · have hpos : 0 ≤ I * B - A * J := by omega
          have hrho := denS_in y.dense (y.dense.tdiv 5)
          have hq := somS_in (denS y.dense (y.dense.tdiv 5)) (y.dense.tdiv 11) hrho.2.1
          obtain ⟨⟨n1, n2, n3, n4⟩, PO⟩ := PP.out _ _ hrho hq hpos
          have CD : Hid (∀ W, Calls Try.prog 17 #[.int .i64 y.dense, .int .i64 (y.dense.tdiv 5)] W fun e w' => e = .returned (.agg #[.int .i64 ((denS y.dense (y.dense.tdiv 5))).lo, .int .i64 ((denS y.dense (y.dense.tdiv 5))).hi]) ∧ Below W.heap.size W w') := Lib.hid (fun W => R2_Density _ _ W)
          have CS : Hid (∀ W, Calls Try.prog 24 #[.agg #[.int .i64 ((denS y.dense (y.dense.tdiv 5))).lo, .int .i64 ((denS y.dense (y.dense.tdiv 5))).hi], .int .i64 (y.dense.tdiv 11)] W fun e w' => e = .returned (.int .i64 (somS (denS y.dense (y.dense.tdiv 5)) (y.dense.tdiv 11))) ∧ Below W.heap.size W w') := Lib.hid (fun W => L2_dense _ _ W ⟨by have := hrho.1; omega, hrho.2.1, by have := hrho.2.2; omega⟩)
          generalize denS y.dense (y.dense.tdiv 5) = rho at *
          generalize somS rho (y.dense.tdiv 11) = q at *
          have CA : Hid (∀ W, Calls Try.prog 26 #[.int .i64 ((I * B - A * J) * q), .int .i64 (1000 * B * J)] W fun e w' => e = .returned (.agg #[.int .i64 ((aroS ((I * B - A * J) * q) (1000 * B * J))).lo, .int .i64 ((aroS ((I * B - A * J) * q) (1000 * B * J))).hi]) ∧ Below W.heap.size W w') := Lib.hid (fun W => L2_around _ _ W n1 n2 n3 n4)
          generalize aroS ((I * B - A * J) * q) (1000 * B * J) = m at *
          have CP : Hid (∀ W, h.At W → Calls Try.prog 25 #[.agg #[.int .i64 (h).id, .int .i64 ((h).along).lo, .int .i64 ((h).along).hi, .slice ((h).vol).p ((h).vol).n ((h).vol).c, .slice ((h).mom).p ((h).mom).n ((h).mom).c, .slice ((h).hei).p ((h).hei).n ((h).hei).c, .int .i64 ((h).tri).lo, .int .i64 ((h).tri).hi, .int .i64 ((h).unt).lo, .int .i64 ((h).unt).hi, .int .i64 ((h).v0).lo, .int .i64 ((h).v0).hi, .int .i64 ((h).h0).lo, .int .i64 ((h).h0).hi], .agg #[.int .i64 ((⟨fh, 3, ⟨0, uh⟩, D⟩ : Fi)).hold, .int .i64 ((⟨fh, 3, ⟨0, uh⟩, D⟩ : Fi)).state, .int .i64 (((⟨fh, 3, ⟨0, uh⟩, D⟩ : Fi)).ull).lo, .int .i64 (((⟨fh, 3, ⟨0, uh⟩, D⟩ : Fi)).ull).hi, .int .i64 (((⟨fh, 3, ⟨0, uh⟩, D⟩ : Fi)).den).lo, .int .i64 (((⟨fh, 3, ⟨0, uh⟩, D⟩ : Fi)).den).hi], .agg #[.int .i64 (m).lo, .int .i64 (m).hi], .agg #[.int .i64 (rho).lo, .int .i64 (rho).hi]] W fun e w' => e = .returned (.tuple #[.agg #[.int .i64 ((pourE h (⟨fh, 3, ⟨0, uh⟩, D⟩ : Fi) m rho).1).hold, .int .i64 ((pourE h (⟨fh, 3, ⟨0, uh⟩, D⟩ : Fi) m rho).1).state, .int .i64 (((pourE h (⟨fh, 3, ⟨0, uh⟩, D⟩ : Fi) m rho).1).ull).lo, .int .i64 (((pourE h (⟨fh, 3, ⟨0, uh⟩, D⟩ : Fi) m rho).1).ull).hi, .int .i64 (((pourE h (⟨fh, 3, ⟨0, uh⟩, D⟩ : Fi) m rho).1).den).lo, .int .i64 (((pourE h (⟨fh, 3, ⟨0, uh⟩, D⟩ : Fi) m rho).1).den).hi], .int .i64 (pourE h (⟨fh, 3, ⟨0, uh⟩, D⟩ : Fi) m rho).2]) ∧ Below W.heap.size W w') := Lib.hid (fun W hW => hold_Pour h (⟨fh, 3, ⟨0, uh⟩, D⟩ : Fi) m rho W hW)
          obtain ⟨g1, g2, g3, g4, g5, g6⟩ := PO
          generalize pourE h (⟨fh, 3, ⟨0, uh⟩, D⟩ : Fi) m rho = ge at *
          obtain ⟨⟨gh, gs, ⟨gl, gu⟩, gd⟩, ger⟩ := ge
          dsimp only at g1 g2 g3 g4 g5 g6
          subst g1 g2
          obtain ⟨rh1, rh2, rh3⟩ := hrho
          obtain ⟨q1_, q2_⟩ := hq
          clear PP
          have hnd : decide (I * B - A * J < 0) = false := decide_eq_false hneg
          go_wp2_with (first | (go_at_call 17; (with_reducible refine (CD.out _).mono ?_); rintro e w_ ⟨rfl, hb_⟩; obtain ⟨s5, rfl⟩ := Soft.BW.mk hb_; clear hb_) | (go_at_call 24; (with_reducible refine (CS.out _).mono ?_); rintro e w_ ⟨rfl, hb_⟩; obtain ⟨s6, rfl⟩ := Soft.BW.mk hb_; clear hb_))
          have hb0 := HE1.out.cell 0
          have hb1 := HE1.out.cell 1
          have hb2 := HE1.out.cell 2
          have hb3 := HE1.out.cell 3
          have hb4 := HE1.out.cell 4
          have hb5 := HE1.out.cell 5
          have hb6 := HE1.out.cell 6
          have hb7 := HE1.out.cell 7
          have hb8 := HE1.out.cell 8
          have hb9 := HE1.out.cell 9
          have hb10 := HE1.out.cell 10
          have hb11 := HE1.out.cell 11
          have hb12 := HE1.out.cell 12
          have hb13 := HE1.out.cell 13
          simp at hb0 hb1 hb2 hb3 hb4 hb5 hb6 hb7 hb8 hb9 hb10 hb11 hb12 hb13
          (refine Soft.region1e 14 16 [0, 1, 2, 3, 4, 5, 6, 7, 8, 9, 10, 11, 12, 13, 14] 15 [16, 17] _ (by kernel_rfl) (by kernel_rfl) (by intro _ _ _ _ _ _ h; dsimp +zetaDelta only [Exit.then] at h ⊢; exact Soft.bodyPost_put h) (by kernel_rfl) (by kernel_rfl) (by decide) rfl rfl (by kernel_rfl) ?_; change Soft.wpSoft _ _ _ _ _ [_, _, _, _, _, _, _, _, _, _, _, _, _, _, _] _; (repeat (refine Soft.soft_step (fun K hK => ?_); go_simp; (try go_bits); first | (refine hK _ ?_; clear hK K) | (apply Exists.intro; refine ⟨fun x => ?_, hK _ ?_⟩; (first | (go_at_call 26; exact CA.out _) | (go_at_call 25; exact CP.out _ (by with_reducible repeat (first | exact E3 | refine Ho.At.alloc ?_ _ | refine Ho.At.bw ?_ _ | refine Tk.At.alloc ?_ _ | refine Tk.At.bw ?_ _)))); clear hK K))); refine Soft.soft_nil ?_)
          refine ⟨fun b => .pointer (some ⟨b, 0, none⟩), .cells #[.int .i64 0, .int .i64 0, .int .i64 0, .int .i64 0, .int .i64 0, .int .i64 0] 38, fun x => by go_simp, fun kb xx hnew => ?_⟩
          change wpList _ _ _ [_, _] _ _
          have ka0 := hnew.le
          have sz1 := s1.below.size
          have szx := xw.below.size
          have sz2 := s2.below.size
          have sz3 := s3.below.size
          have sz4 := s4.below.size
          have sz5 := s5.below.size
          have sz6 := s6.below.size
          have sl8 := i0.lt
          simp at ka0 sz6
          have C0 : HasBlk xx.w z2.w.heap.size #[.int .i64 ((⟨fh, 3, ⟨0, uh⟩, D⟩ : Fi)).hold, .int .i64 ((⟨fh, 3, ⟨0, uh⟩, D⟩ : Fi)).state, .int .i64 (((⟨fh, 3, ⟨0, uh⟩, D⟩ : Fi)).ull).lo, .int .i64 (((⟨fh, 3, ⟨0, uh⟩, D⟩ : Fi)).ull).hi, .int .i64 (((⟨fh, 3, ⟨0, uh⟩, D⟩ : Fi)).den).lo, .int .i64 (((⟨fh, 3, ⟨0, uh⟩, D⟩ : Fi)).den).hi] 38 := (by have := HE0.out; simp only [HasBlk, Soft.BW.heap_if, Soft.heap_alloc_if]; exact this)
          have C1 : HasBlk xx.w s5.w.heap.size #[.int .i64 (rho).lo, .int .i64 (rho).hi] 30 := (by simp only [HasBlk, Soft.BW.heap_if, Soft.heap_alloc_if, Soft.heap_new, Soft.heap_new1, Soft.heap_new2, Soft.heap_new3, Soft.heap_new4, Soft.heap_new5])
          have CX := hnew.at_
          have CE : Below w.heap.size w xx.w := by (repeat (first | with_reducible exact bel_refl _ | with_reducible refine bel_alloc ?_ _ | with_reducible refine bel_bw _ ?_ | with_reducible refine bel_drew ?_ | with_reducible refine bel_drewN _ ?_ | ((with_reducible refine bel_set ?_ ?_ _); rotate_left; focus (first | (simp; done) | omega | (simp; omega))) | refine bel_step ?_ (by with_reducible assumption))); exact BB.out
          have wz : w.heap.size ≤ kb := by have := i2.lt; omega
          refine wpList_store_row rfl 38 _ _ rfl kb _ rfl rfl 38 _ CX (by kernel_rfl) rfl (by kernel_rfl) ?_
          have D0 := HasBlk.rowx C0 (show z2.w.heap.size ≠ kb by omega) #[.int .i64 ((⟨gh, 3, ⟨gl, gu⟩, gd⟩ : Fi)).hold, .int .i64 ((⟨gh, 3, ⟨gl, gu⟩, gd⟩ : Fi)).state, .int .i64 (((⟨gh, 3, ⟨gl, gu⟩, gd⟩ : Fi)).ull).lo, .int .i64 (((⟨gh, 3, ⟨gl, gu⟩, gd⟩ : Fi)).ull).hi, .int .i64 (((⟨gh, 3, ⟨gl, gu⟩, gd⟩ : Fi)).den).lo, .int .i64 (((⟨gh, 3, ⟨gl, gu⟩, gd⟩ : Fi)).den).hi]
          have D1 := HasBlk.rowx C1 (show s5.w.heap.size ≠ kb by omega) #[.int .i64 ((⟨gh, 3, ⟨gl, gu⟩, gd⟩ : Fi)).hold, .int .i64 ((⟨gh, 3, ⟨gl, gu⟩, gd⟩ : Fi)).state, .int .i64 (((⟨gh, 3, ⟨gl, gu⟩, gd⟩ : Fi)).ull).lo, .int .i64 (((⟨gh, 3, ⟨gl, gu⟩, gd⟩ : Fi)).ull).hi, .int .i64 (((⟨gh, 3, ⟨gl, gu⟩, gd⟩ : Fi)).den).lo, .int .i64 (((⟨gh, 3, ⟨gl, gu⟩, gd⟩ : Fi)).den).hi]
          have DA : HasBlk (xx.w.setRow kb #[.int .i64 ((⟨gh, 3, ⟨gl, gu⟩, gd⟩ : Fi)).hold, .int .i64 ((⟨gh, 3, ⟨gl, gu⟩, gd⟩ : Fi)).state, .int .i64 (((⟨gh, 3, ⟨gl, gu⟩, gd⟩ : Fi)).ull).lo, .int .i64 (((⟨gh, 3, ⟨gl, gu⟩, gd⟩ : Fi)).ull).hi, .int .i64 (((⟨gh, 3, ⟨gl, gu⟩, gd⟩ : Fi)).den).lo, .int .i64 (((⟨gh, 3, ⟨gl, gu⟩, gd⟩ : Fi)).den).hi]) kb #[.int .i64 ((⟨gh, 3, ⟨gl, gu⟩, gd⟩ : Fi)).hold, .int .i64 ((⟨gh, 3, ⟨gl, gu⟩, gd⟩ : Fi)).state, .int .i64 (((⟨gh, 3, ⟨gl, gu⟩, gd⟩ : Fi)).ull).lo, .int .i64 (((⟨gh, 3, ⟨gl, gu⟩, gd⟩ : Fi)).ull).hi, .int .i64 (((⟨gh, 3, ⟨gl, gu⟩, gd⟩ : Fi)).den).lo, .int .i64 (((⟨gh, 3, ⟨gl, gu⟩, gd⟩ : Fi)).den).hi] 38 := setRow_heap _ _ _ _ _ _ CX
          have DE := below_setRow (g := kb) CE wz #[.int .i64 ((⟨gh, 3, ⟨gl, gu⟩, gd⟩ : Fi)).hold, .int .i64 ((⟨gh, 3, ⟨gl, gu⟩, gd⟩ : Fi)).state, .int .i64 (((⟨gh, 3, ⟨gl, gu⟩, gd⟩ : Fi)).ull).lo, .int .i64 (((⟨gh, 3, ⟨gl, gu⟩, gd⟩ : Fi)).ull).hi, .int .i64 (((⟨gh, 3, ⟨gl, gu⟩, gd⟩ : Fi)).den).lo, .int .i64 (((⟨gh, 3, ⟨gl, gu⟩, gd⟩ : Fi)).den).hi]
          have d0 := D0.cell 4
          have d1 := D0.cell 5
          have d2 := D1.cell 0
          have d3 := D1.cell 1
          have d4 := DA.cell 1
          have d5 := DA.cell 2
          have d6 := DA.cell 3
          have d7 := DA.cell 4
          have d8 := DA.cell 5
          simp at d0 d1 d2 d3 d4 d5 d6 d7 d8
          clear C0 C1 CX CE
          generalize xx.w.setRow kb #[.int .i64 ((⟨gh, 3, ⟨gl, gu⟩, gd⟩ : Fi)).hold, .int .i64 ((⟨gh, 3, ⟨gl, gu⟩, gd⟩ : Fi)).state, .int .i64 (((⟨gh, 3, ⟨gl, gu⟩, gd⟩ : Fi)).ull).lo, .int .i64 (((⟨gh, 3, ⟨gl, gu⟩, gd⟩ : Fi)).ull).hi, .int .i64 (((⟨gh, 3, ⟨gl, gu⟩, gd⟩ : Fi)).den).lo, .int .i64 (((⟨gh, 3, ⟨gl, gu⟩, gd⟩ : Fi)).den).hi] = W9 at *
          have iz := Soft.LtH.mk (w := W9) D0.lt
          have iy := Soft.LtH.mk (w := W9) D1.lt
          have ix := Soft.LtH.mk (w := W9) DA.lt
          clear D0 D1 DA
          have HDE := Lib.hid DE
          clear DE
          go_wp2_with (first | (go_at_call 27; (with_reducible refine (R2_Inside (D) gd _ true (decide_eq_true g5).symm).mono ?_); rintro e w_ ⟨rfl, hb_⟩; obtain ⟨s7, rfl⟩ := Soft.BW.mk hb_; clear hb_) | (go_at_call 27; (with_reducible refine (R2_Inside rho gd _ true (decide_eq_true g6).symm).mono ?_); rintro e w_ ⟨rfl, hb_⟩; obtain ⟨s8, rfl⟩ := Soft.BW.mk hb_; clear hb_) | (go_at_call 23; (with_reducible refine (L2_sane _).mono ?_); rintro e w_ ⟨rfl, hb_⟩; obtain ⟨s9, rfl⟩ := Soft.BW.mk hb_; clear hb_))
          go_ret
          refine ⟨rfl, ?_⟩
          (repeat (first | with_reducible exact bel_refl _ | with_reducible refine bel_alloc ?_ _ | with_reducible refine bel_bw _ ?_ | with_reducible refine bel_drew ?_ | with_reducible refine bel_drewN _ ?_ | ((with_reducible refine bel_set ?_ ?_ _); rotate_left; focus (first | (simp; done) | omega | (simp; omega))) | refine bel_step ?_ (by with_reducible assumption)))
          exact HDE.out
    · obtain ⟨fh, fs, ⟨ul, uh⟩, D⟩ := f0
      dsimp only at *
      have q5 : ¬(ul = 0 ∧ uh = 0) := fun e => q3 e.1
      have hfi : FillIn h ⟨fh, 3, ⟨ul, uh⟩, D⟩ := by
        obtain ⟨a, ⟨_, e1, e2⟩ | ⟨_, e1, e⟩ | ⟨e0, e1, e⟩⟩ := hF0
        · cases e1; exact absurd ⟨rfl, rfl⟩ q5
        · cases e1; exact absurd ⟨rfl, rfl⟩ q5
        · exact ⟨a, .inr (.inr ⟨⟨by dsimp only; omega, by dsimp only; omega⟩, e1, e⟩)⟩
      go_wp2_with ((go_at_call 16; (with_reducible refine (CFI.out _ (by with_reducible repeat (first | exact hh | refine Ho.At.alloc ?_ _ | refine Ho.At.bw ?_ _ | refine Tk.At.alloc ?_ _ | refine Tk.At.bw ?_ _))).mono ?_); rintro e w_ ⟨rfl, hb_⟩; obtain ⟨z2, rfl⟩ := Soft.BW.mk hb_; clear hb_))
      have zs := z2.below.size
      have zs1 := z1.below.size
      simp at zs zs1
      have E0 : HasBlk (z2.w.alloc (.cells #[.int .i64 ((⟨fh, 3, ⟨ul, uh⟩, D⟩ : Fi)).hold, .int .i64 ((⟨fh, 3, ⟨ul, uh⟩, D⟩ : Fi)).state, .int .i64 (((⟨fh, 3, ⟨ul, uh⟩, D⟩ : Fi)).ull).lo, .int .i64 (((⟨fh, 3, ⟨ul, uh⟩, D⟩ : Fi)).ull).hi, .int .i64 (((⟨fh, 3, ⟨ul, uh⟩, D⟩ : Fi)).den).lo, .int .i64 (((⟨fh, 3, ⟨ul, uh⟩, D⟩ : Fi)).den).hi] 38)) z2.w.heap.size #[.int .i64 ((⟨fh, 3, ⟨ul, uh⟩, D⟩ : Fi)).hold, .int .i64 ((⟨fh, 3, ⟨ul, uh⟩, D⟩ : Fi)).state, .int .i64 (((⟨fh, 3, ⟨ul, uh⟩, D⟩ : Fi)).ull).lo, .int .i64 (((⟨fh, 3, ⟨ul, uh⟩, D⟩ : Fi)).ull).hi, .int .i64 (((⟨fh, 3, ⟨ul, uh⟩, D⟩ : Fi)).den).lo, .int .i64 (((⟨fh, 3, ⟨ul, uh⟩, D⟩ : Fi)).den).hi] 38 := Soft.heap_new _ _
      have BA : Below (z1.w.alloc (.cells #[.int .i64 (h).id, .int .i64 ((h).along).lo, .int .i64 ((h).along).hi, .slice ((h).vol).p ((h).vol).n ((h).vol).c, .slice ((h).mom).p ((h).mom).n ((h).mom).c, .slice ((h).hei).p ((h).hei).n ((h).hei).c, .int .i64 ((h).tri).lo, .int .i64 ((h).tri).hi, .int .i64 ((h).unt).lo, .int .i64 ((h).unt).hi, .int .i64 ((h).v0).lo, .int .i64 ((h).v0).hi, .int .i64 ((h).h0).lo, .int .i64 ((h).h0).hi] 35)).heap.size (z1.w.alloc (.cells #[.int .i64 (h).id, .int .i64 ((h).along).lo, .int .i64 ((h).along).hi, .slice ((h).vol).p ((h).vol).n ((h).vol).c, .slice ((h).mom).p ((h).mom).n ((h).mom).c, .slice ((h).hei).p ((h).hei).n ((h).hei).c, .int .i64 ((h).tri).lo, .int .i64 ((h).tri).hi, .int .i64 ((h).unt).lo, .int .i64 ((h).unt).hi, .int .i64 ((h).v0).lo, .int .i64 ((h).v0).hi, .int .i64 ((h).h0).lo, .int .i64 ((h).h0).hi] 35)) (z2.w.alloc (.cells #[.int .i64 ((⟨fh, 3, ⟨ul, uh⟩, D⟩ : Fi)).hold, .int .i64 ((⟨fh, 3, ⟨ul, uh⟩, D⟩ : Fi)).state, .int .i64 (((⟨fh, 3, ⟨ul, uh⟩, D⟩ : Fi)).ull).lo, .int .i64 (((⟨fh, 3, ⟨ul, uh⟩, D⟩ : Fi)).ull).hi, .int .i64 (((⟨fh, 3, ⟨ul, uh⟩, D⟩ : Fi)).den).lo, .int .i64 (((⟨fh, 3, ⟨ul, uh⟩, D⟩ : Fi)).den).hi] 38)) := by (repeat (first | with_reducible exact bel_refl _ | with_reducible refine bel_alloc ?_ _ | with_reducible refine bel_bw _ ?_ | with_reducible refine bel_drew ?_ | with_reducible refine bel_drewN _ ?_ | ((with_reducible refine bel_set ?_ ?_ _); rotate_left; focus (first | (simp; done) | omega | (simp; omega))) | refine bel_step ?_ (by with_reducible assumption)))
      have E1 : HasBlk (z2.w.alloc (.cells #[.int .i64 ((⟨fh, 3, ⟨ul, uh⟩, D⟩ : Fi)).hold, .int .i64 ((⟨fh, 3, ⟨ul, uh⟩, D⟩ : Fi)).state, .int .i64 (((⟨fh, 3, ⟨ul, uh⟩, D⟩ : Fi)).ull).lo, .int .i64 (((⟨fh, 3, ⟨ul, uh⟩, D⟩ : Fi)).ull).hi, .int .i64 (((⟨fh, 3, ⟨ul, uh⟩, D⟩ : Fi)).den).lo, .int .i64 (((⟨fh, 3, ⟨ul, uh⟩, D⟩ : Fi)).den).hi] 38)) z1.w.heap.size #[.int .i64 (h).id, .int .i64 ((h).along).lo, .int .i64 ((h).along).hi, .slice ((h).vol).p ((h).vol).n ((h).vol).c, .slice ((h).mom).p ((h).mom).n ((h).mom).c, .slice ((h).hei).p ((h).hei).n ((h).hei).c, .int .i64 ((h).tri).lo, .int .i64 ((h).tri).hi, .int .i64 ((h).unt).lo, .int .i64 ((h).unt).hi, .int .i64 ((h).v0).lo, .int .i64 ((h).v0).hi, .int .i64 ((h).h0).lo, .int .i64 ((h).h0).hi] 35 := HasBlk.below (Soft.heap_new _ _) BA
      have F2 : HasBlk (z1.w.alloc (.cells #[.int .i64 (h).id, .int .i64 ((h).along).lo, .int .i64 ((h).along).hi, .slice ((h).vol).p ((h).vol).n ((h).vol).c, .slice ((h).mom).p ((h).mom).n ((h).mom).c, .slice ((h).hei).p ((h).hei).n ((h).hei).c, .int .i64 ((h).tri).lo, .int .i64 ((h).tri).hi, .int .i64 ((h).unt).lo, .int .i64 ((h).unt).hi, .int .i64 ((h).v0).lo, .int .i64 ((h).v0).hi, .int .i64 ((h).h0).lo, .int .i64 ((h).h0).hi] 35)) (w.heap.size + 1 + 1) #[.slice y.c0.p y.c0.n y.c0.c, .slice y.c1.p y.c1.n y.c1.c, .slice y.c2.p y.c2.n y.c2.c, .int .i64 y.place, .int .i64 y.dense] 28 := (by simp only [HasBlk, Soft.BW.heap_if, Soft.heap_alloc_if, Soft.heap_new, Soft.heap_new1, Soft.heap_new2, Soft.heap_new3, Soft.heap_new4, Soft.heap_new5])
      have E2 : HasBlk (z2.w.alloc (.cells #[.int .i64 ((⟨fh, 3, ⟨ul, uh⟩, D⟩ : Fi)).hold, .int .i64 ((⟨fh, 3, ⟨ul, uh⟩, D⟩ : Fi)).state, .int .i64 (((⟨fh, 3, ⟨ul, uh⟩, D⟩ : Fi)).ull).lo, .int .i64 (((⟨fh, 3, ⟨ul, uh⟩, D⟩ : Fi)).ull).hi, .int .i64 (((⟨fh, 3, ⟨ul, uh⟩, D⟩ : Fi)).den).lo, .int .i64 (((⟨fh, 3, ⟨ul, uh⟩, D⟩ : Fi)).den).hi] 38)) (w.heap.size + 1 + 1) #[.slice y.c0.p y.c0.n y.c0.c, .slice y.c1.p y.c1.n y.c1.c, .slice y.c2.p y.c2.n y.c2.c, .int .i64 y.place, .int .i64 y.dense] 28 := F2.below BA
      have F3 : h.At (z1.w.alloc (.cells #[.int .i64 (h).id, .int .i64 ((h).along).lo, .int .i64 ((h).along).hi, .slice ((h).vol).p ((h).vol).n ((h).vol).c, .slice ((h).mom).p ((h).mom).n ((h).mom).c, .slice ((h).hei).p ((h).hei).n ((h).hei).c, .int .i64 ((h).tri).lo, .int .i64 ((h).tri).hi, .int .i64 ((h).unt).lo, .int .i64 ((h).unt).hi, .int .i64 ((h).v0).lo, .int .i64 ((h).v0).hi, .int .i64 ((h).h0).lo, .int .i64 ((h).h0).hi] 35)) := (by with_reducible repeat (first | exact hh | refine Ho.At.alloc ?_ _ | refine Ho.At.bw ?_ _ | refine Tk.At.alloc ?_ _ | refine Tk.At.bw ?_ _))
      have E3 : h.At (z2.w.alloc (.cells #[.int .i64 ((⟨fh, 3, ⟨ul, uh⟩, D⟩ : Fi)).hold, .int .i64 ((⟨fh, 3, ⟨ul, uh⟩, D⟩ : Fi)).state, .int .i64 (((⟨fh, 3, ⟨ul, uh⟩, D⟩ : Fi)).ull).lo, .int .i64 (((⟨fh, 3, ⟨ul, uh⟩, D⟩ : Fi)).ull).hi, .int .i64 (((⟨fh, 3, ⟨ul, uh⟩, D⟩ : Fi)).den).lo, .int .i64 (((⟨fh, 3, ⟨ul, uh⟩, D⟩ : Fi)).den).hi] 38)) := ⟨F3.1.same BA, F3.2.1.same BA, F3.2.2.same BA⟩
      have F4 : y.c0.At (z1.w.alloc (.cells #[.int .i64 (h).id, .int .i64 ((h).along).lo, .int .i64 ((h).along).hi, .slice ((h).vol).p ((h).vol).n ((h).vol).c, .slice ((h).mom).p ((h).mom).n ((h).mom).c, .slice ((h).hei).p ((h).hei).n ((h).hei).c, .int .i64 ((h).tri).lo, .int .i64 ((h).tri).hi, .int .i64 ((h).unt).lo, .int .i64 ((h).unt).hi, .int .i64 ((h).v0).lo, .int .i64 ((h).v0).hi, .int .i64 ((h).h0).lo, .int .i64 ((h).h0).hi] 35)) := (by with_reducible repeat (first | exact hyc | refine Is.At.alloc ?_ _ | refine Is.At.bw ?_ _))
      have E4 : y.c0.At (z2.w.alloc (.cells #[.int .i64 ((⟨fh, 3, ⟨ul, uh⟩, D⟩ : Fi)).hold, .int .i64 ((⟨fh, 3, ⟨ul, uh⟩, D⟩ : Fi)).state, .int .i64 (((⟨fh, 3, ⟨ul, uh⟩, D⟩ : Fi)).ull).lo, .int .i64 (((⟨fh, 3, ⟨ul, uh⟩, D⟩ : Fi)).ull).hi, .int .i64 (((⟨fh, 3, ⟨ul, uh⟩, D⟩ : Fi)).den).lo, .int .i64 (((⟨fh, 3, ⟨ul, uh⟩, D⟩ : Fi)).den).hi] 38)) := F4.below BA
      have F5 : Below w.heap.size w (z1.w.alloc (.cells #[.int .i64 (h).id, .int .i64 ((h).along).lo, .int .i64 ((h).along).hi, .slice ((h).vol).p ((h).vol).n ((h).vol).c, .slice ((h).mom).p ((h).mom).n ((h).mom).c, .slice ((h).hei).p ((h).hei).n ((h).hei).c, .int .i64 ((h).tri).lo, .int .i64 ((h).tri).hi, .int .i64 ((h).unt).lo, .int .i64 ((h).unt).hi, .int .i64 ((h).v0).lo, .int .i64 ((h).v0).hi, .int .i64 ((h).h0).lo, .int .i64 ((h).h0).hi] 35)) := by (repeat (first | with_reducible exact bel_refl _ | with_reducible refine bel_alloc ?_ _ | with_reducible refine bel_bw _ ?_ | with_reducible refine bel_drew ?_ | with_reducible refine bel_drewN _ ?_ | ((with_reducible refine bel_set ?_ ?_ _); rotate_left; focus (first | (simp; done) | omega | (simp; omega))) | refine bel_step ?_ (by with_reducible assumption)))
      have E5 : Below w.heap.size w (z2.w.alloc (.cells #[.int .i64 ((⟨fh, 3, ⟨ul, uh⟩, D⟩ : Fi)).hold, .int .i64 ((⟨fh, 3, ⟨ul, uh⟩, D⟩ : Fi)).state, .int .i64 (((⟨fh, 3, ⟨ul, uh⟩, D⟩ : Fi)).ull).lo, .int .i64 (((⟨fh, 3, ⟨ul, uh⟩, D⟩ : Fi)).ull).hi, .int .i64 (((⟨fh, 3, ⟨ul, uh⟩, D⟩ : Fi)).den).lo, .int .i64 (((⟨fh, 3, ⟨ul, uh⟩, D⟩ : Fi)).den).hi] 38)) := bel_step F5 BA
      clear F2 F3 F4 F5
      generalize z2.w.alloc (.cells #[.int .i64 ((⟨fh, 3, ⟨ul, uh⟩, D⟩ : Fi)).hold, .int .i64 ((⟨fh, 3, ⟨ul, uh⟩, D⟩ : Fi)).state, .int .i64 (((⟨fh, 3, ⟨ul, uh⟩, D⟩ : Fi)).ull).lo, .int .i64 (((⟨fh, 3, ⟨ul, uh⟩, D⟩ : Fi)).ull).hi, .int .i64 (((⟨fh, 3, ⟨ul, uh⟩, D⟩ : Fi)).den).lo, .int .i64 (((⟨fh, 3, ⟨ul, uh⟩, D⟩ : Fi)).den).hi] 38) = W8 at *
      clear hyc CFI BA hn hl1 hl2 hl3 q5
      have hpart : isPart (⟨ul, uh⟩ : Rg) (firstX h.vol.ps) (lastX h.vol.ps) := by
        obtain ⟨_, ⟨e, _⟩ | ⟨e, _⟩ | ⟨_, hp, _⟩⟩ := hfi
        · dsimp only at e; omega
        · dsimp only at e; omega
        · exact hp
      have ht2 := hok.tabs.1
      have hend := ht2.ok.ends
      obtain ⟨p1, p2, p3⟩ := hpart
      have hu := somS_in (⟨ul, uh⟩ : Rg) y.place p2
      have CU : Hid (∀ W, Calls Try.prog 19 #[.agg #[.int .i64 ((⟨ul, uh⟩ : Rg)).lo, .int .i64 ((⟨ul, uh⟩ : Rg)).hi], .int .i64 y.place] W fun e w' => e = .returned (.int .i64 (somS (⟨ul, uh⟩ : Rg) y.place)) ∧ Below W.heap.size W w') := Lib.hid (fun W => L2_somewhere (⟨ul, uh⟩ : Rg) y.place W ⟨by omega, p2, by omega⟩)
      generalize somS (⟨ul, uh⟩ : Rg) y.place = u at *
      have hto := somS_in ⟨firstX h.vol.ps, u⟩ (y.place.tdiv 3) (by dsimp only; omega)
      have CT : Hid (∀ W, Calls Try.prog 19 #[.agg #[.int .i64 (firstX h.vol.ps), .int .i64 u], .int .i64 (y.place.tdiv 3)] W fun e w' => e = .returned (.int .i64 (somS ⟨firstX h.vol.ps, u⟩ (y.place.tdiv 3))) ∧ Below W.heap.size W w') := Lib.hid (fun W => L2_somewhere ⟨firstX h.vol.ps, u⟩ (y.place.tdiv 3) W ⟨by dsimp only; omega, by dsimp only; omega, by dsimp only; omega⟩)
      dsimp only at hto
      generalize somS ⟨firstX h.vol.ps, u⟩ (y.place.tdiv 3) = to at *
      have hl := curS_in ht2.ok y.c0.xs
      have hn : 1 ≤ h.vol.n := by rw [← hh.1.1]; exact ht2.ok.pos
      have CC : Hid (∀ W, h.vol.At W → y.c0.At W → Calls Try.prog 21 #[.agg #[.slice (h.vol).p (h.vol).n (h.vol).c], .slice y.c0.p y.c0.n y.c0.c] W (CurvePost h.vol.ps y.c0.xs W)) := Lib.hid (fun W h1 h2 => R2_Curve h.vol y.c0 W h1 h2 ht2.ok)
      have HM := Lib.hid hm; have HFI := Lib.hid hfi; have HT2 := Lib.hid ht2; have HL := Lib.hid hl
      obtain ⟨u1, u2⟩ := hu
      obtain ⟨to1, to2⟩ := hto
      have va := val_bd hm.vol hm.xs.1 ht2 hl (x := u) (by omega) (by omega)
      have vb := val_bd hm.vol hm.xs.1 ht2 hl (x := to) (by omega) (by omega)
      have PP := Lib.hid (fun rho q (h1 : isDen rho) (h2 : rho.lo ≤ q ∧ q ≤ rho.hi) (h3 : 0 ≤ valN h.vol.ps (curS h.vol.ps y.c0.xs h.vol.ps.length) to * valD h.vol.ps u - valN h.vol.ps (curS h.vol.ps y.c0.xs h.vol.ps.length) u * valD h.vol.ps to) => poured_plain hm hfi rfl ⟨u1, u2⟩ ⟨to1, to2⟩ hl h1 h2 rfl h3)
      have CV : Hid (∀ (s : Is) x W, s.xs = curS h.vol.ps y.c0.xs h.vol.ps.length → s.At W → h.vol.At W → firstX h.vol.ps ≤ x ∧ x ≤ lastX h.vol.ps → Calls Try.prog 22 #[.agg #[.slice (h.vol).p (h.vol).n (h.vol).c], .slice s.p s.n s.c, .int .i64 x] W fun e w' => e = .returned (.tuple #[.int .i64 (valN h.vol.ps (curS h.vol.ps y.c0.xs h.vol.ps.length) x), .int .i64 (valD h.vol.ps x)]) ∧ Below W.heap.size W w') := Lib.hid (fun s x W e hs hv hx => by
        have := R2_Value h.vol s x W hv hs HT2.out (by rw [e]; exact HL.out) hx
        rwa [e] at this)
      clear hm hfi ht2 hl hF0 hok
      generalize hcur : curS h.vol.ps y.c0.xs h.vol.ps.length = l at *
      have HC := Lib.hid hcur
      clear hcur
      have i0 := Soft.LtH.mk (w := W8) E0.lt
      have i1 := Soft.LtH.mk (w := W8) E1.lt
      have i2 := Soft.LtH.mk (w := W8) E2.lt
      have e00 := E0.cell 0
      have e01 := E0.cell 1
      have e02 := E0.cell 2
      have e03 := E0.cell 3
      have e04 := E0.cell 4
      have e05 := E0.cell 5
      have e13 := E1.cell 3
      have e20 := E2.cell 0
      have e23 := E2.cell 3
      have e24 := E2.cell 4
      simp at e00 e01 e02 e03 e04 e05 e13 e20 e23 e24
      have HE1 := Lib.hid E1; have HE0 := Lib.hid E0
      have BB := Lib.hid E5
      clear E0 E1 E2 E5
      refine (CU.out _).mono ?_
      rintro e w_ ⟨rfl, hb_⟩
      obtain ⟨s1, rfl⟩ := Soft.BW.mk hb_
      clear hb_
      go_wp2_with fail
      (refine Soft.region0 [0, 1, 2, 3, 4, 5, 6, 7, 8, 9] [] (by kernel_rfl) (by kernel_rfl) (by kernel_rfl) (by kernel_rfl) ?_; change Soft.wpSoft _ _ _ _ _ [_, _, _, _, _, _, _, _, _, _] _; (repeat (refine Soft.soft_step (fun K hK => ?_); go_simp; (try go_bits); first | (refine hK _ ?_; clear hK K) | (apply Exists.intro; refine ⟨fun x => ?_, hK _ ?_⟩; (first | (go_at_call 20; exact R2_First h.vol _ (by repeat (first | exact E3.1 | refine Tb.At.alloc ?_ _ | refine Tb.At.bw ?_ _)) hn) | (go_at_call 19; exact CT.out _)); clear hK K))); refine Soft.soft_nil ?_; intro xw; change wpList _ _ _ [] _ _)
      go_wp2_with (go_at_call 21; refine (CC.out _ (by repeat (first | exact E3.1 | refine Tb.At.alloc ?_ _ | refine Tb.At.bw ?_ _)) (by with_reducible repeat (first | exact E4 | refine Is.At.alloc ?_ _ | refine Is.At.bw ?_ _))).mono ?_; rintro e w_ ⟨cg, cn, cc, rfl, hcg, hcat, hb_⟩; obtain ⟨s2, rfl⟩ := Soft.BW.mk hb_; clear hb_ hcg)
      refine (CV.out ⟨some ⟨cg, 0, none⟩, cn, cc, curS h.vol.ps y.c0.xs h.vol.ps.length⟩ _ _ HC.out (by with_reducible repeat (first | exact hcat | refine Is.At.alloc ?_ _ | refine Is.At.bw ?_ _)) (by repeat (first | exact E3.1 | refine Tb.At.alloc ?_ _ | refine Tb.At.bw ?_ _)) (by omega)).mono ?_
      rintro e w_ ⟨rfl, hb_⟩
      obtain ⟨s3, rfl⟩ := Soft.BW.mk hb_
      clear hb_
      go_wp2_with fail
      refine (CV.out ⟨some ⟨cg, 0, none⟩, cn, cc, curS h.vol.ps y.c0.xs h.vol.ps.length⟩ _ _ HC.out (by with_reducible repeat (first | exact hcat | refine Is.At.alloc ?_ _ | refine Is.At.bw ?_ _)) (by repeat (first | exact E3.1 | refine Tb.At.alloc ?_ _ | refine Tb.At.bw ?_ _)) (by omega)).mono ?_
      rintro e w_ ⟨rfl, hb_⟩
      obtain ⟨s4, rfl⟩ := Soft.BW.mk hb_
      clear hb_ CV
      generalize valN h.vol.ps l u = A at *
      generalize valD h.vol.ps u = B at *
      generalize valN h.vol.ps l to = I at *
      generalize valD h.vol.ps to = J at *
      obtain ⟨A1, A2, B1, B2⟩ := va
      obtain ⟨I1, I2, J1, J2⟩ := vb
      have k1 : 0 ≤ I * B ∧ I * B ≤ 32000000 := ⟨Int.mul_nonneg I1 (by omega), by have := Int.mul_le_mul I2 B2 (by omega) (by omega); omega⟩
      have k2 : 0 ≤ A * J ∧ A * J ≤ 32000000 := ⟨Int.mul_nonneg A1 (by omega), by have := Int.mul_le_mul A2 J2 (by omega) (by omega); omega⟩
      obtain ⟨k11, k12⟩ := k1
      obtain ⟨k21, k22⟩ := k2
      by_cases hneg : I * B - A * J < 0
      · clear PP
        go_wp2_with ((go_at_call 23; (with_reducible refine (L2_sane _).mono ?_); rintro e w_ ⟨rfl, hb_⟩; obtain ⟨s5, rfl⟩ := Soft.BW.mk hb_; clear hb_))
        go_ret
        refine ⟨rfl, ?_⟩
        (repeat (first | with_reducible exact bel_refl _ | with_reducible refine bel_alloc ?_ _ | with_reducible refine bel_bw _ ?_ | with_reducible refine bel_drew ?_ | with_reducible refine bel_drewN _ ?_ | ((with_reducible refine bel_set ?_ ?_ _); rotate_left; focus (first | (simp; done) | omega | (simp; omega))) | refine bel_step ?_ (by with_reducible assumption)))
        exact BB.out
      · have hpos : 0 ≤ I * B - A * J := by omega
        have hrho := denS_in y.dense (y.dense.tdiv 5)
        have hq := somS_in (denS y.dense (y.dense.tdiv 5)) (y.dense.tdiv 11) hrho.2.1
        obtain ⟨⟨n1, n2, n3, n4⟩, PO⟩ := PP.out _ _ hrho hq hpos
        have CD : Hid (∀ W, Calls Try.prog 17 #[.int .i64 y.dense, .int .i64 (y.dense.tdiv 5)] W fun e w' => e = .returned (.agg #[.int .i64 ((denS y.dense (y.dense.tdiv 5))).lo, .int .i64 ((denS y.dense (y.dense.tdiv 5))).hi]) ∧ Below W.heap.size W w') := Lib.hid (fun W => R2_Density _ _ W)
        have CS : Hid (∀ W, Calls Try.prog 24 #[.agg #[.int .i64 ((denS y.dense (y.dense.tdiv 5))).lo, .int .i64 ((denS y.dense (y.dense.tdiv 5))).hi], .int .i64 (y.dense.tdiv 11)] W fun e w' => e = .returned (.int .i64 (somS (denS y.dense (y.dense.tdiv 5)) (y.dense.tdiv 11))) ∧ Below W.heap.size W w') := Lib.hid (fun W => L2_dense _ _ W ⟨by have := hrho.1; omega, hrho.2.1, by have := hrho.2.2; omega⟩)
        generalize denS y.dense (y.dense.tdiv 5) = rho at *
        generalize somS rho (y.dense.tdiv 11) = q at *
        have CA : Hid (∀ W, Calls Try.prog 26 #[.int .i64 ((I * B - A * J) * q), .int .i64 (1000 * B * J)] W fun e w' => e = .returned (.agg #[.int .i64 ((aroS ((I * B - A * J) * q) (1000 * B * J))).lo, .int .i64 ((aroS ((I * B - A * J) * q) (1000 * B * J))).hi]) ∧ Below W.heap.size W w') := Lib.hid (fun W => L2_around _ _ W n1 n2 n3 n4)
        generalize aroS ((I * B - A * J) * q) (1000 * B * J) = m at *
        have CP : Hid (∀ W, h.At W → Calls Try.prog 25 #[.agg #[.int .i64 (h).id, .int .i64 ((h).along).lo, .int .i64 ((h).along).hi, .slice ((h).vol).p ((h).vol).n ((h).vol).c, .slice ((h).mom).p ((h).mom).n ((h).mom).c, .slice ((h).hei).p ((h).hei).n ((h).hei).c, .int .i64 ((h).tri).lo, .int .i64 ((h).tri).hi, .int .i64 ((h).unt).lo, .int .i64 ((h).unt).hi, .int .i64 ((h).v0).lo, .int .i64 ((h).v0).hi, .int .i64 ((h).h0).lo, .int .i64 ((h).h0).hi], .agg #[.int .i64 ((⟨fh, 3, ⟨ul, uh⟩, D⟩ : Fi)).hold, .int .i64 ((⟨fh, 3, ⟨ul, uh⟩, D⟩ : Fi)).state, .int .i64 (((⟨fh, 3, ⟨ul, uh⟩, D⟩ : Fi)).ull).lo, .int .i64 (((⟨fh, 3, ⟨ul, uh⟩, D⟩ : Fi)).ull).hi, .int .i64 (((⟨fh, 3, ⟨ul, uh⟩, D⟩ : Fi)).den).lo, .int .i64 (((⟨fh, 3, ⟨ul, uh⟩, D⟩ : Fi)).den).hi], .agg #[.int .i64 (m).lo, .int .i64 (m).hi], .agg #[.int .i64 (rho).lo, .int .i64 (rho).hi]] W fun e w' => e = .returned (.tuple #[.agg #[.int .i64 ((pourE h (⟨fh, 3, ⟨ul, uh⟩, D⟩ : Fi) m rho).1).hold, .int .i64 ((pourE h (⟨fh, 3, ⟨ul, uh⟩, D⟩ : Fi) m rho).1).state, .int .i64 (((pourE h (⟨fh, 3, ⟨ul, uh⟩, D⟩ : Fi) m rho).1).ull).lo, .int .i64 (((pourE h (⟨fh, 3, ⟨ul, uh⟩, D⟩ : Fi) m rho).1).ull).hi, .int .i64 (((pourE h (⟨fh, 3, ⟨ul, uh⟩, D⟩ : Fi) m rho).1).den).lo, .int .i64 (((pourE h (⟨fh, 3, ⟨ul, uh⟩, D⟩ : Fi) m rho).1).den).hi], .int .i64 (pourE h (⟨fh, 3, ⟨ul, uh⟩, D⟩ : Fi) m rho).2]) ∧ Below W.heap.size W w') := Lib.hid (fun W hW => hold_Pour h (⟨fh, 3, ⟨ul, uh⟩, D⟩ : Fi) m rho W hW)
        obtain ⟨g1, g2, g3, g4, g5, g6⟩ := PO
        generalize pourE h (⟨fh, 3, ⟨ul, uh⟩, D⟩ : Fi) m rho = ge at *
        obtain ⟨⟨gh, gs, ⟨gl, gu⟩, gd⟩, ger⟩ := ge
        dsimp only at g1 g2 g3 g4 g5 g6
        subst g1 g2
        obtain ⟨rh1, rh2, rh3⟩ := hrho
        obtain ⟨q1_, q2_⟩ := hq
        clear PP
        have hnd : decide (I * B - A * J < 0) = false := decide_eq_false hneg
        go_wp2_with (first | (go_at_call 17; (with_reducible refine (CD.out _).mono ?_); rintro e w_ ⟨rfl, hb_⟩; obtain ⟨s5, rfl⟩ := Soft.BW.mk hb_; clear hb_) | (go_at_call 24; (with_reducible refine (CS.out _).mono ?_); rintro e w_ ⟨rfl, hb_⟩; obtain ⟨s6, rfl⟩ := Soft.BW.mk hb_; clear hb_))
        have hb0 := HE1.out.cell 0
        have hb1 := HE1.out.cell 1
        have hb2 := HE1.out.cell 2
        have hb3 := HE1.out.cell 3
        have hb4 := HE1.out.cell 4
        have hb5 := HE1.out.cell 5
        have hb6 := HE1.out.cell 6
        have hb7 := HE1.out.cell 7
        have hb8 := HE1.out.cell 8
        have hb9 := HE1.out.cell 9
        have hb10 := HE1.out.cell 10
        have hb11 := HE1.out.cell 11
        have hb12 := HE1.out.cell 12
        have hb13 := HE1.out.cell 13
        simp at hb0 hb1 hb2 hb3 hb4 hb5 hb6 hb7 hb8 hb9 hb10 hb11 hb12 hb13
        (refine Soft.region1e 14 16 [0, 1, 2, 3, 4, 5, 6, 7, 8, 9, 10, 11, 12, 13, 14] 15 [16, 17] _ (by kernel_rfl) (by kernel_rfl) (by intro _ _ _ _ _ _ h; dsimp +zetaDelta only [Exit.then] at h ⊢; exact Soft.bodyPost_put h) (by kernel_rfl) (by kernel_rfl) (by decide) rfl rfl (by kernel_rfl) ?_; change Soft.wpSoft _ _ _ _ _ [_, _, _, _, _, _, _, _, _, _, _, _, _, _, _] _; (repeat (refine Soft.soft_step (fun K hK => ?_); go_simp; (try go_bits); first | (refine hK _ ?_; clear hK K) | (apply Exists.intro; refine ⟨fun x => ?_, hK _ ?_⟩; (first | (go_at_call 26; exact CA.out _) | (go_at_call 25; exact CP.out _ (by with_reducible repeat (first | exact E3 | refine Ho.At.alloc ?_ _ | refine Ho.At.bw ?_ _ | refine Tk.At.alloc ?_ _ | refine Tk.At.bw ?_ _)))); clear hK K))); refine Soft.soft_nil ?_)
        refine ⟨fun b => .pointer (some ⟨b, 0, none⟩), .cells #[.int .i64 0, .int .i64 0, .int .i64 0, .int .i64 0, .int .i64 0, .int .i64 0] 38, fun x => by go_simp, fun kb xx hnew => ?_⟩
        change wpList _ _ _ [_, _] _ _
        have ka0 := hnew.le
        have sz1 := s1.below.size
        have szx := xw.below.size
        have sz2 := s2.below.size
        have sz3 := s3.below.size
        have sz4 := s4.below.size
        have sz5 := s5.below.size
        have sz6 := s6.below.size
        have sl8 := i0.lt
        simp at ka0 sz6
        have C0 : HasBlk xx.w z2.w.heap.size #[.int .i64 ((⟨fh, 3, ⟨ul, uh⟩, D⟩ : Fi)).hold, .int .i64 ((⟨fh, 3, ⟨ul, uh⟩, D⟩ : Fi)).state, .int .i64 (((⟨fh, 3, ⟨ul, uh⟩, D⟩ : Fi)).ull).lo, .int .i64 (((⟨fh, 3, ⟨ul, uh⟩, D⟩ : Fi)).ull).hi, .int .i64 (((⟨fh, 3, ⟨ul, uh⟩, D⟩ : Fi)).den).lo, .int .i64 (((⟨fh, 3, ⟨ul, uh⟩, D⟩ : Fi)).den).hi] 38 := (by have := HE0.out; simp only [HasBlk, Soft.BW.heap_if, Soft.heap_alloc_if]; exact this)
        have C1 : HasBlk xx.w s5.w.heap.size #[.int .i64 (rho).lo, .int .i64 (rho).hi] 30 := (by simp only [HasBlk, Soft.BW.heap_if, Soft.heap_alloc_if, Soft.heap_new, Soft.heap_new1, Soft.heap_new2, Soft.heap_new3, Soft.heap_new4, Soft.heap_new5])
        have CX := hnew.at_
        have CE : Below w.heap.size w xx.w := by (repeat (first | with_reducible exact bel_refl _ | with_reducible refine bel_alloc ?_ _ | with_reducible refine bel_bw _ ?_ | with_reducible refine bel_drew ?_ | with_reducible refine bel_drewN _ ?_ | ((with_reducible refine bel_set ?_ ?_ _); rotate_left; focus (first | (simp; done) | omega | (simp; omega))) | refine bel_step ?_ (by with_reducible assumption))); exact BB.out
        have wz : w.heap.size ≤ kb := by have := i2.lt; omega
        refine wpList_store_row rfl 38 _ _ rfl kb _ rfl rfl 38 _ CX (by kernel_rfl) rfl (by kernel_rfl) ?_
        have D0 := HasBlk.rowx C0 (show z2.w.heap.size ≠ kb by omega) #[.int .i64 ((⟨gh, 3, ⟨gl, gu⟩, gd⟩ : Fi)).hold, .int .i64 ((⟨gh, 3, ⟨gl, gu⟩, gd⟩ : Fi)).state, .int .i64 (((⟨gh, 3, ⟨gl, gu⟩, gd⟩ : Fi)).ull).lo, .int .i64 (((⟨gh, 3, ⟨gl, gu⟩, gd⟩ : Fi)).ull).hi, .int .i64 (((⟨gh, 3, ⟨gl, gu⟩, gd⟩ : Fi)).den).lo, .int .i64 (((⟨gh, 3, ⟨gl, gu⟩, gd⟩ : Fi)).den).hi]
        have D1 := HasBlk.rowx C1 (show s5.w.heap.size ≠ kb by omega) #[.int .i64 ((⟨gh, 3, ⟨gl, gu⟩, gd⟩ : Fi)).hold, .int .i64 ((⟨gh, 3, ⟨gl, gu⟩, gd⟩ : Fi)).state, .int .i64 (((⟨gh, 3, ⟨gl, gu⟩, gd⟩ : Fi)).ull).lo, .int .i64 (((⟨gh, 3, ⟨gl, gu⟩, gd⟩ : Fi)).ull).hi, .int .i64 (((⟨gh, 3, ⟨gl, gu⟩, gd⟩ : Fi)).den).lo, .int .i64 (((⟨gh, 3, ⟨gl, gu⟩, gd⟩ : Fi)).den).hi]
        have DA : HasBlk (xx.w.setRow kb #[.int .i64 ((⟨gh, 3, ⟨gl, gu⟩, gd⟩ : Fi)).hold, .int .i64 ((⟨gh, 3, ⟨gl, gu⟩, gd⟩ : Fi)).state, .int .i64 (((⟨gh, 3, ⟨gl, gu⟩, gd⟩ : Fi)).ull).lo, .int .i64 (((⟨gh, 3, ⟨gl, gu⟩, gd⟩ : Fi)).ull).hi, .int .i64 (((⟨gh, 3, ⟨gl, gu⟩, gd⟩ : Fi)).den).lo, .int .i64 (((⟨gh, 3, ⟨gl, gu⟩, gd⟩ : Fi)).den).hi]) kb #[.int .i64 ((⟨gh, 3, ⟨gl, gu⟩, gd⟩ : Fi)).hold, .int .i64 ((⟨gh, 3, ⟨gl, gu⟩, gd⟩ : Fi)).state, .int .i64 (((⟨gh, 3, ⟨gl, gu⟩, gd⟩ : Fi)).ull).lo, .int .i64 (((⟨gh, 3, ⟨gl, gu⟩, gd⟩ : Fi)).ull).hi, .int .i64 (((⟨gh, 3, ⟨gl, gu⟩, gd⟩ : Fi)).den).lo, .int .i64 (((⟨gh, 3, ⟨gl, gu⟩, gd⟩ : Fi)).den).hi] 38 := setRow_heap _ _ _ _ _ _ CX
        have DE := below_setRow (g := kb) CE wz #[.int .i64 ((⟨gh, 3, ⟨gl, gu⟩, gd⟩ : Fi)).hold, .int .i64 ((⟨gh, 3, ⟨gl, gu⟩, gd⟩ : Fi)).state, .int .i64 (((⟨gh, 3, ⟨gl, gu⟩, gd⟩ : Fi)).ull).lo, .int .i64 (((⟨gh, 3, ⟨gl, gu⟩, gd⟩ : Fi)).ull).hi, .int .i64 (((⟨gh, 3, ⟨gl, gu⟩, gd⟩ : Fi)).den).lo, .int .i64 (((⟨gh, 3, ⟨gl, gu⟩, gd⟩ : Fi)).den).hi]
        have d0 := D0.cell 4
        have d1 := D0.cell 5
        have d2 := D1.cell 0
        have d3 := D1.cell 1
        have d4 := DA.cell 1
        have d5 := DA.cell 2
        have d6 := DA.cell 3
        have d7 := DA.cell 4
        have d8 := DA.cell 5
        simp at d0 d1 d2 d3 d4 d5 d6 d7 d8
        clear C0 C1 CX CE
        generalize xx.w.setRow kb #[.int .i64 ((⟨gh, 3, ⟨gl, gu⟩, gd⟩ : Fi)).hold, .int .i64 ((⟨gh, 3, ⟨gl, gu⟩, gd⟩ : Fi)).state, .int .i64 (((⟨gh, 3, ⟨gl, gu⟩, gd⟩ : Fi)).ull).lo, .int .i64 (((⟨gh, 3, ⟨gl, gu⟩, gd⟩ : Fi)).ull).hi, .int .i64 (((⟨gh, 3, ⟨gl, gu⟩, gd⟩ : Fi)).den).lo, .int .i64 (((⟨gh, 3, ⟨gl, gu⟩, gd⟩ : Fi)).den).hi] = W9 at *
        have iz := Soft.LtH.mk (w := W9) D0.lt
        have iy := Soft.LtH.mk (w := W9) D1.lt
        have ix := Soft.LtH.mk (w := W9) DA.lt
        clear D0 D1 DA
        have HDE := Lib.hid DE
        clear DE
        go_wp2_with (first | (go_at_call 27; (with_reducible refine (R2_Inside (D) gd _ true (decide_eq_true g5).symm).mono ?_); rintro e w_ ⟨rfl, hb_⟩; obtain ⟨s7, rfl⟩ := Soft.BW.mk hb_; clear hb_) | (go_at_call 27; (with_reducible refine (R2_Inside rho gd _ true (decide_eq_true g6).symm).mono ?_); rintro e w_ ⟨rfl, hb_⟩; obtain ⟨s8, rfl⟩ := Soft.BW.mk hb_; clear hb_) | (go_at_call 23; (with_reducible refine (L2_sane _).mono ?_); rintro e w_ ⟨rfl, hb_⟩; obtain ⟨s9, rfl⟩ := Soft.BW.mk hb_; clear hb_))
        go_ret
        refine ⟨rfl, ?_⟩
        (repeat (first | with_reducible exact bel_refl _ | with_reducible refine bel_alloc ?_ _ | with_reducible refine bel_bw _ ?_ | with_reducible refine bel_drew ?_ | with_reducible refine bel_drewN _ ?_ | ((with_reducible refine bel_set ?_ ?_ _); rotate_left; focus (first | (simp; done) | omega | (simp; omega))) | refine bel_step ?_ (by with_reducible assumption)))
        exact HDE.out

end Go.Proofs.Ytbjdgaeikihjbaa
