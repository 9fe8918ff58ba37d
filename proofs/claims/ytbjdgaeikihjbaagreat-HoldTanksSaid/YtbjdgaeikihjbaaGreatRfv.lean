/-
  The reference's Pump.
  Conditions: each theorem's own premises.
-/
import Derived.Test.YtbjdgaeikihjbaaGreatRft
import Derived.Test.YtbjdgaeikihjbaaGreatPump
namespace Go.Proofs.YtbjdgaeikihjbaaGreat
set_option linter.unusedSimpArgs false
set_option linter.unusedVariables false
open Go.RowKit
set_option maxRecDepth 100000
set_option maxHeartbeats 8000000
attribute [local go_sem] Instr.field asAgg Soft.upon Soft.BW.cell_if Soft.BW.frozen_if Soft.cell_alloc_if Soft.frozen_alloc_if

theorem rpump_neg_p (t : Tk) (l : Lv) (m : Rg) (w : World) (hh : t.At w) (V L U : Rg) (ub : Bool)
    (CCL : Hid (∀ W, t.At W → Calls Tryz.prog 39 #[.agg #[.int .i64 (t).id, .int .i64 ((t).along).lo, .int .i64 ((t).along).hi, .slice ((t).vol).p ((t).vol).n ((t).vol).c, .slice ((t).sur).p ((t).sur).n ((t).sur).c, .slice ((t).hei).p ((t).hei).n ((t).hei).c], .agg #[.int .i64 (l).tank, .bool (l).pressed, .int .i64 ((l).snd).lo, .int .i64 ((l).snd).hi, .int .i64 ((l).den).lo, .int .i64 ((l).den).hi]] W fun e w' => e = .returned (.int .i64 0) ∧ Below W.heap.size W w'))
    (CCR : Hid (∀ W, Calls Tryz.prog 83 #[.agg #[.int .i64 (m).lo, .int .i64 (m).hi]] W fun e w' => e = .returned (.int .i64 0) ∧ Below W.heap.size W w'))
    (CO : Hid (∀ W, t.vol.At W → Calls Tryz.prog 87 #[.agg #[.slice (t.vol).p (t.vol).n (t.vol).c], .agg #[.int .i64 (l.snd).lo, .int .i64 (l.snd).hi]] W fun e w' => e = .returned (.agg #[.int .i64 (V).lo, .int .i64 (V).hi]) ∧ Below W.heap.size W w'))
    (CLI : Hid (∀ W, Calls Tryz.prog 84 #[.agg #[.int .i64 (m).lo, .int .i64 (m).hi], .agg #[.int .i64 (l.den).lo, .int .i64 (l.den).hi]] W fun e w' => e = .returned (.agg #[.int .i64 (L).lo, .int .i64 (L).hi]) ∧ Below W.heap.size W w'))
    (CI : Hid (∀ W, t.vol.At W → Calls Tryz.prog 80 #[.agg #[.slice (t.vol).p (t.vol).n (t.vol).c], .agg #[.int .i64 (V.lo + L.lo), .int .i64 (V.hi + L.hi)], .bool false] W fun e w' => e = .returned (.tuple #[.agg #[.int .i64 (U).lo, .int .i64 (U).hi], .bool ub]) ∧ Below W.heap.size W w'))
    (a1 : 0 ≤ V.lo) (a2 : V.lo ≤ V.hi) (a3 : V.hi ≤ 1000000000) (b1 : -10000000000000000 ≤ L.lo) (b2 : L.lo ≤ 10000000000000000) (b3 : -10000000000000000 ≤ L.hi) (b4 : L.hi ≤ 10000000000000000) (e0 : 0 < V.lo + L.lo)
    (cn : V.hi + L.hi < 0) :
    Calls Tryz.prog 35 #[.agg #[.int .i64 (t).id, .int .i64 ((t).along).lo, .int .i64 ((t).along).hi, .slice ((t).vol).p ((t).vol).n ((t).vol).c, .slice ((t).sur).p ((t).sur).n ((t).sur).c, .slice ((t).hei).p ((t).hei).n ((t).hei).c], .agg #[.int .i64 (l).tank, .bool (l).pressed, .int .i64 ((l).snd).lo, .int .i64 ((l).snd).hi, .int .i64 ((l).den).lo, .int .i64 ((l).den).hi], .agg #[.int .i64 (m).lo, .int .i64 (m).hi]] w fun e w' => e = .returned (.tuple #[.agg #[.int .i64 (zeroL).tank, .bool (zeroL).pressed, .int .i64 ((zeroL).snd).lo, .int .i64 ((zeroL).snd).hi, .int .i64 ((zeroL).den).lo, .int .i64 ((zeroL).den).hi], .int .i64 24]) ∧ Below w.heap.size w w' := by
  have hv := hh.1
  go_enter Tryz.func35, Tryz.ntmps35
  go_wp2_with (first | (go_at_call 39; (with_reducible refine (CCL.out _ (by with_reducible repeat (first | exact hh | refine Ho.At.alloc ?_ _ | refine Ho.At.bw ?_ _ | refine Tk.At.alloc ?_ _ | refine Tk.At.bw ?_ _))).mono ?_); rintro e w_ ⟨rfl, hb_⟩; obtain ⟨y1, rfl⟩ := Soft.BW.mk hb_; clear hb_) | (go_at_call 83; (with_reducible refine (CCR.out _).mono ?_); rintro e w_ ⟨rfl, hb_⟩; obtain ⟨y2, rfl⟩ := Soft.BW.mk hb_; clear hb_) | (go_at_call 87; (with_reducible refine (CO.out _ (by repeat (first | exact hv | refine Tb.At.alloc ?_ _ | refine Tb.At.bw ?_ _))).mono ?_); rintro e w_ ⟨rfl, hb_⟩; obtain ⟨y3, rfl⟩ := Soft.BW.mk hb_; clear hb_) | ((go_at_call 84; (with_reducible refine (CLI.out _).mono ?_); rintro e w_ ⟨rfl, hb_⟩; obtain ⟨y4, rfl⟩ := Soft.BW.mk hb_; clear hb_); obtain ⟨q2, e8⟩ := Soft.BW.mk (putTwo y4 (.cells #[.int .i64 L.lo, .int .i64 L.hi] 23) (.int .i64 (V.lo + L.lo)) (.int .i64 (V.hi + L.hi)) y3.w.heap.size rfl)) | (go_at_call 80; (with_reducible refine (CI.out _ (by repeat (first | exact hv | refine Tb.At.alloc ?_ _ | refine Tb.At.bw ?_ _))).mono ?_); rintro e w_ ⟨rfl, hb_⟩; obtain ⟨y5, rfl⟩ := Soft.BW.mk hb_; clear hb_))
  refine bodyPost_ret (v := .tuple #[.agg #[.int .i64 (zeroL).tank, .bool (zeroL).pressed, .int .i64 ((zeroL).snd).lo, .int .i64 ((zeroL).snd).hi, .int .i64 ((zeroL).den).lo, .int .i64 ((zeroL).den).hi], .int .i64 24]) (by simp [results, Tryz.results35, go_sem, zeroL]) rfl ?_
  refine ⟨rfl, ?_⟩
  (repeat (first | with_reducible exact bel_refl _ | with_reducible refine bel_alloc ?_ _ | with_reducible refine bel_bw _ ?_ | with_reducible refine bel_drew ?_ | with_reducible refine bel_drewN _ ?_ | ((with_reducible refine bel_set ?_ ?_ _); rotate_left; focus (first | (simp; done) | omega | (simp; omega))) | refine bel_step ?_ (by with_reducible assumption)))

theorem rpump_neg_z (t : Tk) (l : Lv) (m : Rg) (w : World) (hh : t.At w) (V L U : Rg) (ub : Bool)
    (CCL : Hid (∀ W, t.At W → Calls Tryz.prog 39 #[.agg #[.int .i64 (t).id, .int .i64 ((t).along).lo, .int .i64 ((t).along).hi, .slice ((t).vol).p ((t).vol).n ((t).vol).c, .slice ((t).sur).p ((t).sur).n ((t).sur).c, .slice ((t).hei).p ((t).hei).n ((t).hei).c], .agg #[.int .i64 (l).tank, .bool (l).pressed, .int .i64 ((l).snd).lo, .int .i64 ((l).snd).hi, .int .i64 ((l).den).lo, .int .i64 ((l).den).hi]] W fun e w' => e = .returned (.int .i64 0) ∧ Below W.heap.size W w'))
    (CCR : Hid (∀ W, Calls Tryz.prog 83 #[.agg #[.int .i64 (m).lo, .int .i64 (m).hi]] W fun e w' => e = .returned (.int .i64 0) ∧ Below W.heap.size W w'))
    (CO : Hid (∀ W, t.vol.At W → Calls Tryz.prog 87 #[.agg #[.slice (t.vol).p (t.vol).n (t.vol).c], .agg #[.int .i64 (l.snd).lo, .int .i64 (l.snd).hi]] W fun e w' => e = .returned (.agg #[.int .i64 (V).lo, .int .i64 (V).hi]) ∧ Below W.heap.size W w'))
    (CLI : Hid (∀ W, Calls Tryz.prog 84 #[.agg #[.int .i64 (m).lo, .int .i64 (m).hi], .agg #[.int .i64 (l.den).lo, .int .i64 (l.den).hi]] W fun e w' => e = .returned (.agg #[.int .i64 (L).lo, .int .i64 (L).hi]) ∧ Below W.heap.size W w'))
    (CI : Hid (∀ W, t.vol.At W → Calls Tryz.prog 80 #[.agg #[.slice (t.vol).p (t.vol).n (t.vol).c], .agg #[.int .i64 (0), .int .i64 (V.hi + L.hi)], .bool false] W fun e w' => e = .returned (.tuple #[.agg #[.int .i64 (U).lo, .int .i64 (U).hi], .bool ub]) ∧ Below W.heap.size W w'))
    (a1 : 0 ≤ V.lo) (a2 : V.lo ≤ V.hi) (a3 : V.hi ≤ 1000000000) (b1 : -10000000000000000 ≤ L.lo) (b2 : L.lo ≤ 10000000000000000) (b3 : -10000000000000000 ≤ L.hi) (b4 : L.hi ≤ 10000000000000000) (e0 : V.lo + L.lo ≤ 0)
    (cn : V.hi + L.hi < 0) :
    Calls Tryz.prog 35 #[.agg #[.int .i64 (t).id, .int .i64 ((t).along).lo, .int .i64 ((t).along).hi, .slice ((t).vol).p ((t).vol).n ((t).vol).c, .slice ((t).sur).p ((t).sur).n ((t).sur).c, .slice ((t).hei).p ((t).hei).n ((t).hei).c], .agg #[.int .i64 (l).tank, .bool (l).pressed, .int .i64 ((l).snd).lo, .int .i64 ((l).snd).hi, .int .i64 ((l).den).lo, .int .i64 ((l).den).hi], .agg #[.int .i64 (m).lo, .int .i64 (m).hi]] w fun e w' => e = .returned (.tuple #[.agg #[.int .i64 (zeroL).tank, .bool (zeroL).pressed, .int .i64 ((zeroL).snd).lo, .int .i64 ((zeroL).snd).hi, .int .i64 ((zeroL).den).lo, .int .i64 ((zeroL).den).hi], .int .i64 24]) ∧ Below w.heap.size w w' := by
  have hv := hh.1
  go_enter Tryz.func35, Tryz.ntmps35
  go_wp2_with (first | (go_at_call 39; (with_reducible refine (CCL.out _ (by with_reducible repeat (first | exact hh | refine Ho.At.alloc ?_ _ | refine Ho.At.bw ?_ _ | refine Tk.At.alloc ?_ _ | refine Tk.At.bw ?_ _))).mono ?_); rintro e w_ ⟨rfl, hb_⟩; obtain ⟨y1, rfl⟩ := Soft.BW.mk hb_; clear hb_) | (go_at_call 83; (with_reducible refine (CCR.out _).mono ?_); rintro e w_ ⟨rfl, hb_⟩; obtain ⟨y2, rfl⟩ := Soft.BW.mk hb_; clear hb_) | (go_at_call 87; (with_reducible refine (CO.out _ (by repeat (first | exact hv | refine Tb.At.alloc ?_ _ | refine Tb.At.bw ?_ _))).mono ?_); rintro e w_ ⟨rfl, hb_⟩; obtain ⟨y3, rfl⟩ := Soft.BW.mk hb_; clear hb_) | ((go_at_call 84; (with_reducible refine (CLI.out _).mono ?_); rintro e w_ ⟨rfl, hb_⟩; obtain ⟨y4, rfl⟩ := Soft.BW.mk hb_; clear hb_); obtain ⟨q2, e8⟩ := Soft.BW.mk (putTwo y4 (.cells #[.int .i64 L.lo, .int .i64 L.hi] 23) (.int .i64 (0)) (.int .i64 (V.hi + L.hi)) y3.w.heap.size rfl)) | (go_at_call 80; (with_reducible refine (CI.out _ (by repeat (first | exact hv | refine Tb.At.alloc ?_ _ | refine Tb.At.bw ?_ _))).mono ?_); rintro e w_ ⟨rfl, hb_⟩; obtain ⟨y5, rfl⟩ := Soft.BW.mk hb_; clear hb_))
  refine bodyPost_ret (v := .tuple #[.agg #[.int .i64 (zeroL).tank, .bool (zeroL).pressed, .int .i64 ((zeroL).snd).lo, .int .i64 ((zeroL).snd).hi, .int .i64 ((zeroL).den).lo, .int .i64 ((zeroL).den).hi], .int .i64 24]) (by simp [results, Tryz.results35, go_sem, zeroL]) rfl ?_
  refine ⟨rfl, ?_⟩
  (repeat (first | with_reducible exact bel_refl _ | with_reducible refine bel_alloc ?_ _ | with_reducible refine bel_bw _ ?_ | with_reducible refine bel_drew ?_ | with_reducible refine bel_drewN _ ?_ | ((with_reducible refine bel_set ?_ ?_ _); rotate_left; focus (first | (simp; done) | omega | (simp; omega))) | refine bel_step ?_ (by with_reducible assumption)))

theorem rpump_no_p (t : Tk) (l : Lv) (m : Rg) (w : World) (hh : t.At w) (V L U : Rg) (ub : Bool)
    (CCL : Hid (∀ W, t.At W → Calls Tryz.prog 39 #[.agg #[.int .i64 (t).id, .int .i64 ((t).along).lo, .int .i64 ((t).along).hi, .slice ((t).vol).p ((t).vol).n ((t).vol).c, .slice ((t).sur).p ((t).sur).n ((t).sur).c, .slice ((t).hei).p ((t).hei).n ((t).hei).c], .agg #[.int .i64 (l).tank, .bool (l).pressed, .int .i64 ((l).snd).lo, .int .i64 ((l).snd).hi, .int .i64 ((l).den).lo, .int .i64 ((l).den).hi]] W fun e w' => e = .returned (.int .i64 0) ∧ Below W.heap.size W w'))
    (CCR : Hid (∀ W, Calls Tryz.prog 83 #[.agg #[.int .i64 (m).lo, .int .i64 (m).hi]] W fun e w' => e = .returned (.int .i64 0) ∧ Below W.heap.size W w'))
    (CO : Hid (∀ W, t.vol.At W → Calls Tryz.prog 87 #[.agg #[.slice (t.vol).p (t.vol).n (t.vol).c], .agg #[.int .i64 (l.snd).lo, .int .i64 (l.snd).hi]] W fun e w' => e = .returned (.agg #[.int .i64 (V).lo, .int .i64 (V).hi]) ∧ Below W.heap.size W w'))
    (CLI : Hid (∀ W, Calls Tryz.prog 84 #[.agg #[.int .i64 (m).lo, .int .i64 (m).hi], .agg #[.int .i64 (l.den).lo, .int .i64 (l.den).hi]] W fun e w' => e = .returned (.agg #[.int .i64 (L).lo, .int .i64 (L).hi]) ∧ Below W.heap.size W w'))
    (CI : Hid (∀ W, t.vol.At W → Calls Tryz.prog 80 #[.agg #[.slice (t.vol).p (t.vol).n (t.vol).c], .agg #[.int .i64 (V.lo + L.lo), .int .i64 (V.hi + L.hi)], .bool false] W fun e w' => e = .returned (.tuple #[.agg #[.int .i64 (U).lo, .int .i64 (U).hi], .bool false]) ∧ Below W.heap.size W w'))
    (a1 : 0 ≤ V.lo) (a2 : V.lo ≤ V.hi) (a3 : V.hi ≤ 1000000000) (b1 : -10000000000000000 ≤ L.lo) (b2 : L.lo ≤ 10000000000000000) (b3 : -10000000000000000 ≤ L.hi) (b4 : L.hi ≤ 10000000000000000) (e0 : 0 < V.lo + L.lo)
    (cn : ¬V.hi + L.hi < 0) :
    Calls Tryz.prog 35 #[.agg #[.int .i64 (t).id, .int .i64 ((t).along).lo, .int .i64 ((t).along).hi, .slice ((t).vol).p ((t).vol).n ((t).vol).c, .slice ((t).sur).p ((t).sur).n ((t).sur).c, .slice ((t).hei).p ((t).hei).n ((t).hei).c], .agg #[.int .i64 (l).tank, .bool (l).pressed, .int .i64 ((l).snd).lo, .int .i64 ((l).snd).hi, .int .i64 ((l).den).lo, .int .i64 ((l).den).hi], .agg #[.int .i64 (m).lo, .int .i64 (m).hi]] w fun e w' => e = .returned (.tuple #[.agg #[.int .i64 (zeroL).tank, .bool (zeroL).pressed, .int .i64 ((zeroL).snd).lo, .int .i64 ((zeroL).snd).hi, .int .i64 ((zeroL).den).lo, .int .i64 ((zeroL).den).hi], .int .i64 24]) ∧ Below w.heap.size w w' := by
  have hv := hh.1
  go_enter Tryz.func35, Tryz.ntmps35
  go_wp2_with (first | (go_at_call 39; (with_reducible refine (CCL.out _ (by with_reducible repeat (first | exact hh | refine Ho.At.alloc ?_ _ | refine Ho.At.bw ?_ _ | refine Tk.At.alloc ?_ _ | refine Tk.At.bw ?_ _))).mono ?_); rintro e w_ ⟨rfl, hb_⟩; obtain ⟨y1, rfl⟩ := Soft.BW.mk hb_; clear hb_) | (go_at_call 83; (with_reducible refine (CCR.out _).mono ?_); rintro e w_ ⟨rfl, hb_⟩; obtain ⟨y2, rfl⟩ := Soft.BW.mk hb_; clear hb_) | (go_at_call 87; (with_reducible refine (CO.out _ (by repeat (first | exact hv | refine Tb.At.alloc ?_ _ | refine Tb.At.bw ?_ _))).mono ?_); rintro e w_ ⟨rfl, hb_⟩; obtain ⟨y3, rfl⟩ := Soft.BW.mk hb_; clear hb_) | ((go_at_call 84; (with_reducible refine (CLI.out _).mono ?_); rintro e w_ ⟨rfl, hb_⟩; obtain ⟨y4, rfl⟩ := Soft.BW.mk hb_; clear hb_); obtain ⟨q2, e8⟩ := Soft.BW.mk (putTwo y4 (.cells #[.int .i64 L.lo, .int .i64 L.hi] 23) (.int .i64 (V.lo + L.lo)) (.int .i64 (V.hi + L.hi)) y3.w.heap.size rfl)) | (go_at_call 80; (with_reducible refine (CI.out _ (by repeat (first | exact hv | refine Tb.At.alloc ?_ _ | refine Tb.At.bw ?_ _))).mono ?_); rintro e w_ ⟨rfl, hb_⟩; obtain ⟨y5, rfl⟩ := Soft.BW.mk hb_; clear hb_))
  refine bodyPost_ret (v := .tuple #[.agg #[.int .i64 (zeroL).tank, .bool (zeroL).pressed, .int .i64 ((zeroL).snd).lo, .int .i64 ((zeroL).snd).hi, .int .i64 ((zeroL).den).lo, .int .i64 ((zeroL).den).hi], .int .i64 24]) (by simp [results, Tryz.results35, go_sem, zeroL]) rfl ?_
  refine ⟨rfl, ?_⟩
  (repeat (first | with_reducible exact bel_refl _ | with_reducible refine bel_alloc ?_ _ | with_reducible refine bel_bw _ ?_ | with_reducible refine bel_drew ?_ | with_reducible refine bel_drewN _ ?_ | ((with_reducible refine bel_set ?_ ?_ _); rotate_left; focus (first | (simp; done) | omega | (simp; omega))) | refine bel_step ?_ (by with_reducible assumption)))

theorem rpump_no_z (t : Tk) (l : Lv) (m : Rg) (w : World) (hh : t.At w) (V L U : Rg) (ub : Bool)
    (CCL : Hid (∀ W, t.At W → Calls Tryz.prog 39 #[.agg #[.int .i64 (t).id, .int .i64 ((t).along).lo, .int .i64 ((t).along).hi, .slice ((t).vol).p ((t).vol).n ((t).vol).c, .slice ((t).sur).p ((t).sur).n ((t).sur).c, .slice ((t).hei).p ((t).hei).n ((t).hei).c], .agg #[.int .i64 (l).tank, .bool (l).pressed, .int .i64 ((l).snd).lo, .int .i64 ((l).snd).hi, .int .i64 ((l).den).lo, .int .i64 ((l).den).hi]] W fun e w' => e = .returned (.int .i64 0) ∧ Below W.heap.size W w'))
    (CCR : Hid (∀ W, Calls Tryz.prog 83 #[.agg #[.int .i64 (m).lo, .int .i64 (m).hi]] W fun e w' => e = .returned (.int .i64 0) ∧ Below W.heap.size W w'))
    (CO : Hid (∀ W, t.vol.At W → Calls Tryz.prog 87 #[.agg #[.slice (t.vol).p (t.vol).n (t.vol).c], .agg #[.int .i64 (l.snd).lo, .int .i64 (l.snd).hi]] W fun e w' => e = .returned (.agg #[.int .i64 (V).lo, .int .i64 (V).hi]) ∧ Below W.heap.size W w'))
    (CLI : Hid (∀ W, Calls Tryz.prog 84 #[.agg #[.int .i64 (m).lo, .int .i64 (m).hi], .agg #[.int .i64 (l.den).lo, .int .i64 (l.den).hi]] W fun e w' => e = .returned (.agg #[.int .i64 (L).lo, .int .i64 (L).hi]) ∧ Below W.heap.size W w'))
    (CI : Hid (∀ W, t.vol.At W → Calls Tryz.prog 80 #[.agg #[.slice (t.vol).p (t.vol).n (t.vol).c], .agg #[.int .i64 (0), .int .i64 (V.hi + L.hi)], .bool false] W fun e w' => e = .returned (.tuple #[.agg #[.int .i64 (U).lo, .int .i64 (U).hi], .bool false]) ∧ Below W.heap.size W w'))
    (a1 : 0 ≤ V.lo) (a2 : V.lo ≤ V.hi) (a3 : V.hi ≤ 1000000000) (b1 : -10000000000000000 ≤ L.lo) (b2 : L.lo ≤ 10000000000000000) (b3 : -10000000000000000 ≤ L.hi) (b4 : L.hi ≤ 10000000000000000) (e0 : V.lo + L.lo ≤ 0)
    (cn : ¬V.hi + L.hi < 0) :
    Calls Tryz.prog 35 #[.agg #[.int .i64 (t).id, .int .i64 ((t).along).lo, .int .i64 ((t).along).hi, .slice ((t).vol).p ((t).vol).n ((t).vol).c, .slice ((t).sur).p ((t).sur).n ((t).sur).c, .slice ((t).hei).p ((t).hei).n ((t).hei).c], .agg #[.int .i64 (l).tank, .bool (l).pressed, .int .i64 ((l).snd).lo, .int .i64 ((l).snd).hi, .int .i64 ((l).den).lo, .int .i64 ((l).den).hi], .agg #[.int .i64 (m).lo, .int .i64 (m).hi]] w fun e w' => e = .returned (.tuple #[.agg #[.int .i64 (zeroL).tank, .bool (zeroL).pressed, .int .i64 ((zeroL).snd).lo, .int .i64 ((zeroL).snd).hi, .int .i64 ((zeroL).den).lo, .int .i64 ((zeroL).den).hi], .int .i64 24]) ∧ Below w.heap.size w w' := by
  have hv := hh.1
  go_enter Tryz.func35, Tryz.ntmps35
  go_wp2_with (first | (go_at_call 39; (with_reducible refine (CCL.out _ (by with_reducible repeat (first | exact hh | refine Ho.At.alloc ?_ _ | refine Ho.At.bw ?_ _ | refine Tk.At.alloc ?_ _ | refine Tk.At.bw ?_ _))).mono ?_); rintro e w_ ⟨rfl, hb_⟩; obtain ⟨y1, rfl⟩ := Soft.BW.mk hb_; clear hb_) | (go_at_call 83; (with_reducible refine (CCR.out _).mono ?_); rintro e w_ ⟨rfl, hb_⟩; obtain ⟨y2, rfl⟩ := Soft.BW.mk hb_; clear hb_) | (go_at_call 87; (with_reducible refine (CO.out _ (by repeat (first | exact hv | refine Tb.At.alloc ?_ _ | refine Tb.At.bw ?_ _))).mono ?_); rintro e w_ ⟨rfl, hb_⟩; obtain ⟨y3, rfl⟩ := Soft.BW.mk hb_; clear hb_) | ((go_at_call 84; (with_reducible refine (CLI.out _).mono ?_); rintro e w_ ⟨rfl, hb_⟩; obtain ⟨y4, rfl⟩ := Soft.BW.mk hb_; clear hb_); obtain ⟨q2, e8⟩ := Soft.BW.mk (putTwo y4 (.cells #[.int .i64 L.lo, .int .i64 L.hi] 23) (.int .i64 (0)) (.int .i64 (V.hi + L.hi)) y3.w.heap.size rfl)) | (go_at_call 80; (with_reducible refine (CI.out _ (by repeat (first | exact hv | refine Tb.At.alloc ?_ _ | refine Tb.At.bw ?_ _))).mono ?_); rintro e w_ ⟨rfl, hb_⟩; obtain ⟨y5, rfl⟩ := Soft.BW.mk hb_; clear hb_))
  refine bodyPost_ret (v := .tuple #[.agg #[.int .i64 (zeroL).tank, .bool (zeroL).pressed, .int .i64 ((zeroL).snd).lo, .int .i64 ((zeroL).snd).hi, .int .i64 ((zeroL).den).lo, .int .i64 ((zeroL).den).hi], .int .i64 24]) (by simp [results, Tryz.results35, go_sem, zeroL]) rfl ?_
  refine ⟨rfl, ?_⟩
  (repeat (first | with_reducible exact bel_refl _ | with_reducible refine bel_alloc ?_ _ | with_reducible refine bel_bw _ ?_ | with_reducible refine bel_drew ?_ | with_reducible refine bel_drewN _ ?_ | ((with_reducible refine bel_set ?_ ?_ _); rotate_left; focus (first | (simp; done) | omega | (simp; omega))) | refine bel_step ?_ (by with_reducible assumption)))

theorem rpump_yes_p (t : Tk) (l : Lv) (m : Rg) (w : World) (hh : t.At w) (V L U : Rg) (ub : Bool)
    (CCL : Hid (∀ W, t.At W → Calls Tryz.prog 39 #[.agg #[.int .i64 (t).id, .int .i64 ((t).along).lo, .int .i64 ((t).along).hi, .slice ((t).vol).p ((t).vol).n ((t).vol).c, .slice ((t).sur).p ((t).sur).n ((t).sur).c, .slice ((t).hei).p ((t).hei).n ((t).hei).c], .agg #[.int .i64 (l).tank, .bool (l).pressed, .int .i64 ((l).snd).lo, .int .i64 ((l).snd).hi, .int .i64 ((l).den).lo, .int .i64 ((l).den).hi]] W fun e w' => e = .returned (.int .i64 0) ∧ Below W.heap.size W w'))
    (CCR : Hid (∀ W, Calls Tryz.prog 83 #[.agg #[.int .i64 (m).lo, .int .i64 (m).hi]] W fun e w' => e = .returned (.int .i64 0) ∧ Below W.heap.size W w'))
    (CO : Hid (∀ W, t.vol.At W → Calls Tryz.prog 87 #[.agg #[.slice (t.vol).p (t.vol).n (t.vol).c], .agg #[.int .i64 (l.snd).lo, .int .i64 (l.snd).hi]] W fun e w' => e = .returned (.agg #[.int .i64 (V).lo, .int .i64 (V).hi]) ∧ Below W.heap.size W w'))
    (CLI : Hid (∀ W, Calls Tryz.prog 84 #[.agg #[.int .i64 (m).lo, .int .i64 (m).hi], .agg #[.int .i64 (l.den).lo, .int .i64 (l.den).hi]] W fun e w' => e = .returned (.agg #[.int .i64 (L).lo, .int .i64 (L).hi]) ∧ Below W.heap.size W w'))
    (CI : Hid (∀ W, t.vol.At W → Calls Tryz.prog 80 #[.agg #[.slice (t.vol).p (t.vol).n (t.vol).c], .agg #[.int .i64 (V.lo + L.lo), .int .i64 (V.hi + L.hi)], .bool false] W fun e w' => e = .returned (.tuple #[.agg #[.int .i64 (U).lo, .int .i64 (U).hi], .bool true]) ∧ Below W.heap.size W w'))
    (a1 : 0 ≤ V.lo) (a2 : V.lo ≤ V.hi) (a3 : V.hi ≤ 1000000000) (b1 : -10000000000000000 ≤ L.lo) (b2 : L.lo ≤ 10000000000000000) (b3 : -10000000000000000 ≤ L.hi) (b4 : L.hi ≤ 10000000000000000) (e0 : 0 < V.lo + L.lo)
    (cn : ¬V.hi + L.hi < 0) :
    Calls Tryz.prog 35 #[.agg #[.int .i64 (t).id, .int .i64 ((t).along).lo, .int .i64 ((t).along).hi, .slice ((t).vol).p ((t).vol).n ((t).vol).c, .slice ((t).sur).p ((t).sur).n ((t).sur).c, .slice ((t).hei).p ((t).hei).n ((t).hei).c], .agg #[.int .i64 (l).tank, .bool (l).pressed, .int .i64 ((l).snd).lo, .int .i64 ((l).snd).hi, .int .i64 ((l).den).lo, .int .i64 ((l).den).hi], .agg #[.int .i64 (m).lo, .int .i64 (m).hi]] w fun e w' => e = .returned (.tuple #[.agg #[.int .i64 t.id, .bool false, .int .i64 U.lo, .int .i64 U.hi, .int .i64 l.den.lo, .int .i64 l.den.hi], .int .i64 0]) ∧ Below w.heap.size w w' := by
  have hv := hh.1
  go_enter Tryz.func35, Tryz.ntmps35
  go_wp2_with (first | (go_at_call 39; (with_reducible refine (CCL.out _ (by with_reducible repeat (first | exact hh | refine Ho.At.alloc ?_ _ | refine Ho.At.bw ?_ _ | refine Tk.At.alloc ?_ _ | refine Tk.At.bw ?_ _))).mono ?_); rintro e w_ ⟨rfl, hb_⟩; obtain ⟨y1, rfl⟩ := Soft.BW.mk hb_; clear hb_) | (go_at_call 83; (with_reducible refine (CCR.out _).mono ?_); rintro e w_ ⟨rfl, hb_⟩; obtain ⟨y2, rfl⟩ := Soft.BW.mk hb_; clear hb_) | (go_at_call 87; (with_reducible refine (CO.out _ (by repeat (first | exact hv | refine Tb.At.alloc ?_ _ | refine Tb.At.bw ?_ _))).mono ?_); rintro e w_ ⟨rfl, hb_⟩; obtain ⟨y3, rfl⟩ := Soft.BW.mk hb_; clear hb_) | ((go_at_call 84; (with_reducible refine (CLI.out _).mono ?_); rintro e w_ ⟨rfl, hb_⟩; obtain ⟨y4, rfl⟩ := Soft.BW.mk hb_; clear hb_); obtain ⟨q2, e8⟩ := Soft.BW.mk (putTwo y4 (.cells #[.int .i64 L.lo, .int .i64 L.hi] 23) (.int .i64 (V.lo + L.lo)) (.int .i64 (V.hi + L.hi)) y3.w.heap.size rfl)) | (go_at_call 80; (with_reducible refine (CI.out _ (by repeat (first | exact hv | refine Tb.At.alloc ?_ _ | refine Tb.At.bw ?_ _))).mono ?_); rintro e w_ ⟨rfl, hb_⟩; obtain ⟨y5, rfl⟩ := Soft.BW.mk hb_; clear hb_))
  refine bodyPost_ret (v := .tuple #[.agg #[.int .i64 t.id, .bool false, .int .i64 U.lo, .int .i64 U.hi, .int .i64 l.den.lo, .int .i64 l.den.hi], .int .i64 0]) (by simp [results, Tryz.results35, go_sem, zeroL]) rfl ?_
  refine ⟨rfl, ?_⟩
  (repeat (first | with_reducible exact bel_refl _ | with_reducible refine bel_alloc ?_ _ | with_reducible refine bel_bw _ ?_ | with_reducible refine bel_drew ?_ | with_reducible refine bel_drewN _ ?_ | ((with_reducible refine bel_set ?_ ?_ _); rotate_left; focus (first | (simp; done) | omega | (simp; omega))) | refine bel_step ?_ (by with_reducible assumption)))

theorem rpump_yes_z (t : Tk) (l : Lv) (m : Rg) (w : World) (hh : t.At w) (V L U : Rg) (ub : Bool)
    (CCL : Hid (∀ W, t.At W → Calls Tryz.prog 39 #[.agg #[.int .i64 (t).id, .int .i64 ((t).along).lo, .int .i64 ((t).along).hi, .slice ((t).vol).p ((t).vol).n ((t).vol).c, .slice ((t).sur).p ((t).sur).n ((t).sur).c, .slice ((t).hei).p ((t).hei).n ((t).hei).c], .agg #[.int .i64 (l).tank, .bool (l).pressed, .int .i64 ((l).snd).lo, .int .i64 ((l).snd).hi, .int .i64 ((l).den).lo, .int .i64 ((l).den).hi]] W fun e w' => e = .returned (.int .i64 0) ∧ Below W.heap.size W w'))
    (CCR : Hid (∀ W, Calls Tryz.prog 83 #[.agg #[.int .i64 (m).lo, .int .i64 (m).hi]] W fun e w' => e = .returned (.int .i64 0) ∧ Below W.heap.size W w'))
    (CO : Hid (∀ W, t.vol.At W → Calls Tryz.prog 87 #[.agg #[.slice (t.vol).p (t.vol).n (t.vol).c], .agg #[.int .i64 (l.snd).lo, .int .i64 (l.snd).hi]] W fun e w' => e = .returned (.agg #[.int .i64 (V).lo, .int .i64 (V).hi]) ∧ Below W.heap.size W w'))
    (CLI : Hid (∀ W, Calls Tryz.prog 84 #[.agg #[.int .i64 (m).lo, .int .i64 (m).hi], .agg #[.int .i64 (l.den).lo, .int .i64 (l.den).hi]] W fun e w' => e = .returned (.agg #[.int .i64 (L).lo, .int .i64 (L).hi]) ∧ Below W.heap.size W w'))
    (CI : Hid (∀ W, t.vol.At W → Calls Tryz.prog 80 #[.agg #[.slice (t.vol).p (t.vol).n (t.vol).c], .agg #[.int .i64 (0), .int .i64 (V.hi + L.hi)], .bool false] W fun e w' => e = .returned (.tuple #[.agg #[.int .i64 (U).lo, .int .i64 (U).hi], .bool true]) ∧ Below W.heap.size W w'))
    (a1 : 0 ≤ V.lo) (a2 : V.lo ≤ V.hi) (a3 : V.hi ≤ 1000000000) (b1 : -10000000000000000 ≤ L.lo) (b2 : L.lo ≤ 10000000000000000) (b3 : -10000000000000000 ≤ L.hi) (b4 : L.hi ≤ 10000000000000000) (e0 : V.lo + L.lo ≤ 0)
    (cn : ¬V.hi + L.hi < 0) :
    Calls Tryz.prog 35 #[.agg #[.int .i64 (t).id, .int .i64 ((t).along).lo, .int .i64 ((t).along).hi, .slice ((t).vol).p ((t).vol).n ((t).vol).c, .slice ((t).sur).p ((t).sur).n ((t).sur).c, .slice ((t).hei).p ((t).hei).n ((t).hei).c], .agg #[.int .i64 (l).tank, .bool (l).pressed, .int .i64 ((l).snd).lo, .int .i64 ((l).snd).hi, .int .i64 ((l).den).lo, .int .i64 ((l).den).hi], .agg #[.int .i64 (m).lo, .int .i64 (m).hi]] w fun e w' => e = .returned (.tuple #[.agg #[.int .i64 t.id, .bool false, .int .i64 U.lo, .int .i64 U.hi, .int .i64 l.den.lo, .int .i64 l.den.hi], .int .i64 0]) ∧ Below w.heap.size w w' := by
  have hv := hh.1
  go_enter Tryz.func35, Tryz.ntmps35
  go_wp2_with (first | (go_at_call 39; (with_reducible refine (CCL.out _ (by with_reducible repeat (first | exact hh | refine Ho.At.alloc ?_ _ | refine Ho.At.bw ?_ _ | refine Tk.At.alloc ?_ _ | refine Tk.At.bw ?_ _))).mono ?_); rintro e w_ ⟨rfl, hb_⟩; obtain ⟨y1, rfl⟩ := Soft.BW.mk hb_; clear hb_) | (go_at_call 83; (with_reducible refine (CCR.out _).mono ?_); rintro e w_ ⟨rfl, hb_⟩; obtain ⟨y2, rfl⟩ := Soft.BW.mk hb_; clear hb_) | (go_at_call 87; (with_reducible refine (CO.out _ (by repeat (first | exact hv | refine Tb.At.alloc ?_ _ | refine Tb.At.bw ?_ _))).mono ?_); rintro e w_ ⟨rfl, hb_⟩; obtain ⟨y3, rfl⟩ := Soft.BW.mk hb_; clear hb_) | ((go_at_call 84; (with_reducible refine (CLI.out _).mono ?_); rintro e w_ ⟨rfl, hb_⟩; obtain ⟨y4, rfl⟩ := Soft.BW.mk hb_; clear hb_); obtain ⟨q2, e8⟩ := Soft.BW.mk (putTwo y4 (.cells #[.int .i64 L.lo, .int .i64 L.hi] 23) (.int .i64 (0)) (.int .i64 (V.hi + L.hi)) y3.w.heap.size rfl)) | (go_at_call 80; (with_reducible refine (CI.out _ (by repeat (first | exact hv | refine Tb.At.alloc ?_ _ | refine Tb.At.bw ?_ _))).mono ?_); rintro e w_ ⟨rfl, hb_⟩; obtain ⟨y5, rfl⟩ := Soft.BW.mk hb_; clear hb_))
  refine bodyPost_ret (v := .tuple #[.agg #[.int .i64 t.id, .bool false, .int .i64 U.lo, .int .i64 U.hi, .int .i64 l.den.lo, .int .i64 l.den.hi], .int .i64 0]) (by simp [results, Tryz.results35, go_sem, zeroL]) rfl ?_
  refine ⟨rfl, ?_⟩
  (repeat (first | with_reducible exact bel_refl _ | with_reducible refine bel_alloc ?_ _ | with_reducible refine bel_bw _ ?_ | with_reducible refine bel_drew ?_ | with_reducible refine bel_drewN _ ?_ | ((with_reducible refine bel_set ?_ ?_ _); rotate_left; focus (first | (simp; done) | omega | (simp; omega))) | refine bel_step ?_ (by with_reducible assumption)))

theorem R2_Pump (t : Tk) (l : Lv) (m : Rg) (w : World) (hh : t.At w) :
    Calls Tryz.prog 35 #[.agg #[.int .i64 (t).id, .int .i64 ((t).along).lo, .int .i64 ((t).along).hi, .slice ((t).vol).p ((t).vol).n ((t).vol).c, .slice ((t).sur).p ((t).sur).n ((t).sur).c, .slice ((t).hei).p ((t).hei).n ((t).hei).c], .agg #[.int .i64 (l).tank, .bool (l).pressed, .int .i64 ((l).snd).lo, .int .i64 ((l).snd).hi, .int .i64 ((l).den).lo, .int .i64 ((l).den).hi], .agg #[.int .i64 (m).lo, .int .i64 (m).hi]] w fun e w' => e = .returned (.tuple #[.agg #[.int .i64 ((pumpE t l m).1).tank, .bool ((pumpE t l m).1).pressed, .int .i64 (((pumpE t l m).1).snd).lo, .int .i64 (((pumpE t l m).1).snd).hi, .int .i64 (((pumpE t l m).1).den).lo, .int .i64 (((pumpE t l m).1).den).hi], .int .i64 (pumpE t l m).2]) ∧ Below w.heap.size w w' := by
  have hv := hh.1
  have CCL := Lib.hid (fun W hW => R2_CheckLevel t l W hW)
  by_cases cf : levelErr t l = 0
  · obtain ⟨h0, h1⟩ := level_ok cf
    rw [cf] at CCL
    have CCR := Lib.hid (fun W => R1_CheckRange m W)
    by_cases cm : rangeErr m = 0
    · rw [cm] at CCR
      have hid : l.tank = t.id := h1.1
      have CO : Hid (∀ W, t.vol.At W → Calls Tryz.prog 87 #[.agg #[.slice (t.vol).p (t.vol).n (t.vol).c], .agg #[.int .i64 (l.snd).lo, .int .i64 (l.snd).hi]] W fun e w' => e = .returned (.agg #[.int .i64 (heldS t l).lo, .int .i64 (heldS t l).hi]) ∧ Below W.heap.size W w') := Lib.hid (fun W hW => R2_over t.vol l.snd W hW h0.tabs.1 h1.2.2.1)
      have CLI := Lib.hid (fun W => R2_litres m l.den W cm h1.2.1)
      have CI : Hid (∀ W, t.vol.At W → Calls Tryz.prog 80 #[.agg #[.slice (t.vol).p (t.vol).n (t.vol).c], .agg #[.int .i64 (max ((heldS t l).lo + (litS m l.den).lo) 0), .int .i64 ((heldS t l).hi + (litS m l.den).hi)], .bool false] W fun e w' => e = .returned (.tuple #[.agg #[.int .i64 ((pumpU t l m).1).lo, .int .i64 ((pumpU t l m).1).hi], .bool (pumpU t l m).2]) ∧ Below W.heap.size W w') := Lib.hid (fun W hW => R2_Inverse_up t.vol (pumpV t l m) W hW h0.tabs.1 (ways_up h0.tabs.1 h0.mv _))
      have hA : RgIn (heldS t l) 0 1000000000 := overE_pos h0.tabs.1 _
      obtain ⟨a1, a2, a3⟩ := hA
      obtain ⟨b1, b2, b3, b4⟩ := lit_in cm h1.2.1
      have ev : pumpV t l m = ⟨max ((heldS t l).lo + (litS m l.den).lo) 0, (heldS t l).hi + (litS m l.den).hi⟩ := rfl
      by_cases cn : (heldS t l).hi + (litS m l.den).hi < 0
      · rw [show pumpE t l m = (zeroL, 24) by unfold pumpE; rw [if_neg (by omega), if_neg (by omega), if_pos (by rw [ev]; exact cn)]]
        rcases Int.lt_or_le 0 ((heldS t l).lo + (litS m l.den).lo) with e0 | e0
        · rw [show max ((heldS t l).lo + (litS m l.den).lo) 0 = (heldS t l).lo + (litS m l.den).lo by omega] at CI
          exact rpump_neg_p t l m w hh (heldS t l) (litS m l.den) (pumpU t l m).1 (pumpU t l m).2 CCL CCR CO CLI CI a1 a2 a3 b1 b2 b3 b4 e0 cn
        · rw [show max ((heldS t l).lo + (litS m l.den).lo) 0 = 0 by omega] at CI
          exact rpump_neg_z t l m w hh (heldS t l) (litS m l.den) (pumpU t l m).1 (pumpU t l m).2 CCL CCR CO CLI CI a1 a2 a3 b1 b2 b3 b4 e0 cn
      · cases hu : (pumpU t l m).2
        · rw [show pumpE t l m = (zeroL, 24) by unfold pumpE; rw [if_neg (by omega), if_neg (by omega), if_neg (by rw [ev]; exact cn), if_pos hu]]
          rw [hu] at CI
          rcases Int.lt_or_le 0 ((heldS t l).lo + (litS m l.den).lo) with e0 | e0
          · rw [show max ((heldS t l).lo + (litS m l.den).lo) 0 = (heldS t l).lo + (litS m l.den).lo by omega] at CI
            exact rpump_no_p t l m w hh (heldS t l) (litS m l.den) (pumpU t l m).1 true CCL CCR CO CLI CI a1 a2 a3 b1 b2 b3 b4 e0 cn
          · rw [show max ((heldS t l).lo + (litS m l.den).lo) 0 = 0 by omega] at CI
            exact rpump_no_z t l m w hh (heldS t l) (litS m l.den) (pumpU t l m).1 true CCL CCR CO CLI CI a1 a2 a3 b1 b2 b3 b4 e0 cn
        · rw [show pumpE t l m = (⟨t.id, false, (pumpU t l m).1, l.den⟩, 0) by unfold pumpE; rw [if_neg (by omega), if_neg (by omega), if_neg (by rw [ev]; exact cn), if_neg (by rw [hu]; decide), hid]]
          rw [hu] at CI
          rcases Int.lt_or_le 0 ((heldS t l).lo + (litS m l.den).lo) with e0 | e0
          · rw [show max ((heldS t l).lo + (litS m l.den).lo) 0 = (heldS t l).lo + (litS m l.den).lo by omega] at CI
            exact rpump_yes_p t l m w hh (heldS t l) (litS m l.den) (pumpU t l m).1 true CCL CCR CO CLI CI a1 a2 a3 b1 b2 b3 b4 e0 cn
          · rw [show max ((heldS t l).lo + (litS m l.den).lo) 0 = 0 by omega] at CI
            exact rpump_yes_z t l m w hh (heldS t l) (litS m l.den) (pumpU t l m).1 true CCL CCR CO CLI CI a1 a2 a3 b1 b2 b3 b4 e0 cn
    · have e10 : rangeErr m = 10 := by rcases rangeErr_cases m with ⟨e, _⟩ | ⟨e, _⟩; exact absurd e cm; exact e
      have HV := Lib.hid (show pumpE t l m = (zeroL, 10) by unfold pumpE; rw [if_neg (by omega), if_pos cm, e10])
      rw [HV.out]
      rw [e10] at CCR
      clear cf h0 h1 cm HV e10
      go_enter Tryz.func35, Tryz.ntmps35
      go_wp2_with (first | (go_at_call 39; (with_reducible refine (CCL.out _ (by with_reducible repeat (first | exact hh | refine Ho.At.alloc ?_ _ | refine Ho.At.bw ?_ _ | refine Tk.At.alloc ?_ _ | refine Tk.At.bw ?_ _))).mono ?_); rintro e w_ ⟨rfl, hb_⟩; obtain ⟨y1, rfl⟩ := Soft.BW.mk hb_; clear hb_) | (go_at_call 83; (with_reducible refine (CCR.out _).mono ?_); rintro e w_ ⟨rfl, hb_⟩; obtain ⟨y2, rfl⟩ := Soft.BW.mk hb_; clear hb_))
      refine bodyPost_ret (v := .tuple #[.agg #[.int .i64 (zeroL).tank, .bool (zeroL).pressed, .int .i64 ((zeroL).snd).lo, .int .i64 ((zeroL).snd).hi, .int .i64 ((zeroL).den).lo, .int .i64 ((zeroL).den).hi], .int .i64 10]) (by simp [results, Tryz.results35, go_sem, zeroL]) rfl ?_
      refine ⟨rfl, ?_⟩
      (repeat (first | with_reducible exact bel_refl _ | with_reducible refine bel_alloc ?_ _ | with_reducible refine bel_bw _ ?_ | with_reducible refine bel_drew ?_ | with_reducible refine bel_drewN _ ?_ | ((with_reducible refine bel_set ?_ ?_ _); rotate_left; focus (first | (simp; done) | omega | (simp; omega))) | refine bel_step ?_ (by with_reducible assumption)))
  · have HV := Lib.hid (show pumpE t l m = (zeroL, levelErr t l) by unfold pumpE; rw [if_pos cf])
    have dF : (levelErr t l != 0) = true := bne_iff_ne.2 cf
    rw [HV.out]
    clear cf HV
    generalize levelErr t l = E at *
    go_enter Tryz.func35, Tryz.ntmps35
    go_wp2_with (first | (go_at_call 39; (with_reducible refine (CCL.out _ (by with_reducible repeat (first | exact hh | refine Ho.At.alloc ?_ _ | refine Ho.At.bw ?_ _ | refine Tk.At.alloc ?_ _ | refine Tk.At.bw ?_ _))).mono ?_); rintro e w_ ⟨rfl, hb_⟩; obtain ⟨y1, rfl⟩ := Soft.BW.mk hb_; clear hb_))
    refine bodyPost_ret (v := .tuple #[.agg #[.int .i64 (zeroL).tank, .bool (zeroL).pressed, .int .i64 ((zeroL).snd).lo, .int .i64 ((zeroL).snd).hi, .int .i64 ((zeroL).den).lo, .int .i64 ((zeroL).den).hi], .int .i64 E]) (by simp [results, Tryz.results35, go_sem, zeroL]) rfl ?_
    refine ⟨rfl, ?_⟩
    (repeat (first | with_reducible exact bel_refl _ | with_reducible refine bel_alloc ?_ _ | with_reducible refine bel_bw _ ?_ | with_reducible refine bel_drew ?_ | with_reducible refine bel_drewN _ ?_ | ((with_reducible refine bel_set ?_ ?_ _); rotate_left; focus (first | (simp; done) | omega | (simp; omega))) | refine bel_step ?_ (by with_reducible assumption)))

end Go.Proofs.YtbjdgaeikihjbaaGreat
