/-
  The reference's maker of levels out of numbers: Level.
  Conditions: each theorem's own premises.
-/
import Derived.Test.YtbjdgaeikihjbaaLlev
import Derived.Test.YtbjdgaeikihjbaaNorm
import Derived.Test.YtbjdgaeikihjbaaTrut
namespace Go.Proofs.Ytbjdgaeikihjbaa
set_option linter.unusedSimpArgs false
set_option linter.unusedVariables false
open Go.RowKit
set_option maxRecDepth 100000
set_option maxHeartbeats 4000000
attribute [local go_sem] Instr.field asAgg Soft.upon Soft.BW.cell_if Soft.BW.frozen_if Soft.cell_alloc_if Soft.frozen_alloc_if


theorem R2_Level (t : Tk) (x0 x1 x2 x3 x4 : Int) (w : World) (ht : t.At w) (hok : TankOk t) :
    Calls Try.prog 56 #[.agg #[.int .i64 (t).id, .int .i64 ((t).along).lo, .int .i64 ((t).along).hi, .slice ((t).vol).p ((t).vol).n ((t).vol).c, .slice ((t).sur).p ((t).sur).n ((t).sur).c, .slice ((t).hei).p ((t).hei).n ((t).hei).c], .agg #[.int .i64 x0, .int .i64 x1, .int .i64 x2, .int .i64 x3, .int .i64 x4]] w fun e w' => e = .returned (.agg #[.int .i64 ((lvS t x0 x1 x2 x3 x4)).tank, .bool ((lvS t x0 x1 x2 x3 x4)).pressed, .int .i64 (((lvS t x0 x1 x2 x3 x4)).snd).lo, .int .i64 (((lvS t x0 x1 x2 x3 x4)).snd).hi, .int .i64 (((lvS t x0 x1 x2 x3 x4)).den).lo, .int .i64 (((lvS t x0 x1 x2 x3 x4)).den).hi]) ∧ Below w.heap.size w w' := by
  have hv := ht.1
  have hn : 1 ≤ t.vol.n := by rw [← hv.1]; exact hok.tabs.1.ok.pos
  obtain ⟨z, hz⟩ : ∃ z, z = x0 % 5 := ⟨_, rfl⟩
  have z1 := Int.emod_nonneg x0 (show (5 : Int) ≠ 0 by omega)
  have z2 := Int.emod_lt_of_pos x0 (show (0 : Int) < 5 by omega)
  rw [← hz] at z1 z2
  have HZ := Lib.hid hz
  have CSP : Hid (∀ W, t.vol.At W → Calls Try.prog 66 #[.agg #[.slice (t.vol).p (t.vol).n (t.vol).c], .int .i64 x1, .int .i64 x2] W fun e w' => e = .returned (.agg #[.int .i64 (spanS (firstX t.vol.ps) (lastX t.vol.ps) x1 x2).lo, .int .i64 (spanS (firstX t.vol.ps) (lastX t.vol.ps) x1 x2).hi]) ∧ Below W.heap.size W w') := Lib.hid (fun W hW => R2_span t.vol x1 x2 W hW hok.tabs.1.ok)
  have CDE : Hid (∀ W, Calls Try.prog 17 #[.int .i64 x3, .int .i64 x4] W fun e w' => e = .returned (.agg #[.int .i64 ((denS x3 x4)).lo, .int .i64 ((denS x3 x4)).hi]) ∧ Below W.heap.size W w') := Lib.hid (fun W => R2_Density _ _ W)
  by_cases c4 : z = 4
  · have HV := Lib.hid (show lvS t x0 x1 x2 x3 x4 = ⟨t.id, true, ⟨lastX t.vol.ps, lastX t.vol.ps⟩, denS x3 x4⟩ by unfold lvS; rw [← hz, if_pos c4, decide_eq_true c4])
    have d4 : (z == 4) = true := by rw [c4]; rfl
    clear hz c4 hok
    generalize spanS (firstX t.vol.ps) (lastX t.vol.ps) x1 x2 = sp at *
    generalize denS x3 x4 = de at *
    go_enter Try.func56, Try.ntmps56
    go_wp2_with fail
    (refine Soft.region1 [0, 1, 2, 3, 4, 5, 6, 7, 8, 9, 10, 11, 12, 13, 14, 15, 16, 17, 18] 19 [20] _ (by kernel_rfl) (by kernel_rfl) (by kernel_rfl) rfl rfl (by kernel_rfl) ?_; change Soft.wpSoft _ _ _ _ _ [_, _, _, _, _, _, _, _, _, _, _, _, _, _, _, _, _, _, _] _; (repeat (refine Soft.soft_step (fun K hK => ?_); go_simp; (try go_bits); first | (refine hK _ ?_; clear hK K) | (apply Exists.intro; refine ⟨fun x => ?_, hK _ ?_⟩; (first | (go_at_call 37; exact Calls.bel (R2_Mod _ _ z _ (by omega) (by omega) HZ.out)) | (go_at_call 66; exact CSP.out _ (by repeat (first | exact hv | refine Tb.At.alloc ?_ _ | refine Tb.At.bw ?_ _))) | (go_at_call 17; exact CDE.out _)); clear hK K))); refine Soft.soft_nil ?_)
    refine ⟨fun b => .pointer (some ⟨b, 0, none⟩), .cells #[.int .i64 0, .bool false, .int .i64 0, .int .i64 0, .int .i64 0, .int .i64 0] 91, fun x => by go_simp, fun kb xx hnew => ?_⟩
    change wpList _ _ _ [_] _ _
    obtain ⟨N, x1, rfl, ex⟩ := newSplit hnew
    rw [ex]
    clear hnew ex xx
    refine wpList_store_row rfl 91 _ _ rfl N.w.heap.size _ rfl rfl 91 _ (HasBlk.below (Soft.heap_new N.w _) x1.below) (by kernel_rfl) rfl (by kernel_rfl) ?_
    obtain ⟨q1, ex2, ex3⟩ := bwStore x1 #[.int .i64 t.id, .bool true, .int .i64 sp.lo, .int .i64 sp.hi, .int .i64 de.lo, .int .i64 de.hi]
    rw [ex2]
    clear ex2 ex3 x1
    go_wp2_with fail
    (refine Soft.region0 [0, 1, 2, 3, 4, 5, 6, 7] [8] (by kernel_rfl) (by kernel_rfl) (by kernel_rfl) (by kernel_rfl) ?_; change Soft.wpSoft _ _ _ _ _ [_, _, _, _, _, _, _, _] _; (repeat (refine Soft.soft_step (fun K hK => ?_); go_simp; (try go_bits); first | (refine hK _ ?_; clear hK K) | (apply Exists.intro; refine ⟨fun x => ?_, hK _ ?_⟩; ((go_at_call 18; exact R2_Last t.vol _ (by repeat (first | exact hv | refine Tb.At.alloc ?_ _ | refine Tb.At.bw ?_ _)) hn)); clear hK K))); refine Soft.soft_nil ?_; intro xw; change wpList _ _ _ [_] _ _)
    change wpList _ _ _ [_] _ _
    obtain ⟨y1, ey⟩ := Soft.BW.of (x := q1) xw.below
    rw [ey]
    clear ey xw
    obtain ⟨y2, e1, e2⟩ := bwPut y1 2 (.int .i64 (lastX t.vol.ps)) _ rfl
    obtain ⟨y3, e3, e4⟩ := bwPut y2 3 (.int .i64 (lastX t.vol.ps)) _ rfl
    simp at y3
    clear e2 e4
    go_wp2_with fail
    rw [HV.out]
    refine bodyPost_ret (v := .agg #[.int .i64 t.id, .bool true, .int .i64 (lastX t.vol.ps), .int .i64 (lastX t.vol.ps), .int .i64 de.lo, .int .i64 de.hi]) (by simp [results, Try.results56, go_sem]) rfl ?_
    refine ⟨rfl, ?_⟩
    (repeat (first | with_reducible exact bel_refl _ | with_reducible refine bel_alloc ?_ _ | with_reducible refine bel_bw _ ?_ | with_reducible refine bel_drew ?_ | with_reducible refine bel_drewN _ ?_ | ((with_reducible refine bel_set ?_ ?_ _); rotate_left; focus (first | (simp; done) | omega | (simp; omega))) | refine bel_step ?_ (by with_reducible assumption)))
  · have HV := Lib.hid (show lvS t x0 x1 x2 x3 x4 = ⟨t.id, false, spanS (firstX t.vol.ps) (lastX t.vol.ps) x1 x2, denS x3 x4⟩ by unfold lvS; rw [← hz, if_neg c4, decide_eq_false c4])
    have d4 : (z == 4) = false := by rw [beq_eq_false_iff_ne]; exact c4
    clear hz c4 hok
    generalize spanS (firstX t.vol.ps) (lastX t.vol.ps) x1 x2 = sp at *
    generalize denS x3 x4 = de at *
    go_enter Try.func56, Try.ntmps56
    go_wp2_with fail
    (refine Soft.region1 [0, 1, 2, 3, 4, 5, 6, 7, 8, 9, 10, 11, 12, 13, 14, 15, 16, 17, 18] 19 [20] _ (by kernel_rfl) (by kernel_rfl) (by kernel_rfl) rfl rfl (by kernel_rfl) ?_; change Soft.wpSoft _ _ _ _ _ [_, _, _, _, _, _, _, _, _, _, _, _, _, _, _, _, _, _, _] _; (repeat (refine Soft.soft_step (fun K hK => ?_); go_simp; (try go_bits); first | (refine hK _ ?_; clear hK K) | (apply Exists.intro; refine ⟨fun x => ?_, hK _ ?_⟩; (first | (go_at_call 37; exact Calls.bel (R2_Mod _ _ z _ (by omega) (by omega) HZ.out)) | (go_at_call 66; exact CSP.out _ (by repeat (first | exact hv | refine Tb.At.alloc ?_ _ | refine Tb.At.bw ?_ _))) | (go_at_call 17; exact CDE.out _)); clear hK K))); refine Soft.soft_nil ?_)
    refine ⟨fun b => .pointer (some ⟨b, 0, none⟩), .cells #[.int .i64 0, .bool false, .int .i64 0, .int .i64 0, .int .i64 0, .int .i64 0] 91, fun x => by go_simp, fun kb xx hnew => ?_⟩
    change wpList _ _ _ [_] _ _
    obtain ⟨N, x1, rfl, ex⟩ := newSplit hnew
    rw [ex]
    clear hnew ex xx
    refine wpList_store_row rfl 91 _ _ rfl N.w.heap.size _ rfl rfl 91 _ (HasBlk.below (Soft.heap_new N.w _) x1.below) (by kernel_rfl) rfl (by kernel_rfl) ?_
    obtain ⟨q1, ex2, ex3⟩ := bwStore x1 #[.int .i64 t.id, .bool false, .int .i64 sp.lo, .int .i64 sp.hi, .int .i64 de.lo, .int .i64 de.hi]
    rw [ex2]
    clear ex2 ex3 x1
    go_wp2_with fail
    rw [HV.out]
    refine bodyPost_ret (v := .agg #[.int .i64 t.id, .bool false, .int .i64 sp.lo, .int .i64 sp.hi, .int .i64 de.lo, .int .i64 de.hi]) (by simp [results, Try.results56, go_sem]) rfl ?_
    refine ⟨rfl, ?_⟩
    (repeat (first | with_reducible exact bel_refl _ | with_reducible refine bel_alloc ?_ _ | with_reducible refine bel_bw _ ?_ | with_reducible refine bel_drew ?_ | with_reducible refine bel_drewN _ ?_ | ((with_reducible refine bel_set ?_ ?_ _); rotate_left; focus (first | (simp; done) | omega | (simp; omega))) | refine bel_step ?_ (by with_reducible assumption)))

end Go.Proofs.Ytbjdgaeikihjbaa
