/-
  The walk of the law HoldWorsts.
  Conditions: each theorem's own premises.
-/
import Derived.Test.YtbjdgaeikihjbaaRfp
import Derived.Test.YtbjdgaeikihjbaaSet
import Derived.Test.YtbjdgaeikihjbaaChkw
import Derived.Test.YtbjdgaeikihjbaaSanf
namespace Go.Proofs.Ytbjdgaeikihjbaa
set_option linter.unusedSimpArgs false
set_option linter.unusedVariables false
open Go.RowKit
set_option maxRecDepth 100000
set_option maxHeartbeats 8000000
attribute [local go_sem] Instr.field asAgg Soft.upon Soft.BW.cell_if Soft.BW.frozen_if Soft.cell_alloc_if Soft.frozen_alloc_if

theorem chk_self (h : Ho) (f : Fi) : chkS h f (wrsE h f).1 (wrsE h f).2 = fillErr h f := by
  by_cases e : fillErr h f = 0
  · obtain ⟨h0, h1⟩ := fill_ok e
    rw [(worst_plain h0 h1).y, e]
  · unfold chkS; rw [if_neg e]

theorem L2_HoldWorsts (h : Ho) (f : Fi) (n0 n1 n2 : Int) (w : World) (hh : h.At w) :
    Calls Try.prog 11 #[.agg #[.int .i64 (h).id, .int .i64 ((h).along).lo, .int .i64 ((h).along).hi, .slice ((h).vol).p ((h).vol).n ((h).vol).c, .slice ((h).mom).p ((h).mom).n ((h).mom).c, .slice ((h).hei).p ((h).hei).n ((h).hei).c, .int .i64 ((h).tri).lo, .int .i64 ((h).tri).hi, .int .i64 ((h).unt).lo, .int .i64 ((h).unt).hi, .int .i64 ((h).v0).lo, .int .i64 ((h).v0).hi, .int .i64 ((h).h0).lo, .int .i64 ((h).h0).hi], .agg #[.int .i64 (f).hold, .int .i64 (f).state, .int .i64 ((f).ull).lo, .int .i64 ((f).ull).hi, .int .i64 ((f).den).lo, .int .i64 ((f).den).hi], .agg #[.int .i64 n0, .int .i64 n1, .int .i64 n2]] w fun e w' => e = .returned (.bool true) ∧ Below w.heap.size w w' := by
  have C1 := Lib.hid (fun W hW => hold_Settle h f n0 W hW)
  have C2 := Lib.hid (fun W hW => R2_Settle h f n0 W hW)
  have C3 := Lib.hid (fun W hW => hold_Worst h f W hW)
  have C4 := Lib.hid (fun W hW => R2_Worst h f W hW)
  have C5 := Lib.hid (fun W hW => hold_CheckWorst h f n1 n2 W hW)
  have C6 := Lib.hid (fun W hW => R2_CheckWorst h f n1 n2 W hW)
  have C7 := Lib.hid (fun W hW => by have := hold_CheckWorst h f (wrsE h f).1 (wrsE h f).2 W hW; rwa [chk_self] at this)
  generalize setE h f n0 = A at *
  generalize wrsE h f = B at *
  generalize fillErr h f = E at *
  generalize chkS h f n1 n2 = K at *
  obtain ⟨⟨ah, ast, ⟨au1, au2⟩, ⟨ad1, ad2⟩⟩, ae⟩ := A
  obtain ⟨b1, b2⟩ := B
  dsimp only at C1 C2 C3 C4 C7
  go_enter Try.func11, Try.ntmps11
  go_wp2_with (first | (go_at_call 51; (with_reducible refine (C1.out _ (by with_reducible repeat (first | exact hh | refine Ho.At.alloc ?_ _ | refine Ho.At.bw ?_ _ | refine Tk.At.alloc ?_ _ | refine Tk.At.bw ?_ _))).mono ?_); rintro e w_ ⟨rfl, hb_⟩; obtain ⟨y1, rfl⟩ := Soft.BW.mk hb_; clear hb_) | (go_at_call 52; (with_reducible refine (C2.out _ (by with_reducible repeat (first | exact hh | refine Ho.At.alloc ?_ _ | refine Ho.At.bw ?_ _ | refine Tk.At.alloc ?_ _ | refine Tk.At.bw ?_ _))).mono ?_); rintro e w_ ⟨rfl, hb_⟩; obtain ⟨y2, rfl⟩ := Soft.BW.mk hb_; clear hb_) | (go_at_call 40; (with_reducible refine (C3.out _ (by with_reducible repeat (first | exact hh | refine Ho.At.alloc ?_ _ | refine Ho.At.bw ?_ _ | refine Tk.At.alloc ?_ _ | refine Tk.At.bw ?_ _))).mono ?_); rintro e w_ ⟨rfl, hb_⟩; obtain ⟨y3, rfl⟩ := Soft.BW.mk hb_; clear hb_) | (go_at_call 53; (with_reducible refine (C4.out _ (by with_reducible repeat (first | exact hh | refine Ho.At.alloc ?_ _ | refine Ho.At.bw ?_ _ | refine Tk.At.alloc ?_ _ | refine Tk.At.bw ?_ _))).mono ?_); rintro e w_ ⟨rfl, hb_⟩; obtain ⟨y4, rfl⟩ := Soft.BW.mk hb_; clear hb_))
  (refine Soft.region0 [0, 1, 2, 3, 4, 5, 6, 7, 8, 9, 10, 11, 12, 13, 14, 15, 16, 17, 18, 19, 20, 21, 22, 23, 24, 25, 26, 27, 28, 29, 30, 31, 32, 33, 34, 35, 36, 37, 38, 39, 40, 41, 42, 43, 44, 45, 46, 47, 48, 49, 50, 51, 52] [] (by kernel_rfl) (by kernel_rfl) (by kernel_rfl) (by kernel_rfl) ?_; change Soft.wpSoft _ _ _ _ _ [_, _, _, _, _, _, _, _, _, _, _, _, _, _, _, _, _, _, _, _, _, _, _, _, _, _, _, _, _, _, _, _, _, _, _, _, _, _, _, _, _, _, _, _, _, _, _, _, _, _, _, _, _] _; (repeat (refine Soft.soft_step (fun K hK => ?_); go_simp; (try go_bits); first | (refine hK _ ?_; clear hK K) | (apply Exists.intro; refine ⟨fun x => ?_, hK _ ?_⟩; (first | (go_at_call 41; with_reducible exact (C5.out _ (by with_reducible repeat (first | exact hh | refine Ho.At.alloc ?_ _ | refine Ho.At.bw ?_ _ | refine Tk.At.alloc ?_ _ | refine Tk.At.bw ?_ _)))) | (go_at_call 54; with_reducible exact (C6.out _ (by with_reducible repeat (first | exact hh | refine Ho.At.alloc ?_ _ | refine Ho.At.bw ?_ _ | refine Tk.At.alloc ?_ _ | refine Tk.At.bw ?_ _)))) | (go_at_call 41; with_reducible exact (C7.out _ (by with_reducible repeat (first | exact hh | refine Ho.At.alloc ?_ _ | refine Ho.At.bw ?_ _ | refine Tk.At.alloc ?_ _ | refine Tk.At.bw ?_ _)))) | (go_at_call 23; with_reducible exact (L2_sane _))); clear hK K))); refine Soft.soft_nil ?_; intro xw; change wpList _ _ _ [] _ _)
  change wpList _ _ _ [] _ _
  go_wp2_with fail
  go_ret
  refine ⟨rfl, ?_⟩
  (repeat (first | with_reducible exact bel_refl _ | with_reducible refine bel_alloc ?_ _ | with_reducible refine bel_bw _ ?_ | with_reducible refine bel_drew ?_ | with_reducible refine bel_drewN _ ?_ | ((with_reducible refine bel_set ?_ ?_ _); rotate_left; focus (first | (simp; done) | omega | (simp; omega))) | refine bel_step ?_ (by with_reducible assumption)))

end Go.Proofs.Ytbjdgaeikihjbaa
