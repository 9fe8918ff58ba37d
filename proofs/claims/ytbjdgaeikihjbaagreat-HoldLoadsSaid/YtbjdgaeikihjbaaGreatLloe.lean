/-
  The walk of the law HoldLoads.
  Conditions: each theorem's own premises.
-/
import Derived.Test.YtbjdgaeikihjbaaGreatLlod
import Derived.Test.YtbjdgaeikihjbaaGreatRlod
import Derived.Test.YtbjdgaeikihjbaaGreatHlod
import Derived.Test.YtbjdgaeikihjbaaGreatSanf
namespace Go.Proofs.YtbjdgaeikihjbaaGreat
set_option linter.unusedSimpArgs false
set_option linter.unusedVariables false
open Go.RowKit
set_option maxRecDepth 100000
set_option maxHeartbeats 4000000
attribute [local go_sem] Instr.field asAgg Soft.upon Soft.BW.cell_if Soft.BW.frozen_if Soft.cell_alloc_if Soft.frozen_alloc_if

theorem L2_HoldLoads (H : Sl Ho) (F : Sl Fi) (T : Sl Tk) (L : Sl Lv) (w : World) (hH : HsAt w H) (hF : FsAt w F) (hT : TsAt w T) (hL : LsAt w L) :
    Calls Tryz.prog 6 #[.agg #[.slice H.p H.n H.c, .slice F.p F.n F.c, .slice T.p T.n T.c, .slice L.p L.n L.c]] w fun e w' => e = .returned (.bool true) ∧ Below w.heap.size w w' := by
  have C1 := Lib.hid (fun W (hb : Below w.heap.size w W) => hold_Load H F T L W (hH.same hb) (hF.same hb) (hT.same hb) (hL.same hb))
  have C2 := Lib.hid (fun W (hb : Below w.heap.size w W) => R2_Load H F T L W (hH.same hb) (hF.same hb) (hT.same hb) (hL.same hb))
  clear hH hF hT hL
  generalize loadE H.xs F.xs T.xs L.xs = E at *
  obtain ⟨er, ws, ⟨sl, su⟩, ⟨hl, hu⟩⟩ := E
  generalize Value.slice H.p H.n H.c = v0 at *
  generalize Value.slice F.p F.n F.c = v1 at *
  generalize Value.slice T.p T.n T.c = v2 at *
  generalize Value.slice L.p L.n L.c = v3 at *
  go_enter Tryz.func6, Tryz.ntmps6
  go_wp2_with (first
    | (go_at_call 40; (with_reducible refine (C1.out _ (by (repeat (first | with_reducible exact bel_refl _ | with_reducible refine bel_alloc ?_ _ | with_reducible refine bel_bw _ ?_ | with_reducible refine bel_drew ?_ | with_reducible refine bel_drewN _ ?_ | ((with_reducible refine bel_set ?_ ?_ _); rotate_left; focus (first | (simp; done) | omega | (simp; omega))) | refine bel_step ?_ (by with_reducible assumption))))).mono ?_); rintro e w_ ⟨p1, c1, rfl, hw1, hb_⟩; obtain ⟨y1, rfl⟩ := Soft.BW.mk hb_; clear hb_; dsimp only at hw1; have W1 := Lib.hid hw1; clear hw1)
    | (go_at_call 41; (with_reducible refine (C2.out _ (by (repeat (first | with_reducible exact bel_refl _ | with_reducible refine bel_alloc ?_ _ | with_reducible refine bel_bw _ ?_ | with_reducible refine bel_drew ?_ | with_reducible refine bel_drewN _ ?_ | ((with_reducible refine bel_set ?_ ?_ _); rotate_left; focus (first | (simp; done) | omega | (simp; omega))) | refine bel_step ?_ (by with_reducible assumption))))).mono ?_); rintro e w_ ⟨p2, c2, rfl, hw2, hb_⟩; obtain ⟨y2, rfl⟩ := Soft.BW.mk hb_; clear hb_; dsimp only at hw2; have W2 := Lib.hid hw2; clear hw2)
    | (go_at_call 42; (with_reducible refine (R2_SameLoad ⟨p1, ws.length, c1, ws⟩ ⟨p2, ws.length, c2, ws⟩ ⟨sl, su⟩ ⟨hl, hu⟩ _ (((W1.out.alloc _).bw y2).alloc _) (W2.out.alloc _) rfl).mono ?_); rintro e w_ ⟨rfl, hb_⟩; obtain ⟨y3, rfl⟩ := Soft.BW.mk hb_; clear hb_) | (go_at_call 23; (with_reducible refine (L2_sane _).mono ?_); rintro e w_ ⟨rfl, hb_⟩; obtain ⟨y4, rfl⟩ := Soft.BW.mk hb_; clear hb_))
  go_ret
  refine ⟨rfl, ?_⟩
  (repeat (first | with_reducible exact bel_refl _ | with_reducible refine bel_alloc ?_ _ | with_reducible refine bel_bw _ ?_ | with_reducible refine bel_drew ?_ | with_reducible refine bel_drewN _ ?_ | ((with_reducible refine bel_set ?_ ?_ _); rotate_left; focus (first | (simp; done) | omega | (simp; omega))) | refine bel_step ?_ (by with_reducible assumption)))

end Go.Proofs.YtbjdgaeikihjbaaGreat
