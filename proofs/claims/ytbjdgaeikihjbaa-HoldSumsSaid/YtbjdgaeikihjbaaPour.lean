/-
  hold: Ullage, Sounding (given CheckTank), Pour, Draw, Settle.
  Conditions: each theorem's own premises.
-/
import Derived.Test.YtbjdgaeikihjbaaMono
import Derived.Test.YtbjdgaeikihjbaaTank
import Derived.Test.YtbjdgaeikihjbaaLit
namespace Go.Proofs.Ytbjdgaeikihjbaa
set_option linter.unusedSimpArgs false
set_option linter.unusedVariables false
open Go.RowKit
set_option maxRecDepth 100000
set_option maxHeartbeats 1000000
attribute [local go_sem] Instr.field asAgg Soft.upon Soft.BW.cell_if Soft.BW.frozen_if Soft.cell_alloc_if Soft.frozen_alloc_if

/-- The inverse of a table that falls, and of one that rises. -/
def invDown (ps : List Pt) (v : Rg) : Rg × Bool := invS (moreB ps v) (lessB ps v) (firstX ps) (lastX ps)
def invUp (ps : List Pt) (v : Rg) : Rg × Bool := invS (lessB ps v) (moreB ps v) (firstX ps) (lastX ps)

theorem hold_inverse_hold (h : Ho) (v : Rg) (w : World) (ht : h.vol.At w) (h0 : HoldOk h) :
    Calls Try.prog 73 #[.agg #[.slice (h.vol).p (h.vol).n (h.vol).c], .agg #[.int .i64 (v).lo, .int .i64 (v).hi], .int .i64 (-1)] w fun e w' =>
      e = .returned (.tuple #[.agg #[.int .i64 ((invDown h.vol.ps v).1).lo, .int .i64 ((invDown h.vol.ps v).1).hi], .bool (invDown h.vol.ps v).2]) ∧ Below w.heap.size w w' :=
  inverse_down h.vol v w ht h0.tabs.1.ok (ways_down h0.tabs.1 h0.mv v)

theorem holdErr_ok {h : Ho} (e : holdErr h = 0) : HoldOk h := by
  unfold holdErr at e
  by_cases h0 : HoldOk h
  · exact h0
  · rw [if_neg h0] at e; omega

/-- Ullage. -/
def ullE (h : Ho) (m d : Rg) : Rg × Int :=
  if holdErr h = 0 then if massErr m d = 0 then if (invDown h.vol.ps (litS m d)).2 = true then ((invDown h.vol.ps (litS m d)).1, 0) else (⟨0, 0⟩, 24) else (⟨0, 0⟩, massErr m d) else (⟨0, 0⟩, holdErr h)

theorem invUp_tank (t : Tk) (v : Rg) (w : World) (ht : t.vol.At w) (h0 : TankOk t) :
    Calls Try.prog 73 #[.agg #[.slice (t.vol).p (t.vol).n (t.vol).c], .agg #[.int .i64 (v).lo, .int .i64 (v).hi], .int .i64 1] w fun e w' =>
      e = .returned (.tuple #[.agg #[.int .i64 ((invUp t.vol.ps v).1).lo, .int .i64 ((invUp t.vol.ps v).1).hi], .bool (invUp t.vol.ps v).2]) ∧ Below w.heap.size w w' :=
  inverse_up t.vol v w ht h0.tabs.1.ok (ways_up h0.tabs.1 h0.mv v)
theorem tankErr_ok {t : Tk} (e : tankErr t = 0) : TankOk t := by
  unfold tankErr at e
  by_cases h0 : TankOk t
  · exact h0
  · rw [if_neg h0] at e; omega
def sndE (t : Tk) (m d : Rg) : Rg × Int :=
  if tankErr t = 0 then if massErr m d = 0 then if (invUp t.vol.ps (litS m d)).2 = true then ((invUp t.vol.ps (litS m d)).1, 0) else (⟨0, 0⟩, 24) else (⟨0, 0⟩, massErr m d) else (⟨0, 0⟩, tankErr t)


theorem hold_Ullage (h : Ho) (m d : Rg) (w : World) (hh : h.At w) :
    Calls Try.prog 38 #[.agg #[.int .i64 (h).id, .int .i64 ((h).along).lo, .int .i64 ((h).along).hi, .slice ((h).vol).p ((h).vol).n ((h).vol).c, .slice ((h).mom).p ((h).mom).n ((h).mom).c, .slice ((h).hei).p ((h).hei).n ((h).hei).c, .int .i64 ((h).tri).lo, .int .i64 ((h).tri).hi, .int .i64 ((h).unt).lo, .int .i64 ((h).unt).hi, .int .i64 ((h).v0).lo, .int .i64 ((h).v0).hi, .int .i64 ((h).h0).lo, .int .i64 ((h).h0).hi], .agg #[.int .i64 (m).lo, .int .i64 (m).hi], .agg #[.int .i64 (d).lo, .int .i64 (d).hi]] w fun e w' => e = .returned (.tuple #[.agg #[.int .i64 ((ullE h m d).1).lo, .int .i64 ((ullE h m d).1).hi], .int .i64 (ullE h m d).2]) ∧ Below w.heap.size w w' := by
  have hv := hh.1
  by_cases h0 : holdErr h = 0
  · have hok := Lib.hid (holdErr_ok h0)
    have d0 : (holdErr h != 0) = false := by rw [h0]; rfl
    by_cases h1 : massErr m d = 0
    · have hme := Lib.hid (massErr_ok h1)
      have d1 : (massErr m d != 0) = false := by rw [h1]; rfl
      by_cases h2 : (invDown h.vol.ps (litS m d)).2 = true
      · have HV := Lib.hid (show ullE h m d = ((invDown h.vol.ps (litS m d)).1, 0) by unfold ullE; rw [if_pos h0, if_pos h1, if_pos h2])
        have H2 := Lib.hid h2
        clear h0 h1 h2
        go_enter Try.func38, Try.ntmps38
        go_wp2_with (first | (go_at_call 83; (with_reducible refine (hold_CheckHold h _ (by with_reducible repeat (first | exact hh | refine Ho.At.alloc ?_ _ | refine Ho.At.bw ?_ _ | refine Tk.At.alloc ?_ _ | refine Tk.At.bw ?_ _))).mono ?_); rintro e w_ ⟨rfl, hb_⟩; obtain ⟨y1, rfl⟩ := Soft.BW.mk hb_; clear hb_) | (go_at_call 69; (with_reducible refine (hold_checkMass m d _).mono ?_); rintro e w_ ⟨rfl, hb_⟩; obtain ⟨y2, rfl⟩ := Soft.BW.mk hb_; clear hb_))
        (refine Soft.region1e 8 10 [0, 1, 2, 3, 4, 5, 6, 7, 8] 9 [10, 11] _ (by kernel_rfl) (by kernel_rfl) (by intro _ _ _ _ _ _ h; dsimp +zetaDelta only [Exit.then] at h ⊢; exact Soft.bodyPost_put h) (by kernel_rfl) (by kernel_rfl) (by decide) rfl rfl (by kernel_rfl) ?_; change Soft.wpSoft _ _ _ _ _ [_, _, _, _, _, _, _, _, _] _; (repeat (refine Soft.soft_step (fun K hK => ?_); go_simp; (try go_bits); first | (refine hK _ ?_; clear hK K) | (apply Exists.intro; refine ⟨fun x => ?_, hK _ ?_⟩; (first | (go_at_call 72; exact hold_litres m d _ hme.out.1 hme.out.2) | (go_at_call 73; exact hold_inverse_hold h (litS m d) _ (by repeat (first | exact hv | refine Tb.At.alloc ?_ _ | refine Tb.At.bw ?_ _)) hok.out)); clear hK K))); refine Soft.soft_nil ?_)
        refine ⟨fun b => .pointer (some ⟨b, 0, none⟩), .cells #[.int .i64 0, .int .i64 0] 30, fun x => by go_simp, fun kb x hnew => ?_⟩
        have n0 := hnew.cell 0
        have n1 := hnew.cell 1
        have f0 := hnew.frozen 0
        have f1 := hnew.frozen 1
        simp at n0 n1
        have k0 := hnew.le
        have k1 := y2.below.size
        have k2 := y1.below.size
        simp at k2
        have k3 : ¬(kb = w.heap.size + 1 + 1 + 1) := by omega
        have k4 : ¬(w.heap.size + 1 + 1 + 1 = kb) := by omega
        have h2 := H2.out
        change wpList _ _ _ [_, _] _ _
        go_wp2_with fail
        rw [HV.out]
        refine bodyPost_ret (v := .tuple #[.agg #[.int .i64 ((invDown h.vol.ps (litS m d)).1).lo, .int .i64 ((invDown h.vol.ps (litS m d)).1).hi], .int .i64 0]) (by simp [results, Try.results38, go_sem]) rfl ?_
        refine ⟨rfl, ?_⟩
        (repeat (first | with_reducible exact bel_refl _ | with_reducible refine bel_alloc ?_ _ | with_reducible refine bel_bw _ ?_ | with_reducible refine bel_drew ?_ | with_reducible refine bel_drewN _ ?_ | ((with_reducible refine bel_set ?_ ?_ _); rotate_left; focus (first | (simp; done) | omega | (simp; omega))) | refine bel_step ?_ (by with_reducible assumption)))
      · have h2' : (invDown h.vol.ps (litS m d)).2 = false := by simpa using h2
        have HV := Lib.hid (show ullE h m d = (⟨0, 0⟩, 24) by unfold ullE; rw [if_pos h0, if_pos h1, if_neg h2])
        have H2 := Lib.hid h2'
        clear h0 h1 h2 h2'
        go_enter Try.func38, Try.ntmps38
        go_wp2_with (first | (go_at_call 83; (with_reducible refine (hold_CheckHold h _ (by with_reducible repeat (first | exact hh | refine Ho.At.alloc ?_ _ | refine Ho.At.bw ?_ _ | refine Tk.At.alloc ?_ _ | refine Tk.At.bw ?_ _))).mono ?_); rintro e w_ ⟨rfl, hb_⟩; obtain ⟨y1, rfl⟩ := Soft.BW.mk hb_; clear hb_) | (go_at_call 69; (with_reducible refine (hold_checkMass m d _).mono ?_); rintro e w_ ⟨rfl, hb_⟩; obtain ⟨y2, rfl⟩ := Soft.BW.mk hb_; clear hb_))
        (refine Soft.region1e 8 10 [0, 1, 2, 3, 4, 5, 6, 7, 8] 9 [10, 11] _ (by kernel_rfl) (by kernel_rfl) (by intro _ _ _ _ _ _ h; dsimp +zetaDelta only [Exit.then] at h ⊢; exact Soft.bodyPost_put h) (by kernel_rfl) (by kernel_rfl) (by decide) rfl rfl (by kernel_rfl) ?_; change Soft.wpSoft _ _ _ _ _ [_, _, _, _, _, _, _, _, _] _; (repeat (refine Soft.soft_step (fun K hK => ?_); go_simp; (try go_bits); first | (refine hK _ ?_; clear hK K) | (apply Exists.intro; refine ⟨fun x => ?_, hK _ ?_⟩; (first | (go_at_call 72; exact hold_litres m d _ hme.out.1 hme.out.2) | (go_at_call 73; exact hold_inverse_hold h (litS m d) _ (by repeat (first | exact hv | refine Tb.At.alloc ?_ _ | refine Tb.At.bw ?_ _)) hok.out)); clear hK K))); refine Soft.soft_nil ?_)
        refine ⟨fun b => .pointer (some ⟨b, 0, none⟩), .cells #[.int .i64 0, .int .i64 0] 30, fun x => by go_simp, fun kb x hnew => ?_⟩
        have n0 := hnew.cell 0
        have n1 := hnew.cell 1
        have f0 := hnew.frozen 0
        have f1 := hnew.frozen 1
        simp at n0 n1
        have k0 := hnew.le
        have k1 := y2.below.size
        have k2 := y1.below.size
        simp at k2
        have k3 : ¬(kb = w.heap.size + 1 + 1 + 1) := by omega
        have k4 : ¬(w.heap.size + 1 + 1 + 1 = kb) := by omega
        have h2 := H2.out
        change wpList _ _ _ [_, _] _ _
        go_wp2_with fail
        rw [HV.out]
        refine bodyPost_ret (v := .tuple #[.agg #[.int .i64 ((⟨0, 0⟩ : Rg)).lo, .int .i64 ((⟨0, 0⟩ : Rg)).hi], .int .i64 24]) (by simp [results, Try.results38, go_sem]) rfl ?_
        refine ⟨rfl, ?_⟩
        (repeat (first | with_reducible exact bel_refl _ | with_reducible refine bel_alloc ?_ _ | with_reducible refine bel_bw _ ?_ | with_reducible refine bel_drew ?_ | with_reducible refine bel_drewN _ ?_ | ((with_reducible refine bel_set ?_ ?_ _); rotate_left; focus (first | (simp; done) | omega | (simp; omega))) | refine bel_step ?_ (by with_reducible assumption)))
    · have HV := Lib.hid (show ullE h m d = (⟨0, 0⟩, massErr m d) by unfold ullE; rw [if_pos h0, if_neg h1])
      have d1 : (massErr m d != 0) = true := bne_iff_ne.2 h1
      clear h0 h1
      go_enter Try.func38, Try.ntmps38
      go_wp2_with (first | (go_at_call 83; (with_reducible refine (hold_CheckHold h _ (by with_reducible repeat (first | exact hh | refine Ho.At.alloc ?_ _ | refine Ho.At.bw ?_ _ | refine Tk.At.alloc ?_ _ | refine Tk.At.bw ?_ _))).mono ?_); rintro e w_ ⟨rfl, hb_⟩; obtain ⟨y1, rfl⟩ := Soft.BW.mk hb_; clear hb_) | (go_at_call 69; (with_reducible refine (hold_checkMass m d _).mono ?_); rintro e w_ ⟨rfl, hb_⟩; obtain ⟨y2, rfl⟩ := Soft.BW.mk hb_; clear hb_))
      rw [HV.out]
      refine bodyPost_ret (v := .tuple #[.agg #[.int .i64 ((⟨0, 0⟩ : Rg)).lo, .int .i64 ((⟨0, 0⟩ : Rg)).hi], .int .i64 (massErr m d)]) (by simp [results, Try.results38, go_sem]) rfl ?_
      refine ⟨rfl, ?_⟩
      (repeat (first | with_reducible exact bel_refl _ | with_reducible refine bel_alloc ?_ _ | with_reducible refine bel_bw _ ?_ | with_reducible refine bel_drew ?_ | with_reducible refine bel_drewN _ ?_ | ((with_reducible refine bel_set ?_ ?_ _); rotate_left; focus (first | (simp; done) | omega | (simp; omega))) | refine bel_step ?_ (by with_reducible assumption)))
  · have HV := Lib.hid (show ullE h m d = (⟨0, 0⟩, holdErr h) by unfold ullE; rw [if_neg h0])
    have d0 : (holdErr h != 0) = true := bne_iff_ne.2 h0
    clear h0
    go_enter Try.func38, Try.ntmps38
    go_wp2_with (first | (go_at_call 83; (with_reducible refine (hold_CheckHold h _ (by with_reducible repeat (first | exact hh | refine Ho.At.alloc ?_ _ | refine Ho.At.bw ?_ _ | refine Tk.At.alloc ?_ _ | refine Tk.At.bw ?_ _))).mono ?_); rintro e w_ ⟨rfl, hb_⟩; obtain ⟨y1, rfl⟩ := Soft.BW.mk hb_; clear hb_))
    rw [HV.out]
    refine bodyPost_ret (v := .tuple #[.agg #[.int .i64 ((⟨0, 0⟩ : Rg)).lo, .int .i64 ((⟨0, 0⟩ : Rg)).hi], .int .i64 (holdErr h)]) (by simp [results, Try.results38, go_sem]) rfl ?_
    refine ⟨rfl, ?_⟩
    (repeat (first | with_reducible exact bel_refl _ | with_reducible refine bel_alloc ?_ _ | with_reducible refine bel_bw _ ?_ | with_reducible refine bel_drew ?_ | with_reducible refine bel_drewN _ ?_ | ((with_reducible refine bel_set ?_ ?_ _); rotate_left; focus (first | (simp; done) | omega | (simp; omega))) | refine bel_step ?_ (by with_reducible assumption)))
theorem hold_Sounding (h : Tk) (m d : Rg) (w : World) (hh : h.At w) :
    Calls Try.prog 39 #[.agg #[.int .i64 (h).id, .int .i64 ((h).along).lo, .int .i64 ((h).along).hi, .slice ((h).vol).p ((h).vol).n ((h).vol).c, .slice ((h).sur).p ((h).sur).n ((h).sur).c, .slice ((h).hei).p ((h).hei).n ((h).hei).c], .agg #[.int .i64 (m).lo, .int .i64 (m).hi], .agg #[.int .i64 (d).lo, .int .i64 (d).hi]] w fun e w' => e = .returned (.tuple #[.agg #[.int .i64 ((sndE h m d).1).lo, .int .i64 ((sndE h m d).1).hi], .int .i64 (sndE h m d).2]) ∧ Below w.heap.size w w' := by
  have hv := hh.1
  by_cases h0 : tankErr h = 0
  · have hok := Lib.hid (tankErr_ok h0)
    have d0 : (tankErr h != 0) = false := by rw [h0]; rfl
    by_cases h1 : massErr m d = 0
    · have hme := Lib.hid (massErr_ok h1)
      have d1 : (massErr m d != 0) = false := by rw [h1]; rfl
      by_cases h2 : (invUp h.vol.ps (litS m d)).2 = true
      · have HV := Lib.hid (show sndE h m d = ((invUp h.vol.ps (litS m d)).1, 0) by unfold sndE; rw [if_pos h0, if_pos h1, if_pos h2])
        have H2 := Lib.hid h2
        clear h0 h1 h2
        go_enter Try.func39, Try.ntmps39
        go_wp2_with (first | (go_at_call 84; (with_reducible refine (hold_CheckTank h _ (by with_reducible repeat (first | exact hh | refine Ho.At.alloc ?_ _ | refine Ho.At.bw ?_ _ | refine Tk.At.alloc ?_ _ | refine Tk.At.bw ?_ _))).mono ?_); rintro e w_ ⟨rfl, hb_⟩; obtain ⟨y1, rfl⟩ := Soft.BW.mk hb_; clear hb_) | (go_at_call 69; (with_reducible refine (hold_checkMass m d _).mono ?_); rintro e w_ ⟨rfl, hb_⟩; obtain ⟨y2, rfl⟩ := Soft.BW.mk hb_; clear hb_))
        (refine Soft.region1e 8 10 [0, 1, 2, 3, 4, 5, 6, 7, 8] 9 [10, 11] _ (by kernel_rfl) (by kernel_rfl) (by intro _ _ _ _ _ _ h; dsimp +zetaDelta only [Exit.then] at h ⊢; exact Soft.bodyPost_put h) (by kernel_rfl) (by kernel_rfl) (by decide) rfl rfl (by kernel_rfl) ?_; change Soft.wpSoft _ _ _ _ _ [_, _, _, _, _, _, _, _, _] _; (repeat (refine Soft.soft_step (fun K hK => ?_); go_simp; (try go_bits); first | (refine hK _ ?_; clear hK K) | (apply Exists.intro; refine ⟨fun x => ?_, hK _ ?_⟩; (first | (go_at_call 72; exact hold_litres m d _ hme.out.1 hme.out.2) | (go_at_call 73; exact invUp_tank h (litS m d) _ (by repeat (first | exact hv | refine Tb.At.alloc ?_ _ | refine Tb.At.bw ?_ _)) hok.out)); clear hK K))); refine Soft.soft_nil ?_)
        refine ⟨fun b => .pointer (some ⟨b, 0, none⟩), .cells #[.int .i64 0, .int .i64 0] 30, fun x => by go_simp, fun kb x hnew => ?_⟩
        have n0 := hnew.cell 0
        have n1 := hnew.cell 1
        have f0 := hnew.frozen 0
        have f1 := hnew.frozen 1
        simp at n0 n1
        have k0 := hnew.le
        have k1 := y2.below.size
        have k2 := y1.below.size
        simp at k2
        have k3 : ¬(kb = w.heap.size + 1 + 1 + 1) := by omega
        have k4 : ¬(w.heap.size + 1 + 1 + 1 = kb) := by omega
        have h2 := H2.out
        change wpList _ _ _ [_, _] _ _
        go_wp2_with fail
        rw [HV.out]
        refine bodyPost_ret (v := .tuple #[.agg #[.int .i64 ((invUp h.vol.ps (litS m d)).1).lo, .int .i64 ((invUp h.vol.ps (litS m d)).1).hi], .int .i64 0]) (by simp [results, Try.results39, go_sem]) rfl ?_
        refine ⟨rfl, ?_⟩
        (repeat (first | with_reducible exact bel_refl _ | with_reducible refine bel_alloc ?_ _ | with_reducible refine bel_bw _ ?_ | with_reducible refine bel_drew ?_ | with_reducible refine bel_drewN _ ?_ | ((with_reducible refine bel_set ?_ ?_ _); rotate_left; focus (first | (simp; done) | omega | (simp; omega))) | refine bel_step ?_ (by with_reducible assumption)))
      · have h2' : (invUp h.vol.ps (litS m d)).2 = false := by simpa using h2
        have HV := Lib.hid (show sndE h m d = (⟨0, 0⟩, 24) by unfold sndE; rw [if_pos h0, if_pos h1, if_neg h2])
        have H2 := Lib.hid h2'
        clear h0 h1 h2 h2'
        go_enter Try.func39, Try.ntmps39
        go_wp2_with (first | (go_at_call 84; (with_reducible refine (hold_CheckTank h _ (by with_reducible repeat (first | exact hh | refine Ho.At.alloc ?_ _ | refine Ho.At.bw ?_ _ | refine Tk.At.alloc ?_ _ | refine Tk.At.bw ?_ _))).mono ?_); rintro e w_ ⟨rfl, hb_⟩; obtain ⟨y1, rfl⟩ := Soft.BW.mk hb_; clear hb_) | (go_at_call 69; (with_reducible refine (hold_checkMass m d _).mono ?_); rintro e w_ ⟨rfl, hb_⟩; obtain ⟨y2, rfl⟩ := Soft.BW.mk hb_; clear hb_))
        (refine Soft.region1e 8 10 [0, 1, 2, 3, 4, 5, 6, 7, 8] 9 [10, 11] _ (by kernel_rfl) (by kernel_rfl) (by intro _ _ _ _ _ _ h; dsimp +zetaDelta only [Exit.then] at h ⊢; exact Soft.bodyPost_put h) (by kernel_rfl) (by kernel_rfl) (by decide) rfl rfl (by kernel_rfl) ?_; change Soft.wpSoft _ _ _ _ _ [_, _, _, _, _, _, _, _, _] _; (repeat (refine Soft.soft_step (fun K hK => ?_); go_simp; (try go_bits); first | (refine hK _ ?_; clear hK K) | (apply Exists.intro; refine ⟨fun x => ?_, hK _ ?_⟩; (first | (go_at_call 72; exact hold_litres m d _ hme.out.1 hme.out.2) | (go_at_call 73; exact invUp_tank h (litS m d) _ (by repeat (first | exact hv | refine Tb.At.alloc ?_ _ | refine Tb.At.bw ?_ _)) hok.out)); clear hK K))); refine Soft.soft_nil ?_)
        refine ⟨fun b => .pointer (some ⟨b, 0, none⟩), .cells #[.int .i64 0, .int .i64 0] 30, fun x => by go_simp, fun kb x hnew => ?_⟩
        have n0 := hnew.cell 0
        have n1 := hnew.cell 1
        have f0 := hnew.frozen 0
        have f1 := hnew.frozen 1
        simp at n0 n1
        have k0 := hnew.le
        have k1 := y2.below.size
        have k2 := y1.below.size
        simp at k2
        have k3 : ¬(kb = w.heap.size + 1 + 1 + 1) := by omega
        have k4 : ¬(w.heap.size + 1 + 1 + 1 = kb) := by omega
        have h2 := H2.out
        change wpList _ _ _ [_, _] _ _
        go_wp2_with fail
        rw [HV.out]
        refine bodyPost_ret (v := .tuple #[.agg #[.int .i64 ((⟨0, 0⟩ : Rg)).lo, .int .i64 ((⟨0, 0⟩ : Rg)).hi], .int .i64 24]) (by simp [results, Try.results39, go_sem]) rfl ?_
        refine ⟨rfl, ?_⟩
        (repeat (first | with_reducible exact bel_refl _ | with_reducible refine bel_alloc ?_ _ | with_reducible refine bel_bw _ ?_ | with_reducible refine bel_drew ?_ | with_reducible refine bel_drewN _ ?_ | ((with_reducible refine bel_set ?_ ?_ _); rotate_left; focus (first | (simp; done) | omega | (simp; omega))) | refine bel_step ?_ (by with_reducible assumption)))
    · have HV := Lib.hid (show sndE h m d = (⟨0, 0⟩, massErr m d) by unfold sndE; rw [if_pos h0, if_neg h1])
      have d1 : (massErr m d != 0) = true := bne_iff_ne.2 h1
      clear h0 h1
      go_enter Try.func39, Try.ntmps39
      go_wp2_with (first | (go_at_call 84; (with_reducible refine (hold_CheckTank h _ (by with_reducible repeat (first | exact hh | refine Ho.At.alloc ?_ _ | refine Ho.At.bw ?_ _ | refine Tk.At.alloc ?_ _ | refine Tk.At.bw ?_ _))).mono ?_); rintro e w_ ⟨rfl, hb_⟩; obtain ⟨y1, rfl⟩ := Soft.BW.mk hb_; clear hb_) | (go_at_call 69; (with_reducible refine (hold_checkMass m d _).mono ?_); rintro e w_ ⟨rfl, hb_⟩; obtain ⟨y2, rfl⟩ := Soft.BW.mk hb_; clear hb_))
      rw [HV.out]
      refine bodyPost_ret (v := .tuple #[.agg #[.int .i64 ((⟨0, 0⟩ : Rg)).lo, .int .i64 ((⟨0, 0⟩ : Rg)).hi], .int .i64 (massErr m d)]) (by simp [results, Try.results39, go_sem]) rfl ?_
      refine ⟨rfl, ?_⟩
      (repeat (first | with_reducible exact bel_refl _ | with_reducible refine bel_alloc ?_ _ | with_reducible refine bel_bw _ ?_ | with_reducible refine bel_drew ?_ | with_reducible refine bel_drewN _ ?_ | ((with_reducible refine bel_set ?_ ?_ _); rotate_left; focus (first | (simp; done) | omega | (simp; omega))) | refine bel_step ?_ (by with_reducible assumption)))
  · have HV := Lib.hid (show sndE h m d = (⟨0, 0⟩, tankErr h) by unfold sndE; rw [if_neg h0])
    have d0 : (tankErr h != 0) = true := bne_iff_ne.2 h0
    clear h0
    go_enter Try.func39, Try.ntmps39
    go_wp2_with (first | (go_at_call 84; (with_reducible refine (hold_CheckTank h _ (by with_reducible repeat (first | exact hh | refine Ho.At.alloc ?_ _ | refine Ho.At.bw ?_ _ | refine Tk.At.alloc ?_ _ | refine Tk.At.bw ?_ _))).mono ?_); rintro e w_ ⟨rfl, hb_⟩; obtain ⟨y1, rfl⟩ := Soft.BW.mk hb_; clear hb_))
    rw [HV.out]
    refine bodyPost_ret (v := .tuple #[.agg #[.int .i64 ((⟨0, 0⟩ : Rg)).lo, .int .i64 ((⟨0, 0⟩ : Rg)).hi], .int .i64 (tankErr h)]) (by simp [results, Try.results39, go_sem]) rfl ?_
    refine ⟨rfl, ?_⟩
    (repeat (first | with_reducible exact bel_refl _ | with_reducible refine bel_alloc ?_ _ | with_reducible refine bel_bw _ ?_ | with_reducible refine bel_drew ?_ | with_reducible refine bel_drewN _ ?_ | ((with_reducible refine bel_set ?_ ?_ _); rotate_left; focus (first | (simp; done) | omega | (simp; omega))) | refine bel_step ?_ (by with_reducible assumption)))

end Go.Proofs.Ytbjdgaeikihjbaa
