/-
  hold: weight, told and what is told.
  hold: held, Liquid, Surface, Ballast.
  Conditions: each theorem's own premises.
-/
import Derived.Test.YteagdcgmmdiakaaGreatP07
import Derived.Test.YteagdcgmmdiakaaGreatP06
namespace Go.Proofs.YteagdcgmmdiakaaGreat
set_option linter.unusedSimpArgs false
set_option linter.unusedVariables false
open Go.RowKit
set_option maxRecDepth 100000
set_option maxHeartbeats 400000
attribute [local go_sem] Instr.field asAgg Soft.upon Soft.BW.cell_if Soft.BW.frozen_if Soft.cell_alloc_if Soft.frozen_alloc_if

theorem hold_weight (h : Ho) (f : Fi) (w : World) (hh : h.At w) (hok : fillErr h f = 0) :
    Calls Tryz.prog 81 #[.agg #[.int .i64 (h).id, .int .i64 ((h).along).lo, .int .i64 ((h).along).hi, .slice ((h).vol).p ((h).vol).n ((h).vol).c, .slice ((h).mom).p ((h).mom).n ((h).mom).c, .slice ((h).hei).p ((h).hei).n ((h).hei).c, .int .i64 ((h).tri).lo, .int .i64 ((h).tri).hi, .int .i64 ((h).unt).lo, .int .i64 ((h).unt).hi, .int .i64 ((h).v0).lo, .int .i64 ((h).v0).hi, .int .i64 ((h).h0).lo, .int .i64 ((h).h0).hi], .agg #[.int .i64 (f).hold, .int .i64 (f).state, .int .i64 ((f).ull).lo, .int .i64 ((f).ull).hi, .int .i64 ((f).den).lo, .int .i64 ((f).den).hi]] w fun e w' => e = .returned (.agg #[.int .i64 ((wtS h f).mass).lo, .int .i64 ((wtS h f).mass).hi, .int .i64 ((wtS h f).along).lo, .int .i64 ((wtS h f).along).hi, .int .i64 ((wtS h f).high).lo, .int .i64 ((wtS h f).high).hi]) ∧ Below w.heap.size w w' := by
  have HK := Lib.hid hok; clear hok
  go_enter Tryz.func81, Tryz.ntmps81
  go_wp2_with fail
  (refine Soft.region0 [0, 1, 2, 3, 4, 5, 6, 7, 8] [9] (by kernel_rfl) (by kernel_rfl) (by kernel_rfl) (by kernel_rfl) ?_; change Soft.wpSoft _ _ _ _ _ [_, _, _, _, _, _, _, _, _] _; (repeat (refine Soft.soft_step (fun K hK => ?_); go_simp; (try go_bits); first | (refine hK _ ?_; clear hK K) | (apply Exists.intro; refine ⟨fun x => ?_, hK _ ?_⟩; (first | (go_at_call 139; exact hold_mass h f _ (by with_reducible repeat (first | exact hh | refine Ho.At.alloc ?_ _ | refine Ho.At.bw ?_ _ | refine Tk.At.alloc ?_ _ | refine Tk.At.bw ?_ _)) HK.out) | (go_at_call 140; exact hold_height h f _ (by with_reducible repeat (first | exact hh | refine Ho.At.alloc ?_ _ | refine Ho.At.bw ?_ _ | refine Tk.At.alloc ?_ _ | refine Tk.At.bw ?_ _)))); clear hK K))); refine Soft.soft_nil ?_; intro xw; change wpList _ _ _ [_] _ _)
  go_wp2_with fail
  have e : wtS h f = ⟨massS h f, h.along, heightS h f⟩ := rfl
  rw [e]
  clear e
  generalize massS h f = a
  generalize heightS h f = b
  dsimp only
  refine bodyPost_ret (v := .agg #[.int .i64 a.lo, .int .i64 a.hi, .int .i64 h.along.lo, .int .i64 h.along.hi, .int .i64 b.lo, .int .i64 b.hi]) (by simp [results, Tryz.results81, go_sem]) rfl ?_
  refine ⟨rfl, ?_⟩
  (repeat (first | with_reducible exact bel_refl _ | with_reducible refine bel_alloc ?_ _ | with_reducible refine bel_bw _ ?_ | with_reducible refine bel_drew ?_ | with_reducible refine bel_drewN _ ?_ | ((with_reducible refine bel_set ?_ ?_ _); rotate_left; focus (first | (simp; done) | omega | (simp; omega))) | refine bel_step ?_ (by with_reducible assumption)))

def volE (h : Ho) (f : Fi) : Rg := if fillErr h f = 0 then volS h f else ⟨0, 0⟩
def massE (h : Ho) (f : Fi) : Rg := if fillErr h f = 0 then massS h f else ⟨0, 0⟩
def momE (h : Ho) (f : Fi) : Rg := if fillErr h f = 0 then momS h f else ⟨0, 0⟩
def heelE (h : Ho) (f : Fi) : Rg := if fillErr h f = 0 then heelS h f else ⟨0, 0⟩
def heightE (h : Ho) (f : Fi) : Rg := if fillErr h f = 0 then heightS h f else ⟨0, 0⟩
def wtE (h : Ho) (f : Fi) : Wt := if fillErr h f = 0 then wtS h f else ⟨⟨0, 0⟩, ⟨0, 0⟩, ⟨0, 0⟩⟩



theorem told_weight (h : Ho) (f : Fi) (w : World) (hh : h.At w) :
    Calls Tryz.prog 80 #[.agg #[.int .i64 (h).id, .int .i64 ((h).along).lo, .int .i64 ((h).along).hi, .slice ((h).vol).p ((h).vol).n ((h).vol).c, .slice ((h).mom).p ((h).mom).n ((h).mom).c, .slice ((h).hei).p ((h).hei).n ((h).hei).c, .int .i64 ((h).tri).lo, .int .i64 ((h).tri).hi, .int .i64 ((h).unt).lo, .int .i64 ((h).unt).hi, .int .i64 ((h).v0).lo, .int .i64 ((h).v0).hi, .int .i64 ((h).h0).lo, .int .i64 ((h).h0).hi], .agg #[.int .i64 (f).hold, .int .i64 (f).state, .int .i64 ((f).ull).lo, .int .i64 ((f).ull).hi, .int .i64 ((f).den).lo, .int .i64 ((f).den).hi], .func (.func 81) #[] #[]] w fun e w' => e = .returned (.tuple #[.agg #[.int .i64 ((wtE h f).mass).lo, .int .i64 ((wtE h f).mass).hi, .int .i64 ((wtE h f).along).lo, .int .i64 ((wtE h f).along).hi, .int .i64 ((wtE h f).high).lo, .int .i64 ((wtE h f).high).hi], .int .i64 (fillErr h f)]) ∧ Below w.heap.size w w' := by
  by_cases hc : fillErr h f = 0
  · have HK := Lib.hid hc
    have HV := Lib.hid (show wtE h f = wtS h f from if_pos hc)
    have d0 : (fillErr h f != 0) = false := by rw [hc]; rfl
    clear hc
    go_enter Tryz.func80, Tryz.ntmps80
    go_wp2_with (first | (go_at_call 24; (with_reducible refine (hold_CheckFill h f _ (by with_reducible repeat (first | exact hh | refine Ho.At.alloc ?_ _ | refine Ho.At.bw ?_ _ | refine Tk.At.alloc ?_ _ | refine Tk.At.bw ?_ _))).mono ?_); rintro e w_ ⟨rfl, hb_⟩; obtain ⟨y1, rfl⟩ := Soft.BW.mk hb_; clear hb_) | (go_at_call 81; (with_reducible refine (hold_weight h f _ (by with_reducible repeat (first | exact hh | refine Ho.At.alloc ?_ _ | refine Ho.At.bw ?_ _ | refine Tk.At.alloc ?_ _ | refine Tk.At.bw ?_ _)) HK.out).mono ?_); rintro e w_ ⟨rfl, hb_⟩; obtain ⟨y2, rfl⟩ := Soft.BW.mk hb_; clear hb_))
    rw [HV.out, HK.out]
    generalize wtS h f = v
    refine bodyPost_ret (v := .tuple #[.agg #[.int .i64 ((v).mass).lo, .int .i64 ((v).mass).hi, .int .i64 ((v).along).lo, .int .i64 ((v).along).hi, .int .i64 ((v).high).lo, .int .i64 ((v).high).hi], .int .i64 0]) (by simp [results, Tryz.results80, go_sem]) rfl ?_
    refine ⟨rfl, ?_⟩
    (repeat (first | with_reducible exact bel_refl _ | with_reducible refine bel_alloc ?_ _ | with_reducible refine bel_bw _ ?_ | with_reducible refine bel_drew ?_ | with_reducible refine bel_drewN _ ?_ | ((with_reducible refine bel_set ?_ ?_ _); rotate_left; focus (first | (simp; done) | omega | (simp; omega))) | refine bel_step ?_ (by with_reducible assumption)))
  · have HV := Lib.hid (show wtE h f = ⟨⟨0, 0⟩, ⟨0, 0⟩, ⟨0, 0⟩⟩ from if_neg hc)
    have d0 : (fillErr h f != 0) = true := bne_iff_ne.2 hc
    clear hc
    go_enter Tryz.func80, Tryz.ntmps80
    go_wp2_with (first | (go_at_call 24; (with_reducible refine (hold_CheckFill h f _ (by with_reducible repeat (first | exact hh | refine Ho.At.alloc ?_ _ | refine Ho.At.bw ?_ _ | refine Tk.At.alloc ?_ _ | refine Tk.At.bw ?_ _))).mono ?_); rintro e w_ ⟨rfl, hb_⟩; obtain ⟨y1, rfl⟩ := Soft.BW.mk hb_; clear hb_))
    rw [HV.out]
    refine bodyPost_ret (v := .tuple #[.agg #[.int .i64 (((⟨⟨0, 0⟩, ⟨0, 0⟩, ⟨0, 0⟩⟩ : Wt)).mass).lo, .int .i64 (((⟨⟨0, 0⟩, ⟨0, 0⟩, ⟨0, 0⟩⟩ : Wt)).mass).hi, .int .i64 (((⟨⟨0, 0⟩, ⟨0, 0⟩, ⟨0, 0⟩⟩ : Wt)).along).lo, .int .i64 (((⟨⟨0, 0⟩, ⟨0, 0⟩, ⟨0, 0⟩⟩ : Wt)).along).hi, .int .i64 (((⟨⟨0, 0⟩, ⟨0, 0⟩, ⟨0, 0⟩⟩ : Wt)).high).lo, .int .i64 (((⟨⟨0, 0⟩, ⟨0, 0⟩, ⟨0, 0⟩⟩ : Wt)).high).hi], .int .i64 (fillErr h f)]) (by simp [results, Tryz.results80, go_sem]) rfl ?_
    refine ⟨rfl, ?_⟩
    (repeat (first | with_reducible exact bel_refl _ | with_reducible refine bel_alloc ?_ _ | with_reducible refine bel_bw _ ?_ | with_reducible refine bel_drew ?_ | with_reducible refine bel_drewN _ ?_ | ((with_reducible refine bel_set ?_ ?_ _); rotate_left; focus (first | (simp; done) | omega | (simp; omega))) | refine bel_step ?_ (by with_reducible assumption)))

theorem hold_Weight (h : Ho) (f : Fi) (w : World) (hh : h.At w) :
    Calls Tryz.prog 33 #[.agg #[.int .i64 (h).id, .int .i64 ((h).along).lo, .int .i64 ((h).along).hi, .slice ((h).vol).p ((h).vol).n ((h).vol).c, .slice ((h).mom).p ((h).mom).n ((h).mom).c, .slice ((h).hei).p ((h).hei).n ((h).hei).c, .int .i64 ((h).tri).lo, .int .i64 ((h).tri).hi, .int .i64 ((h).unt).lo, .int .i64 ((h).unt).hi, .int .i64 ((h).v0).lo, .int .i64 ((h).v0).hi, .int .i64 ((h).h0).lo, .int .i64 ((h).h0).hi], .agg #[.int .i64 (f).hold, .int .i64 (f).state, .int .i64 ((f).ull).lo, .int .i64 ((f).ull).hi, .int .i64 ((f).den).lo, .int .i64 ((f).den).hi]] w fun e w' => e = .returned (.tuple #[.agg #[.int .i64 ((wtE h f).mass).lo, .int .i64 ((wtE h f).mass).hi, .int .i64 ((wtE h f).along).lo, .int .i64 ((wtE h f).along).hi, .int .i64 ((wtE h f).high).lo, .int .i64 ((wtE h f).high).hi], .int .i64 (fillErr h f)]) ∧ Below w.heap.size w w' := by
  go_enter Tryz.func33, Tryz.ntmps33
  go_wp2_with (go_at_call 80; (with_reducible refine (told_weight h f _ (by with_reducible repeat (first | exact hh | refine Ho.At.alloc ?_ _ | refine Ho.At.bw ?_ _ | refine Tk.At.alloc ?_ _ | refine Tk.At.bw ?_ _))).mono ?_); rintro e w_ ⟨rfl, hb_⟩; obtain ⟨y1, rfl⟩ := Soft.BW.mk hb_; clear hb_)
  generalize wtE h f = v
  refine bodyPost_ret (v := .tuple #[.agg #[.int .i64 ((v).mass).lo, .int .i64 ((v).mass).hi, .int .i64 ((v).along).lo, .int .i64 ((v).along).hi, .int .i64 ((v).high).lo, .int .i64 ((v).high).hi], .int .i64 (fillErr h f)]) (by simp [results, Tryz.results33, go_sem]) rfl ?_
  refine ⟨rfl, ?_⟩
  (repeat (first | with_reducible exact bel_refl _ | with_reducible refine bel_alloc ?_ _ | with_reducible refine bel_bw _ ?_ | with_reducible refine bel_drew ?_ | with_reducible refine bel_drewN _ ?_ | ((with_reducible refine bel_set ?_ ?_ _); rotate_left; focus (first | (simp; done) | omega | (simp; omega))) | refine bel_step ?_ (by with_reducible assumption)))

end Go.Proofs.YteagdcgmmdiakaaGreat

namespace Go.Proofs.YteagdcgmmdiakaaGreat
set_option linter.unusedSimpArgs false
set_option linter.unusedVariables false
open Go.RowKit
set_option maxRecDepth 100000
set_option maxHeartbeats 2000000
attribute [local go_sem] Instr.field asAgg Soft.upon Soft.BW.cell_if Soft.BW.frozen_if Soft.cell_alloc_if Soft.frozen_alloc_if

def heldS (t : Tk) (l : Lv) : Rg := (overE t.vol.ps l.snd).1
theorem hold_held (t : Tk) (l : Lv) (w : World) (hh : t.At w) :
    Calls Tryz.prog 87 #[.agg #[.int .i64 (t).id, .int .i64 ((t).along).lo, .int .i64 ((t).along).hi, .slice ((t).vol).p ((t).vol).n ((t).vol).c, .slice ((t).sur).p ((t).sur).n ((t).sur).c, .slice ((t).hei).p ((t).hei).n ((t).hei).c], .agg #[.int .i64 (l).tank, .bool (l).pressed, .int .i64 ((l).snd).lo, .int .i64 ((l).snd).hi, .int .i64 ((l).den).lo, .int .i64 ((l).den).hi]] w fun e w' => e = .returned (.agg #[.int .i64 (heldS t l).lo, .int .i64 (heldS t l).hi]) ∧ Below w.heap.size w w' := by
  obtain ⟨hv, hm, hz⟩ := hh
  go_enter Tryz.func87, Tryz.ntmps87
  go_wp2_with (go_at_call 85; (with_reducible refine (hold_over t.vol l.snd _ (by repeat (first | exact hv | refine Tb.At.alloc ?_ _ | refine Tb.At.bw ?_ _))).mono ?_); rintro e w_ ⟨rfl, hb_⟩; obtain ⟨y1, rfl⟩ := Soft.BW.mk hb_; clear hb_)
  refine bodyPost_ret (v := .agg #[.int .i64 (heldS t l).lo, .int .i64 (heldS t l).hi]) (by simp [results, Tryz.results87, go_sem, heldS]) rfl ?_
  refine ⟨rfl, ?_⟩
  (repeat (first | with_reducible exact bel_refl _ | with_reducible refine bel_alloc ?_ _ | with_reducible refine bel_bw _ ?_ | with_reducible refine bel_drew ?_ | with_reducible refine bel_drewN _ ?_ | ((with_reducible refine bel_set ?_ ?_ _); rotate_left; focus (first | (simp; done) | omega | (simp; omega))) | refine bel_step ?_ (by with_reducible assumption)))

theorem level_ok {t : Tk} {l : Lv} (e : levelErr t l = 0) : TankOk t ∧ LevelIn t l := by
  unfold levelErr at e
  by_cases h0 : TankOk t
  · rw [if_pos h0] at e
    by_cases h1 : LevelIn t l
    · exact ⟨h0, h1⟩
    · rw [if_neg h1] at e; omega
  · rw [if_neg h0] at e; omega
theorem lden_in {t : Tk} {l : Lv} (h1 : LevelIn t l) : RgIn l.den 0 2000 := (part_in h1.2.1).mono (by omega) (by omega)

def liqE (t : Tk) (l : Lv) : Rg := if levelErr t l = 0 then weighS (heldS t l) l.den else ⟨0, 0⟩

theorem hold_Liquid (t : Tk) (l : Lv) (w : World) (hh : t.At w) :
    Calls Tryz.prog 84 #[.agg #[.int .i64 (t).id, .int .i64 ((t).along).lo, .int .i64 ((t).along).hi, .slice ((t).vol).p ((t).vol).n ((t).vol).c, .slice ((t).sur).p ((t).sur).n ((t).sur).c, .slice ((t).hei).p ((t).hei).n ((t).hei).c], .agg #[.int .i64 (l).tank, .bool (l).pressed, .int .i64 ((l).snd).lo, .int .i64 ((l).snd).hi, .int .i64 ((l).den).lo, .int .i64 ((l).den).hi]] w fun e w' => e = .returned (.tuple #[.agg #[.int .i64 (liqE t l).lo, .int .i64 (liqE t l).hi], .int .i64 (levelErr t l)]) ∧ Below w.heap.size w w' := by
  by_cases hc : levelErr t l = 0
  · have HB := Lib.hid (overE_any t.vol.ps l.snd)
    have HD := Lib.hid (lden_in (level_ok hc).2)
    have HV := Lib.hid (show liqE t l = weighS (heldS t l) l.den from if_pos hc)
    have d0 : (levelErr t l != 0) = false := by rw [hc]; rfl
    have HC := Lib.hid hc
    clear hc
    go_enter Tryz.func84, Tryz.ntmps84
    go_wp2_with (first | (go_at_call 86; (with_reducible refine (hold_CheckLevel t l _ (by with_reducible repeat (first | exact hh | refine Ho.At.alloc ?_ _ | refine Ho.At.bw ?_ _ | refine Tk.At.alloc ?_ _ | refine Tk.At.bw ?_ _))).mono ?_); rintro e w_ ⟨rfl, hb_⟩; obtain ⟨y1, rfl⟩ := Soft.BW.mk hb_; clear hb_))
    (refine Soft.region0 [0, 1, 2, 3, 4, 5] [6, 7] (by kernel_rfl) (by kernel_rfl) (by kernel_rfl) (by kernel_rfl) ?_; change Soft.wpSoft _ _ _ _ _ [_, _, _, _, _, _] _; (repeat (refine Soft.soft_step (fun K hK => ?_); go_simp; (try go_bits); first | (refine hK _ ?_; clear hK K) | (apply Exists.intro; refine ⟨fun x => ?_, hK _ ?_⟩; (first | (go_at_call 87; exact hold_held t l _ (by with_reducible repeat (first | exact hh | refine Ho.At.alloc ?_ _ | refine Ho.At.bw ?_ _ | refine Tk.At.alloc ?_ _ | refine Tk.At.bw ?_ _))) | (go_at_call 82; exact hold_weighed (heldS t l) l.den _ HB.out HD.out)); clear hK K))); refine Soft.soft_nil ?_; intro xw; change wpList _ _ _ [_, _] _ _)
    go_wp2_with fail
    rw [HV.out, HC.out]
    refine bodyPost_ret (v := .tuple #[.agg #[.int .i64 (weighS (heldS t l) l.den).lo, .int .i64 (weighS (heldS t l) l.den).hi], .int .i64 0]) (by simp [results, Tryz.results84, go_sem]) rfl ?_
    refine ⟨rfl, ?_⟩
    (repeat (first | with_reducible exact bel_refl _ | with_reducible refine bel_alloc ?_ _ | with_reducible refine bel_bw _ ?_ | with_reducible refine bel_drew ?_ | with_reducible refine bel_drewN _ ?_ | ((with_reducible refine bel_set ?_ ?_ _); rotate_left; focus (first | (simp; done) | omega | (simp; omega))) | refine bel_step ?_ (by with_reducible assumption)))
  · have HV := Lib.hid (show liqE t l = ⟨0, 0⟩ from if_neg hc)
    have d0 : (levelErr t l != 0) = true := bne_iff_ne.2 hc
    clear hc
    go_enter Tryz.func84, Tryz.ntmps84
    go_wp2_with (first | (go_at_call 86; (with_reducible refine (hold_CheckLevel t l _ (by with_reducible repeat (first | exact hh | refine Ho.At.alloc ?_ _ | refine Ho.At.bw ?_ _ | refine Tk.At.alloc ?_ _ | refine Tk.At.bw ?_ _))).mono ?_); rintro e w_ ⟨rfl, hb_⟩; obtain ⟨y1, rfl⟩ := Soft.BW.mk hb_; clear hb_))
    rw [HV.out]
    refine bodyPost_ret (v := .tuple #[.agg #[.int .i64 ((⟨0, 0⟩ : Rg)).lo, .int .i64 ((⟨0, 0⟩ : Rg)).hi], .int .i64 (levelErr t l)]) (by simp [results, Tryz.results84, go_sem]) rfl ?_
    refine ⟨rfl, ?_⟩
    (repeat (first | with_reducible exact bel_refl _ | with_reducible refine bel_alloc ?_ _ | with_reducible refine bel_bw _ ?_ | with_reducible refine bel_drew ?_ | with_reducible refine bel_drewN _ ?_ | ((with_reducible refine bel_set ?_ ?_ _); rotate_left; focus (first | (simp; done) | omega | (simp; omega))) | refine bel_step ?_ (by with_reducible assumption)))

def balE (t : Tk) (l : Lv) : Wt := if levelErr t l = 0 then ⟨weighS (heldS t l) l.den, t.along, (overE t.hei.ps l.snd).1⟩ else ⟨⟨0, 0⟩, ⟨0, 0⟩, ⟨0, 0⟩⟩

theorem hold_Ballast (t : Tk) (l : Lv) (w : World) (hh : t.At w) :
    Calls Tryz.prog 37 #[.agg #[.int .i64 (t).id, .int .i64 ((t).along).lo, .int .i64 ((t).along).hi, .slice ((t).vol).p ((t).vol).n ((t).vol).c, .slice ((t).sur).p ((t).sur).n ((t).sur).c, .slice ((t).hei).p ((t).hei).n ((t).hei).c], .agg #[.int .i64 (l).tank, .bool (l).pressed, .int .i64 ((l).snd).lo, .int .i64 ((l).snd).hi, .int .i64 ((l).den).lo, .int .i64 ((l).den).hi]] w fun e w' => e = .returned (.tuple #[.agg #[.int .i64 ((balE t l).mass).lo, .int .i64 ((balE t l).mass).hi, .int .i64 ((balE t l).along).lo, .int .i64 ((balE t l).along).hi, .int .i64 ((balE t l).high).lo, .int .i64 ((balE t l).high).hi], .int .i64 (levelErr t l)]) ∧ Below w.heap.size w w' := by
  have hz := hh.2.2
  by_cases hc : levelErr t l = 0
  · have HL := Lib.hid (show liqE t l = weighS (heldS t l) l.den from if_pos hc)
    have HV := Lib.hid (show balE t l = ⟨weighS (heldS t l) l.den, t.along, (overE t.hei.ps l.snd).1⟩ from if_pos hc)
    have d0 : (levelErr t l != 0) = false := by rw [hc]; rfl
    have HC := Lib.hid hc
    have CL : Hid (∀ W, t.At W → Calls Tryz.prog 84 #[.agg #[.int .i64 (t).id, .int .i64 ((t).along).lo, .int .i64 ((t).along).hi, .slice ((t).vol).p ((t).vol).n ((t).vol).c, .slice ((t).sur).p ((t).sur).n ((t).sur).c, .slice ((t).hei).p ((t).hei).n ((t).hei).c], .agg #[.int .i64 (l).tank, .bool (l).pressed, .int .i64 ((l).snd).lo, .int .i64 ((l).snd).hi, .int .i64 ((l).den).lo, .int .i64 ((l).den).hi]] W fun e w' => e = .returned (.tuple #[.agg #[.int .i64 (weighS (heldS t l) l.den).lo, .int .i64 (weighS (heldS t l) l.den).hi], .int .i64 (levelErr t l)]) ∧ Below W.heap.size W w') := Lib.hid (fun W hW => by
      have := hold_Liquid t l W hW
      rwa [HL.out] at this)
    clear hc
    generalize weighS (heldS t l) l.den = a at *
    have HV := Lib.hid (show balE t l = ⟨a, t.along, (overE t.hei.ps l.snd).1⟩ from HV.out)
    have CO : Hid (∀ W, t.hei.At W → Calls Tryz.prog 85 #[.agg #[.slice (t.hei).p (t.hei).n (t.hei).c], .agg #[.int .i64 (l.snd).lo, .int .i64 (l.snd).hi]] W fun e w' => e = .returned (.agg #[.int .i64 ((overE t.hei.ps l.snd).1).lo, .int .i64 ((overE t.hei.ps l.snd).1).hi]) ∧ Below W.heap.size W w') := Lib.hid (fun W hW => hold_over t.hei l.snd W hW)
    generalize (overE t.hei.ps l.snd).1 = b at *
    go_enter Tryz.func37, Tryz.ntmps37
    go_wp2_with (first | (go_at_call 84; (with_reducible refine (CL.out _ (by with_reducible repeat (first | exact hh | refine Ho.At.alloc ?_ _ | refine Ho.At.bw ?_ _ | refine Tk.At.alloc ?_ _ | refine Tk.At.bw ?_ _))).mono ?_); rintro e w_ ⟨rfl, hb_⟩; obtain ⟨y1, rfl⟩ := Soft.BW.mk hb_; clear hb_))
    (refine Soft.region0 [0, 1, 2, 3, 4, 5, 6, 7, 8] [9, 10] (by kernel_rfl) (by kernel_rfl) (by kernel_rfl) (by kernel_rfl) ?_; change Soft.wpSoft _ _ _ _ _ [_, _, _, _, _, _, _, _, _] _; (repeat (refine Soft.soft_step (fun K hK => ?_); go_simp; (try go_bits); first | (refine hK _ ?_; clear hK K) | (apply Exists.intro; refine ⟨fun x => ?_, hK _ ?_⟩; ((go_at_call 85; exact CO.out _ (by repeat (first | exact hz | refine Tb.At.alloc ?_ _ | refine Tb.At.bw ?_ _)))); clear hK K))); refine Soft.soft_nil ?_; intro xw; change wpList _ _ _ [_, _] _ _)
    go_wp2_with fail
    rw [HV.out, HC.out]
    refine bodyPost_ret (v := .tuple #[.agg #[.int .i64 a.lo, .int .i64 a.hi, .int .i64 t.along.lo, .int .i64 t.along.hi, .int .i64 b.lo, .int .i64 b.hi], .int .i64 0]) (by simp [results, Tryz.results37, go_sem]) rfl ?_
    refine ⟨rfl, ?_⟩
    (repeat (first | with_reducible exact bel_refl _ | with_reducible refine bel_alloc ?_ _ | with_reducible refine bel_bw _ ?_ | with_reducible refine bel_drew ?_ | with_reducible refine bel_drewN _ ?_ | ((with_reducible refine bel_set ?_ ?_ _); rotate_left; focus (first | (simp; done) | omega | (simp; omega))) | refine bel_step ?_ (by with_reducible assumption)))
  · have HL := Lib.hid (show liqE t l = ⟨0, 0⟩ from if_neg hc)
    have HV := Lib.hid (show balE t l = ⟨⟨0, 0⟩, ⟨0, 0⟩, ⟨0, 0⟩⟩ from if_neg hc)
    have d0 : (levelErr t l != 0) = true := bne_iff_ne.2 hc
    clear hc
    go_enter Tryz.func37, Tryz.ntmps37
    go_wp2_with (first | (go_at_call 84; (with_reducible refine (hold_Liquid t l _ (by with_reducible repeat (first | exact hh | refine Ho.At.alloc ?_ _ | refine Ho.At.bw ?_ _ | refine Tk.At.alloc ?_ _ | refine Tk.At.bw ?_ _))).mono ?_); rintro e w_ ⟨rfl, hb_⟩; obtain ⟨y1, rfl⟩ := Soft.BW.mk hb_; clear hb_))
    rw [HV.out]
    refine bodyPost_ret (v := .tuple #[.agg #[.int .i64 (((⟨⟨0, 0⟩, ⟨0, 0⟩, ⟨0, 0⟩⟩ : Wt)).mass).lo, .int .i64 (((⟨⟨0, 0⟩, ⟨0, 0⟩, ⟨0, 0⟩⟩ : Wt)).mass).hi, .int .i64 (((⟨⟨0, 0⟩, ⟨0, 0⟩, ⟨0, 0⟩⟩ : Wt)).along).lo, .int .i64 (((⟨⟨0, 0⟩, ⟨0, 0⟩, ⟨0, 0⟩⟩ : Wt)).along).hi, .int .i64 (((⟨⟨0, 0⟩, ⟨0, 0⟩, ⟨0, 0⟩⟩ : Wt)).high).lo, .int .i64 (((⟨⟨0, 0⟩, ⟨0, 0⟩, ⟨0, 0⟩⟩ : Wt)).high).hi], .int .i64 (levelErr t l)]) (by simp [results, Tryz.results37, go_sem]) rfl ?_
    refine ⟨rfl, ?_⟩
    (repeat (first | with_reducible exact bel_refl _ | with_reducible refine bel_alloc ?_ _ | with_reducible refine bel_bw _ ?_ | with_reducible refine bel_drew ?_ | with_reducible refine bel_drewN _ ?_ | ((with_reducible refine bel_set ?_ ?_ _); rotate_left; focus (first | (simp; done) | omega | (simp; omega))) | refine bel_step ?_ (by with_reducible assumption)))

/-- The moment of a tank's surface. -/
def srfS (t : Tk) (l : Lv) : Rg :=
  if l.pressed = true ∨ (heldS t l).hi = 0 then ⟨0, 0⟩ else if (heldS t l).lo = 0 then ⟨0, (weighS (overE t.sur.ps l.snd).1 l.den).hi⟩ else weighS (overE t.sur.ps l.snd).1 l.den
def srfE (t : Tk) (l : Lv) : Rg := if levelErr t l = 0 then srfS t l else ⟨0, 0⟩


theorem hold_Surface (t : Tk) (l : Lv) (w : World) (hh : t.At w) :
    Calls Tryz.prog 38 #[.agg #[.int .i64 (t).id, .int .i64 ((t).along).lo, .int .i64 ((t).along).hi, .slice ((t).vol).p ((t).vol).n ((t).vol).c, .slice ((t).sur).p ((t).sur).n ((t).sur).c, .slice ((t).hei).p ((t).hei).n ((t).hei).c], .agg #[.int .i64 (l).tank, .bool (l).pressed, .int .i64 ((l).snd).lo, .int .i64 ((l).snd).hi, .int .i64 ((l).den).lo, .int .i64 ((l).den).hi]] w fun e w' => e = .returned (.tuple #[.agg #[.int .i64 (srfE t l).lo, .int .i64 (srfE t l).hi], .int .i64 (levelErr t l)]) ∧ Below w.heap.size w w' := by
  have hs := hh.2.1
  by_cases hc : levelErr t l = 0
  · have HB := overE_any t.sur.ps l.snd
    have HD := lden_in (level_ok hc).2
    have HE := Lib.hid (show srfE t l = srfS t l from if_pos hc)
    have d0 : (levelErr t l != 0) = false := by rw [hc]; rfl
    have HC := Lib.hid hc
    have HS := Lib.hid (show srfS t l = if l.pressed = true ∨ (heldS t l).hi = 0 then ⟨0, 0⟩ else if (heldS t l).lo = 0 then ⟨0, (weighS (overE t.sur.ps l.snd).1 l.den).hi⟩ else weighS (overE t.sur.ps l.snd).1 l.den from rfl)
    have CK : Hid (∀ W, t.At W → Calls Tryz.prog 86 #[.agg #[.int .i64 (t).id, .int .i64 ((t).along).lo, .int .i64 ((t).along).hi, .slice ((t).vol).p ((t).vol).n ((t).vol).c, .slice ((t).sur).p ((t).sur).n ((t).sur).c, .slice ((t).hei).p ((t).hei).n ((t).hei).c], .agg #[.int .i64 (l).tank, .bool (l).pressed, .int .i64 ((l).snd).lo, .int .i64 ((l).snd).hi, .int .i64 ((l).den).lo, .int .i64 ((l).den).hi]] W fun e w' => e = .returned (.int .i64 (levelErr t l)) ∧ Below W.heap.size W w') := Lib.hid (fun W hW => hold_CheckLevel t l W hW)
    have CH : Hid (∀ W, t.At W → Calls Tryz.prog 87 #[.agg #[.int .i64 (t).id, .int .i64 ((t).along).lo, .int .i64 ((t).along).hi, .slice ((t).vol).p ((t).vol).n ((t).vol).c, .slice ((t).sur).p ((t).sur).n ((t).sur).c, .slice ((t).hei).p ((t).hei).n ((t).hei).c], .agg #[.int .i64 (l).tank, .bool (l).pressed, .int .i64 ((l).snd).lo, .int .i64 ((l).snd).hi, .int .i64 ((l).den).lo, .int .i64 ((l).den).hi]] W fun e w' => e = .returned (.agg #[.int .i64 (heldS t l).lo, .int .i64 (heldS t l).hi]) ∧ Below W.heap.size W w') := Lib.hid (fun W hW => hold_held t l W hW)
    have CO : Hid (∀ W, t.sur.At W → Calls Tryz.prog 85 #[.agg #[.slice (t.sur).p (t.sur).n (t.sur).c], .agg #[.int .i64 (l.snd).lo, .int .i64 (l.snd).hi]] W fun e w' => e = .returned (.agg #[.int .i64 ((overE t.sur.ps l.snd).1).lo, .int .i64 ((overE t.sur.ps l.snd).1).hi]) ∧ Below W.heap.size W w') := Lib.hid (fun W hW => hold_over t.sur l.snd W hW)
    have CW : Hid (∀ W, Calls Tryz.prog 82 #[.agg #[.int .i64 ((overE t.sur.ps l.snd).1).lo, .int .i64 ((overE t.sur.ps l.snd).1).hi], .agg #[.int .i64 (l.den).lo, .int .i64 (l.den).hi]] W fun e w' => e = .returned (.agg #[.int .i64 (weighS (overE t.sur.ps l.snd).1 l.den).lo, .int .i64 (weighS (overE t.sur.ps l.snd).1 l.den).hi]) ∧ Below W.heap.size W w') := Lib.hid (fun W => hold_weighed _ _ W HB HD)
    clear hc HB HD
    generalize weighS (overE t.sur.ps l.snd).1 l.den = b at *
    generalize (overE t.sur.ps l.snd).1 = q at *
    generalize heldS t l = v at *
    obtain ⟨ti, ta, tv, ts, tz⟩ := t
    obtain ⟨lt, lp, lsn, ld⟩ := l
    dsimp only at *
    cases lp
    · by_cases c1 : v.hi = 0
      · have HV := Lib.hid (show srfE ⟨ti, ta, tv, ts, tz⟩ ⟨lt, false, lsn, ld⟩ = ⟨0, 0⟩ by rw [HE.out, HS.out, if_pos (.inr c1)])
        have d1 : (v.hi == 0) = true := by rw [c1]; rfl
        clear c1
        go_enter Tryz.func38, Tryz.ntmps38
        go_wp2_with (first | (go_at_call 86; (with_reducible refine (CK.out _ (by with_reducible repeat (first | exact hh | refine Ho.At.alloc ?_ _ | refine Ho.At.bw ?_ _ | refine Tk.At.alloc ?_ _ | refine Tk.At.bw ?_ _))).mono ?_); rintro e w_ ⟨rfl, hb_⟩; obtain ⟨y1, rfl⟩ := Soft.BW.mk hb_; clear hb_) | (go_at_call 87; (with_reducible refine (CH.out _ (by with_reducible repeat (first | exact hh | refine Ho.At.alloc ?_ _ | refine Ho.At.bw ?_ _ | refine Tk.At.alloc ?_ _ | refine Tk.At.bw ?_ _))).mono ?_); rintro e w_ ⟨rfl, hb_⟩; obtain ⟨y2, rfl⟩ := Soft.BW.mk hb_; clear hb_))
        rw [HV.out, HC.out]
        refine bodyPost_ret (v := .tuple #[.agg #[.int .i64 ((⟨0, 0⟩ : Rg)).lo, .int .i64 ((⟨0, 0⟩ : Rg)).hi], .int .i64 0]) (by simp [results, Tryz.results38, go_sem]) rfl ?_
        refine ⟨rfl, ?_⟩
        (repeat (first | with_reducible exact bel_refl _ | with_reducible refine bel_alloc ?_ _ | with_reducible refine bel_bw _ ?_ | with_reducible refine bel_drew ?_ | with_reducible refine bel_drewN _ ?_ | ((with_reducible refine bel_set ?_ ?_ _); rotate_left; focus (first | (simp; done) | omega | (simp; omega))) | refine bel_step ?_ (by with_reducible assumption)))
      · have d1 : (v.hi == 0) = false := by rw [beq_eq_false_iff_ne]; exact c1
        by_cases c2 : v.lo = 0
        · have HV := Lib.hid (show srfE ⟨ti, ta, tv, ts, tz⟩ ⟨lt, false, lsn, ld⟩ = ⟨0, b.hi⟩ by rw [HE.out, HS.out, if_neg (by simp [c1]), if_pos c2])
          have d2 : (v.lo == 0) = true := by rw [c2]; rfl
          clear c1 c2
          go_enter Tryz.func38, Tryz.ntmps38
          go_wp2_with (first | (go_at_call 86; (with_reducible refine (CK.out _ (by with_reducible repeat (first | exact hh | refine Ho.At.alloc ?_ _ | refine Ho.At.bw ?_ _ | refine Tk.At.alloc ?_ _ | refine Tk.At.bw ?_ _))).mono ?_); rintro e w_ ⟨rfl, hb_⟩; obtain ⟨y1, rfl⟩ := Soft.BW.mk hb_; clear hb_) | (go_at_call 87; (with_reducible refine (CH.out _ (by with_reducible repeat (first | exact hh | refine Ho.At.alloc ?_ _ | refine Ho.At.bw ?_ _ | refine Tk.At.alloc ?_ _ | refine Tk.At.bw ?_ _))).mono ?_); rintro e w_ ⟨rfl, hb_⟩; obtain ⟨y2, rfl⟩ := Soft.BW.mk hb_; clear hb_))
          (refine Soft.region1 [0, 1, 2, 3, 4, 5, 6, 7] 8 [9] _ (by kernel_rfl) (by kernel_rfl) (by kernel_rfl) rfl rfl (by kernel_rfl) ?_; change Soft.wpSoft _ _ _ _ _ [_, _, _, _, _, _, _, _] _; (repeat (refine Soft.soft_step (fun K hK => ?_); go_simp; (try go_bits); first | (refine hK _ ?_; clear hK K) | (apply Exists.intro; refine ⟨fun x => ?_, hK _ ?_⟩; (first | (go_at_call 85; exact CO.out _ (by repeat (first | exact hs | refine Tb.At.alloc ?_ _ | refine Tb.At.bw ?_ _))) | (go_at_call 82; exact CW.out _)); clear hK K))); refine Soft.soft_nil ?_)
          refine ⟨fun b => .pointer (some ⟨b, 0, none⟩), .cells #[.int .i64 0, .int .i64 0] 27, fun x => by go_simp, fun kb x hnew => ?_⟩
          have n0 := hnew.cell 0
          have n1 := hnew.cell 1
          have f0 := hnew.frozen 0
          have f1 := hnew.frozen 1
          simp at n0 n1
          have k0 := hnew.le
          have k1 := y1.below.size
          have k2 := y2.below.size
          simp at k0 k1
          have k3 : ¬(kb = w.heap.size + 1 + 1) := by omega
          have k4 : ¬(w.heap.size + 1 + 1 = kb) := by omega
          have k5 : ¬(kb = y2.w.heap.size) := by omega
          have k6 : ¬(y2.w.heap.size = kb) := by omega
          change wpList _ _ _ [_] _ _
          go_wp2_with fail
          rw [HV.out, HC.out]
          refine bodyPost_ret (v := .tuple #[.agg #[.int .i64 ((⟨0, b.hi⟩ : Rg)).lo, .int .i64 ((⟨0, b.hi⟩ : Rg)).hi], .int .i64 0]) (by simp [results, Tryz.results38, go_sem]) rfl ?_
          refine ⟨rfl, ?_⟩
          (repeat (first | with_reducible exact bel_refl _ | with_reducible refine bel_alloc ?_ _ | with_reducible refine bel_bw _ ?_ | with_reducible refine bel_drew ?_ | with_reducible refine bel_drewN _ ?_ | ((with_reducible refine bel_set ?_ ?_ _); rotate_left; focus (first | (simp; done) | omega | (simp; omega))) | refine bel_step ?_ (by with_reducible assumption)))
        · have HV := Lib.hid (show srfE ⟨ti, ta, tv, ts, tz⟩ ⟨lt, false, lsn, ld⟩ = b by rw [HE.out, HS.out, if_neg (by simp [c1]), if_neg c2])
          have d2 : (v.lo == 0) = false := by rw [beq_eq_false_iff_ne]; exact c2
          clear c1 c2
          go_enter Tryz.func38, Tryz.ntmps38
          go_wp2_with (first | (go_at_call 86; (with_reducible refine (CK.out _ (by with_reducible repeat (first | exact hh | refine Ho.At.alloc ?_ _ | refine Ho.At.bw ?_ _ | refine Tk.At.alloc ?_ _ | refine Tk.At.bw ?_ _))).mono ?_); rintro e w_ ⟨rfl, hb_⟩; obtain ⟨y1, rfl⟩ := Soft.BW.mk hb_; clear hb_) | (go_at_call 87; (with_reducible refine (CH.out _ (by with_reducible repeat (first | exact hh | refine Ho.At.alloc ?_ _ | refine Ho.At.bw ?_ _ | refine Tk.At.alloc ?_ _ | refine Tk.At.bw ?_ _))).mono ?_); rintro e w_ ⟨rfl, hb_⟩; obtain ⟨y2, rfl⟩ := Soft.BW.mk hb_; clear hb_))
          (refine Soft.region1 [0, 1, 2, 3, 4, 5, 6, 7] 8 [9] _ (by kernel_rfl) (by kernel_rfl) (by kernel_rfl) rfl rfl (by kernel_rfl) ?_; change Soft.wpSoft _ _ _ _ _ [_, _, _, _, _, _, _, _] _; (repeat (refine Soft.soft_step (fun K hK => ?_); go_simp; (try go_bits); first | (refine hK _ ?_; clear hK K) | (apply Exists.intro; refine ⟨fun x => ?_, hK _ ?_⟩; (first | (go_at_call 85; exact CO.out _ (by repeat (first | exact hs | refine Tb.At.alloc ?_ _ | refine Tb.At.bw ?_ _))) | (go_at_call 82; exact CW.out _)); clear hK K))); refine Soft.soft_nil ?_)
          refine ⟨fun b => .pointer (some ⟨b, 0, none⟩), .cells #[.int .i64 0, .int .i64 0] 27, fun x => by go_simp, fun kb x hnew => ?_⟩
          have n0 := hnew.cell 0
          have n1 := hnew.cell 1
          have f0 := hnew.frozen 0
          have f1 := hnew.frozen 1
          simp at n0 n1
          have k0 := hnew.le
          have k1 := y1.below.size
          have k2 := y2.below.size
          simp at k0 k1
          have k3 : ¬(kb = w.heap.size + 1 + 1) := by omega
          have k4 : ¬(w.heap.size + 1 + 1 = kb) := by omega
          have k5 : ¬(kb = y2.w.heap.size) := by omega
          have k6 : ¬(y2.w.heap.size = kb) := by omega
          change wpList _ _ _ [_] _ _
          go_wp2_with fail
          rw [HV.out, HC.out]
          refine bodyPost_ret (v := .tuple #[.agg #[.int .i64 (b).lo, .int .i64 (b).hi], .int .i64 0]) (by simp [results, Tryz.results38, go_sem]) rfl ?_
          refine ⟨rfl, ?_⟩
          (repeat (first | with_reducible exact bel_refl _ | with_reducible refine bel_alloc ?_ _ | with_reducible refine bel_bw _ ?_ | with_reducible refine bel_drew ?_ | with_reducible refine bel_drewN _ ?_ | ((with_reducible refine bel_set ?_ ?_ _); rotate_left; focus (first | (simp; done) | omega | (simp; omega))) | refine bel_step ?_ (by with_reducible assumption)))
    · have HV := Lib.hid (show srfE ⟨ti, ta, tv, ts, tz⟩ ⟨lt, true, lsn, ld⟩ = ⟨0, 0⟩ by rw [HE.out, HS.out, if_pos (.inl rfl)])
      go_enter Tryz.func38, Tryz.ntmps38
      go_wp2_with (first | (go_at_call 86; (with_reducible refine (CK.out _ (by with_reducible repeat (first | exact hh | refine Ho.At.alloc ?_ _ | refine Ho.At.bw ?_ _ | refine Tk.At.alloc ?_ _ | refine Tk.At.bw ?_ _))).mono ?_); rintro e w_ ⟨rfl, hb_⟩; obtain ⟨y1, rfl⟩ := Soft.BW.mk hb_; clear hb_) | (go_at_call 87; (with_reducible refine (CH.out _ (by with_reducible repeat (first | exact hh | refine Ho.At.alloc ?_ _ | refine Ho.At.bw ?_ _ | refine Tk.At.alloc ?_ _ | refine Tk.At.bw ?_ _))).mono ?_); rintro e w_ ⟨rfl, hb_⟩; obtain ⟨y2, rfl⟩ := Soft.BW.mk hb_; clear hb_))
      rw [HV.out, HC.out]
      refine bodyPost_ret (v := .tuple #[.agg #[.int .i64 ((⟨0, 0⟩ : Rg)).lo, .int .i64 ((⟨0, 0⟩ : Rg)).hi], .int .i64 0]) (by simp [results, Tryz.results38, go_sem]) rfl ?_
      refine ⟨rfl, ?_⟩
      (repeat (first | with_reducible exact bel_refl _ | with_reducible refine bel_alloc ?_ _ | with_reducible refine bel_bw _ ?_ | with_reducible refine bel_drew ?_ | with_reducible refine bel_drewN _ ?_ | ((with_reducible refine bel_set ?_ ?_ _); rotate_left; focus (first | (simp; done) | omega | (simp; omega))) | refine bel_step ?_ (by with_reducible assumption)))
  · have HV := Lib.hid (show srfE t l = ⟨0, 0⟩ from if_neg hc)
    have d0 : (levelErr t l != 0) = true := bne_iff_ne.2 hc
    clear hc
    go_enter Tryz.func38, Tryz.ntmps38
    go_wp2_with (first | (go_at_call 86; (with_reducible refine (hold_CheckLevel t l _ (by with_reducible repeat (first | exact hh | refine Ho.At.alloc ?_ _ | refine Ho.At.bw ?_ _ | refine Tk.At.alloc ?_ _ | refine Tk.At.bw ?_ _))).mono ?_); rintro e w_ ⟨rfl, hb_⟩; obtain ⟨y1, rfl⟩ := Soft.BW.mk hb_; clear hb_))
    rw [HV.out]
    refine bodyPost_ret (v := .tuple #[.agg #[.int .i64 ((⟨0, 0⟩ : Rg)).lo, .int .i64 ((⟨0, 0⟩ : Rg)).hi], .int .i64 (levelErr t l)]) (by simp [results, Tryz.results38, go_sem]) rfl ?_
    refine ⟨rfl, ?_⟩
    (repeat (first | with_reducible exact bel_refl _ | with_reducible refine bel_alloc ?_ _ | with_reducible refine bel_bw _ ?_ | with_reducible refine bel_drew ?_ | with_reducible refine bel_drewN _ ?_ | ((with_reducible refine bel_set ?_ ?_ _); rotate_left; focus (first | (simp; done) | omega | (simp; omega))) | refine bel_step ?_ (by with_reducible assumption)))

end Go.Proofs.YteagdcgmmdiakaaGreat
