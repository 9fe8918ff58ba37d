/-
  hold: moment, mass, heel, weight, told and what is told.
  Conditions: each theorem's own premises.
-/
import Derived.Test.YtbjdgaeikihjbaaVol
namespace Go.Proofs.Ytbjdgaeikihjbaa
set_option linter.unusedSimpArgs false
set_option linter.unusedVariables false
open Go.RowKit
set_option maxRecDepth 100000
set_option maxHeartbeats 1000000
attribute [local go_sem] Instr.field asAgg Soft.upon Soft.BW.cell_if Soft.BW.frozen_if Soft.cell_alloc_if Soft.frozen_alloc_if

/-- The four functions of states, and a fill's moment. -/
theorem states1 (h : Ho) (f : Fi) (w : World) :
    Calls Try.prog 141 #[.agg #[.int .i64 (h).id, .int .i64 ((h).along).lo, .int .i64 ((h).along).hi, .slice ((h).vol).p ((h).vol).n ((h).vol).c, .slice ((h).mom).p ((h).mom).n ((h).mom).c, .slice ((h).hei).p ((h).hei).n ((h).hei).c, .int .i64 ((h).tri).lo, .int .i64 ((h).tri).hi, .int .i64 ((h).unt).lo, .int .i64 ((h).unt).hi, .int .i64 ((h).v0).lo, .int .i64 ((h).v0).hi, .int .i64 ((h).h0).lo, .int .i64 ((h).h0).hi], .agg #[.int .i64 (f).hold, .int .i64 (f).state, .int .i64 ((f).ull).lo, .int .i64 ((f).ull).hi, .int .i64 ((f).den).lo, .int .i64 ((f).den).hi]] w fun e w' => e = .returned (.agg #[.int .i64 ((⟨0, 0⟩ : Rg)).lo, .int .i64 ((⟨0, 0⟩ : Rg)).hi]) ∧ Below w.heap.size w w' := by
  go_enter Try.func141, Try.ntmps141
  go_wp2_with fail
  refine bodyPost_ret (v := .agg #[.int .i64 ((⟨0, 0⟩ : Rg)).lo, .int .i64 ((⟨0, 0⟩ : Rg)).hi]) (by simp [results, Try.results141, go_sem]) rfl ?_
  refine ⟨rfl, ?_⟩
  (repeat (first | with_reducible exact bel_refl _ | with_reducible refine bel_alloc ?_ _ | with_reducible refine bel_bw _ ?_ | with_reducible refine bel_drew ?_ | with_reducible refine bel_drewN _ ?_ | ((with_reducible refine bel_set ?_ ?_ _); rotate_left; focus (first | (simp; done) | omega | (simp; omega))) | refine bel_step ?_ (by with_reducible assumption)))
theorem states2 (h : Ho) (f : Fi) (w : World) :
    Calls Try.prog 142 #[.agg #[.int .i64 (h).id, .int .i64 ((h).along).lo, .int .i64 ((h).along).hi, .slice ((h).vol).p ((h).vol).n ((h).vol).c, .slice ((h).mom).p ((h).mom).n ((h).mom).c, .slice ((h).hei).p ((h).hei).n ((h).hei).c, .int .i64 ((h).tri).lo, .int .i64 ((h).tri).hi, .int .i64 ((h).unt).lo, .int .i64 ((h).unt).hi, .int .i64 ((h).v0).lo, .int .i64 ((h).v0).hi, .int .i64 ((h).h0).lo, .int .i64 ((h).h0).hi], .agg #[.int .i64 (f).hold, .int .i64 (f).state, .int .i64 ((f).ull).lo, .int .i64 ((f).ull).hi, .int .i64 ((f).den).lo, .int .i64 ((f).den).hi]] w fun e w' => e = .returned (.agg #[.int .i64 (h.tri).lo, .int .i64 (h.tri).hi]) ∧ Below w.heap.size w w' := by
  go_enter Try.func142, Try.ntmps142
  go_wp2_with fail
  refine bodyPost_ret (v := .agg #[.int .i64 (h.tri).lo, .int .i64 (h.tri).hi]) (by simp [results, Try.results142, go_sem]) rfl ?_
  refine ⟨rfl, ?_⟩
  (repeat (first | with_reducible exact bel_refl _ | with_reducible refine bel_alloc ?_ _ | with_reducible refine bel_bw _ ?_ | with_reducible refine bel_drew ?_ | with_reducible refine bel_drewN _ ?_ | ((with_reducible refine bel_set ?_ ?_ _); rotate_left; focus (first | (simp; done) | omega | (simp; omega))) | refine bel_step ?_ (by with_reducible assumption)))
theorem states3 (h : Ho) (f : Fi) (w : World) :
    Calls Try.prog 143 #[.agg #[.int .i64 (h).id, .int .i64 ((h).along).lo, .int .i64 ((h).along).hi, .slice ((h).vol).p ((h).vol).n ((h).vol).c, .slice ((h).mom).p ((h).mom).n ((h).mom).c, .slice ((h).hei).p ((h).hei).n ((h).hei).c, .int .i64 ((h).tri).lo, .int .i64 ((h).tri).hi, .int .i64 ((h).unt).lo, .int .i64 ((h).unt).hi, .int .i64 ((h).v0).lo, .int .i64 ((h).v0).hi, .int .i64 ((h).h0).lo, .int .i64 ((h).h0).hi], .agg #[.int .i64 (f).hold, .int .i64 (f).state, .int .i64 ((f).ull).lo, .int .i64 ((f).ull).hi, .int .i64 ((f).den).lo, .int .i64 ((f).den).hi]] w fun e w' => e = .returned (.agg #[.int .i64 (h.unt).lo, .int .i64 (h.unt).hi]) ∧ Below w.heap.size w w' := by
  go_enter Try.func143, Try.ntmps143
  go_wp2_with fail
  refine bodyPost_ret (v := .agg #[.int .i64 (h.unt).lo, .int .i64 (h.unt).hi]) (by simp [results, Try.results143, go_sem]) rfl ?_
  refine ⟨rfl, ?_⟩
  (repeat (first | with_reducible exact bel_refl _ | with_reducible refine bel_alloc ?_ _ | with_reducible refine bel_bw _ ?_ | with_reducible refine bel_drew ?_ | with_reducible refine bel_drewN _ ?_ | ((with_reducible refine bel_set ?_ ?_ _); rotate_left; focus (first | (simp; done) | omega | (simp; omega))) | refine bel_step ?_ (by with_reducible assumption)))
theorem states4 (h : Ho) (f : Fi) (w : World) (hm : h.mom.At w) :
    Calls Try.prog 144 #[.agg #[.int .i64 (h).id, .int .i64 ((h).along).lo, .int .i64 ((h).along).hi, .slice ((h).vol).p ((h).vol).n ((h).vol).c, .slice ((h).mom).p ((h).mom).n ((h).mom).c, .slice ((h).hei).p ((h).hei).n ((h).hei).c, .int .i64 ((h).tri).lo, .int .i64 ((h).tri).hi, .int .i64 ((h).unt).lo, .int .i64 ((h).unt).hi, .int .i64 ((h).v0).lo, .int .i64 ((h).v0).hi, .int .i64 ((h).h0).lo, .int .i64 ((h).h0).hi], .agg #[.int .i64 (f).hold, .int .i64 (f).state, .int .i64 ((f).ull).lo, .int .i64 ((f).ull).hi, .int .i64 ((f).den).lo, .int .i64 ((f).den).hi]] w fun e w' => e = .returned (.agg #[.int .i64 ((overE h.mom.ps f.ull).1).lo, .int .i64 ((overE h.mom.ps f.ull).1).hi]) ∧ Below w.heap.size w w' := by
  go_enter Try.func144, Try.ntmps144
  go_wp2_with (go_at_call 107; (with_reducible refine (hold_over h.mom f.ull _ (by repeat (first | exact hm | refine Tb.At.alloc ?_ _ | refine Tb.At.bw ?_ _))).mono ?_); rintro e w_ ⟨rfl, hb_⟩; obtain ⟨y1, rfl⟩ := Soft.BW.mk hb_; clear hb_)
  refine bodyPost_ret (v := .agg #[.int .i64 ((overE h.mom.ps f.ull).1).lo, .int .i64 ((overE h.mom.ps f.ull).1).hi]) (by simp [results, Try.results144, go_sem]) rfl ?_
  refine ⟨rfl, ?_⟩
  (repeat (first | with_reducible exact bel_refl _ | with_reducible refine bel_alloc ?_ _ | with_reducible refine bel_bw _ ?_ | with_reducible refine bel_drew ?_ | with_reducible refine bel_drewN _ ?_ | ((with_reducible refine bel_set ?_ ?_ _); rotate_left; focus (first | (simp; done) | omega | (simp; omega))) | refine bel_step ?_ (by with_reducible assumption)))

def momS (h : Ho) (f : Fi) : Rg := if f.state = 1 then h.tri else if f.state = 2 then h.unt else if f.state = 3 then (overE h.mom.ps f.ull).1 else ⟨0, 0⟩



theorem hold_moment (h : Ho) (f : Fi) (w : World) (hh : h.At w) (hs : 0 ≤ f.state ∧ f.state ≤ 5) :
    Calls Try.prog 78 #[.agg #[.int .i64 (h).id, .int .i64 ((h).along).lo, .int .i64 ((h).along).hi, .slice ((h).vol).p ((h).vol).n ((h).vol).c, .slice ((h).mom).p ((h).mom).n ((h).mom).c, .slice ((h).hei).p ((h).hei).n ((h).hei).c, .int .i64 ((h).tri).lo, .int .i64 ((h).tri).hi, .int .i64 ((h).unt).lo, .int .i64 ((h).unt).hi, .int .i64 ((h).v0).lo, .int .i64 ((h).v0).hi, .int .i64 ((h).h0).lo, .int .i64 ((h).h0).hi], .agg #[.int .i64 (f).hold, .int .i64 (f).state, .int .i64 ((f).ull).lo, .int .i64 ((f).ull).hi, .int .i64 ((f).den).lo, .int .i64 ((f).den).hi]] w fun e w' => e = .returned (.agg #[.int .i64 (momS h f).lo, .int .i64 (momS h f).hi]) ∧ Below w.heap.size w w' := by
  have hm := hh.2.1
  by_cases hc : f.state = 1
  · have HST := Lib.hid (show stIs f.state true true false (.func (.func 142) #[] #[]) from .inr (.inl ⟨hc, rfl, rfl, rfl, rfl⟩))
    have HV := Lib.hid (show momS h f = h.tri from if_pos hc); clear hc
    go_enter Try.func78, Try.ntmps78
    go_wp2_with fail
    (refine Soft.region0 [0, 1, 2, 3, 4, 5, 6] [7] (by kernel_rfl) (by kernel_rfl) (by kernel_rfl) (by kernel_rfl) ?_; change Soft.wpSoft _ _ _ _ _ [_, _, _, _, _, _, _] _; (repeat (refine Soft.soft_step (fun K hK => ?_); go_simp; (try go_bits); first | (refine hK _ ?_; clear hK K) | (apply Exists.intro; refine ⟨fun x => ?_, hK _ ?_⟩; (first | exact hold_stateOf f.state _ _ _ _ _ HST.out | exact states2 h f _ | exact states2 h f _ (by repeat (first | exact hm | refine Tb.At.alloc ?_ _ | refine Tb.At.bw ?_ _))); clear hK K))); refine Soft.soft_nil ?_; intro xw; change wpList _ _ _ [_] _ _)
    go_wp2_with fail
    rw [HV.out]
    refine bodyPost_ret (v := .agg #[.int .i64 (h.tri).lo, .int .i64 (h.tri).hi]) (by simp [results, Try.results78, go_sem]) rfl ?_
    refine ⟨rfl, ?_⟩
    (repeat (first | with_reducible exact bel_refl _ | with_reducible refine bel_alloc ?_ _ | with_reducible refine bel_bw _ ?_ | with_reducible refine bel_drew ?_ | with_reducible refine bel_drewN _ ?_ | ((with_reducible refine bel_set ?_ ?_ _); rotate_left; focus (first | (simp; done) | omega | (simp; omega))) | refine bel_step ?_ (by with_reducible assumption)))
  · by_cases hc2 : f.state = 2
    · have HST := Lib.hid (show stIs f.state true true false (.func (.func 143) #[] #[]) from .inr (.inr (.inl ⟨hc2, rfl, rfl, rfl, rfl⟩)))
      have HV := Lib.hid (show momS h f = h.unt by unfold momS; rw [if_neg hc, if_pos hc2]); clear hc hc2
      go_enter Try.func78, Try.ntmps78
      go_wp2_with fail
      (refine Soft.region0 [0, 1, 2, 3, 4, 5, 6] [7] (by kernel_rfl) (by kernel_rfl) (by kernel_rfl) (by kernel_rfl) ?_; change Soft.wpSoft _ _ _ _ _ [_, _, _, _, _, _, _] _; (repeat (refine Soft.soft_step (fun K hK => ?_); go_simp; (try go_bits); first | (refine hK _ ?_; clear hK K) | (apply Exists.intro; refine ⟨fun x => ?_, hK _ ?_⟩; (first | exact hold_stateOf f.state _ _ _ _ _ HST.out | exact states3 h f _ | exact states3 h f _ (by repeat (first | exact hm | refine Tb.At.alloc ?_ _ | refine Tb.At.bw ?_ _))); clear hK K))); refine Soft.soft_nil ?_; intro xw; change wpList _ _ _ [_] _ _)
      go_wp2_with fail
      rw [HV.out]
      refine bodyPost_ret (v := .agg #[.int .i64 (h.unt).lo, .int .i64 (h.unt).hi]) (by simp [results, Try.results78, go_sem]) rfl ?_
      refine ⟨rfl, ?_⟩
      (repeat (first | with_reducible exact bel_refl _ | with_reducible refine bel_alloc ?_ _ | with_reducible refine bel_bw _ ?_ | with_reducible refine bel_drew ?_ | with_reducible refine bel_drewN _ ?_ | ((with_reducible refine bel_set ?_ ?_ _); rotate_left; focus (first | (simp; done) | omega | (simp; omega))) | refine bel_step ?_ (by with_reducible assumption)))
    · by_cases hc3 : f.state = 3
      · have HST := Lib.hid (show stIs f.state true false true (.func (.func 144) #[] #[]) from .inr (.inr (.inr (.inl ⟨hc3, rfl, rfl, rfl, rfl⟩))))
        have HV := Lib.hid (show momS h f = (overE h.mom.ps f.ull).1 by unfold momS; rw [if_neg hc, if_neg hc2, if_pos hc3]); clear hc hc2 hc3
        go_enter Try.func78, Try.ntmps78
        go_wp2_with fail
        (refine Soft.region0 [0, 1, 2, 3, 4, 5, 6] [7] (by kernel_rfl) (by kernel_rfl) (by kernel_rfl) (by kernel_rfl) ?_; change Soft.wpSoft _ _ _ _ _ [_, _, _, _, _, _, _] _; (repeat (refine Soft.soft_step (fun K hK => ?_); go_simp; (try go_bits); first | (refine hK _ ?_; clear hK K) | (apply Exists.intro; refine ⟨fun x => ?_, hK _ ?_⟩; (first | exact hold_stateOf f.state _ _ _ _ _ HST.out | exact states4 h f _ | exact states4 h f _ (by repeat (first | exact hm | refine Tb.At.alloc ?_ _ | refine Tb.At.bw ?_ _))); clear hK K))); refine Soft.soft_nil ?_; intro xw; change wpList _ _ _ [_] _ _)
        go_wp2_with fail
        rw [HV.out]
        refine bodyPost_ret (v := .agg #[.int .i64 ((overE h.mom.ps f.ull).1).lo, .int .i64 ((overE h.mom.ps f.ull).1).hi]) (by simp [results, Try.results78, go_sem]) rfl ?_
        refine ⟨rfl, ?_⟩
        (repeat (first | with_reducible exact bel_refl _ | with_reducible refine bel_alloc ?_ _ | with_reducible refine bel_bw _ ?_ | with_reducible refine bel_drew ?_ | with_reducible refine bel_drewN _ ?_ | ((with_reducible refine bel_set ?_ ?_ _); rotate_left; focus (first | (simp; done) | omega | (simp; omega))) | refine bel_step ?_ (by with_reducible assumption)))
      · have hst : ∃ a b, stIs f.state true a b (.func (.func 141) #[] #[]) := by
          by_cases h0 : f.state = 0
          · exact ⟨_, _, .inl ⟨h0, rfl, rfl, rfl, rfl⟩⟩
          · by_cases h4 : f.state = 4
            · exact ⟨_, _, .inr (.inr (.inr (.inr (.inl ⟨h4, rfl, rfl, rfl, rfl⟩))))⟩
            · exact ⟨_, _, .inr (.inr (.inr (.inr (.inr (.inl ⟨by omega, rfl, rfl, rfl, rfl⟩)))))⟩
        obtain ⟨a, b, hst⟩ := hst
        have HST := Lib.hid hst; clear hst
        have HV := Lib.hid (show momS h f = ⟨0, 0⟩ by unfold momS; rw [if_neg hc, if_neg hc2, if_neg hc3]); clear hc hc2 hc3
        go_enter Try.func78, Try.ntmps78
        go_wp2_with fail
        (refine Soft.region0 [0, 1, 2, 3, 4, 5, 6] [7] (by kernel_rfl) (by kernel_rfl) (by kernel_rfl) (by kernel_rfl) ?_; change Soft.wpSoft _ _ _ _ _ [_, _, _, _, _, _, _] _; (repeat (refine Soft.soft_step (fun K hK => ?_); go_simp; (try go_bits); first | (refine hK _ ?_; clear hK K) | (apply Exists.intro; refine ⟨fun x => ?_, hK _ ?_⟩; (first | exact hold_stateOf f.state _ _ _ _ _ HST.out | exact states1 h f _ | exact states1 h f _ (by repeat (first | exact hm | refine Tb.At.alloc ?_ _ | refine Tb.At.bw ?_ _))); clear hK K))); refine Soft.soft_nil ?_; intro xw; change wpList _ _ _ [_] _ _)
        go_wp2_with fail
        rw [HV.out]
        refine bodyPost_ret (v := .agg #[.int .i64 ((⟨0, 0⟩ : Rg)).lo, .int .i64 ((⟨0, 0⟩ : Rg)).hi]) (by simp [results, Try.results78, go_sem]) rfl ?_
        refine ⟨rfl, ?_⟩
        (repeat (first | with_reducible exact bel_refl _ | with_reducible refine bel_alloc ?_ _ | with_reducible refine bel_bw _ ?_ | with_reducible refine bel_drew ?_ | with_reducible refine bel_drewN _ ?_ | ((with_reducible refine bel_set ?_ ?_ _); rotate_left; focus (first | (simp; done) | omega | (simp; omega))) | refine bel_step ?_ (by with_reducible assumption)))

/-! ### Valid holds and fills -/

theorem fill_ok {h : Ho} {f : Fi} (e : fillErr h f = 0) : HoldOk h ∧ FillIn h f := by
  unfold fillErr at e
  by_cases h0 : HoldOk h
  · rw [if_pos h0] at e
    by_cases h1 : FillIn h f
    · exact ⟨h0, h1⟩
    · rw [if_neg h1] at e; omega
  · rw [if_neg h0] at e; omega
theorem fillErr_ok {h : Ho} {f : Fi} (h0 : HoldOk h) (h1 : FillIn h f) : fillErr h f = 0 := by
  unfold fillErr; rw [if_pos h0, if_pos h1]
theorem part_in {r : Rg} {a b : Int} (h : isPart r a b) : RgIn r a b := ⟨h.1, h.2.1, h.2.2⟩
theorem RgIn.mono {r : Rg} {a b c d : Int} (h : RgIn r a b) (h1 : c ≤ a) (h2 : b ≤ d) : RgIn r c d := ⟨by have := h.a; omega, h.b, by have := h.c; omega⟩
theorem zero_in {a b : Int} (h1 : a ≤ 0) (h2 : 0 ≤ b) : RgIn ⟨0, 0⟩ a b := ⟨h1, Int.le_refl _, h2⟩
theorem fillS_in {f : Fi} {filled : Rg} {ps : List Pt} (h1 : isPart filled 0 1000000000) (h2 : Tab2 ps) : RgIn (fillS f filled ps) 0 1000000000 := by
  unfold fillS
  split
  · exact part_in h1
  · split
    · exact overE_pos h2 _
    · exact zero_in (by omega) (by omega)
theorem volS_in {h : Ho} (h0 : HoldOk h) (f : Fi) : RgIn (volS h f) 0 1000000000 := fillS_in h0.v0 h0.tabs.1
theorem heightS_in {h : Ho} (h0 : HoldOk h) (f : Fi) : RgIn (heightS h f) 0 1000000000 := fillS_in h0.h0 h0.tabs.2.2.1
theorem momS_in {h : Ho} (h0 : HoldOk h) (f : Fi) : RgIn (momS h f) 0 1000000000 := by
  unfold momS
  split
  · exact part_in h0.tri
  · split
    · exact part_in h0.unt
    · split
      · exact overE_pos h0.tabs.2.1.1 _
      · exact zero_in (by omega) (by omega)
theorem den_in {h : Ho} {f : Fi} (h1 : FillIn h f) : RgIn f.den 0 2000 := by
  obtain ⟨_, ⟨_, _, e⟩ | ⟨_, _, e⟩ | ⟨_, _, e⟩⟩ := h1
  · rw [e]; exact zero_in (by omega) (by omega)
  · exact (part_in e).mono (by omega) (by omega)
  · exact (part_in e).mono (by omega) (by omega)
theorem state_in {h : Ho} {f : Fi} (h1 : FillIn h f) : 0 ≤ f.state ∧ f.state ≤ 5 := by
  obtain ⟨_, h⟩ := h1
  omega

def massS (h : Ho) (f : Fi) : Rg := weighS (volS h f) f.den
def heelS (h : Ho) (f : Fi) : Rg := weighS (momS h f) f.den
def wtS (h : Ho) (f : Fi) : Wt := ⟨massS h f, h.along, heightS h f⟩

theorem hold_mass (h : Ho) (f : Fi) (w : World) (hh : h.At w) (hok : fillErr h f = 0) :
    Calls Try.prog 77 #[.agg #[.int .i64 (h).id, .int .i64 ((h).along).lo, .int .i64 ((h).along).hi, .slice ((h).vol).p ((h).vol).n ((h).vol).c, .slice ((h).mom).p ((h).mom).n ((h).mom).c, .slice ((h).hei).p ((h).hei).n ((h).hei).c, .int .i64 ((h).tri).lo, .int .i64 ((h).tri).hi, .int .i64 ((h).unt).lo, .int .i64 ((h).unt).hi, .int .i64 ((h).v0).lo, .int .i64 ((h).v0).hi, .int .i64 ((h).h0).lo, .int .i64 ((h).h0).hi], .agg #[.int .i64 (f).hold, .int .i64 (f).state, .int .i64 ((f).ull).lo, .int .i64 ((f).ull).hi, .int .i64 ((f).den).lo, .int .i64 ((f).den).hi]] w fun e w' => e = .returned (.agg #[.int .i64 (massS h f).lo, .int .i64 (massS h f).hi]) ∧ Below w.heap.size w w' := by
  obtain ⟨h0, h1⟩ := fill_ok hok
  have HB := Lib.hid ((volS_in h0 f).mono (c := -1000000000) (d := 1000000000) (by omega) (by omega))
  have HD := Lib.hid (den_in h1)
  clear hok h0 h1
  go_enter Try.func77, Try.ntmps77
  go_wp2_with fail
  (refine Soft.region0 [0, 1, 2, 3, 4, 5] [6] (by kernel_rfl) (by kernel_rfl) (by kernel_rfl) (by kernel_rfl) ?_; change Soft.wpSoft _ _ _ _ _ [_, _, _, _, _, _] _; (repeat (refine Soft.soft_step (fun K hK => ?_); go_simp; (try go_bits); first | (refine hK _ ?_; clear hK K) | (apply Exists.intro; refine ⟨fun x => ?_, hK _ ?_⟩; (first | (go_at_call 71; exact hold_volume h f _ (by with_reducible repeat (first | exact hh | refine Ho.At.alloc ?_ _ | refine Ho.At.bw ?_ _ | refine Tk.At.alloc ?_ _ | refine Tk.At.bw ?_ _))) | (go_at_call 105; exact hold_weighed (volS h f) f.den _ HB.out HD.out)); clear hK K))); refine Soft.soft_nil ?_; intro xw; change wpList _ _ _ [_] _ _)
  go_wp2_with fail
  refine bodyPost_ret (v := .agg #[.int .i64 (massS h f).lo, .int .i64 (massS h f).hi]) (by simp [results, Try.results77, go_sem, massS]) rfl ?_
  refine ⟨rfl, ?_⟩
  (repeat (first | with_reducible exact bel_refl _ | with_reducible refine bel_alloc ?_ _ | with_reducible refine bel_bw _ ?_ | with_reducible refine bel_drew ?_ | with_reducible refine bel_drewN _ ?_ | ((with_reducible refine bel_set ?_ ?_ _); rotate_left; focus (first | (simp; done) | omega | (simp; omega))) | refine bel_step ?_ (by with_reducible assumption)))

theorem hold_heel (h : Ho) (f : Fi) (w : World) (hh : h.At w) (hok : fillErr h f = 0) :
    Calls Try.prog 79 #[.agg #[.int .i64 (h).id, .int .i64 ((h).along).lo, .int .i64 ((h).along).hi, .slice ((h).vol).p ((h).vol).n ((h).vol).c, .slice ((h).mom).p ((h).mom).n ((h).mom).c, .slice ((h).hei).p ((h).hei).n ((h).hei).c, .int .i64 ((h).tri).lo, .int .i64 ((h).tri).hi, .int .i64 ((h).unt).lo, .int .i64 ((h).unt).hi, .int .i64 ((h).v0).lo, .int .i64 ((h).v0).hi, .int .i64 ((h).h0).lo, .int .i64 ((h).h0).hi], .agg #[.int .i64 (f).hold, .int .i64 (f).state, .int .i64 ((f).ull).lo, .int .i64 ((f).ull).hi, .int .i64 ((f).den).lo, .int .i64 ((f).den).hi]] w fun e w' => e = .returned (.agg #[.int .i64 (heelS h f).lo, .int .i64 (heelS h f).hi]) ∧ Below w.heap.size w w' := by
  obtain ⟨h0, h1⟩ := fill_ok hok
  have HB := Lib.hid ((momS_in h0 f).mono (c := -1000000000) (d := 1000000000) (by omega) (by omega))
  have HD := Lib.hid (den_in h1)
  have HS := Lib.hid (state_in h1)
  clear hok h0 h1
  go_enter Try.func79, Try.ntmps79
  go_wp2_with fail
  (refine Soft.region0 [0, 1, 2, 3, 4, 5] [6] (by kernel_rfl) (by kernel_rfl) (by kernel_rfl) (by kernel_rfl) ?_; change Soft.wpSoft _ _ _ _ _ [_, _, _, _, _, _] _; (repeat (refine Soft.soft_step (fun K hK => ?_); go_simp; (try go_bits); first | (refine hK _ ?_; clear hK K) | (apply Exists.intro; refine ⟨fun x => ?_, hK _ ?_⟩; (first | (go_at_call 78; exact hold_moment h f _ (by with_reducible repeat (first | exact hh | refine Ho.At.alloc ?_ _ | refine Ho.At.bw ?_ _ | refine Tk.At.alloc ?_ _ | refine Tk.At.bw ?_ _)) HS.out) | (go_at_call 105; exact hold_weighed (momS h f) f.den _ HB.out HD.out)); clear hK K))); refine Soft.soft_nil ?_; intro xw; change wpList _ _ _ [_] _ _)
  go_wp2_with fail
  refine bodyPost_ret (v := .agg #[.int .i64 (heelS h f).lo, .int .i64 (heelS h f).hi]) (by simp [results, Try.results79, go_sem, heelS]) rfl ?_
  refine ⟨rfl, ?_⟩
  (repeat (first | with_reducible exact bel_refl _ | with_reducible refine bel_alloc ?_ _ | with_reducible refine bel_bw _ ?_ | with_reducible refine bel_drew ?_ | with_reducible refine bel_drewN _ ?_ | ((with_reducible refine bel_set ?_ ?_ _); rotate_left; focus (first | (simp; done) | omega | (simp; omega))) | refine bel_step ?_ (by with_reducible assumption)))

end Go.Proofs.Ytbjdgaeikihjbaa
