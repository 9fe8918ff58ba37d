/-
  The reference's Pour and Draw.
  Conditions: each theorem's own premises.
-/
import Derived.Test.YtbjdgaeikihjbaaGreatRfq
import Derived.Test.YtbjdgaeikihjbaaGreatRfj
namespace Go.Proofs.YtbjdgaeikihjbaaGreat
set_option linter.unusedSimpArgs false
set_option linter.unusedVariables false
open Go.RowKit
set_option maxRecDepth 100000
set_option maxHeartbeats 8000000
attribute [local go_sem] Instr.field asAgg Soft.upon Soft.BW.cell_if Soft.BW.frozen_if Soft.cell_alloc_if Soft.frozen_alloc_if

/-- A store into the block that was laid last. -/
theorem setTop (w : World) (c : Array Value) (t : TypeId) (k i : Nat) (v : Value) (hk : k = w.heap.size) : ((w.alloc (.cells c t)).setCell ⟨k, i, none⟩ v) = w.alloc (.cells (c.setIfInBounds i v) t) := by
  subst hk
  unfold World.setCell World.alloc
  dsimp only
  congr 1
  apply Array.ext_getElem?
  intro j
  rw [Array.getElem?_modify]
  by_cases e : j = w.heap.size
  · subst e; simp
  · rw [if_neg (Ne.symm e)]
    simp [Array.getElem?_push, e]

theorem R2_Pour (h : Ho) (f : Fi) (m d : Rg) (w : World) (hh : h.At w) :
    Calls Tryz.prog 25 #[.agg #[.int .i64 (h).id, .int .i64 ((h).along).lo, .int .i64 ((h).along).hi, .slice ((h).vol).p ((h).vol).n ((h).vol).c, .slice ((h).mom).p ((h).mom).n ((h).mom).c, .slice ((h).hei).p ((h).hei).n ((h).hei).c, .int .i64 ((h).tri).lo, .int .i64 ((h).tri).hi, .int .i64 ((h).unt).lo, .int .i64 ((h).unt).hi, .int .i64 ((h).v0).lo, .int .i64 ((h).v0).hi, .int .i64 ((h).h0).lo, .int .i64 ((h).h0).hi], .agg #[.int .i64 (f).hold, .int .i64 (f).state, .int .i64 ((f).ull).lo, .int .i64 ((f).ull).hi, .int .i64 ((f).den).lo, .int .i64 ((f).den).hi], .agg #[.int .i64 (m).lo, .int .i64 (m).hi], .agg #[.int .i64 (d).lo, .int .i64 (d).hi]] w fun e w' => e = .returned (.tuple #[.agg #[.int .i64 ((pourE h f m d).1).hold, .int .i64 ((pourE h f m d).1).state, .int .i64 (((pourE h f m d).1).ull).lo, .int .i64 (((pourE h f m d).1).ull).hi, .int .i64 (((pourE h f m d).1).den).lo, .int .i64 (((pourE h f m d).1).den).hi], .int .i64 (pourE h f m d).2]) ∧ Below w.heap.size w w' := by
  have hv := hh.1
  have CCF := Lib.hid (fun W hW => R2_CheckFill h f W hW)
  by_cases cf : fillErr h f = 0
  · obtain ⟨h0, h1⟩ := fill_ok cf
    rw [cf] at CCF
    have CLI := Lib.hid (fun W => R2_Litres m d W)
    by_cases cm : massErr m d = 0
    · obtain ⟨m0, m1⟩ := massErr_ok cm
      have hL : litE m d = litS m d := if_pos cm
      rw [cm, hL] at CLI
      have hst := state_in h1
      have hid : f.hold = h.id := h1.1
      by_cases cl : m.lo < 0
      · have HV := Lib.hid (show pourE h f m d = (zeroF, 1) by unfold pourE; rw [if_neg (by omega), if_neg (by omega), if_pos cl])
        clear cf h0 h1 cm m0 m1 hst hL hid
        generalize litS m d = L at *
        go_enter Tryz.func25, Tryz.ntmps25
        go_wp2_with (first | (go_at_call 22; (with_reducible refine (CCF.out _ (by with_reducible repeat (first | exact hh | refine Ho.At.alloc ?_ _ | refine Ho.At.bw ?_ _ | refine Tk.At.alloc ?_ _ | refine Tk.At.bw ?_ _))).mono ?_); rintro e w_ ⟨rfl, hb_⟩; obtain ⟨y1, rfl⟩ := Soft.BW.mk hb_; clear hb_) | (go_at_call 79; (with_reducible refine (CLI.out _).mono ?_); rintro e w_ ⟨rfl, hb_⟩; obtain ⟨y2, rfl⟩ := Soft.BW.mk hb_; clear hb_))
        rw [HV.out]
        refine bodyPost_ret (v := .tuple #[.agg #[.int .i64 (zeroF).hold, .int .i64 (zeroF).state, .int .i64 ((zeroF).ull).lo, .int .i64 ((zeroF).ull).hi, .int .i64 ((zeroF).den).lo, .int .i64 ((zeroF).den).hi], .int .i64 1]) (by simp [results, Tryz.results25, go_sem, zeroF]) rfl ?_
        refine ⟨rfl, ?_⟩
        (repeat (first | with_reducible exact bel_refl _ | with_reducible refine bel_alloc ?_ _ | with_reducible refine bel_bw _ ?_ | with_reducible refine bel_drew ?_ | with_reducible refine bel_drewN _ ?_ | ((with_reducible refine bel_set ?_ ?_ _); rotate_left; focus (first | (simp; done) | omega | (simp; omega))) | refine bel_step ?_ (by with_reducible assumption)))
      · by_cases c45 : f.state = 4 ∨ f.state = 5
        · have HV := Lib.hid (show pourE h f m d = (zeroF, 22) by unfold pourE; rw [if_neg (by omega), if_neg (by omega), if_neg cl, if_pos c45])
          clear cf h0 h1 cm m0 m1 hst hL hid
          generalize litS m d = L at *
          rcases c45 with c4 | c5
          · have d4 : (f.state == 4) = true := by rw [c4]; rfl
            clear c4
            go_enter Tryz.func25, Tryz.ntmps25
            go_wp2_with (first | (go_at_call 22; (with_reducible refine (CCF.out _ (by with_reducible repeat (first | exact hh | refine Ho.At.alloc ?_ _ | refine Ho.At.bw ?_ _ | refine Tk.At.alloc ?_ _ | refine Tk.At.bw ?_ _))).mono ?_); rintro e w_ ⟨rfl, hb_⟩; obtain ⟨y1, rfl⟩ := Soft.BW.mk hb_; clear hb_) | (go_at_call 79; (with_reducible refine (CLI.out _).mono ?_); rintro e w_ ⟨rfl, hb_⟩; obtain ⟨y2, rfl⟩ := Soft.BW.mk hb_; clear hb_))
            rw [HV.out]
            refine bodyPost_ret (v := .tuple #[.agg #[.int .i64 (zeroF).hold, .int .i64 (zeroF).state, .int .i64 ((zeroF).ull).lo, .int .i64 ((zeroF).ull).hi, .int .i64 ((zeroF).den).lo, .int .i64 ((zeroF).den).hi], .int .i64 22]) (by simp [results, Tryz.results25, go_sem, zeroF]) rfl ?_
            refine ⟨rfl, ?_⟩
            (repeat (first | with_reducible exact bel_refl _ | with_reducible refine bel_alloc ?_ _ | with_reducible refine bel_bw _ ?_ | with_reducible refine bel_drew ?_ | with_reducible refine bel_drewN _ ?_ | ((with_reducible refine bel_set ?_ ?_ _); rotate_left; focus (first | (simp; done) | omega | (simp; omega))) | refine bel_step ?_ (by with_reducible assumption)))
          · have d4 : (f.state == 4) = false := by rw [c5]; rfl
            have d5 : (f.state == 5) = true := by rw [c5]; rfl
            clear c5
            go_enter Tryz.func25, Tryz.ntmps25
            go_wp2_with (first | (go_at_call 22; (with_reducible refine (CCF.out _ (by with_reducible repeat (first | exact hh | refine Ho.At.alloc ?_ _ | refine Ho.At.bw ?_ _ | refine Tk.At.alloc ?_ _ | refine Tk.At.bw ?_ _))).mono ?_); rintro e w_ ⟨rfl, hb_⟩; obtain ⟨y1, rfl⟩ := Soft.BW.mk hb_; clear hb_) | (go_at_call 79; (with_reducible refine (CLI.out _).mono ?_); rintro e w_ ⟨rfl, hb_⟩; obtain ⟨y2, rfl⟩ := Soft.BW.mk hb_; clear hb_))
            rw [HV.out]
            refine bodyPost_ret (v := .tuple #[.agg #[.int .i64 (zeroF).hold, .int .i64 (zeroF).state, .int .i64 ((zeroF).ull).lo, .int .i64 ((zeroF).ull).hi, .int .i64 ((zeroF).den).lo, .int .i64 ((zeroF).den).hi], .int .i64 22]) (by simp [results, Tryz.results25, go_sem, zeroF]) rfl ?_
            refine ⟨rfl, ?_⟩
            (repeat (first | with_reducible exact bel_refl _ | with_reducible refine bel_alloc ?_ _ | with_reducible refine bel_bw _ ?_ | with_reducible refine bel_drew ?_ | with_reducible refine bel_drewN _ ?_ | ((with_reducible refine bel_set ?_ ?_ _); rotate_left; focus (first | (simp; done) | omega | (simp; omega))) | refine bel_step ?_ (by with_reducible assumption)))
        · have d4 : (f.state == 4) = false := beq_eq_false_iff_ne.2 (fun e => c45 (.inl e))
          have d5 : (f.state == 5) = false := beq_eq_false_iff_ne.2 (fun e => c45 (.inr e))
          by_cases c12 : f.state = 1 ∨ f.state = 2
          · have HV := Lib.hid (show pourE h f m d = (zeroF, 24) by unfold pourE; rw [if_neg (by omega), if_neg (by omega), if_neg cl, if_neg c45, if_pos c12])
            have HF := Lib.hid (show true = decide (1 ≤ f.state ∧ f.state ≤ 2) from (decide_eq_true (by omega)).symm)
            clear cf h0 h1 cm m0 m1 hst hL hid c45 c12
            generalize litS m d = L at *
            go_enter Tryz.func25, Tryz.ntmps25
            go_wp2_with (first | (go_at_call 22; (with_reducible refine (CCF.out _ (by with_reducible repeat (first | exact hh | refine Ho.At.alloc ?_ _ | refine Ho.At.bw ?_ _ | refine Tk.At.alloc ?_ _ | refine Tk.At.bw ?_ _))).mono ?_); rintro e w_ ⟨rfl, hb_⟩; obtain ⟨y1, rfl⟩ := Soft.BW.mk hb_; clear hb_) | (go_at_call 79; (with_reducible refine (CLI.out _).mono ?_); rintro e w_ ⟨rfl, hb_⟩; obtain ⟨y2, rfl⟩ := Soft.BW.mk hb_; clear hb_) | (go_at_call 68; (with_reducible refine (R2_Filled f.state _ _ HF.out).mono ?_); rintro e w_ ⟨rfl, hw_⟩; subst w_))
            rw [HV.out]
            refine bodyPost_ret (v := .tuple #[.agg #[.int .i64 (zeroF).hold, .int .i64 (zeroF).state, .int .i64 ((zeroF).ull).lo, .int .i64 ((zeroF).ull).hi, .int .i64 ((zeroF).den).lo, .int .i64 ((zeroF).den).hi], .int .i64 24]) (by simp [results, Tryz.results25, go_sem, zeroF]) rfl ?_
            refine ⟨rfl, ?_⟩
            (repeat (first | with_reducible exact bel_refl _ | with_reducible refine bel_alloc ?_ _ | with_reducible refine bel_bw _ ?_ | with_reducible refine bel_drew ?_ | with_reducible refine bel_drewN _ ?_ | ((with_reducible refine bel_set ?_ ?_ _); rotate_left; focus (first | (simp; done) | omega | (simp; omega))) | refine bel_step ?_ (by with_reducible assumption)))
          · have HF := Lib.hid (show false = decide (1 ≤ f.state ∧ f.state ≤ 2) from (decide_eq_false (by omega)).symm)
            have CVO := Lib.hid (fun W hW => R2_volume h f W hW h0 h1)
            have CI : Hid (∀ W, h.vol.At W → Calls Tryz.prog 80 #[.agg #[.slice (h.vol).p (h.vol).n (h.vol).c], .agg #[.int .i64 ((volS h f).lo + (litS m d).lo), .int .i64 ((volS h f).hi + (litS m d).hi)], .bool true] W fun e w' => e = .returned (.tuple #[.agg #[.int .i64 ((pourU h f m d).1).lo, .int .i64 ((pourU h f m d).1).hi], .bool (pourU h f m d).2]) ∧ Below W.heap.size W w') := Lib.hid (fun W hW => R2_Inverse_down h.vol (pourV h f m d) W hW h0.tabs.1 (ways_down h0.tabs.1 h0.mv _))
            have hA := volS_in h0 f
            obtain ⟨a1, a2, a3⟩ := hA
            obtain ⟨b1, b2, b3, b4⟩ := lit_in m0 m1
            cases hu : (pourU h f m d).2
            · have HV := Lib.hid (show pourE h f m d = (zeroF, 24) by unfold pourE; rw [if_neg (by omega), if_neg (by omega), if_neg cl, if_neg c45, if_neg c12, if_pos (.inl hu)])
              rw [hu] at CI
              clear cf h0 h1 cm m0 m1 hst hL hid c45 c12 hu
              generalize litS m d = L at *
              generalize volS h f = V at *
              generalize (pourU h f m d).1 = U at *
              go_enter Tryz.func25, Tryz.ntmps25
              go_wp2_with (first | (go_at_call 22; (with_reducible refine (CCF.out _ (by with_reducible repeat (first | exact hh | refine Ho.At.alloc ?_ _ | refine Ho.At.bw ?_ _ | refine Tk.At.alloc ?_ _ | refine Tk.At.bw ?_ _))).mono ?_); rintro e w_ ⟨rfl, hb_⟩; obtain ⟨y1, rfl⟩ := Soft.BW.mk hb_; clear hb_) | (go_at_call 79; (with_reducible refine (CLI.out _).mono ?_); rintro e w_ ⟨rfl, hb_⟩; obtain ⟨y2, rfl⟩ := Soft.BW.mk hb_; clear hb_) | (go_at_call 68; (with_reducible refine (R2_Filled f.state _ _ HF.out).mono ?_); rintro e w_ ⟨rfl, hw_⟩; subst w_) | (go_at_call 45; (with_reducible refine (CVO.out _ (by with_reducible repeat (first | exact hh | refine Ho.At.alloc ?_ _ | refine Ho.At.bw ?_ _ | refine Tk.At.alloc ?_ _ | refine Tk.At.bw ?_ _))).mono ?_); rintro e w_ ⟨rfl, hb_⟩; obtain ⟨y3, rfl⟩ := Soft.BW.mk hb_; clear hb_) | (go_at_call 80; (with_reducible refine (CI.out _ (by repeat (first | exact hv | refine Tb.At.alloc ?_ _ | refine Tb.At.bw ?_ _))).mono ?_); rintro e w_ ⟨rfl, hb_⟩; obtain ⟨y4, rfl⟩ := Soft.BW.mk hb_; clear hb_))
              rw [HV.out]
              refine bodyPost_ret (v := .tuple #[.agg #[.int .i64 (zeroF).hold, .int .i64 (zeroF).state, .int .i64 ((zeroF).ull).lo, .int .i64 ((zeroF).ull).hi, .int .i64 ((zeroF).den).lo, .int .i64 ((zeroF).den).hi], .int .i64 24]) (by simp [results, Tryz.results25, go_sem, zeroF]) rfl ?_
              refine ⟨rfl, ?_⟩
              (repeat (first | with_reducible exact bel_refl _ | with_reducible refine bel_alloc ?_ _ | with_reducible refine bel_bw _ ?_ | with_reducible refine bel_drew ?_ | with_reducible refine bel_drewN _ ?_ | ((with_reducible refine bel_set ?_ ?_ _); rotate_left; focus (first | (simp; done) | omega | (simp; omega))) | refine bel_step ?_ (by with_reducible assumption)))
            · rw [hu] at CI
              by_cases c3 : f.state = 3
              · have d3 : (f.state == 3) = true := by rw [c3]; rfl
                by_cases hq : f.ull.hi < (pourU h f m d).1.lo
                · have HV := Lib.hid (show pourE h f m d = (zeroF, 24) by unfold pourE; rw [if_neg (by omega), if_neg (by omega), if_neg cl, if_neg c45, if_neg c12, if_pos (.inr ⟨c3, hq⟩)])
                  clear cf h0 h1 cm m0 m1 hst hL hid c45 c12 hu c3
                  generalize litS m d = L at *
                  generalize volS h f = V at *
                  generalize (pourU h f m d).1 = U at *
                  go_enter Tryz.func25, Tryz.ntmps25
                  go_wp2_with (first | (go_at_call 22; (with_reducible refine (CCF.out _ (by with_reducible repeat (first | exact hh | refine Ho.At.alloc ?_ _ | refine Ho.At.bw ?_ _ | refine Tk.At.alloc ?_ _ | refine Tk.At.bw ?_ _))).mono ?_); rintro e w_ ⟨rfl, hb_⟩; obtain ⟨y1, rfl⟩ := Soft.BW.mk hb_; clear hb_) | (go_at_call 79; (with_reducible refine (CLI.out _).mono ?_); rintro e w_ ⟨rfl, hb_⟩; obtain ⟨y2, rfl⟩ := Soft.BW.mk hb_; clear hb_) | (go_at_call 68; (with_reducible refine (R2_Filled f.state _ _ HF.out).mono ?_); rintro e w_ ⟨rfl, hw_⟩; subst w_) | (go_at_call 45; (with_reducible refine (CVO.out _ (by with_reducible repeat (first | exact hh | refine Ho.At.alloc ?_ _ | refine Ho.At.bw ?_ _ | refine Tk.At.alloc ?_ _ | refine Tk.At.bw ?_ _))).mono ?_); rintro e w_ ⟨rfl, hb_⟩; obtain ⟨y3, rfl⟩ := Soft.BW.mk hb_; clear hb_) | (go_at_call 80; (with_reducible refine (CI.out _ (by repeat (first | exact hv | refine Tb.At.alloc ?_ _ | refine Tb.At.bw ?_ _))).mono ?_); rintro e w_ ⟨rfl, hb_⟩; obtain ⟨y4, rfl⟩ := Soft.BW.mk hb_; clear hb_))
                  rw [HV.out]
                  refine bodyPost_ret (v := .tuple #[.agg #[.int .i64 (zeroF).hold, .int .i64 (zeroF).state, .int .i64 ((zeroF).ull).lo, .int .i64 ((zeroF).ull).hi, .int .i64 ((zeroF).den).lo, .int .i64 ((zeroF).den).hi], .int .i64 24]) (by simp [results, Tryz.results25, go_sem, zeroF]) rfl ?_
                  refine ⟨rfl, ?_⟩
                  (repeat (first | with_reducible exact bel_refl _ | with_reducible refine bel_alloc ?_ _ | with_reducible refine bel_bw _ ?_ | with_reducible refine bel_drew ?_ | with_reducible refine bel_drewN _ ?_ | ((with_reducible refine bel_set ?_ ?_ _); rotate_left; focus (first | (simp; done) | omega | (simp; omega))) | refine bel_step ?_ (by with_reducible assumption)))
                · have HV0 := Lib.hid (show pourE h f m d = (⟨h.id, 3, ⟨(pourU h f m d).1.lo, min (pourU h f m d).1.hi f.ull.hi⟩, hullS d f.den⟩, 0) by unfold pourE; rw [if_neg (by omega), if_neg (by omega), if_neg cl, if_neg c45, if_neg c12, if_neg (by rintro (h | ⟨_, h⟩); rw [hu] at h; cases h; exact hq h), if_pos c3, hid])
                  have CH := Lib.hid (fun W => R2_hull d f.den W)
                  rw [HV0.out]
                  clear cf h0 h1 cm m0 m1 hst hL hid c45 c12 hu c3 HV0
                  generalize litS m d = L at *
                  generalize volS h f = V at *
                  generalize (pourU h f m d).1 = U at *
                  generalize hullS d f.den = HU at *
                  obtain ⟨MN, hMN⟩ : ∃ z, z = min U.hi f.ull.hi := ⟨_, rfl⟩
                  rw [← hMN]
                  have HMN := Lib.hid hMN
                  clear hMN
                  rcases Int.lt_or_le f.ull.hi U.hi with e0 | e0
                  · have EM := Lib.hid (show MN = f.ull.hi by have := HMN.out; omega)
                    go_enter Tryz.func25, Tryz.ntmps25
                    go_wp2_with (first | (go_at_call 22; (with_reducible refine (CCF.out _ (by with_reducible repeat (first | exact hh | refine Ho.At.alloc ?_ _ | refine Ho.At.bw ?_ _ | refine Tk.At.alloc ?_ _ | refine Tk.At.bw ?_ _))).mono ?_); rintro e w_ ⟨rfl, hb_⟩; obtain ⟨y1, rfl⟩ := Soft.BW.mk hb_; clear hb_) | (go_at_call 79; (with_reducible refine (CLI.out _).mono ?_); rintro e w_ ⟨rfl, hb_⟩; obtain ⟨y2, rfl⟩ := Soft.BW.mk hb_; clear hb_) | (go_at_call 68; (with_reducible refine (R2_Filled f.state _ _ HF.out).mono ?_); rintro e w_ ⟨rfl, hw_⟩; subst w_) | (go_at_call 45; (with_reducible refine (CVO.out _ (by with_reducible repeat (first | exact hh | refine Ho.At.alloc ?_ _ | refine Ho.At.bw ?_ _ | refine Tk.At.alloc ?_ _ | refine Tk.At.bw ?_ _))).mono ?_); rintro e w_ ⟨rfl, hb_⟩; obtain ⟨y3, rfl⟩ := Soft.BW.mk hb_; clear hb_) | ((go_at_call 80; (with_reducible refine (CI.out _ (by repeat (first | exact hv | refine Tb.At.alloc ?_ _ | refine Tb.At.bw ?_ _))).mono ?_); rintro e w_ ⟨rfl, hb_⟩; obtain ⟨y4, rfl⟩ := Soft.BW.mk hb_; clear hb_); have e21 : ((y4.w.alloc (.cells #[.int .i64 U.lo, .int .i64 U.hi] 23)).alloc (.cells #[.int .i64 h.id, .int .i64 3, .int .i64 U.lo, .int .i64 U.hi, .int .i64 d.lo, .int .i64 d.hi] 30)).setCell ⟨y4.w.heap.size + 1, 3, none⟩ (.int .i64 f.ull.hi) = (y4.w.alloc (.cells #[.int .i64 U.lo, .int .i64 U.hi] 23)).alloc (.cells #[.int .i64 h.id, .int .i64 3, .int .i64 U.lo, .int .i64 f.ull.hi, .int .i64 d.lo, .int .i64 d.hi] 30) := setTop _ _ _ _ _ _ (by simp)) | ((go_at_call 81; (with_reducible refine (CH.out _).mono ?_); rintro e w_ ⟨rfl, hb_⟩; obtain ⟨y5, rfl⟩ := Soft.BW.mk hb_; clear hb_); obtain ⟨q1, eq1, es1⟩ : ∃ x' : Soft.BW ((y4.w.alloc (.cells #[.int .i64 U.lo, .int .i64 U.hi] 23)).alloc (.cells #[.int .i64 h.id, .int .i64 3, .int .i64 U.lo, .int .i64 f.ull.hi, .int .i64 HU.lo, .int .i64 d.hi] 30)), y5.w.setCell ⟨y4.w.heap.size + 1, 4, none⟩ (.int .i64 HU.lo) = x'.w ∧ x'.w.heap.size = y5.w.heap.size := bwPut y5 4 (.int .i64 HU.lo) _ (by simp); obtain ⟨q2, eq2, es2⟩ : ∃ x' : Soft.BW ((y4.w.alloc (.cells #[.int .i64 U.lo, .int .i64 U.hi] 23)).alloc (.cells #[.int .i64 h.id, .int .i64 3, .int .i64 U.lo, .int .i64 f.ull.hi, .int .i64 HU.lo, .int .i64 HU.hi] 30)), q1.w.setCell ⟨y4.w.heap.size + 1, 5, none⟩ (.int .i64 HU.hi) = x'.w ∧ x'.w.heap.size = q1.w.heap.size := bwPut q1 5 (.int .i64 HU.hi) _ (by simp); clear es1 es2))
                    rw [EM.out]
                    refine bodyPost_ret (v := .tuple #[.agg #[.int .i64 h.id, .int .i64 3, .int .i64 U.lo, .int .i64 f.ull.hi, .int .i64 HU.lo, .int .i64 HU.hi], .int .i64 0]) (by simp [results, Tryz.results25, go_sem]) rfl ?_
                    refine ⟨rfl, ?_⟩
                    (repeat (first | with_reducible exact bel_refl _ | with_reducible refine bel_alloc ?_ _ | with_reducible refine bel_bw _ ?_ | with_reducible refine bel_drew ?_ | with_reducible refine bel_drewN _ ?_ | ((with_reducible refine bel_set ?_ ?_ _); rotate_left; focus (first | (simp; done) | omega | (simp; omega))) | refine bel_step ?_ (by with_reducible assumption)))
                  · have EM := Lib.hid (show MN = U.hi by have := HMN.out; omega)
                    go_enter Tryz.func25, Tryz.ntmps25
                    go_wp2_with (first | (go_at_call 22; (with_reducible refine (CCF.out _ (by with_reducible repeat (first | exact hh | refine Ho.At.alloc ?_ _ | refine Ho.At.bw ?_ _ | refine Tk.At.alloc ?_ _ | refine Tk.At.bw ?_ _))).mono ?_); rintro e w_ ⟨rfl, hb_⟩; obtain ⟨y1, rfl⟩ := Soft.BW.mk hb_; clear hb_) | (go_at_call 79; (with_reducible refine (CLI.out _).mono ?_); rintro e w_ ⟨rfl, hb_⟩; obtain ⟨y2, rfl⟩ := Soft.BW.mk hb_; clear hb_) | (go_at_call 68; (with_reducible refine (R2_Filled f.state _ _ HF.out).mono ?_); rintro e w_ ⟨rfl, hw_⟩; subst w_) | (go_at_call 45; (with_reducible refine (CVO.out _ (by with_reducible repeat (first | exact hh | refine Ho.At.alloc ?_ _ | refine Ho.At.bw ?_ _ | refine Tk.At.alloc ?_ _ | refine Tk.At.bw ?_ _))).mono ?_); rintro e w_ ⟨rfl, hb_⟩; obtain ⟨y3, rfl⟩ := Soft.BW.mk hb_; clear hb_) | ((go_at_call 80; (with_reducible refine (CI.out _ (by repeat (first | exact hv | refine Tb.At.alloc ?_ _ | refine Tb.At.bw ?_ _))).mono ?_); rintro e w_ ⟨rfl, hb_⟩; obtain ⟨y4, rfl⟩ := Soft.BW.mk hb_; clear hb_); have e21 : ((y4.w.alloc (.cells #[.int .i64 U.lo, .int .i64 U.hi] 23)).alloc (.cells #[.int .i64 h.id, .int .i64 3, .int .i64 U.lo, .int .i64 U.hi, .int .i64 d.lo, .int .i64 d.hi] 30)).setCell ⟨y4.w.heap.size + 1, 3, none⟩ (.int .i64 U.hi) = (y4.w.alloc (.cells #[.int .i64 U.lo, .int .i64 U.hi] 23)).alloc (.cells #[.int .i64 h.id, .int .i64 3, .int .i64 U.lo, .int .i64 U.hi, .int .i64 d.lo, .int .i64 d.hi] 30) := setTop _ _ _ _ _ _ (by simp)) | ((go_at_call 81; (with_reducible refine (CH.out _).mono ?_); rintro e w_ ⟨rfl, hb_⟩; obtain ⟨y5, rfl⟩ := Soft.BW.mk hb_; clear hb_); obtain ⟨q1, eq1, es1⟩ : ∃ x' : Soft.BW ((y4.w.alloc (.cells #[.int .i64 U.lo, .int .i64 U.hi] 23)).alloc (.cells #[.int .i64 h.id, .int .i64 3, .int .i64 U.lo, .int .i64 U.hi, .int .i64 HU.lo, .int .i64 d.hi] 30)), y5.w.setCell ⟨y4.w.heap.size + 1, 4, none⟩ (.int .i64 HU.lo) = x'.w ∧ x'.w.heap.size = y5.w.heap.size := bwPut y5 4 (.int .i64 HU.lo) _ (by simp); obtain ⟨q2, eq2, es2⟩ : ∃ x' : Soft.BW ((y4.w.alloc (.cells #[.int .i64 U.lo, .int .i64 U.hi] 23)).alloc (.cells #[.int .i64 h.id, .int .i64 3, .int .i64 U.lo, .int .i64 U.hi, .int .i64 HU.lo, .int .i64 HU.hi] 30)), q1.w.setCell ⟨y4.w.heap.size + 1, 5, none⟩ (.int .i64 HU.hi) = x'.w ∧ x'.w.heap.size = q1.w.heap.size := bwPut q1 5 (.int .i64 HU.hi) _ (by simp); clear es1 es2))
                    rw [EM.out]
                    refine bodyPost_ret (v := .tuple #[.agg #[.int .i64 h.id, .int .i64 3, .int .i64 U.lo, .int .i64 U.hi, .int .i64 HU.lo, .int .i64 HU.hi], .int .i64 0]) (by simp [results, Tryz.results25, go_sem]) rfl ?_
                    refine ⟨rfl, ?_⟩
                    (repeat (first | with_reducible exact bel_refl _ | with_reducible refine bel_alloc ?_ _ | with_reducible refine bel_bw _ ?_ | with_reducible refine bel_drew ?_ | with_reducible refine bel_drewN _ ?_ | ((with_reducible refine bel_set ?_ ?_ _); rotate_left; focus (first | (simp; done) | omega | (simp; omega))) | refine bel_step ?_ (by with_reducible assumption)))
              · have d3 : (f.state == 3) = false := beq_eq_false_iff_ne.2 c3
                have HV := Lib.hid (show pourE h f m d = (⟨h.id, 3, (pourU h f m d).1, d⟩, 0) by unfold pourE; rw [if_neg (by omega), if_neg (by omega), if_neg cl, if_neg c45, if_neg c12, if_neg (by rintro (h | ⟨h, _⟩); rw [hu] at h; cases h; exact c3 h), if_neg c3, hid])
                rw [HV.out]
                clear cf h0 h1 cm m0 m1 hst hL hid c45 c12 hu c3 HV
                generalize litS m d = L at *
                generalize volS h f = V at *
                generalize (pourU h f m d).1 = U at *
                go_enter Tryz.func25, Tryz.ntmps25
                go_wp2_with (first | (go_at_call 22; (with_reducible refine (CCF.out _ (by with_reducible repeat (first | exact hh | refine Ho.At.alloc ?_ _ | refine Ho.At.bw ?_ _ | refine Tk.At.alloc ?_ _ | refine Tk.At.bw ?_ _))).mono ?_); rintro e w_ ⟨rfl, hb_⟩; obtain ⟨y1, rfl⟩ := Soft.BW.mk hb_; clear hb_) | (go_at_call 79; (with_reducible refine (CLI.out _).mono ?_); rintro e w_ ⟨rfl, hb_⟩; obtain ⟨y2, rfl⟩ := Soft.BW.mk hb_; clear hb_) | (go_at_call 68; (with_reducible refine (R2_Filled f.state _ _ HF.out).mono ?_); rintro e w_ ⟨rfl, hw_⟩; subst w_) | (go_at_call 45; (with_reducible refine (CVO.out _ (by with_reducible repeat (first | exact hh | refine Ho.At.alloc ?_ _ | refine Ho.At.bw ?_ _ | refine Tk.At.alloc ?_ _ | refine Tk.At.bw ?_ _))).mono ?_); rintro e w_ ⟨rfl, hb_⟩; obtain ⟨y3, rfl⟩ := Soft.BW.mk hb_; clear hb_) | (go_at_call 80; (with_reducible refine (CI.out _ (by repeat (first | exact hv | refine Tb.At.alloc ?_ _ | refine Tb.At.bw ?_ _))).mono ?_); rintro e w_ ⟨rfl, hb_⟩; obtain ⟨y4, rfl⟩ := Soft.BW.mk hb_; clear hb_))
                refine bodyPost_ret (v := .tuple #[.agg #[.int .i64 h.id, .int .i64 3, .int .i64 U.lo, .int .i64 U.hi, .int .i64 d.lo, .int .i64 d.hi], .int .i64 0]) (by simp [results, Tryz.results25, go_sem]) rfl ?_
                refine ⟨rfl, ?_⟩
                (repeat (first | with_reducible exact bel_refl _ | with_reducible refine bel_alloc ?_ _ | with_reducible refine bel_bw _ ?_ | with_reducible refine bel_drew ?_ | with_reducible refine bel_drewN _ ?_ | ((with_reducible refine bel_set ?_ ?_ _); rotate_left; focus (first | (simp; done) | omega | (simp; omega))) | refine bel_step ?_ (by with_reducible assumption)))
    · have HV := Lib.hid (show pourE h f m d = (zeroF, massErr m d) by unfold pourE; rw [if_neg (by omega), if_pos cm])
      have dM : (massErr m d != 0) = true := bne_iff_ne.2 cm
      clear cf h0 h1 cm
      generalize massErr m d = E at *
      generalize litE m d = L at *
      go_enter Tryz.func25, Tryz.ntmps25
      go_wp2_with (first | (go_at_call 22; (with_reducible refine (CCF.out _ (by with_reducible repeat (first | exact hh | refine Ho.At.alloc ?_ _ | refine Ho.At.bw ?_ _ | refine Tk.At.alloc ?_ _ | refine Tk.At.bw ?_ _))).mono ?_); rintro e w_ ⟨rfl, hb_⟩; obtain ⟨y1, rfl⟩ := Soft.BW.mk hb_; clear hb_) | (go_at_call 79; (with_reducible refine (CLI.out _).mono ?_); rintro e w_ ⟨rfl, hb_⟩; obtain ⟨y2, rfl⟩ := Soft.BW.mk hb_; clear hb_))
      rw [HV.out]
      refine bodyPost_ret (v := .tuple #[.agg #[.int .i64 (zeroF).hold, .int .i64 (zeroF).state, .int .i64 ((zeroF).ull).lo, .int .i64 ((zeroF).ull).hi, .int .i64 ((zeroF).den).lo, .int .i64 ((zeroF).den).hi], .int .i64 E]) (by simp [results, Tryz.results25, go_sem, zeroF]) rfl ?_
      refine ⟨rfl, ?_⟩
      (repeat (first | with_reducible exact bel_refl _ | with_reducible refine bel_alloc ?_ _ | with_reducible refine bel_bw _ ?_ | with_reducible refine bel_drew ?_ | with_reducible refine bel_drewN _ ?_ | ((with_reducible refine bel_set ?_ ?_ _); rotate_left; focus (first | (simp; done) | omega | (simp; omega))) | refine bel_step ?_ (by with_reducible assumption)))
  · have HV := Lib.hid (show pourE h f m d = (zeroF, fillErr h f) by unfold pourE; rw [if_pos cf])
    have dF : (fillErr h f != 0) = true := bne_iff_ne.2 cf
    clear cf
    generalize fillErr h f = E at *
    go_enter Tryz.func25, Tryz.ntmps25
    go_wp2_with (first | (go_at_call 22; (with_reducible refine (CCF.out _ (by with_reducible repeat (first | exact hh | refine Ho.At.alloc ?_ _ | refine Ho.At.bw ?_ _ | refine Tk.At.alloc ?_ _ | refine Tk.At.bw ?_ _))).mono ?_); rintro e w_ ⟨rfl, hb_⟩; obtain ⟨y1, rfl⟩ := Soft.BW.mk hb_; clear hb_))
    rw [HV.out]
    refine bodyPost_ret (v := .tuple #[.agg #[.int .i64 (zeroF).hold, .int .i64 (zeroF).state, .int .i64 ((zeroF).ull).lo, .int .i64 ((zeroF).ull).hi, .int .i64 ((zeroF).den).lo, .int .i64 ((zeroF).den).hi], .int .i64 E]) (by simp [results, Tryz.results25, go_sem, zeroF]) rfl ?_
    refine ⟨rfl, ?_⟩
    (repeat (first | with_reducible exact bel_refl _ | with_reducible refine bel_alloc ?_ _ | with_reducible refine bel_bw _ ?_ | with_reducible refine bel_drew ?_ | with_reducible refine bel_drewN _ ?_ | ((with_reducible refine bel_set ?_ ?_ _); rotate_left; focus (first | (simp; done) | omega | (simp; omega))) | refine bel_step ?_ (by with_reducible assumption)))

end Go.Proofs.YtbjdgaeikihjbaaGreat
