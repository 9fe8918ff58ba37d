/-
  hold: Draw.
  Conditions: each theorem's own premises.
-/
import Derived.Test.YtbjdgaeikihjbaaGreatDraw
import Derived.Test.YtbjdgaeikihjbaaGreatDrax
import Derived.Test.YtbjdgaeikihjbaaGreatDraz
namespace Go.Proofs.YtbjdgaeikihjbaaGreat
set_option linter.unusedSimpArgs false
set_option linter.unusedVariables false
open Go.RowKit
set_option maxRecDepth 100000
set_option maxHeartbeats 4000000
attribute [local go_sem] Instr.field asAgg Soft.upon Soft.BW.cell_if Soft.BW.frozen_if Soft.cell_alloc_if Soft.frozen_alloc_if

theorem fill_den {h : Ho} {f : Fi} (h1 : FillIn h f) (hs : 1 ≤ f.state) : isDen f.den := by
  obtain ⟨_, ⟨e, _⟩ | ⟨_, _, hd⟩ | ⟨_, _, hd⟩⟩ := h1
  · omega
  · exact hd
  · exact hd

theorem hold_Draw (h : Ho) (f : Fi) (m : Rg) (w : World) (hh : h.At w) :
    Calls Tryz.prog 26 #[.agg #[.int .i64 (h).id, .int .i64 ((h).along).lo, .int .i64 ((h).along).hi, .slice ((h).vol).p ((h).vol).n ((h).vol).c, .slice ((h).mom).p ((h).mom).n ((h).mom).c, .slice ((h).hei).p ((h).hei).n ((h).hei).c, .int .i64 ((h).tri).lo, .int .i64 ((h).tri).hi, .int .i64 ((h).unt).lo, .int .i64 ((h).unt).hi, .int .i64 ((h).v0).lo, .int .i64 ((h).v0).hi, .int .i64 ((h).h0).lo, .int .i64 ((h).h0).hi], .agg #[.int .i64 (f).hold, .int .i64 (f).state, .int .i64 ((f).ull).lo, .int .i64 ((f).ull).hi, .int .i64 ((f).den).lo, .int .i64 ((f).den).hi], .agg #[.int .i64 (m).lo, .int .i64 (m).hi]] w fun e w' => e = .returned (.tuple #[.agg #[.int .i64 ((drawE h f m).1).hold, .int .i64 ((drawE h f m).1).state, .int .i64 (((drawE h f m).1).ull).lo, .int .i64 (((drawE h f m).1).ull).hi, .int .i64 (((drawE h f m).1).den).lo, .int .i64 (((drawE h f m).1).den).hi], .int .i64 (drawE h f m).2]) ∧ Below w.heap.size w w' := by
  have hv := hh.1
  have hvb : HoldOk h → ∀ b o, h.vol.p = some ⟨b, o, none⟩ → b < w.heap.size := fun h0 b o e => by
    have hn : 1 ≤ h.vol.n := by rw [← hv.1]; exact h0.tabs.1.ok.pos
    obtain ⟨_, _, _, _, h5⟩ := hv
    obtain ⟨b', o', e', hl, _⟩ := h5 (by omega)
    rw [e] at e'
    cases e'
    exact hl
  by_cases cf : fillErr h f = 0
  · obtain ⟨h0, h1⟩ := fill_ok cf
    have hvb := hvb h0
    by_cases cm : rangeErr m = 0
    · have hst := state_in h1
      by_cases cl : m.lo < 0
      · have dF : (fillErr h f != 0) = false := by rw [cf]; rfl
        have dM : (rangeErr m != 0) = false := by rw [cm]; rfl
        have HV := Lib.hid (show drawE h f m = (zeroF, 1) by unfold drawE; rw [if_neg (by omega), if_neg (by omega), if_pos cl])
        obtain ⟨k, fl, fr, mm, hs⟩ : ∃ k fl fr, ∃ mm : FuncId, stIs f.state k fl fr (.func (.func mm) #[] #[]) := by
          rcases st_class f.state with ⟨_, mm, hs⟩ | ⟨_, mm, hs⟩ | ⟨_, mm, hs⟩ | ⟨hc, hs⟩
          · exact ⟨_, _, _, mm, hs⟩
          · exact ⟨_, _, _, mm, hs⟩
          · exact ⟨_, _, _, mm, hs⟩
          · exact absurd hst hc
        have HS := Lib.hid hs
        clear cf h0 h1 cm hst hs hvb
        go_enter Tryz.func26, Tryz.ntmps26
        go_wp2_with (first | (go_at_call 21; (with_reducible refine (hold_CheckFill h f _ (by with_reducible repeat (first | exact hh | refine Ho.At.alloc ?_ _ | refine Ho.At.bw ?_ _ | refine Tk.At.alloc ?_ _ | refine Tk.At.bw ?_ _))).mono ?_); rintro e w_ ⟨rfl, hb_⟩; obtain ⟨y1, rfl⟩ := Soft.BW.mk hb_; clear hb_) | (go_at_call 82; (with_reducible refine (fix_CheckRange m _).mono ?_); rintro e w_ ⟨rfl, hb_⟩; obtain ⟨y2, rfl⟩ := Soft.BW.mk hb_; clear hb_) | (go_at_call 65; (with_reducible refine (hold_stateOf f.state _ _ _ _ _ HS.out).mono ?_); rintro e w_ ⟨rfl, hb_⟩; obtain ⟨y3, rfl⟩ := Soft.BW.mk hb_; clear hb_))
        all_goals
          rw [HV.out]
          refine bodyPost_ret (v := .tuple #[.agg #[.int .i64 (zeroF).hold, .int .i64 (zeroF).state, .int .i64 ((zeroF).ull).lo, .int .i64 ((zeroF).ull).hi, .int .i64 ((zeroF).den).lo, .int .i64 ((zeroF).den).hi], .int .i64 1]) (by simp [results, Tryz.results26, go_sem, zeroF]) rfl ?_
          refine ⟨rfl, ?_⟩
          (repeat (first | with_reducible exact bel_refl _ | with_reducible refine bel_alloc ?_ _ | with_reducible refine bel_bw _ ?_ | with_reducible refine bel_drew ?_ | with_reducible refine bel_drewN _ ?_ | ((with_reducible refine bel_set ?_ ?_ _); rotate_left; focus (first | (simp; done) | omega | (simp; omega))) | refine bel_step ?_ (by with_reducible assumption)))
      · by_cases c13 : 1 ≤ f.state ∧ f.state ≤ 3
        · have hb := fill_den h1 c13.1
          have hB := lit_in cm hb
          have hA := volS_in h0 f
          have a1 := hA.a
          have a2 := hA.b
          have a3 := hA.c
          have b1 : 0 ≤ (volS h f).lo ∧ (volS h f).lo ≤ 1000000000 ∧ 0 ≤ (volS h f).hi ∧ (volS h f).hi ≤ 1000000000 := ⟨by omega, by omega, by omega, by omega⟩
          have gV := fun W hW => hold_volume h f W hW
          have gL := fun W => hold_litres m f.den W cm hb
          have gI := fun W hW => hold_inverse_hold h (drawV h f m) W hW h0
          have ev : drawV h f m = ⟨max ((volS h f).lo - (litS m f.den).hi) 0, (volS h f).hi - (litS m f.den).lo⟩ := rfl
          by_cases c3 : f.state = 3
          · obtain ⟨mm, hs⟩ : ∃ mm : FuncId, stIs f.state true false true (.func (.func mm) #[] #[]) := ⟨_, .inr (.inr (.inr (.inl ⟨c3, rfl, rfl, rfl, rfl⟩)))⟩
            by_cases cn : (volS h f).hi - (litS m f.den).lo < 0
            · have e : drawE h f m = (zeroF, 24) := by unfold drawE; rw [if_neg (by omega), if_neg (by omega), if_neg cl, if_neg (by omega), if_pos (by rw [ev]; exact cn)]
              rw [e]
              exact draw_neg3 h f m (volS h f) (litS m f.den) (drawU h f m) w hh cf cm cl hvb b1 hB gV gL gI true mm hs c3 cn
            · by_cases lo0 : (volS h f).lo - (litS m f.den).hi < 0
              · cases hu : (drawU h f m).2
                · have e : drawE h f m = (zeroF, 24) := by unfold drawE; rw [if_neg (by omega), if_neg (by omega), if_neg cl, if_neg (by omega), if_neg (by rw [ev]; exact cn), if_pos (.inl hu)]
                  rw [e]
                  exact draw_no3z h f m (volS h f) (litS m f.den) (drawU h f m) w hh cf cm cl hvb b1 hB gV gL gI true mm hs c3 cn lo0 hu
                · by_cases hq : (drawU h f m).1.hi < f.ull.lo
                  · have e : drawE h f m = (zeroF, 24) := by unfold drawE; rw [if_neg (by omega), if_neg (by omega), if_neg cl, if_neg (by omega), if_neg (by rw [ev]; exact cn), if_pos (.inr ⟨c3, hq⟩)]
                    rw [e]
                    exact draw_far3z h f m (volS h f) (litS m f.den) (drawU h f m) w hh cf cm cl hvb b1 hB gV gL gI true mm hs c3 cn lo0 hu hq
                  · have e : drawE h f m = (⟨f.hold, 3, ⟨max (drawU h f m).1.lo f.ull.lo, (drawU h f m).1.hi⟩, f.den⟩, 0) := by unfold drawE; rw [if_neg (by omega), if_neg (by omega), if_neg cl, if_neg (by omega), if_neg (by rw [ev]; exact cn), if_neg (by rintro (h | ⟨_, h⟩); rw [hu] at h; cases h; exact hq h), if_pos c3]
                    rw [e]
                    exact draw_yes3z h f m (volS h f) (litS m f.den) (drawU h f m) w hh cf cm cl hvb b1 hB gV gL gI true mm hs c3 cn lo0 hu hq
              · cases hu : (drawU h f m).2
                · have e : drawE h f m = (zeroF, 24) := by unfold drawE; rw [if_neg (by omega), if_neg (by omega), if_neg cl, if_neg (by omega), if_neg (by rw [ev]; exact cn), if_pos (.inl hu)]
                  rw [e]
                  exact draw_no3p h f m (volS h f) (litS m f.den) (drawU h f m) w hh cf cm cl hvb b1 hB gV gL gI true mm hs c3 cn lo0 hu
                · by_cases hq : (drawU h f m).1.hi < f.ull.lo
                  · have e : drawE h f m = (zeroF, 24) := by unfold drawE; rw [if_neg (by omega), if_neg (by omega), if_neg cl, if_neg (by omega), if_neg (by rw [ev]; exact cn), if_pos (.inr ⟨c3, hq⟩)]
                    rw [e]
                    exact draw_far3p h f m (volS h f) (litS m f.den) (drawU h f m) w hh cf cm cl hvb b1 hB gV gL gI true mm hs c3 cn lo0 hu hq
                  · have e : drawE h f m = (⟨f.hold, 3, ⟨max (drawU h f m).1.lo f.ull.lo, (drawU h f m).1.hi⟩, f.den⟩, 0) := by unfold drawE; rw [if_neg (by omega), if_neg (by omega), if_neg cl, if_neg (by omega), if_neg (by rw [ev]; exact cn), if_neg (by rintro (h | ⟨_, h⟩); rw [hu] at h; cases h; exact hq h), if_pos c3]
                    rw [e]
                    exact draw_yes3p h f m (volS h f) (litS m f.den) (drawU h f m) w hh cf cm cl hvb b1 hB gV gL gI true mm hs c3 cn lo0 hu hq
          · obtain ⟨mm, hs⟩ : ∃ mm : FuncId, stIs f.state true true false (.func (.func mm) #[] #[]) := by
              rcases (show f.state = 1 ∨ f.state = 2 by omega) with c | c
              · exact ⟨_, .inr (.inl ⟨c, rfl, rfl, rfl, rfl⟩)⟩
              · exact ⟨_, .inr (.inr (.inl ⟨c, rfl, rfl, rfl, rfl⟩))⟩
            by_cases cn : (volS h f).hi - (litS m f.den).lo < 0
            · have e : drawE h f m = (zeroF, 24) := by unfold drawE; rw [if_neg (by omega), if_neg (by omega), if_neg cl, if_neg (by omega), if_pos (by rw [ev]; exact cn)]
              rw [e]
              exact draw_neg1 h f m (volS h f) (litS m f.den) (drawU h f m) w hh cf cm cl hvb b1 hB gV gL gI false mm hs c3 cn
            · by_cases lo0 : (volS h f).lo - (litS m f.den).hi < 0
              · cases hu : (drawU h f m).2
                · have e : drawE h f m = (zeroF, 24) := by unfold drawE; rw [if_neg (by omega), if_neg (by omega), if_neg cl, if_neg (by omega), if_neg (by rw [ev]; exact cn), if_pos (.inl hu)]
                  rw [e]
                  exact draw_no1z h f m (volS h f) (litS m f.den) (drawU h f m) w hh cf cm cl hvb b1 hB gV gL gI false mm hs c3 cn lo0 hu
                · have e : drawE h f m = (⟨f.hold, 3, (drawU h f m).1, f.den⟩, 0) := by unfold drawE; rw [if_neg (by omega), if_neg (by omega), if_neg cl, if_neg (by omega), if_neg (by rw [ev]; exact cn), if_neg (by rintro (h | ⟨h, _⟩); rw [hu] at h; cases h; exact c3 h), if_neg c3]
                  rw [e]
                  exact draw_yes1z h f m (volS h f) (litS m f.den) (drawU h f m) w hh cf cm cl hvb b1 hB gV gL gI false mm hs c3 cn lo0 hu
              · cases hu : (drawU h f m).2
                · have e : drawE h f m = (zeroF, 24) := by unfold drawE; rw [if_neg (by omega), if_neg (by omega), if_neg cl, if_neg (by omega), if_neg (by rw [ev]; exact cn), if_pos (.inl hu)]
                  rw [e]
                  exact draw_no1p h f m (volS h f) (litS m f.den) (drawU h f m) w hh cf cm cl hvb b1 hB gV gL gI false mm hs c3 cn lo0 hu
                · have e : drawE h f m = (⟨f.hold, 3, (drawU h f m).1, f.den⟩, 0) := by unfold drawE; rw [if_neg (by omega), if_neg (by omega), if_neg cl, if_neg (by omega), if_neg (by rw [ev]; exact cn), if_neg (by rintro (h | ⟨h, _⟩); rw [hu] at h; cases h; exact c3 h), if_neg c3]
                  rw [e]
                  exact draw_yes1p h f m (volS h f) (litS m f.den) (drawU h f m) w hh cf cm cl hvb b1 hB gV gL gI false mm hs c3 cn lo0 hu
        · have dF : (fillErr h f != 0) = false := by rw [cf]; rfl
          have dM : (rangeErr m != 0) = false := by rw [cm]; rfl
          have HV := Lib.hid (show drawE h f m = (zeroF, 22) by unfold drawE; rw [if_neg (by omega), if_neg (by omega), if_neg cl, if_pos c13])
          have d3 : (f.state != 3) = true := by rw [bne_iff_ne]; omega
          obtain ⟨fr, mm, hs⟩ : ∃ fr, ∃ mm : FuncId, stIs f.state true false fr (.func (.func mm) #[] #[]) := by
            rcases (show f.state = 0 ∨ f.state = 4 ∨ f.state = 5 by omega) with c | c | c
            · exact ⟨_, _, .inl ⟨c, rfl, rfl, rfl, rfl⟩⟩
            · exact ⟨_, _, .inr (.inr (.inr (.inr (.inl ⟨c, rfl, rfl, rfl, rfl⟩))))⟩
            · exact ⟨_, _, .inr (.inr (.inr (.inr (.inr (.inl ⟨c, rfl, rfl, rfl, rfl⟩)))))⟩
          have HS := Lib.hid hs
          clear cf h0 h1 cm hst hs hvb c13
          go_enter Tryz.func26, Tryz.ntmps26
          go_wp2_with (first | (go_at_call 21; (with_reducible refine (hold_CheckFill h f _ (by with_reducible repeat (first | exact hh | refine Ho.At.alloc ?_ _ | refine Ho.At.bw ?_ _ | refine Tk.At.alloc ?_ _ | refine Tk.At.bw ?_ _))).mono ?_); rintro e w_ ⟨rfl, hb_⟩; obtain ⟨y1, rfl⟩ := Soft.BW.mk hb_; clear hb_) | (go_at_call 82; (with_reducible refine (fix_CheckRange m _).mono ?_); rintro e w_ ⟨rfl, hb_⟩; obtain ⟨y2, rfl⟩ := Soft.BW.mk hb_; clear hb_) | (go_at_call 65; (with_reducible refine (hold_stateOf f.state _ _ _ _ _ HS.out).mono ?_); rintro e w_ ⟨rfl, hb_⟩; obtain ⟨y3, rfl⟩ := Soft.BW.mk hb_; clear hb_))
          all_goals
            rw [HV.out]
            refine bodyPost_ret (v := .tuple #[.agg #[.int .i64 (zeroF).hold, .int .i64 (zeroF).state, .int .i64 ((zeroF).ull).lo, .int .i64 ((zeroF).ull).hi, .int .i64 ((zeroF).den).lo, .int .i64 ((zeroF).den).hi], .int .i64 22]) (by simp [results, Tryz.results26, go_sem, zeroF]) rfl ?_
            refine ⟨rfl, ?_⟩
            (repeat (first | with_reducible exact bel_refl _ | with_reducible refine bel_alloc ?_ _ | with_reducible refine bel_bw _ ?_ | with_reducible refine bel_drew ?_ | with_reducible refine bel_drewN _ ?_ | ((with_reducible refine bel_set ?_ ?_ _); rotate_left; focus (first | (simp; done) | omega | (simp; omega))) | refine bel_step ?_ (by with_reducible assumption)))
    · have dF : (fillErr h f != 0) = false := by rw [cf]; rfl
      have HV := Lib.hid (show drawE h f m = (zeroF, rangeErr m) by unfold drawE; rw [if_neg (by omega), if_pos cm])
      have dM : (rangeErr m != 0) = true := bne_iff_ne.2 cm
      clear cf h0 h1 cm hvb
      go_enter Tryz.func26, Tryz.ntmps26
      go_wp2_with (first | (go_at_call 21; (with_reducible refine (hold_CheckFill h f _ (by with_reducible repeat (first | exact hh | refine Ho.At.alloc ?_ _ | refine Ho.At.bw ?_ _ | refine Tk.At.alloc ?_ _ | refine Tk.At.bw ?_ _))).mono ?_); rintro e w_ ⟨rfl, hb_⟩; obtain ⟨y1, rfl⟩ := Soft.BW.mk hb_; clear hb_) | (go_at_call 82; (with_reducible refine (fix_CheckRange m _).mono ?_); rintro e w_ ⟨rfl, hb_⟩; obtain ⟨y2, rfl⟩ := Soft.BW.mk hb_; clear hb_))
      rw [HV.out]
      refine bodyPost_ret (v := .tuple #[.agg #[.int .i64 (zeroF).hold, .int .i64 (zeroF).state, .int .i64 ((zeroF).ull).lo, .int .i64 ((zeroF).ull).hi, .int .i64 ((zeroF).den).lo, .int .i64 ((zeroF).den).hi], .int .i64 (rangeErr m)]) (by simp [results, Tryz.results26, go_sem, zeroF]) rfl ?_
      refine ⟨rfl, ?_⟩
      (repeat (first | with_reducible exact bel_refl _ | with_reducible refine bel_alloc ?_ _ | with_reducible refine bel_bw _ ?_ | with_reducible refine bel_drew ?_ | with_reducible refine bel_drewN _ ?_ | ((with_reducible refine bel_set ?_ ?_ _); rotate_left; focus (first | (simp; done) | omega | (simp; omega))) | refine bel_step ?_ (by with_reducible assumption)))
  · have HV := Lib.hid (show drawE h f m = (zeroF, fillErr h f) by unfold drawE; rw [if_pos cf])
    have dF : (fillErr h f != 0) = true := bne_iff_ne.2 cf
    clear cf hvb
    go_enter Tryz.func26, Tryz.ntmps26
    go_wp2_with (first | (go_at_call 21; (with_reducible refine (hold_CheckFill h f _ (by with_reducible repeat (first | exact hh | refine Ho.At.alloc ?_ _ | refine Ho.At.bw ?_ _ | refine Tk.At.alloc ?_ _ | refine Tk.At.bw ?_ _))).mono ?_); rintro e w_ ⟨rfl, hb_⟩; obtain ⟨y1, rfl⟩ := Soft.BW.mk hb_; clear hb_))
    rw [HV.out]
    refine bodyPost_ret (v := .tuple #[.agg #[.int .i64 (zeroF).hold, .int .i64 (zeroF).state, .int .i64 ((zeroF).ull).lo, .int .i64 ((zeroF).ull).hi, .int .i64 ((zeroF).den).lo, .int .i64 ((zeroF).den).hi], .int .i64 (fillErr h f)]) (by simp [results, Tryz.results26, go_sem, zeroF]) rfl ?_
    refine ⟨rfl, ?_⟩
    (repeat (first | with_reducible exact bel_refl _ | with_reducible refine bel_alloc ?_ _ | with_reducible refine bel_bw _ ?_ | with_reducible refine bel_drew ?_ | with_reducible refine bel_drewN _ ?_ | ((with_reducible refine bel_set ?_ ?_ _); rotate_left; focus (first | (simp; done) | omega | (simp; omega))) | refine bel_step ?_ (by with_reducible assumption)))

end Go.Proofs.YtbjdgaeikihjbaaGreat
