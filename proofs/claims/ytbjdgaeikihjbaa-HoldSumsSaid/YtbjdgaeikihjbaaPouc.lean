/-
  hold: Pour.
  Conditions: each theorem's own premises.
-/
import Derived.Test.YtbjdgaeikihjbaaPoub
import Derived.Test.YtbjdgaeikihjbaaPoud
import Derived.Test.YtbjdgaeikihjbaaMom
namespace Go.Proofs.Ytbjdgaeikihjbaa
set_option linter.unusedSimpArgs false
set_option linter.unusedVariables false
open Go.RowKit
set_option maxRecDepth 100000
set_option maxHeartbeats 4000000
attribute [local go_sem] Instr.field asAgg Soft.upon Soft.BW.cell_if Soft.BW.frozen_if Soft.cell_alloc_if Soft.frozen_alloc_if

theorem hold_Pour (h : Ho) (f : Fi) (m d : Rg) (w : World) (hh : h.At w) :
    Calls Try.prog 25 #[.agg #[.int .i64 (h).id, .int .i64 ((h).along).lo, .int .i64 ((h).along).hi, .slice ((h).vol).p ((h).vol).n ((h).vol).c, .slice ((h).mom).p ((h).mom).n ((h).mom).c, .slice ((h).hei).p ((h).hei).n ((h).hei).c, .int .i64 ((h).tri).lo, .int .i64 ((h).tri).hi, .int .i64 ((h).unt).lo, .int .i64 ((h).unt).hi, .int .i64 ((h).v0).lo, .int .i64 ((h).v0).hi, .int .i64 ((h).h0).lo, .int .i64 ((h).h0).hi], .agg #[.int .i64 (f).hold, .int .i64 (f).state, .int .i64 ((f).ull).lo, .int .i64 ((f).ull).hi, .int .i64 ((f).den).lo, .int .i64 ((f).den).hi], .agg #[.int .i64 (m).lo, .int .i64 (m).hi], .agg #[.int .i64 (d).lo, .int .i64 (d).hi]] w fun e w' => e = .returned (.tuple #[.agg #[.int .i64 ((pourE h f m d).1).hold, .int .i64 ((pourE h f m d).1).state, .int .i64 (((pourE h f m d).1).ull).lo, .int .i64 (((pourE h f m d).1).ull).hi, .int .i64 (((pourE h f m d).1).den).lo, .int .i64 (((pourE h f m d).1).den).hi], .int .i64 (pourE h f m d).2]) ∧ Below w.heap.size w w' := by
  have hv := hh.1
  have hvb : Hid (HoldOk h → ∀ b o, h.vol.p = some ⟨b, o, none⟩ → b < w.heap.size) := Lib.hid (fun h0 b o e => by
    have hn : 1 ≤ h.vol.n := by rw [← hv.1]; exact h0.tabs.1.ok.pos
    obtain ⟨_, _, _, _, h5⟩ := hv
    obtain ⟨b', o', e', hl, _⟩ := h5 (by omega)
    rw [e] at e'
    cases e'
    exact hl)
  by_cases cf : fillErr h f = 0
  · obtain ⟨h0, h1⟩ := fill_ok cf
    have hvb := Lib.hid (hvb.out h0)
    have dF : (fillErr h f != 0) = false := by rw [cf]; rfl
    by_cases cm : massErr m d = 0
    · obtain ⟨m0, m1⟩ := massErr_ok cm
      have dM : (massErr m d != 0) = false := by rw [cm]; rfl
      have hst := state_in h1
      by_cases cl : m.lo < 0
      · have HV := Lib.hid (show pourE h f m d = (zeroF, 1) by unfold pourE; rw [if_neg (by omega), if_neg (by omega), if_pos cl])
        obtain ⟨k, fl, fr, mm, hs⟩ : ∃ k fl fr, ∃ mm : FuncId, stIs f.state k fl fr (.func (.func mm) #[] #[]) := by
          rcases st_class f.state with ⟨_, mm, hs⟩ | ⟨_, mm, hs⟩ | ⟨_, mm, hs⟩ | ⟨hc, hs⟩
          · exact ⟨_, _, _, mm, hs⟩
          · exact ⟨_, _, _, mm, hs⟩
          · exact ⟨_, _, _, mm, hs⟩
          · exact absurd hst hc
        have HS := Lib.hid hs
        clear cf h0 h1 cm m0 m1 hst hs
        go_enter Try.func25, Try.ntmps25
        go_wp2_with (first | (go_at_call 68; (with_reducible refine (hold_CheckFill h f _ (by with_reducible repeat (first | exact hh | refine Ho.At.alloc ?_ _ | refine Ho.At.bw ?_ _ | refine Tk.At.alloc ?_ _ | refine Tk.At.bw ?_ _))).mono ?_); rintro e w_ ⟨rfl, hb_⟩; obtain ⟨y1, rfl⟩ := Soft.BW.mk hb_; clear hb_) | (go_at_call 69; (with_reducible refine (hold_checkMass m d _).mono ?_); rintro e w_ ⟨rfl, hb_⟩; obtain ⟨y2, rfl⟩ := Soft.BW.mk hb_; clear hb_) | (go_at_call 70; (with_reducible refine (hold_stateOf f.state _ _ _ _ _ HS.out).mono ?_); rintro e w_ ⟨rfl, hb_⟩; obtain ⟨y3, rfl⟩ := Soft.BW.mk hb_; clear hb_))
        all_goals
          rw [HV.out]
          refine bodyPost_ret (v := .tuple #[.agg #[.int .i64 (zeroF).hold, .int .i64 (zeroF).state, .int .i64 ((zeroF).ull).lo, .int .i64 ((zeroF).ull).hi, .int .i64 ((zeroF).den).lo, .int .i64 ((zeroF).den).hi], .int .i64 1]) (by simp [results, Try.results25, go_sem, zeroF]) rfl ?_
          refine ⟨rfl, ?_⟩
          (repeat (first | with_reducible exact bel_refl _ | with_reducible refine bel_alloc ?_ _ | with_reducible refine bel_bw _ ?_ | with_reducible refine bel_drew ?_ | with_reducible refine bel_drewN _ ?_ | ((with_reducible refine bel_set ?_ ?_ _); rotate_left; focus (first | (simp; done) | omega | (simp; omega))) | refine bel_step ?_ (by with_reducible assumption)))
      · by_cases c45 : f.state = 4 ∨ f.state = 5
        · have HV := Lib.hid (show pourE h f m d = (zeroF, 22) by unfold pourE; rw [if_neg (by omega), if_neg (by omega), if_neg cl, if_pos c45])
          have d3 : (f.state != 3) = true := by rw [bne_iff_ne]; omega
          have HS : Hid (stIs f.state true false true (.func (.func 141) #[] #[])) := Lib.hid (by
            rcases c45 with c | c
            · exact .inr (.inr (.inr (.inr (.inl ⟨c, rfl, rfl, rfl, rfl⟩))))
            · exact .inr (.inr (.inr (.inr (.inr (.inl ⟨c, rfl, rfl, rfl, rfl⟩))))))
          clear cf h0 h1 cm m0 m1 hst c45
          go_enter Try.func25, Try.ntmps25
          go_wp2_with (first | (go_at_call 68; (with_reducible refine (hold_CheckFill h f _ (by with_reducible repeat (first | exact hh | refine Ho.At.alloc ?_ _ | refine Ho.At.bw ?_ _ | refine Tk.At.alloc ?_ _ | refine Tk.At.bw ?_ _))).mono ?_); rintro e w_ ⟨rfl, hb_⟩; obtain ⟨y1, rfl⟩ := Soft.BW.mk hb_; clear hb_) | (go_at_call 69; (with_reducible refine (hold_checkMass m d _).mono ?_); rintro e w_ ⟨rfl, hb_⟩; obtain ⟨y2, rfl⟩ := Soft.BW.mk hb_; clear hb_) | (go_at_call 70; (with_reducible refine (hold_stateOf f.state _ _ _ _ _ HS.out).mono ?_); rintro e w_ ⟨rfl, hb_⟩; obtain ⟨y3, rfl⟩ := Soft.BW.mk hb_; clear hb_))
          all_goals
            rw [HV.out]
            refine bodyPost_ret (v := .tuple #[.agg #[.int .i64 (zeroF).hold, .int .i64 (zeroF).state, .int .i64 ((zeroF).ull).lo, .int .i64 ((zeroF).ull).hi, .int .i64 ((zeroF).den).lo, .int .i64 ((zeroF).den).hi], .int .i64 22]) (by simp [results, Try.results25, go_sem, zeroF]) rfl ?_
            refine ⟨rfl, ?_⟩
            (repeat (first | with_reducible exact bel_refl _ | with_reducible refine bel_alloc ?_ _ | with_reducible refine bel_bw _ ?_ | with_reducible refine bel_drew ?_ | with_reducible refine bel_drewN _ ?_ | ((with_reducible refine bel_set ?_ ?_ _); rotate_left; focus (first | (simp; done) | omega | (simp; omega))) | refine bel_step ?_ (by with_reducible assumption)))
        · by_cases c12 : f.state = 1 ∨ f.state = 2
          · have HV := Lib.hid (show pourE h f m d = (zeroF, 24) by unfold pourE; rw [if_neg (by omega), if_neg (by omega), if_neg cl, if_neg c45, if_pos c12])
            obtain ⟨mm, hs⟩ : ∃ mm : FuncId, stIs f.state true true false (.func (.func mm) #[] #[]) := by
              rcases c12 with c | c
              · exact ⟨_, .inr (.inl ⟨c, rfl, rfl, rfl, rfl⟩)⟩
              · exact ⟨_, .inr (.inr (.inl ⟨c, rfl, rfl, rfl, rfl⟩))⟩
            have HS := Lib.hid hs
            clear cf h0 h1 cm m0 m1 hst c45 c12 hs
            go_enter Try.func25, Try.ntmps25
            go_wp2_with (first | (go_at_call 68; (with_reducible refine (hold_CheckFill h f _ (by with_reducible repeat (first | exact hh | refine Ho.At.alloc ?_ _ | refine Ho.At.bw ?_ _ | refine Tk.At.alloc ?_ _ | refine Tk.At.bw ?_ _))).mono ?_); rintro e w_ ⟨rfl, hb_⟩; obtain ⟨y1, rfl⟩ := Soft.BW.mk hb_; clear hb_) | (go_at_call 69; (with_reducible refine (hold_checkMass m d _).mono ?_); rintro e w_ ⟨rfl, hb_⟩; obtain ⟨y2, rfl⟩ := Soft.BW.mk hb_; clear hb_) | (go_at_call 70; (with_reducible refine (hold_stateOf f.state _ _ _ _ _ HS.out).mono ?_); rintro e w_ ⟨rfl, hb_⟩; obtain ⟨y3, rfl⟩ := Soft.BW.mk hb_; clear hb_))
            all_goals
              rw [HV.out]
              refine bodyPost_ret (v := .tuple #[.agg #[.int .i64 (zeroF).hold, .int .i64 (zeroF).state, .int .i64 ((zeroF).ull).lo, .int .i64 ((zeroF).ull).hi, .int .i64 ((zeroF).den).lo, .int .i64 ((zeroF).den).hi], .int .i64 24]) (by simp [results, Try.results25, go_sem, zeroF]) rfl ?_
              refine ⟨rfl, ?_⟩
              (repeat (first | with_reducible exact bel_refl _ | with_reducible refine bel_alloc ?_ _ | with_reducible refine bel_bw _ ?_ | with_reducible refine bel_drew ?_ | with_reducible refine bel_drewN _ ?_ | ((with_reducible refine bel_set ?_ ?_ _); rotate_left; focus (first | (simp; done) | omega | (simp; omega))) | refine bel_step ?_ (by with_reducible assumption)))
          · by_cases c3 : f.state = 3
            · have hB := lit_in m0 m1
              have hA := volS_in h0 f
              have a1 := hA.a
              have a2 := hA.b
              have a3 := hA.c
              cases hu : (pourU h f m d).2
              · have e : pourE h f m d = (zeroF, 24) := by unfold pourE; rw [if_neg (by omega), if_neg (by omega), if_neg cl, if_neg c45, if_neg c12, if_pos (.inl hu)]
                rw [e]
                exact pour_3no h f m d (volS h f) (litS m d) (pourU h f m d) w hh cf cm cl hvb.out ⟨by omega, by omega, by omega, by omega⟩ hB (fun W hW => hold_volume h f W hW) (fun W => hold_litres m d W m0 m1) (fun W hW => hold_inverse_hold h (pourV h f m d) W hW h0) c3 hu
              · by_cases hq : f.ull.hi < (pourU h f m d).1.lo
                · have e : pourE h f m d = (zeroF, 24) := by unfold pourE; rw [if_neg (by omega), if_neg (by omega), if_neg cl, if_neg c45, if_neg c12, if_pos (.inr ⟨c3, hq⟩)]
                  rw [e]
                  exact pour_3far h f m d (volS h f) (litS m d) (pourU h f m d) w hh cf cm cl hvb.out ⟨by omega, by omega, by omega, by omega⟩ hB (fun W hW => hold_volume h f W hW) (fun W => hold_litres m d W m0 m1) (fun W hW => hold_inverse_hold h (pourV h f m d) W hW h0) c3 hu hq
                · have e : pourE h f m d = (⟨f.hold, 3, ⟨(pourU h f m d).1.lo, min (pourU h f m d).1.hi f.ull.hi⟩, hullS d f.den⟩, 0) := by unfold pourE; rw [if_neg (by omega), if_neg (by omega), if_neg cl, if_neg c45, if_neg c12, if_neg (by rintro (h | ⟨_, h⟩); rw [hu] at h; cases h; exact hq h), if_pos c3]
                  rw [e]
                  exact pour_3yes h f m d (volS h f) (litS m d) (pourU h f m d) w hh cf cm cl hvb.out ⟨by omega, by omega, by omega, by omega⟩ hB (fun W hW => hold_volume h f W hW) (fun W => hold_litres m d W m0 m1) (fun W hW => hold_inverse_hold h (pourV h f m d) W hW h0) c3 hu hq
            · have c0 : f.state = 0 := by omega
              have hB := lit_in m0 m1
              have hA := volS_in h0 f
              have a1 := hA.a
              have a2 := hA.b
              have a3 := hA.c
              cases hu : (pourU h f m d).2
              · have e : pourE h f m d = (zeroF, 24) := by unfold pourE; rw [if_neg (by omega), if_neg (by omega), if_neg cl, if_neg c45, if_neg c12, if_pos (.inl hu)]
                rw [e]
                exact pour_0no h f m d (volS h f) (litS m d) (pourU h f m d) w hh cf cm cl hvb.out ⟨by omega, by omega, by omega, by omega⟩ hB (fun W hW => hold_volume h f W hW) (fun W => hold_litres m d W m0 m1) (fun W hW => hold_inverse_hold h (pourV h f m d) W hW h0) c0 hu
              · have e : pourE h f m d = (⟨f.hold, 3, (pourU h f m d).1, d⟩, 0) := by unfold pourE; rw [if_neg (by omega), if_neg (by omega), if_neg cl, if_neg c45, if_neg c12, if_neg (by rintro (h | ⟨h, _⟩); rw [hu] at h; cases h; exact c3 h), if_neg c3]
                rw [e]
                exact pour_0yes h f m d (volS h f) (litS m d) (pourU h f m d) w hh cf cm cl hvb.out ⟨by omega, by omega, by omega, by omega⟩ hB (fun W hW => hold_volume h f W hW) (fun W => hold_litres m d W m0 m1) (fun W hW => hold_inverse_hold h (pourV h f m d) W hW h0) c0 hu
    · have HV := Lib.hid (show pourE h f m d = (zeroF, massErr m d) by unfold pourE; rw [if_neg (by omega), if_pos cm])
      have dM : (massErr m d != 0) = true := bne_iff_ne.2 cm
      clear cf h0 h1 cm
      go_enter Try.func25, Try.ntmps25
      go_wp2_with (first | (go_at_call 68; (with_reducible refine (hold_CheckFill h f _ (by with_reducible repeat (first | exact hh | refine Ho.At.alloc ?_ _ | refine Ho.At.bw ?_ _ | refine Tk.At.alloc ?_ _ | refine Tk.At.bw ?_ _))).mono ?_); rintro e w_ ⟨rfl, hb_⟩; obtain ⟨y1, rfl⟩ := Soft.BW.mk hb_; clear hb_) | (go_at_call 69; (with_reducible refine (hold_checkMass m d _).mono ?_); rintro e w_ ⟨rfl, hb_⟩; obtain ⟨y2, rfl⟩ := Soft.BW.mk hb_; clear hb_))
      rw [HV.out]
      refine bodyPost_ret (v := .tuple #[.agg #[.int .i64 (zeroF).hold, .int .i64 (zeroF).state, .int .i64 ((zeroF).ull).lo, .int .i64 ((zeroF).ull).hi, .int .i64 ((zeroF).den).lo, .int .i64 ((zeroF).den).hi], .int .i64 (massErr m d)]) (by simp [results, Try.results25, go_sem, zeroF]) rfl ?_
      refine ⟨rfl, ?_⟩
      (repeat (first | with_reducible exact bel_refl _ | with_reducible refine bel_alloc ?_ _ | with_reducible refine bel_bw _ ?_ | with_reducible refine bel_drew ?_ | with_reducible refine bel_drewN _ ?_ | ((with_reducible refine bel_set ?_ ?_ _); rotate_left; focus (first | (simp; done) | omega | (simp; omega))) | refine bel_step ?_ (by with_reducible assumption)))
  · have HV := Lib.hid (show pourE h f m d = (zeroF, fillErr h f) by unfold pourE; rw [if_pos cf])
    have dF : (fillErr h f != 0) = true := bne_iff_ne.2 cf
    clear cf
    go_enter Try.func25, Try.ntmps25
    go_wp2_with (first | (go_at_call 68; (with_reducible refine (hold_CheckFill h f _ (by with_reducible repeat (first | exact hh | refine Ho.At.alloc ?_ _ | refine Ho.At.bw ?_ _ | refine Tk.At.alloc ?_ _ | refine Tk.At.bw ?_ _))).mono ?_); rintro e w_ ⟨rfl, hb_⟩; obtain ⟨y1, rfl⟩ := Soft.BW.mk hb_; clear hb_))
    rw [HV.out]
    refine bodyPost_ret (v := .tuple #[.agg #[.int .i64 (zeroF).hold, .int .i64 (zeroF).state, .int .i64 ((zeroF).ull).lo, .int .i64 ((zeroF).ull).hi, .int .i64 ((zeroF).den).lo, .int .i64 ((zeroF).den).hi], .int .i64 (fillErr h f)]) (by simp [results, Try.results25, go_sem, zeroF]) rfl ?_
    refine ⟨rfl, ?_⟩
    (repeat (first | with_reducible exact bel_refl _ | with_reducible refine bel_alloc ?_ _ | with_reducible refine bel_bw _ ?_ | with_reducible refine bel_drew ?_ | with_reducible refine bel_drewN _ ?_ | ((with_reducible refine bel_set ?_ ?_ _); rotate_left; focus (first | (simp; done) | omega | (simp; omega))) | refine bel_step ?_ (by with_reducible assumption)))

end Go.Proofs.Ytbjdgaeikihjbaa
