/-
  The reference's Draw: all ways together.
  Conditions: each theorem's own premises.
-/
import Derived.Test.YtbjdgaeikihjbaaGreatRfs
namespace Go.Proofs.YtbjdgaeikihjbaaGreat
set_option linter.unusedSimpArgs false
set_option linter.unusedVariables false
open Go.RowKit
set_option maxRecDepth 100000
set_option maxHeartbeats 8000000
attribute [local go_sem] Instr.field asAgg Soft.upon Soft.BW.cell_if Soft.BW.frozen_if Soft.cell_alloc_if Soft.frozen_alloc_if

theorem R2_Draw (h : Ho) (f : Fi) (m : Rg) (w : World) (hh : h.At w) :
    Calls Tryz.prog 27 #[.agg #[.int .i64 (h).id, .int .i64 ((h).along).lo, .int .i64 ((h).along).hi, .slice ((h).vol).p ((h).vol).n ((h).vol).c, .slice ((h).mom).p ((h).mom).n ((h).mom).c, .slice ((h).hei).p ((h).hei).n ((h).hei).c, .int .i64 ((h).tri).lo, .int .i64 ((h).tri).hi, .int .i64 ((h).unt).lo, .int .i64 ((h).unt).hi, .int .i64 ((h).v0).lo, .int .i64 ((h).v0).hi, .int .i64 ((h).h0).lo, .int .i64 ((h).h0).hi], .agg #[.int .i64 (f).hold, .int .i64 (f).state, .int .i64 ((f).ull).lo, .int .i64 ((f).ull).hi, .int .i64 ((f).den).lo, .int .i64 ((f).den).hi], .agg #[.int .i64 (m).lo, .int .i64 (m).hi]] w fun e w' => e = .returned (.tuple #[.agg #[.int .i64 ((drawE h f m).1).hold, .int .i64 ((drawE h f m).1).state, .int .i64 (((drawE h f m).1).ull).lo, .int .i64 (((drawE h f m).1).ull).hi, .int .i64 (((drawE h f m).1).den).lo, .int .i64 (((drawE h f m).1).den).hi], .int .i64 (drawE h f m).2]) ∧ Below w.heap.size w w' := by
  have hv := hh.1
  have CCF := Lib.hid (fun W hW => R2_CheckFill h f W hW)
  by_cases cf : fillErr h f = 0
  · obtain ⟨h0, h1⟩ := fill_ok cf
    rw [cf] at CCF
    have CCR := Lib.hid (fun W => R1_CheckRange m W)
    by_cases cm : rangeErr m = 0
    · rw [cm] at CCR
      have hst := state_in h1
      have hid : f.hold = h.id := h1.1
      by_cases cl : m.lo < 0
      · have HV := Lib.hid (show drawE h f m = (zeroF, 1) by unfold drawE; rw [if_neg (by omega), if_neg (by omega), if_pos cl])
        rw [HV.out]
        clear cf h0 h1 cm hst hid HV
        go_enter Tryz.func27, Tryz.ntmps27
        go_wp2_with (first | (go_at_call 22; (with_reducible refine (CCF.out _ (by with_reducible repeat (first | exact hh | refine Ho.At.alloc ?_ _ | refine Ho.At.bw ?_ _ | refine Tk.At.alloc ?_ _ | refine Tk.At.bw ?_ _))).mono ?_); rintro e w_ ⟨rfl, hb_⟩; obtain ⟨y1, rfl⟩ := Soft.BW.mk hb_; clear hb_) | (go_at_call 83; (with_reducible refine (CCR.out _).mono ?_); rintro e w_ ⟨rfl, hb_⟩; obtain ⟨y2, rfl⟩ := Soft.BW.mk hb_; clear hb_))
        refine bodyPost_ret (v := .tuple #[.agg #[.int .i64 (zeroF).hold, .int .i64 (zeroF).state, .int .i64 ((zeroF).ull).lo, .int .i64 ((zeroF).ull).hi, .int .i64 ((zeroF).den).lo, .int .i64 ((zeroF).den).hi], .int .i64 1]) (by simp [results, Tryz.results27, go_sem, zeroF]) rfl ?_
        refine ⟨rfl, ?_⟩
        (repeat (first | with_reducible exact bel_refl _ | with_reducible refine bel_alloc ?_ _ | with_reducible refine bel_bw _ ?_ | with_reducible refine bel_drew ?_ | with_reducible refine bel_drewN _ ?_ | ((with_reducible refine bel_set ?_ ?_ _); rotate_left; focus (first | (simp; done) | omega | (simp; omega))) | refine bel_step ?_ (by with_reducible assumption)))
      · by_cases c13 : 1 ≤ f.state ∧ f.state ≤ 3
        · have hd : isDen f.den := by
            obtain ⟨_, ⟨e, _⟩ | ⟨_, _, hd⟩ | ⟨_, _, hd⟩⟩ := h1
            · omega
            · exact hd
            · exact hd
          have CLI := Lib.hid (fun W => R2_litres m f.den W cm hd)
          have CVO := Lib.hid (fun W hW => R2_volume h f W hW h0 h1)
          have CI : Hid (∀ W, h.vol.At W → Calls Tryz.prog 80 #[.agg #[.slice (h.vol).p (h.vol).n (h.vol).c], .agg #[.int .i64 (max ((volS h f).lo - (litS m f.den).hi) 0), .int .i64 ((volS h f).hi - (litS m f.den).lo)], .bool true] W fun e w' => e = .returned (.tuple #[.agg #[.int .i64 ((drawU h f m).1).lo, .int .i64 ((drawU h f m).1).hi], .bool (drawU h f m).2]) ∧ Below W.heap.size W w') := Lib.hid (fun W hW => R2_Inverse_down h.vol (drawV h f m) W hW h0.tabs.1 (ways_down h0.tabs.1 h0.mv _))
          have hA := volS_in h0 f
          obtain ⟨a1, a2, a3⟩ := hA
          obtain ⟨b1, b2, b3, b4⟩ := lit_in cm hd
          have ev : drawV h f m = ⟨max ((volS h f).lo - (litS m f.den).hi) 0, (volS h f).hi - (litS m f.den).lo⟩ := rfl
          by_cases cn : (volS h f).hi - (litS m f.den).lo < 0
          · rw [show drawE h f m = (zeroF, 24) by unfold drawE; rw [if_neg (by omega), if_neg (by omega), if_neg cl, if_neg (by omega), if_pos (by rw [ev]; exact cn)]]
            by_cases c3 : f.state = 3
            · have d3 : (f.state != 3) = false := by rw [c3]; rfl
              have d3' : (f.state == 3) = true := by rw [c3]; rfl
              have HF := Lib.hid (show false = decide (1 ≤ f.state ∧ f.state ≤ 2) from (decide_eq_false (by omega)).symm)
              rcases Int.lt_or_le 0 ((volS h f).lo - (litS m f.den).hi) with e0 | e0
              · rw [show max ((volS h f).lo - (litS m f.den).hi) 0 = (volS h f).lo - (litS m f.den).hi by omega] at CI
                exact rdraw_neg3_p h f m w hh (volS h f) (litS m f.den) (drawU h f m).1 (drawU h f m).2 CCF CCR CLI CVO CI cl a1 a2 a3 b1 b2 b3 b4 e0 d3 d3' HF cn
              · rw [show max ((volS h f).lo - (litS m f.den).hi) 0 = 0 by omega] at CI
                exact rdraw_neg3_z h f m w hh (volS h f) (litS m f.den) (drawU h f m).1 (drawU h f m).2 CCF CCR CLI CVO CI cl a1 a2 a3 b1 b2 b3 b4 e0 d3 d3' HF cn
            · have d3 : (f.state != 3) = true := bne_iff_ne.2 c3
              have d3' : (f.state == 3) = false := beq_eq_false_iff_ne.2 c3
              have HF := Lib.hid (show true = decide (1 ≤ f.state ∧ f.state ≤ 2) from (decide_eq_true (by omega)).symm)
              rcases Int.lt_or_le 0 ((volS h f).lo - (litS m f.den).hi) with e0 | e0
              · rw [show max ((volS h f).lo - (litS m f.den).hi) 0 = (volS h f).lo - (litS m f.den).hi by omega] at CI
                exact rdraw_neg1_p h f m w hh (volS h f) (litS m f.den) (drawU h f m).1 (drawU h f m).2 CCF CCR CLI CVO CI cl a1 a2 a3 b1 b2 b3 b4 e0 d3 d3' HF cn
              · rw [show max ((volS h f).lo - (litS m f.den).hi) 0 = 0 by omega] at CI
                exact rdraw_neg1_z h f m w hh (volS h f) (litS m f.den) (drawU h f m).1 (drawU h f m).2 CCF CCR CLI CVO CI cl a1 a2 a3 b1 b2 b3 b4 e0 d3 d3' HF cn
          · cases hu : (drawU h f m).2
            · rw [show drawE h f m = (zeroF, 24) by unfold drawE; rw [if_neg (by omega), if_neg (by omega), if_neg cl, if_neg (by omega), if_neg (by rw [ev]; exact cn), if_pos (.inl hu)]]
              rw [hu] at CI
              by_cases c3 : f.state = 3
              · have d3 : (f.state != 3) = false := by rw [c3]; rfl
                have d3' : (f.state == 3) = true := by rw [c3]; rfl
                have HF := Lib.hid (show false = decide (1 ≤ f.state ∧ f.state ≤ 2) from (decide_eq_false (by omega)).symm)
                rcases Int.lt_or_le 0 ((volS h f).lo - (litS m f.den).hi) with e0 | e0
                · rw [show max ((volS h f).lo - (litS m f.den).hi) 0 = (volS h f).lo - (litS m f.den).hi by omega] at CI
                  exact rdraw_no3_p h f m w hh (volS h f) (litS m f.den) (drawU h f m).1 true CCF CCR CLI CVO CI cl a1 a2 a3 b1 b2 b3 b4 e0 d3 d3' HF cn
                · rw [show max ((volS h f).lo - (litS m f.den).hi) 0 = 0 by omega] at CI
                  exact rdraw_no3_z h f m w hh (volS h f) (litS m f.den) (drawU h f m).1 true CCF CCR CLI CVO CI cl a1 a2 a3 b1 b2 b3 b4 e0 d3 d3' HF cn
              · have d3 : (f.state != 3) = true := bne_iff_ne.2 c3
                have d3' : (f.state == 3) = false := beq_eq_false_iff_ne.2 c3
                have HF := Lib.hid (show true = decide (1 ≤ f.state ∧ f.state ≤ 2) from (decide_eq_true (by omega)).symm)
                rcases Int.lt_or_le 0 ((volS h f).lo - (litS m f.den).hi) with e0 | e0
                · rw [show max ((volS h f).lo - (litS m f.den).hi) 0 = (volS h f).lo - (litS m f.den).hi by omega] at CI
                  exact rdraw_no1_p h f m w hh (volS h f) (litS m f.den) (drawU h f m).1 true CCF CCR CLI CVO CI cl a1 a2 a3 b1 b2 b3 b4 e0 d3 d3' HF cn
                · rw [show max ((volS h f).lo - (litS m f.den).hi) 0 = 0 by omega] at CI
                  exact rdraw_no1_z h f m w hh (volS h f) (litS m f.den) (drawU h f m).1 true CCF CCR CLI CVO CI cl a1 a2 a3 b1 b2 b3 b4 e0 d3 d3' HF cn
            · rw [hu] at CI
              by_cases c3 : f.state = 3
              · have d3 : (f.state != 3) = false := by rw [c3]; rfl
                have d3' : (f.state == 3) = true := by rw [c3]; rfl
                have HF := Lib.hid (show false = decide (1 ≤ f.state ∧ f.state ≤ 2) from (decide_eq_false (by omega)).symm)
                by_cases hq : (drawU h f m).1.hi < f.ull.lo
                · rw [show drawE h f m = (zeroF, 24) by unfold drawE; rw [if_neg (by omega), if_neg (by omega), if_neg cl, if_neg (by omega), if_neg (by rw [ev]; exact cn), if_pos (.inr ⟨c3, hq⟩)]]
                  rcases Int.lt_or_le 0 ((volS h f).lo - (litS m f.den).hi) with e0 | e0
                  · rw [show max ((volS h f).lo - (litS m f.den).hi) 0 = (volS h f).lo - (litS m f.den).hi by omega] at CI
                    exact rdraw_far3_p h f m w hh (volS h f) (litS m f.den) (drawU h f m).1 true CCF CCR CLI CVO CI cl a1 a2 a3 b1 b2 b3 b4 e0 d3 d3' HF cn hq
                  · rw [show max ((volS h f).lo - (litS m f.den).hi) 0 = 0 by omega] at CI
                    exact rdraw_far3_z h f m w hh (volS h f) (litS m f.den) (drawU h f m).1 true CCF CCR CLI CVO CI cl a1 a2 a3 b1 b2 b3 b4 e0 d3 d3' HF cn hq
                · rw [show drawE h f m = (⟨h.id, 3, ⟨max (drawU h f m).1.lo f.ull.lo, (drawU h f m).1.hi⟩, f.den⟩, 0) by unfold drawE; rw [if_neg (by omega), if_neg (by omega), if_neg cl, if_neg (by omega), if_neg (by rw [ev]; exact cn), if_neg (by rintro (h | ⟨_, h⟩); rw [hu] at h; cases h; exact hq h), if_pos c3, hid]]
                  dsimp only
                  rcases Int.lt_or_le (drawU h f m).1.lo f.ull.lo with g0 | g0
                  · rw [show max (drawU h f m).1.lo f.ull.lo = f.ull.lo by omega]
                    rcases Int.lt_or_le 0 ((volS h f).lo - (litS m f.den).hi) with e0 | e0
                    · rw [show max ((volS h f).lo - (litS m f.den).hi) 0 = (volS h f).lo - (litS m f.den).hi by omega] at CI
                      exact rdraw_yes3a_p h f m w hh (volS h f) (litS m f.den) (drawU h f m).1 true CCF CCR CLI CVO CI cl a1 a2 a3 b1 b2 b3 b4 e0 d3 d3' HF cn hq g0
                    · rw [show max ((volS h f).lo - (litS m f.den).hi) 0 = 0 by omega] at CI
                      exact rdraw_yes3a_z h f m w hh (volS h f) (litS m f.den) (drawU h f m).1 true CCF CCR CLI CVO CI cl a1 a2 a3 b1 b2 b3 b4 e0 d3 d3' HF cn hq g0
                  · rw [show max (drawU h f m).1.lo f.ull.lo = (drawU h f m).1.lo by omega]
                    rcases Int.lt_or_le 0 ((volS h f).lo - (litS m f.den).hi) with e0 | e0
                    · rw [show max ((volS h f).lo - (litS m f.den).hi) 0 = (volS h f).lo - (litS m f.den).hi by omega] at CI
                      exact rdraw_yes3b_p h f m w hh (volS h f) (litS m f.den) (drawU h f m).1 true CCF CCR CLI CVO CI cl a1 a2 a3 b1 b2 b3 b4 e0 d3 d3' HF cn hq g0
                    · rw [show max ((volS h f).lo - (litS m f.den).hi) 0 = 0 by omega] at CI
                      exact rdraw_yes3b_z h f m w hh (volS h f) (litS m f.den) (drawU h f m).1 true CCF CCR CLI CVO CI cl a1 a2 a3 b1 b2 b3 b4 e0 d3 d3' HF cn hq g0
              · have d3 : (f.state != 3) = true := bne_iff_ne.2 c3
                have d3' : (f.state == 3) = false := beq_eq_false_iff_ne.2 c3
                have HF := Lib.hid (show true = decide (1 ≤ f.state ∧ f.state ≤ 2) from (decide_eq_true (by omega)).symm)
                rw [show drawE h f m = (⟨h.id, 3, (drawU h f m).1, f.den⟩, 0) by unfold drawE; rw [if_neg (by omega), if_neg (by omega), if_neg cl, if_neg (by omega), if_neg (by rw [ev]; exact cn), if_neg (by rintro (h | ⟨h, _⟩); rw [hu] at h; cases h; exact c3 h), if_neg c3, hid]]
                rcases Int.lt_or_le 0 ((volS h f).lo - (litS m f.den).hi) with e0 | e0
                · rw [show max ((volS h f).lo - (litS m f.den).hi) 0 = (volS h f).lo - (litS m f.den).hi by omega] at CI
                  exact rdraw_yes1_p h f m w hh (volS h f) (litS m f.den) (drawU h f m).1 true CCF CCR CLI CVO CI cl a1 a2 a3 b1 b2 b3 b4 e0 d3 d3' HF cn
                · rw [show max ((volS h f).lo - (litS m f.den).hi) 0 = 0 by omega] at CI
                  exact rdraw_yes1_z h f m w hh (volS h f) (litS m f.den) (drawU h f m).1 true CCF CCR CLI CVO CI cl a1 a2 a3 b1 b2 b3 b4 e0 d3 d3' HF cn
        · have HV := Lib.hid (show drawE h f m = (zeroF, 22) by unfold drawE; rw [if_neg (by omega), if_neg (by omega), if_neg cl, if_pos c13])
          have d3 : (f.state != 3) = true := bne_iff_ne.2 (by omega)
          have HF := Lib.hid (show false = decide (1 ≤ f.state ∧ f.state ≤ 2) from (decide_eq_false (by omega)).symm)
          rw [HV.out]
          clear cf h0 h1 cm hst hid HV c13
          go_enter Tryz.func27, Tryz.ntmps27
          go_wp2_with (first | (go_at_call 22; (with_reducible refine (CCF.out _ (by with_reducible repeat (first | exact hh | refine Ho.At.alloc ?_ _ | refine Ho.At.bw ?_ _ | refine Tk.At.alloc ?_ _ | refine Tk.At.bw ?_ _))).mono ?_); rintro e w_ ⟨rfl, hb_⟩; obtain ⟨y1, rfl⟩ := Soft.BW.mk hb_; clear hb_) | (go_at_call 83; (with_reducible refine (CCR.out _).mono ?_); rintro e w_ ⟨rfl, hb_⟩; obtain ⟨y2, rfl⟩ := Soft.BW.mk hb_; clear hb_) | (go_at_call 68; (with_reducible refine (R2_Filled f.state _ _ HF.out).mono ?_); rintro e w_ ⟨rfl, hw_⟩; subst w_))
          refine bodyPost_ret (v := .tuple #[.agg #[.int .i64 (zeroF).hold, .int .i64 (zeroF).state, .int .i64 ((zeroF).ull).lo, .int .i64 ((zeroF).ull).hi, .int .i64 ((zeroF).den).lo, .int .i64 ((zeroF).den).hi], .int .i64 22]) (by simp [results, Tryz.results27, go_sem, zeroF]) rfl ?_
          refine ⟨rfl, ?_⟩
          (repeat (first | with_reducible exact bel_refl _ | with_reducible refine bel_alloc ?_ _ | with_reducible refine bel_bw _ ?_ | with_reducible refine bel_drew ?_ | with_reducible refine bel_drewN _ ?_ | ((with_reducible refine bel_set ?_ ?_ _); rotate_left; focus (first | (simp; done) | omega | (simp; omega))) | refine bel_step ?_ (by with_reducible assumption)))
    · have e10 : rangeErr m = 10 := by rcases rangeErr_cases m with ⟨e, _⟩ | ⟨e, _⟩; exact absurd e cm; exact e
      have HV := Lib.hid (show drawE h f m = (zeroF, 10) by unfold drawE; rw [if_neg (by omega), if_pos cm, e10])
      rw [HV.out]
      rw [e10] at CCR
      clear cf h0 h1 cm HV e10
      go_enter Tryz.func27, Tryz.ntmps27
      go_wp2_with (first | (go_at_call 22; (with_reducible refine (CCF.out _ (by with_reducible repeat (first | exact hh | refine Ho.At.alloc ?_ _ | refine Ho.At.bw ?_ _ | refine Tk.At.alloc ?_ _ | refine Tk.At.bw ?_ _))).mono ?_); rintro e w_ ⟨rfl, hb_⟩; obtain ⟨y1, rfl⟩ := Soft.BW.mk hb_; clear hb_) | (go_at_call 83; (with_reducible refine (CCR.out _).mono ?_); rintro e w_ ⟨rfl, hb_⟩; obtain ⟨y2, rfl⟩ := Soft.BW.mk hb_; clear hb_))
      refine bodyPost_ret (v := .tuple #[.agg #[.int .i64 (zeroF).hold, .int .i64 (zeroF).state, .int .i64 ((zeroF).ull).lo, .int .i64 ((zeroF).ull).hi, .int .i64 ((zeroF).den).lo, .int .i64 ((zeroF).den).hi], .int .i64 10]) (by simp [results, Tryz.results27, go_sem, zeroF]) rfl ?_
      refine ⟨rfl, ?_⟩
      (repeat (first | with_reducible exact bel_refl _ | with_reducible refine bel_alloc ?_ _ | with_reducible refine bel_bw _ ?_ | with_reducible refine bel_drew ?_ | with_reducible refine bel_drewN _ ?_ | ((with_reducible refine bel_set ?_ ?_ _); rotate_left; focus (first | (simp; done) | omega | (simp; omega))) | refine bel_step ?_ (by with_reducible assumption)))
  · have HV := Lib.hid (show drawE h f m = (zeroF, fillErr h f) by unfold drawE; rw [if_pos cf])
    have dF : (fillErr h f != 0) = true := bne_iff_ne.2 cf
    rw [HV.out]
    clear cf HV
    generalize fillErr h f = E at *
    go_enter Tryz.func27, Tryz.ntmps27
    go_wp2_with (first | (go_at_call 22; (with_reducible refine (CCF.out _ (by with_reducible repeat (first | exact hh | refine Ho.At.alloc ?_ _ | refine Ho.At.bw ?_ _ | refine Tk.At.alloc ?_ _ | refine Tk.At.bw ?_ _))).mono ?_); rintro e w_ ⟨rfl, hb_⟩; obtain ⟨y1, rfl⟩ := Soft.BW.mk hb_; clear hb_))
    refine bodyPost_ret (v := .tuple #[.agg #[.int .i64 (zeroF).hold, .int .i64 (zeroF).state, .int .i64 ((zeroF).ull).lo, .int .i64 ((zeroF).ull).hi, .int .i64 ((zeroF).den).lo, .int .i64 ((zeroF).den).hi], .int .i64 E]) (by simp [results, Tryz.results27, go_sem, zeroF]) rfl ?_
    refine ⟨rfl, ?_⟩
    (repeat (first | with_reducible exact bel_refl _ | with_reducible refine bel_alloc ?_ _ | with_reducible refine bel_bw _ ?_ | with_reducible refine bel_drew ?_ | with_reducible refine bel_drewN _ ?_ | ((with_reducible refine bel_set ?_ ?_ _); rotate_left; focus (first | (simp; done) | omega | (simp; omega))) | refine bel_step ?_ (by with_reducible assumption)))

end Go.Proofs.YtbjdgaeikihjbaaGreat
