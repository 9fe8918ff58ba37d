/-
  hold: Pour.
  TopPours' last loop: two parts of what is poured.
  Conditions: each theorem's own premises.
-/
import Derived.Test.YteagdcgmmdiakaaGreatP25
import Derived.Test.YteagdcgmmdiakaaGreatP07
import Derived.Test.YteagdcgmmdiakaaGreatP24
import Derived.Test.YteagdcgmmdiakaaGreatP14
namespace Go.Proofs.YteagdcgmmdiakaaGreat
set_option linter.unusedSimpArgs false
set_option linter.unusedVariables false
open Go.RowKit
set_option maxRecDepth 100000
set_option maxHeartbeats 4000000
attribute [local go_sem] Instr.field asAgg Soft.upon Soft.BW.cell_if Soft.BW.frozen_if Soft.cell_alloc_if Soft.frozen_alloc_if

theorem hold_Pour (h : Ho) (f : Fi) (m d : Rg) (w : World) (hh : h.At w) :
    Calls Tryz.prog 8 #[.agg #[.int .i64 (h).id, .int .i64 ((h).along).lo, .int .i64 ((h).along).hi, .slice ((h).vol).p ((h).vol).n ((h).vol).c, .slice ((h).mom).p ((h).mom).n ((h).mom).c, .slice ((h).hei).p ((h).hei).n ((h).hei).c, .int .i64 ((h).tri).lo, .int .i64 ((h).tri).hi, .int .i64 ((h).unt).lo, .int .i64 ((h).unt).hi, .int .i64 ((h).v0).lo, .int .i64 ((h).v0).hi, .int .i64 ((h).h0).lo, .int .i64 ((h).h0).hi], .agg #[.int .i64 (f).hold, .int .i64 (f).state, .int .i64 ((f).ull).lo, .int .i64 ((f).ull).hi, .int .i64 ((f).den).lo, .int .i64 ((f).den).hi], .agg #[.int .i64 (m).lo, .int .i64 (m).hi], .agg #[.int .i64 (d).lo, .int .i64 (d).hi]] w fun e w' => e = .returned (.tuple #[.agg #[.int .i64 ((pourE h f m d).1).hold, .int .i64 ((pourE h f m d).1).state, .int .i64 (((pourE h f m d).1).ull).lo, .int .i64 (((pourE h f m d).1).ull).hi, .int .i64 (((pourE h f m d).1).den).lo, .int .i64 (((pourE h f m d).1).den).hi], .int .i64 (pourE h f m d).2]) ∧ Below w.heap.size w w' := by
  have hv := hh.1
  have hvb : Hid (HoldOk h → ∀ b o, h.vol.p = some ⟨b, o, none⟩ → b < w.heap.size) := Lib.hid (fun h0 b o e => by
    have hn : 1 ≤ h.vol.n := by rw [← hv.1]; exact h0.tabs.1.ok.pos
    obtain ⟨_, _, _, _, h5⟩ := hv
    obtain ⟨b', o', e', hl, _⟩ := h5 (by omega)
    rw [e] at e'
    cases e'
    exact hl)
  by_cases cf : fillErr h f = 0
  · obtain ⟨h0, h1⟩ := fill_ok cf
    have hvb := Lib.hid (hvb.out h0)
    have dF : (fillErr h f != 0) = false := by rw [cf]; rfl
    by_cases cm : massErr m d = 0
    · obtain ⟨m0, m1⟩ := massErr_ok cm
      have dM : (massErr m d != 0) = false := by rw [cm]; rfl
      have hst := state_in h1
      by_cases cl : m.lo < 0
      · have HV := Lib.hid (show pourE h f m d = (zeroF, 1) by unfold pourE; rw [if_neg (by omega), if_neg (by omega), if_pos cl])
        obtain ⟨k, fl, fr, mm, hs⟩ : ∃ k fl fr, ∃ mm : FuncId, stIs f.state k fl fr (.func (.func mm) #[] #[]) := by
          rcases st_class f.state with ⟨_, mm, hs⟩ | ⟨_, mm, hs⟩ | ⟨_, mm, hs⟩ | ⟨hc, hs⟩
          · exact ⟨_, _, _, mm, hs⟩
          · exact ⟨_, _, _, mm, hs⟩
          · exact ⟨_, _, _, mm, hs⟩
          · exact absurd hst hc
        have HS := Lib.hid hs
        clear cf h0 h1 cm m0 m1 hst hs
        go_enter Tryz.func8, Tryz.ntmps8
        go_wp2_with (first | (go_at_call 24; (with_reducible refine (hold_CheckFill h f _ (by with_reducible repeat (first | exact hh | refine Ho.At.alloc ?_ _ | refine Ho.At.bw ?_ _ | refine Tk.At.alloc ?_ _ | refine Tk.At.bw ?_ _))).mono ?_); rintro e w_ ⟨rfl, hb_⟩; obtain ⟨y1, rfl⟩ := Soft.BW.mk hb_; clear hb_) | (go_at_call 25; (with_reducible refine (hold_checkMass m d _).mono ?_); rintro e w_ ⟨rfl, hb_⟩; obtain ⟨y2, rfl⟩ := Soft.BW.mk hb_; clear hb_) | (go_at_call 26; (with_reducible refine (hold_stateOf f.state _ _ _ _ _ HS.out).mono ?_); rintro e w_ ⟨rfl, hb_⟩; obtain ⟨y3, rfl⟩ := Soft.BW.mk hb_; clear hb_))
        all_goals
          rw [HV.out]
          refine bodyPost_ret (v := .tuple #[.agg #[.int .i64 (zeroF).hold, .int .i64 (zeroF).state, .int .i64 ((zeroF).ull).lo, .int .i64 ((zeroF).ull).hi, .int .i64 ((zeroF).den).lo, .int .i64 ((zeroF).den).hi], .int .i64 1]) (by simp [results, Tryz.results8, go_sem, zeroF]) rfl ?_
          refine ⟨rfl, ?_⟩
          (repeat (first | with_reducible exact bel_refl _ | with_reducible refine bel_alloc ?_ _ | with_reducible refine bel_bw _ ?_ | with_reducible refine bel_drew ?_ | with_reducible refine bel_drewN _ ?_ | ((with_reducible refine bel_set ?_ ?_ _); rotate_left; focus (first | (simp; done) | omega | (simp; omega))) | refine bel_step ?_ (by with_reducible assumption)))
      · by_cases c45 : f.state = 4 ∨ f.state = 5
        · have HV := Lib.hid (show pourE h f m d = (zeroF, 22) by unfold pourE; rw [if_neg (by omega), if_neg (by omega), if_neg cl, if_pos c45])
          have d3 : (f.state != 3) = true := by rw [bne_iff_ne]; omega
          have HS : Hid (stIs f.state true false true (.func (.func 134) #[] #[])) := Lib.hid (by
            rcases c45 with c | c
            · exact .inr (.inr (.inr (.inr (.inl ⟨c, rfl, rfl, rfl, rfl⟩))))
            · exact .inr (.inr (.inr (.inr (.inr (.inl ⟨c, rfl, rfl, rfl, rfl⟩))))))
          clear cf h0 h1 cm m0 m1 hst c45
          go_enter Tryz.func8, Tryz.ntmps8
          go_wp2_with (first | (go_at_call 24; (with_reducible refine (hold_CheckFill h f _ (by with_reducible repeat (first | exact hh | refine Ho.At.alloc ?_ _ | refine Ho.At.bw ?_ _ | refine Tk.At.alloc ?_ _ | refine Tk.At.bw ?_ _))).mono ?_); rintro e w_ ⟨rfl, hb_⟩; obtain ⟨y1, rfl⟩ := Soft.BW.mk hb_; clear hb_) | (go_at_call 25; (with_reducible refine (hold_checkMass m d _).mono ?_); rintro e w_ ⟨rfl, hb_⟩; obtain ⟨y2, rfl⟩ := Soft.BW.mk hb_; clear hb_) | (go_at_call 26; (with_reducible refine (hold_stateOf f.state _ _ _ _ _ HS.out).mono ?_); rintro e w_ ⟨rfl, hb_⟩; obtain ⟨y3, rfl⟩ := Soft.BW.mk hb_; clear hb_))
          all_goals
            rw [HV.out]
            refine bodyPost_ret (v := .tuple #[.agg #[.int .i64 (zeroF).hold, .int .i64 (zeroF).state, .int .i64 ((zeroF).ull).lo, .int .i64 ((zeroF).ull).hi, .int .i64 ((zeroF).den).lo, .int .i64 ((zeroF).den).hi], .int .i64 22]) (by simp [results, Tryz.results8, go_sem, zeroF]) rfl ?_
            refine ⟨rfl, ?_⟩
            (repeat (first | with_reducible exact bel_refl _ | with_reducible refine bel_alloc ?_ _ | with_reducible refine bel_bw _ ?_ | with_reducible refine bel_drew ?_ | with_reducible refine bel_drewN _ ?_ | ((with_reducible refine bel_set ?_ ?_ _); rotate_left; focus (first | (simp; done) | omega | (simp; omega))) | refine bel_step ?_ (by with_reducible assumption)))
        · by_cases c12 : f.state = 1 ∨ f.state = 2
          · have HV := Lib.hid (show pourE h f m d = (zeroF, 24) by unfold pourE; rw [if_neg (by omega), if_neg (by omega), if_neg cl, if_neg c45, if_pos c12])
            obtain ⟨mm, hs⟩ : ∃ mm : FuncId, stIs f.state true true false (.func (.func mm) #[] #[]) := by
              rcases c12 with c | c
              · exact ⟨_, .inr (.inl ⟨c, rfl, rfl, rfl, rfl⟩)⟩
              · exact ⟨_, .inr (.inr (.inl ⟨c, rfl, rfl, rfl, rfl⟩))⟩
            have HS := Lib.hid hs
            clear cf h0 h1 cm m0 m1 hst c45 c12 hs
            go_enter Tryz.func8, Tryz.ntmps8
            go_wp2_with (first | (go_at_call 24; (with_reducible refine (hold_CheckFill h f _ (by with_reducible repeat (first | exact hh | refine Ho.At.alloc ?_ _ | refine Ho.At.bw ?_ _ | refine Tk.At.alloc ?_ _ | refine Tk.At.bw ?_ _))).mono ?_); rintro e w_ ⟨rfl, hb_⟩; obtain ⟨y1, rfl⟩ := Soft.BW.mk hb_; clear hb_) | (go_at_call 25; (with_reducible refine (hold_checkMass m d _).mono ?_); rintro e w_ ⟨rfl, hb_⟩; obtain ⟨y2, rfl⟩ := Soft.BW.mk hb_; clear hb_) | (go_at_call 26; (with_reducible refine (hold_stateOf f.state _ _ _ _ _ HS.out).mono ?_); rintro e w_ ⟨rfl, hb_⟩; obtain ⟨y3, rfl⟩ := Soft.BW.mk hb_; clear hb_))
            all_goals
              rw [HV.out]
              refine bodyPost_ret (v := .tuple #[.agg #[.int .i64 (zeroF).hold, .int .i64 (zeroF).state, .int .i64 ((zeroF).ull).lo, .int .i64 ((zeroF).ull).hi, .int .i64 ((zeroF).den).lo, .int .i64 ((zeroF).den).hi], .int .i64 24]) (by simp [results, Tryz.results8, go_sem, zeroF]) rfl ?_
              refine ⟨rfl, ?_⟩
              (repeat (first | with_reducible exact bel_refl _ | with_reducible refine bel_alloc ?_ _ | with_reducible refine bel_bw _ ?_ | with_reducible refine bel_drew ?_ | with_reducible refine bel_drewN _ ?_ | ((with_reducible refine bel_set ?_ ?_ _); rotate_left; focus (first | (simp; done) | omega | (simp; omega))) | refine bel_step ?_ (by with_reducible assumption)))
          · by_cases c3 : f.state = 3
            · have hB := lit_in m0 m1
              have hA := volS_in h0 f
              have a1 := hA.a
              have a2 := hA.b
              have a3 := hA.c
              cases hu : (pourU h f m d).2
              · have e : pourE h f m d = (zeroF, 24) := by unfold pourE; rw [if_neg (by omega), if_neg (by omega), if_neg cl, if_neg c45, if_neg c12, if_pos (.inl hu)]
                rw [e]
                exact pour_3no h f m d (volS h f) (litS m d) (pourU h f m d) w hh cf cm cl hvb.out ⟨by omega, by omega, by omega, by omega⟩ hB (fun W hW => hold_volume h f W hW) (fun W => hold_litres m d W m0 m1) (fun W hW => hold_inverse_hold h (pourV h f m d) W hW h0) c3 hu
              · by_cases hq : f.ull.hi < (pourU h f m d).1.lo
                · have e : pourE h f m d = (zeroF, 24) := by unfold pourE; rw [if_neg (by omega), if_neg (by omega), if_neg cl, if_neg c45, if_neg c12, if_pos (.inr ⟨c3, hq⟩)]
                  rw [e]
                  exact pour_3far h f m d (volS h f) (litS m d) (pourU h f m d) w hh cf cm cl hvb.out ⟨by omega, by omega, by omega, by omega⟩ hB (fun W hW => hold_volume h f W hW) (fun W => hold_litres m d W m0 m1) (fun W hW => hold_inverse_hold h (pourV h f m d) W hW h0) c3 hu hq
                · have e : pourE h f m d = (⟨f.hold, 3, ⟨(pourU h f m d).1.lo, min (pourU h f m d).1.hi f.ull.hi⟩, hullS d f.den⟩, 0) := by unfold pourE; rw [if_neg (by omega), if_neg (by omega), if_neg cl, if_neg c45, if_neg c12, if_neg (by rintro (h | ⟨_, h⟩); rw [hu] at h; cases h; exact hq h), if_pos c3]
                  rw [e]
                  exact pour_3yes h f m d (volS h f) (litS m d) (pourU h f m d) w hh cf cm cl hvb.out ⟨by omega, by omega, by omega, by omega⟩ hB (fun W hW => hold_volume h f W hW) (fun W => hold_litres m d W m0 m1) (fun W hW => hold_inverse_hold h (pourV h f m d) W hW h0) c3 hu hq
            · have c0 : f.state = 0 := by omega
              have hB := lit_in m0 m1
              have hA := volS_in h0 f
              have a1 := hA.a
              have a2 := hA.b
              have a3 := hA.c
              cases hu : (pourU h f m d).2
              · have e : pourE h f m d = (zeroF, 24) := by unfold pourE; rw [if_neg (by omega), if_neg (by omega), if_neg cl, if_neg c45, if_neg c12, if_pos (.inl hu)]
                rw [e]
                exact pour_0no h f m d (volS h f) (litS m d) (pourU h f m d) w hh cf cm cl hvb.out ⟨by omega, by omega, by omega, by omega⟩ hB (fun W hW => hold_volume h f W hW) (fun W => hold_litres m d W m0 m1) (fun W hW => hold_inverse_hold h (pourV h f m d) W hW h0) c0 hu
              · have e : pourE h f m d = (⟨f.hold, 3, (pourU h f m d).1, d⟩, 0) := by unfold pourE; rw [if_neg (by omega), if_neg (by omega), if_neg cl, if_neg c45, if_neg c12, if_neg (by rintro (h | ⟨h, _⟩); rw [hu] at h; cases h; exact c3 h), if_neg c3]
                rw [e]
                exact pour_0yes h f m d (volS h f) (litS m d) (pourU h f m d) w hh cf cm cl hvb.out ⟨by omega, by omega, by omega, by omega⟩ hB (fun W hW => hold_volume h f W hW) (fun W => hold_litres m d W m0 m1) (fun W hW => hold_inverse_hold h (pourV h f m d) W hW h0) c0 hu
    · have HV := Lib.hid (show pourE h f m d = (zeroF, massErr m d) by unfold pourE; rw [if_neg (by omega), if_pos cm])
      have dM : (massErr m d != 0) = true := bne_iff_ne.2 cm
      clear cf h0 h1 cm
      go_enter Tryz.func8, Tryz.ntmps8
      go_wp2_with (first | (go_at_call 24; (with_reducible refine (hold_CheckFill h f _ (by with_reducible repeat (first | exact hh | refine Ho.At.alloc ?_ _ | refine Ho.At.bw ?_ _ | refine Tk.At.alloc ?_ _ | refine Tk.At.bw ?_ _))).mono ?_); rintro e w_ ⟨rfl, hb_⟩; obtain ⟨y1, rfl⟩ := Soft.BW.mk hb_; clear hb_) | (go_at_call 25; (with_reducible refine (hold_checkMass m d _).mono ?_); rintro e w_ ⟨rfl, hb_⟩; obtain ⟨y2, rfl⟩ := Soft.BW.mk hb_; clear hb_))
      rw [HV.out]
      refine bodyPost_ret (v := .tuple #[.agg #[.int .i64 (zeroF).hold, .int .i64 (zeroF).state, .int .i64 ((zeroF).ull).lo, .int .i64 ((zeroF).ull).hi, .int .i64 ((zeroF).den).lo, .int .i64 ((zeroF).den).hi], .int .i64 (massErr m d)]) (by simp [results, Tryz.results8, go_sem, zeroF]) rfl ?_
      refine ⟨rfl, ?_⟩
      (repeat (first | with_reducible exact bel_refl _ | with_reducible refine bel_alloc ?_ _ | with_reducible refine bel_bw _ ?_ | with_reducible refine bel_drew ?_ | with_reducible refine bel_drewN _ ?_ | ((with_reducible refine bel_set ?_ ?_ _); rotate_left; focus (first | (simp; done) | omega | (simp; omega))) | refine bel_step ?_ (by with_reducible assumption)))
  · have HV := Lib.hid (show pourE h f m d = (zeroF, fillErr h f) by unfold pourE; rw [if_pos cf])
    have dF : (fillErr h f != 0) = true := bne_iff_ne.2 cf
    clear cf
    go_enter Tryz.func8, Tryz.ntmps8
    go_wp2_with (first | (go_at_call 24; (with_reducible refine (hold_CheckFill h f _ (by with_reducible repeat (first | exact hh | refine Ho.At.alloc ?_ _ | refine Ho.At.bw ?_ _ | refine Tk.At.alloc ?_ _ | refine Tk.At.bw ?_ _))).mono ?_); rintro e w_ ⟨rfl, hb_⟩; obtain ⟨y1, rfl⟩ := Soft.BW.mk hb_; clear hb_))
    rw [HV.out]
    refine bodyPost_ret (v := .tuple #[.agg #[.int .i64 (zeroF).hold, .int .i64 (zeroF).state, .int .i64 ((zeroF).ull).lo, .int .i64 ((zeroF).ull).hi, .int .i64 ((zeroF).den).lo, .int .i64 ((zeroF).den).hi], .int .i64 (fillErr h f)]) (by simp [results, Tryz.results8, go_sem, zeroF]) rfl ?_
    refine ⟨rfl, ?_⟩
    (repeat (first | with_reducible exact bel_refl _ | with_reducible refine bel_alloc ?_ _ | with_reducible refine bel_bw _ ?_ | with_reducible refine bel_drew ?_ | with_reducible refine bel_drewN _ ?_ | ((with_reducible refine bel_set ?_ ?_ _); rotate_left; focus (first | (simp; done) | omega | (simp; omega))) | refine bel_step ?_ (by with_reducible assumption)))

end Go.Proofs.YteagdcgmmdiakaaGreat

namespace Go.Proofs.YteagdcgmmdiakaaGreat
set_option linter.unusedSimpArgs false
set_option linter.unusedVariables false
open Go.RowKit
set_option maxRecDepth 1000000
set_option maxHeartbeats 20000000
attribute [local go_sem] Instr.field asAgg Soft.upon Soft.upon0 Soft.stepC Soft.BW.cell_if Soft.BW.frozen_if Soft.cell_alloc_if Soft.frozen_alloc_if
attribute [local irreducible] Soft.wpSoft Soft.wpMix

def pcutSeq : Nat → Code → Code
  | 0, c => c
  | n + 1, .seq _ b => pcutSeq n b
  | _ + 1, c => c
/-- TopPours from truth on; its last loop. -/
noncomputable def topM : Code := pcutSeq 3 (Tryz.f3.body.getD .skip)
noncomputable def topL : Code := pcutSeq 9 (Tryz.f3.body.getD .skip)

theorem pours_loop {s : Is} {q : Fs} {f : Fi} {W : World} {B8 B9 B11 B12 : Nat} {p0 p1 p2 p3 p4 p5 p6 p7 p8 p9 p10 p11 p12 p13 p14 p17 p18 p19 : Value} {hp fp : Option Addr} {hn hc fn fc : Nat} {hx : List Ho} {fx : List Fi} {nn : Int} {de : Rg} {u0 u1 u3 u4 u5 u6 u7 u10 u15 u16 u17 u18 u19 u20 u21 u22 u23 u24 u25 u26 u27 u28 u29 u30 u31 u32 u33 u34 u35 u36 u37 u38 u39 u40 u41 u42 u43 u44 u45 u46 u47 u48 u49 u50 u51 u52 u53 u54 u55 u56 u57 u58 u59 u60 u61 u62 u63 u64 u65 u66 u67 u68 u69 u70 u71 u72 u73 u74 u75 u76 u77 u78 u79 u80 u81 u82 u83 u84 u85 u86 u87 u88 u89 u90 u91 u92 u93 u94 u95 u96 u97 u98 u99 u100 u101 u102 u103 u104 u105 u106 u107 u108 u109 u110 u111 u112 u113 u114 u115 u116 u117 u118 u119 u120 u121 u122 u123 u124 u125 u126 u127 u128 u129 u130 u131 u132 u133 u134 u135 u136 u137 u138 u139 u140 u141 u142 u143 u144 u145 u146 u147 u148 u149 u150 u151 u152 u153 u154 u155 u156 u157 u158 u159 u160 u161 u162 u163 u164 u165 u166 u167 u168 u169 u170 : Value} {R : Ending → World → Prop}
    (HSI : Hid (s.At W)) (HQ : Hid (q.At W)) (HH : Hid (HsAt W ⟨hp, hn, hc, hx⟩)) (HF : Hid (FsAt W ⟨fp, fn, fc, fx⟩)) (h1 : hn ≠ 0) (h2 : fn ≠ 0) (hn0 : 0 ≤ nn) (hn1 : nn ≤ 1000000000000000) (hq3 : q.n ≤ 3) (hq0 : q.n ≠ 0)
    (H8 : Hid (HasBlk W B8 #[p0, p1, p2, p3, p4, p5, p6, p7, p8, p9, p10, p11, p12, p13, p14, .slice hp hn hc, .slice fp fn fc, p17, p18, p19] 37)) (H9 : Hid (HasBlk W B9 #[.int .i64 (f).hold, .int .i64 (f).state, .int .i64 ((f).ull).lo, .int .i64 ((f).ull).hi, .int .i64 ((f).den).lo, .int .i64 ((f).den).hi] 44)) (H11 : Hid (HasBlk W B11 #[.int .i64 nn, .int .i64 nn] 27)) (H12 : Hid (HasBlk W B12 #[.int .i64 (de).lo, .int .i64 (de).hi] 27))
    (HPL : Hid (∀ k, (pourE (hv hx 0) (fiv fx 0) (partM nn (prtK s.xs k)) de).2 = 0 → (prtK s.xs k = 1000 → inB (pourE (hv hx 0) (fiv fx 0) (partM nn (prtK s.xs k)) de).1.ull f.ull = true ∧ inB (pourE (hv hx 0) (fiv fx 0) (partM nn (prtK s.xs k)) de).1.den f.den = true) ∧ covB q.xs (pourE (hv hx 0) (fiv fx 0) (partM nn (prtK s.xs k)) de).1.ull (pourE (hv hx 0) (fiv fx 0) (partM nn (prtK s.xs k)) de).1.den q.n = true))
    (hR : ∀ w', Below W.heap.size W w' → R (.returned (.bool true)) w') :
    Code.wp Tryz.prog topL (bodyPost Tryz.prog Tryz.f3 R) { tmps := #[u0, u1, .slice s.p s.n s.c, u3, u4, u5, u6, u7, .pointer (some ⟨B8, 0, none⟩), .pointer (some ⟨B9, 0, none⟩), u10, .pointer (some ⟨B11, 0, none⟩), .pointer (some ⟨B12, 0, none⟩), .slice q.p q.n q.c, .int .i64 0, u15, u16, u17, u18, u19, u20, u21, u22, u23, u24, u25, u26, u27, u28, u29, u30, u31, u32, u33, u34, u35, u36, u37, u38, u39, u40, u41, u42, u43, u44, u45, u46, u47, u48, u49, u50, u51, u52, u53, u54, u55, u56, u57, u58, u59, u60, u61, u62, u63, u64, u65, u66, u67, u68, u69, u70, u71, u72, u73, u74, u75, u76, u77, u78, u79, u80, u81, u82, u83, u84, u85, u86, u87, u88, u89, u90, u91, u92, u93, u94, u95, u96, u97, u98, u99, u100, u101, u102, u103, u104, u105, u106, u107, u108, u109, u110, u111, u112, u113, u114, u115, u116, u117, u118, u119, u120, u121, u122, u123, u124, u125, u126, u127, u128, u129, u130, u131, u132, u133, u134, u135, u136, u137, u138, u139, u140, u141, u142, u143, u144, u145, u146, u147, u148, u149, u150, u151, u152, u153, u154, u155, u156, u157, u158, u159, u160, u161, u162, u163, u164, u165, u166, u167, u168, u169, u170], defers := [] } W := by
  have CP := Lib.hid (Top_pick s 19 1001 W HSI.out (by decide) (by decide))
  have HPK := Lib.hid (show prtK s.xs 1 = pickN s.xs 19 1001 from rfl)
  have HR := Lib.hid hR
  clear hR
  unfold topL
  conv => arg 2; whnf
  have dq0 : ((q.n : Int) == 0) = false := by rw [beq_eq_false_iff_ne]; omega
  go_wp2_with (go_at_call 11; refine (CP.out).mono ?_; rintro e w_ ⟨rfl, hw_⟩; subst w_)
  have a0 : HasBlk (W.alloc (.cells #[.int .i64 1000, .int .i64 (pickN s.xs 19 1001)] 3)) W.heap.size #[.int .i64 1000, .int .i64 (pickN s.xs 19 1001)] 3 := Soft.heap_new _ _
  have hb0 : Below W.heap.size W (W.alloc (.cells #[.int .i64 1000, .int .i64 (pickN s.xs 19 1001)] 3)) := by (repeat (first | with_reducible exact bel_refl _ | with_reducible refine bel_alloc ?_ _ | with_reducible refine bel_bw _ ?_ | with_reducible refine bel_drew ?_ | with_reducible refine bel_drewN _ ?_ | ((with_reducible refine bel_set ?_ ?_ _); rotate_left; focus (first | (simp; done) | omega | (simp; omega))) | refine bel_step ?_ (by with_reducible assumption)))
  have HA := Lib.hid a0
  have HB := Lib.hid hb0
  clear a0 hb0
  generalize W.alloc (.cells #[.int .i64 1000, .int .i64 (pickN s.xs 19 1001)] 3) = W0 at *
  go_loopw [91] (fun i wr => ∃ k : Nat, i = .int .i64 k ∧ k ≤ 2 ∧ Below W0.heap.size W0 wr) (fun i _ => 2 - (intOf i).toNat)
  case atStart => exact ⟨0, rfl, by omega, Below.refl _ _⟩
  case round =>
    obtain ⟨k, rfl, hk, hbr⟩ := hrel
    by_cases hlt : k < 2
    · have hbW := bel_step HB.out hbr
      have HBR := Lib.hid hbr
      have HBW := Lib.hid hbW
      have aH := HH.out.same hbW
      have aF := HF.out.same hbW
      obtain ⟨bt, ot, rfl, hbt0, _⟩ := HH.out.cells h1
      obtain ⟨bl, ol, rfl, hbl0, _⟩ := HF.out.cells h2
      obtain ⟨bt1, ot1, e1, hbt, hct⟩ := aH.cells h1
      obtain ⟨bl1, ol1, e2, hbl, hcl⟩ := aF.cells h2
      cases e1
      cases e2
      have hat := aH.2.2 0 (by dsimp only; omega)
      obtain ⟨x0, x1, x2, x3, x4, x5, x6, x7, x8, x9, x10, x11, x12, x13⟩ := hct 0 (by dsimp only; omega)
      obtain ⟨y0, y1, y2, y3, y4, y5⟩ := hcl 0 (by dsimp only; omega)
      dsimp only at x0 x1 x2 x3 x4 x5 x6 x7 x8 x9 x10 x11 x12 x13 y0 y1 y2 y3 y4 y5 hbt hbl hbt0 hbl0 hat
      simp only [Nat.zero_mul, Nat.add_zero] at x0 x1 x2 x3 x4 x5 x6 x7 x8 x9 x10 x11 x12 x13 y0 y1 y2 y3 y4 y5
      have s15 := (H8.out.below hbW).cell 15
      have s16 := (H8.out.below hbW).cell 16
      have g0 := (H9.out.below hbW).cell 0
      have g1 := (H9.out.below hbW).cell 1
      have g2 := (H9.out.below hbW).cell 2
      have g3 := (H9.out.below hbW).cell 3
      have g4 := (H9.out.below hbW).cell 4
      have g5 := (H9.out.below hbW).cell 5
      have m0 := (H11.out.below hbW).cell 0
      have m1 := (H11.out.below hbW).cell 1
      have d0 := (H12.out.below hbW).cell 0
      have d1 := (H12.out.below hbW).cell 1
      simp at s15 s16 g0 g1 g2 g3 g4 g5 m0 m1 d0 d1
      have l0 := Soft.LtH.mk (b := bt) (w := wr) hbt
      have l1 := Soft.LtH.mk (b := bl) (w := wr) hbl
      have l2 := Soft.LtH.mk (b := B8) (w := wr) (H8.out.below hbW).lt
      have l3 := Soft.LtH.mk (b := B9) (w := wr) (H9.out.below hbW).lt
      have l4 := Soft.LtH.mk (b := B11) (w := wr) (H11.out.below hbW).lt
      have l5 := Soft.LtH.mk (b := B12) (w := wr) (H12.out.below hbW).lt
      have xa : wr.cell? ⟨W.heap.size, k, none⟩ = some (.int .i64 (prtK s.xs k)) := by
        have h := (HA.out.below hbr).cell k
        match k, hlt with
        | 0, _ => exact h
        | 1, _ => exact h
      obtain ⟨pt0, pt1⟩ := prtK_in s.xs k
      have hpn : 0 ≤ nn * prtK s.xs k ∧ nn * prtK s.xs k ≤ 1000000000000000000 := ⟨Int.mul_nonneg hn0 pt0, by have := Int.mul_le_mul_of_nonneg_left pt1 hn0; omega⟩
      have e1 : nn * prtK s.xs k / 1000 = (partM nn (prtK s.xs k)).lo := rfl
      have e2 : (nn * prtK s.xs k + 999) / 1000 = (partM nn (prtK s.xs k)).hi := rfl
      have CPO := Lib.hid (fun W' (hb : Below wr.heap.size wr W') => hold_Pour (hv hx 0) (fiv fx 0) (partM nn (prtK s.xs k)) de W' (hat.same hb))
      have HP := Lib.hid (HPL.out k)
      have HAT := Lib.hid hat
      have HE := Lib.hid (⟨e1, e2⟩ : _ ∧ _)
      clear hbW hbr aH aF hct hcl hat e1 e2
      generalize prtK s.xs k = pt at *
      generalize partM nn pt = mm at *
      generalize hv hx 0 = hh at *
      generalize fiv fx 0 = ff at *
      generalize pourE hh ff mm de = E at *
      obtain ⟨⟨yh, ys, yu, yd⟩, ye⟩ := E
      dsimp only at CPO HP
      have zz1 : 0 < hn := by omega
      have zz2 : 0 < fn := by omega
      go_wp2_with fail
      rw [HE.out.1, HE.out.2]
      (refine Soft.region1e 13 15 [0, 1, 2, 3, 4, 5, 6, 7, 8, 9, 10, 11, 12, 13] 14 [15, 16] _ (by kernel_rfl) (by kernel_rfl) (by intro _ _ _ _ _ _ h; dsimp +zetaDelta only [Exit.then, Exit.inBlock] at h ⊢; exact Soft.bodyPost_put h) (by kernel_rfl) (by kernel_rfl) (by decide) rfl rfl (by kernel_rfl) ?_; change Soft.wpSoft _ _ _ _ _ [_, _, _, _, _, _, _, _, _, _, _, _, _, _] _; (repeat (refine Soft.soft_step (fun K hK => ?_); go_simp; (try go_bits); first | (refine hK _ ?_; clear hK K) | (apply Exists.intro; refine ⟨fun x => ?_, hK _ ?_⟩; ((go_at_call 8; with_reducible exact (CPO.out _ (by (repeat (first | with_reducible exact bel_refl _ | with_reducible refine bel_alloc ?_ _ | with_reducible refine bel_bw _ ?_ | with_reducible refine bel_drew ?_ | with_reducible refine bel_drewN _ ?_ | ((with_reducible refine bel_set ?_ ?_ _); rotate_left; focus (first | (simp; done) | omega | (simp; omega))) | refine bel_step ?_ (by with_reducible assumption))))))); clear hK K))); refine Soft.soft_nil ?_)
      refine ⟨fun b => .pointer (some ⟨b, 0, none⟩), .cells #[.int .i64 0, .int .i64 0, .int .i64 0, .int .i64 0, .int .i64 0, .int .i64 0] 44, fun x => by go_simp, fun kb xx hnew => ?_⟩
      change wpList _ _ _ [_, _] _ _
      obtain ⟨N, z1, rfl, ex⟩ := newSplit hnew
      rw [ex]
      clear hnew ex xx
      refine wpList_store_row rfl 44 _ _ rfl N.w.heap.size _ rfl rfl 44 _ (HasBlk.below (Soft.heap_new N.w _) z1.below) (by kernel_rfl) rfl (by kernel_rfl) ?_
      obtain ⟨z2, ex2, ex3⟩ := bwStore z1 #[.int .i64 yh, .int .i64 ys, .int .i64 yu.lo, .int .i64 yu.hi, .int .i64 yd.lo, .int .i64 yd.hi]
      rw [ex2]
      clear ex2 ex3 z1
      have hY : Below wr.heap.size wr z2.w := by (repeat (first | with_reducible exact bel_refl _ | with_reducible refine bel_alloc ?_ _ | with_reducible refine bel_bw _ ?_ | with_reducible refine bel_drew ?_ | with_reducible refine bel_drewN _ ?_ | ((with_reducible refine bel_set ?_ ?_ _); rotate_left; focus (first | (simp; done) | omega | (simp; omega))) | refine bel_step ?_ (by with_reducible assumption)))
      have c0 : HasBlk z2.w N.w.heap.size #[.int .i64 yh, .int .i64 ys, .int .i64 yu.lo, .int .i64 yu.hi, .int .i64 yd.lo, .int .i64 yd.hi] 44 := HasBlk.below (Soft.heap_new N.w _) z2.below
      have HY := Lib.hid (bel_step HBR.out hY)
      clear x0 x1 x2 x3 x4 x5 x6 x7 x8 x9 x10 x11 x12 x13 y0 y1 y2 y3 y4 y5 s15 s16 g0 g1 g2 g3 g4 g5 m0 m1 d0 d1 l0 l1 l2 l3 l4 l5 xa CPO HAT
      generalize N.w.heap.size = BN at *
      generalize z2.w = W4 at *
      have hbX := bel_step HB.out HY.out
      have C0 := Lib.hid c0
      have g2 := (H9.out.below hbX).cell 2
      have g3 := (H9.out.below hbX).cell 3
      have g4 := (H9.out.below hbX).cell 4
      have g5 := (H9.out.below hbX).cell 5
      have v2 := c0.cell 2
      have v3 := c0.cell 3
      have v4 := c0.cell 4
      have v5 := c0.cell 5
      simp at g2 g3 g4 g5 v2 v3 v4 v5
      have l0 := Soft.LtH.mk (b := B9) (w := W4) (H9.out.below hbX).lt
      have l1 := Soft.LtH.mk (b := BN) (w := W4) c0.lt
      clear c0 hbX hY
      by_cases he : ye = 0
      · have dE : (ye != 0) = false := by rw [he]; rfl
        obtain ⟨hp1, hp2⟩ := HP.out he
        have HP2 := Lib.hid hp2
        clear HP hp2
        by_cases hpt : pt = 1000
        · obtain ⟨iu, id_⟩ := hp1 hpt
          have IU := Lib.hid (show true = decide (f.ull.lo ≤ yu.lo ∧ yu.hi ≤ f.ull.hi) from iu.symm); have ID := Lib.hid (show true = decide (f.den.lo ≤ yd.lo ∧ yd.hi ≤ f.den.hi) from id_.symm)
          have dP : (pt == 1000) = true := by rw [hpt]; rfl
          clear hp1 iu id_
          go_wp2_with (first | (go_at_call 12; (with_reducible refine (Top_within yu f.ull _ true IU.out).mono ?_); rintro e w_ ⟨rfl, hb_⟩; obtain ⟨z3, rfl⟩ := Soft.BW.mk hb_; clear hb_) | (go_at_call 12; (with_reducible refine (Top_within yd f.den _ true ID.out).mono ?_); rintro e w_ ⟨rfl, hb_⟩; obtain ⟨z4, rfl⟩ := Soft.BW.mk hb_; clear hb_))
          have hz : Below W4.heap.size W4 z4.w := by (repeat (first | with_reducible exact bel_refl _ | with_reducible refine bel_alloc ?_ _ | with_reducible refine bel_bw _ ?_ | with_reducible refine bel_drew ?_ | with_reducible refine bel_drewN _ ?_ | ((with_reducible refine bel_set ?_ ?_ _); rotate_left; focus (first | (simp; done) | omega | (simp; omega))) | refine bel_step ?_ (by with_reducible assumption)))
          have HZ := Lib.hid hz
          have HW5 := Lib.hid (bel_step HY.out hz)
          clear hz g2 g3 g4 g5 v2 v3 v4 v5 l0 l1 IU ID
          generalize z4.w = W5 at *
          go_loopw [20, 143] (fun cv i wr => ∃ j : Nat, cv = .bool (covB q.xs yu yd j) ∧ i = .int .i64 j ∧ j ≤ q.n ∧ Below W5.heap.size W5 wr) (fun _ i _ => q.n - (intOf i).toNat)
          case atStart => exact ⟨0, rfl, rfl, by omega, Below.refl _ _⟩
          case round =>
            obtain ⟨j, rfl, rfl, hj, hbj⟩ := hrel
            have HBJ := Lib.hid (bel_step HW5.out hbj)
            by_cases hjl : j < q.n
            · have hbW := bel_step HB.out HBJ.out
              obtain ⟨_, _, hcap, hqc⟩ := HQ.out.same hbW
              obtain ⟨bq, oq, eq, hbq, hqq⟩ := hqc (by omega)
              obtain ⟨f0, f1, f2, f3, f4, f5⟩ := hqq j hjl
              have hqc2 := (HQ.out).2.1
              have v2 := (C0.out.below (show Below W4.heap.size W4 wr from bel_step HZ.out hbj)).cell 2
              have v3 := (C0.out.below (show Below W4.heap.size W4 wr from bel_step HZ.out hbj)).cell 3
              have v4 := (C0.out.below (show Below W4.heap.size W4 wr from bel_step HZ.out hbj)).cell 4
              have v5 := (C0.out.below (show Below W4.heap.size W4 wr from bel_step HZ.out hbj)).cell 5
              simp at v2 v3 v4 v5
              have l1 := Soft.LtH.mk (b := BN) (w := wr) (C0.out.below (show Below W4.heap.size W4 wr from bel_step HZ.out hbj)).lt
              have l2 := Soft.LtH.mk (b := bq) (w := wr) hbq
              have HN := Lib.hid (show covB q.xs yu yd (j + 1) = (covB q.xs yu yd j || (decide ((fv q.xs j).state = 3) && (inB yu (fv q.xs j).ull && inB yd (fv q.xs j).den))) from rfl)
              have HJ := Lib.hid hbj
              rw [eq]
              clear hbW hqq hqc hbq hbj eq
              generalize fv q.xs j = x at *
              generalize covB q.xs yu yd j = cv at *
              by_cases hcv : cv = true
              · subst hcv
                go_wp2_with fail
                go_roundw
                case rel => exact ⟨j + 1, by rw [HN.out]; rfl, by simp, by omega, bel_step HJ.out (show Below wr.heap.size wr _ by (repeat (first | with_reducible exact bel_refl _ | with_reducible refine bel_alloc ?_ _ | with_reducible refine bel_bw _ ?_ | with_reducible refine bel_drew ?_ | with_reducible refine bel_drewN _ ?_ | ((with_reducible refine bel_set ?_ ?_ _); rotate_left; focus (first | (simp; done) | omega | (simp; omega))) | refine bel_step ?_ (by with_reducible assumption))))⟩
                case measure => simp [intOf]; omega
              · obtain rfl : cv = false := by simpa using hcv
                by_cases hs : x.state = 3
                · have dS : (x.state == 3) = true := by rw [hs]; rfl
                  have HS := Lib.hid hs
                  clear hs
                  by_cases hu : x.ull.lo ≤ yu.lo ∧ yu.hi ≤ x.ull.hi
                  · have HU := Lib.hid hu
                    clear hu
                    go_wp2_with (first | (go_at_call 12; (with_reducible refine (Top_within yu x.ull _ true (decide_eq_true HU.out).symm).mono ?_); rintro e w_ ⟨rfl, hb_⟩; obtain ⟨z5, rfl⟩ := Soft.BW.mk hb_; clear hb_) | (go_at_call 12; (with_reducible refine (Top_within yd x.den _ _ rfl).mono ?_); rintro e w_ ⟨rfl, hb_⟩; obtain ⟨z6, rfl⟩ := Soft.BW.mk hb_; clear hb_))
                    go_roundw
                    case rel => exact ⟨j + 1, by rw [HN.out, decide_eq_true HS.out, show inB yu x.ull = true from decide_eq_true HU.out]; simp [inB], by simp, by omega, bel_step HJ.out (show Below wr.heap.size wr _ by (repeat (first | with_reducible exact bel_refl _ | with_reducible refine bel_alloc ?_ _ | with_reducible refine bel_bw _ ?_ | with_reducible refine bel_drew ?_ | with_reducible refine bel_drewN _ ?_ | ((with_reducible refine bel_set ?_ ?_ _); rotate_left; focus (first | (simp; done) | omega | (simp; omega))) | refine bel_step ?_ (by with_reducible assumption))))⟩
                    case measure => simp [intOf]; omega
                  · have HU := Lib.hid hu
                    clear hu
                    go_wp2_with (first | (go_at_call 12; (with_reducible refine (Top_within yu x.ull _ false (decide_eq_false HU.out).symm).mono ?_); rintro e w_ ⟨rfl, hb_⟩; obtain ⟨z5, rfl⟩ := Soft.BW.mk hb_; clear hb_))
                    go_roundw
                    case rel => exact ⟨j + 1, by rw [HN.out, show inB yu x.ull = false from decide_eq_false HU.out]; simp, by simp, by omega, bel_step HJ.out (show Below wr.heap.size wr _ by (repeat (first | with_reducible exact bel_refl _ | with_reducible refine bel_alloc ?_ _ | with_reducible refine bel_bw _ ?_ | with_reducible refine bel_drew ?_ | with_reducible refine bel_drewN _ ?_ | ((with_reducible refine bel_set ?_ ?_ _); rotate_left; focus (first | (simp; done) | omega | (simp; omega))) | refine bel_step ?_ (by with_reducible assumption))))⟩
                    case measure => simp [intOf]; omega
                · have dS : (x.state == 3) = false := beq_eq_false_iff_ne.2 hs
                  have HS := Lib.hid hs
                  clear hs
                  go_wp2_with fail
                  go_roundw
                  case rel => exact ⟨j + 1, by rw [HN.out, decide_eq_false HS.out]; simp, by simp, by omega, bel_step HJ.out (show Below wr.heap.size wr _ by (repeat (first | with_reducible exact bel_refl _ | with_reducible refine bel_alloc ?_ _ | with_reducible refine bel_bw _ ?_ | with_reducible refine bel_drew ?_ | with_reducible refine bel_drewN _ ?_ | ((with_reducible refine bel_set ?_ ?_ _); rotate_left; focus (first | (simp; done) | omega | (simp; omega))) | refine bel_step ?_ (by with_reducible assumption))))⟩
                  case measure => simp [intOf]; omega
            · obtain rfl : j = q.n := by omega
              rw [HP2.out]
              go_wp2_with fail
              go_roundw
              case rel => exact ⟨k + 1, by simp, by omega, HBJ.out⟩
              case measure => simp [intOf]; omega
        · have dP : (pt == 1000) = false := beq_eq_false_iff_ne.2 hpt
          clear hp1
          go_wp2_with fail
          have HZ := Lib.hid (bel_refl W4)
          have HW5 := Lib.hid HY.out
          clear g2 g3 g4 g5 v2 v3 v4 v5 l0 l1
          go_loopw [20, 143] (fun cv i wr => ∃ j : Nat, cv = .bool (covB q.xs yu yd j) ∧ i = .int .i64 j ∧ j ≤ q.n ∧ Below W4.heap.size W4 wr) (fun _ i _ => q.n - (intOf i).toNat)
          case atStart => exact ⟨0, rfl, rfl, by omega, Below.refl _ _⟩
          case round =>
            obtain ⟨j, rfl, rfl, hj, hbj⟩ := hrel
            have HBJ := Lib.hid (bel_step HW5.out hbj)
            by_cases hjl : j < q.n
            · have hbW := bel_step HB.out HBJ.out
              obtain ⟨_, _, hcap, hqc⟩ := HQ.out.same hbW
              obtain ⟨bq, oq, eq, hbq, hqq⟩ := hqc (by omega)
              obtain ⟨f0, f1, f2, f3, f4, f5⟩ := hqq j hjl
              have hqc2 := (HQ.out).2.1
              have v2 := (C0.out.below (show Below W4.heap.size W4 wr from bel_step HZ.out hbj)).cell 2
              have v3 := (C0.out.below (show Below W4.heap.size W4 wr from bel_step HZ.out hbj)).cell 3
              have v4 := (C0.out.below (show Below W4.heap.size W4 wr from bel_step HZ.out hbj)).cell 4
              have v5 := (C0.out.below (show Below W4.heap.size W4 wr from bel_step HZ.out hbj)).cell 5
              simp at v2 v3 v4 v5
              have l1 := Soft.LtH.mk (b := BN) (w := wr) (C0.out.below (show Below W4.heap.size W4 wr from bel_step HZ.out hbj)).lt
              have l2 := Soft.LtH.mk (b := bq) (w := wr) hbq
              have HN := Lib.hid (show covB q.xs yu yd (j + 1) = (covB q.xs yu yd j || (decide ((fv q.xs j).state = 3) && (inB yu (fv q.xs j).ull && inB yd (fv q.xs j).den))) from rfl)
              have HJ := Lib.hid hbj
              rw [eq]
              clear hbW hqq hqc hbq hbj eq
              generalize fv q.xs j = x at *
              generalize covB q.xs yu yd j = cv at *
              by_cases hcv : cv = true
              · subst hcv
                go_wp2_with fail
                go_roundw
                case rel => exact ⟨j + 1, by rw [HN.out]; rfl, by simp, by omega, bel_step HJ.out (show Below wr.heap.size wr _ by (repeat (first | with_reducible exact bel_refl _ | with_reducible refine bel_alloc ?_ _ | with_reducible refine bel_bw _ ?_ | with_reducible refine bel_drew ?_ | with_reducible refine bel_drewN _ ?_ | ((with_reducible refine bel_set ?_ ?_ _); rotate_left; focus (first | (simp; done) | omega | (simp; omega))) | refine bel_step ?_ (by with_reducible assumption))))⟩
                case measure => simp [intOf]; omega
              · obtain rfl : cv = false := by simpa using hcv
                by_cases hs : x.state = 3
                · have dS : (x.state == 3) = true := by rw [hs]; rfl
                  have HS := Lib.hid hs
                  clear hs
                  by_cases hu : x.ull.lo ≤ yu.lo ∧ yu.hi ≤ x.ull.hi
                  · have HU := Lib.hid hu
                    clear hu
                    go_wp2_with (first | (go_at_call 12; (with_reducible refine (Top_within yu x.ull _ true (decide_eq_true HU.out).symm).mono ?_); rintro e w_ ⟨rfl, hb_⟩; obtain ⟨z5, rfl⟩ := Soft.BW.mk hb_; clear hb_) | (go_at_call 12; (with_reducible refine (Top_within yd x.den _ _ rfl).mono ?_); rintro e w_ ⟨rfl, hb_⟩; obtain ⟨z6, rfl⟩ := Soft.BW.mk hb_; clear hb_))
                    go_roundw
                    case rel => exact ⟨j + 1, by rw [HN.out, decide_eq_true HS.out, show inB yu x.ull = true from decide_eq_true HU.out]; simp [inB], by simp, by omega, bel_step HJ.out (show Below wr.heap.size wr _ by (repeat (first | with_reducible exact bel_refl _ | with_reducible refine bel_alloc ?_ _ | with_reducible refine bel_bw _ ?_ | with_reducible refine bel_drew ?_ | with_reducible refine bel_drewN _ ?_ | ((with_reducible refine bel_set ?_ ?_ _); rotate_left; focus (first | (simp; done) | omega | (simp; omega))) | refine bel_step ?_ (by with_reducible assumption))))⟩
                    case measure => simp [intOf]; omega
                  · have HU := Lib.hid hu
                    clear hu
                    go_wp2_with (first | (go_at_call 12; (with_reducible refine (Top_within yu x.ull _ false (decide_eq_false HU.out).symm).mono ?_); rintro e w_ ⟨rfl, hb_⟩; obtain ⟨z5, rfl⟩ := Soft.BW.mk hb_; clear hb_))
                    go_roundw
                    case rel => exact ⟨j + 1, by rw [HN.out, show inB yu x.ull = false from decide_eq_false HU.out]; simp, by simp, by omega, bel_step HJ.out (show Below wr.heap.size wr _ by (repeat (first | with_reducible exact bel_refl _ | with_reducible refine bel_alloc ?_ _ | with_reducible refine bel_bw _ ?_ | with_reducible refine bel_drew ?_ | with_reducible refine bel_drewN _ ?_ | ((with_reducible refine bel_set ?_ ?_ _); rotate_left; focus (first | (simp; done) | omega | (simp; omega))) | refine bel_step ?_ (by with_reducible assumption))))⟩
                    case measure => simp [intOf]; omega
                · have dS : (x.state == 3) = false := beq_eq_false_iff_ne.2 hs
                  have HS := Lib.hid hs
                  clear hs
                  go_wp2_with fail
                  go_roundw
                  case rel => exact ⟨j + 1, by rw [HN.out, decide_eq_false HS.out]; simp, by simp, by omega, bel_step HJ.out (show Below wr.heap.size wr _ by (repeat (first | with_reducible exact bel_refl _ | with_reducible refine bel_alloc ?_ _ | with_reducible refine bel_bw _ ?_ | with_reducible refine bel_drew ?_ | with_reducible refine bel_drewN _ ?_ | ((with_reducible refine bel_set ?_ ?_ _); rotate_left; focus (first | (simp; done) | omega | (simp; omega))) | refine bel_step ?_ (by with_reducible assumption))))⟩
                  case measure => simp [intOf]; omega
            · obtain rfl : j = q.n := by omega
              rw [HP2.out]
              go_wp2_with fail
              go_roundw
              case rel => exact ⟨k + 1, by simp, by omega, HBJ.out⟩
              case measure => simp [intOf]; omega
      · have dE : (ye != 0) = true := bne_iff_ne.2 he
        clear HP
        go_wp2_with fail
        go_roundw
        case rel => exact ⟨k + 1, by simp, by omega, HY.out⟩
        case measure => simp [intOf]; omega
    · obtain rfl : k = 2 := by omega
      go_wp2_with fail
      exact HR.out _ (bel_step HB.out hbr)

end Go.Proofs.YteagdcgmmdiakaaGreat
