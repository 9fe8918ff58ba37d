/-
  TopBounds: the loads, and what is checked.
  TopBounds from truth on.
  ullagetop: awake.
  A load of a struct under a guard.
  The walk of the law TopBounds.
  TopBounds, plain: the ship of the truth.
  TopBounds, plain: tables of the truth's holds and tanks.
  TopBounds, plain: what the truth's holds and tanks hold.
  TopBounds, plain: weights of the truth.
  Conditions: each theorem's own premises.
-/
import Derived.Test.YteagdcgmmdiakaaGreatP27
import Derived.Test.YteagdcgmmdiakaaGreatP16
import Derived.Test.YteagdcgmmdiakaaGreatP22
import Derived.Test.YteagdcgmmdiakaaGreatP05
import Derived.Test.YteagdcgmmdiakaaGreatP17
import Derived.Test.YteagdcgmmdiakaaGreatP18
namespace Go.Proofs.YteagdcgmmdiakaaGreat
set_option linter.unusedSimpArgs false
set_option linter.unusedVariables false
open Go.RowKit
set_option maxRecDepth 1000000
set_option maxHeartbeats 20000000
attribute [local go_sem] Instr.field asAgg Soft.upon Soft.upon0 Soft.stepC Soft.BW.cell_if Soft.BW.frozen_if Soft.cell_alloc_if Soft.frozen_alloc_if
attribute [local irreducible] Soft.wpSoft Soft.wpMix
variable {u0 u1 u3 u4 u5 u6 u7 u8 u9 u10 u11 u12 u13 u14 u15 u16 u17 u18 u19 u20 u21 u22 u23 u24 u25 u26 u27 u28 u29 u30 u31 u32 u33 u34 u35 u36 u37 u38 u39 u40 u41 u42 u43 u44 u45 u46 u47 u48 u49 u50 u51 u52 u53 u54 u55 u56 u57 u58 u59 u60 u61 u62 u63 u64 u65 u66 u67 u68 u69 u70 u71 u72 u73 u74 u75 u76 u77 u78 u79 u80 u81 u82 u83 u84 u85 u86 u87 u88 u89 u90 u91 u92 u93 u94 u95 u96 u97 u98 u99 u100 u101 u102 u103 u104 u105 u106 u107 u108 u109 u110 u111 u112 u113 u114 u115 u116 u117 u118 u119 u120 u121 u122 u123 u124 u125 u126 u127 u128 u129 u130 u131 u132 u133 u134 u135 u136 u137 u138 u139 u140 u141 u142 u143 u144 u145 u146 u147 u148 u149 u150 u151 u152 u153 u154 u155 u156 u157 u158 u159 u160 u161 u162 u163 u164 u165 u166 u167 u168 u169 u170 u171 u172 u173 u174 u175 u176 u177 u178 u179 u180 u181 u182 u183 u184 u185 u186 u187 u188 u189 u190 u191 u192 u193 u194 u195 u196 u197 u198 u199 u200 u201 u202 u203 u204 u205 u206 u207 u208 u209 u210 u211 u212 u213 u214 u215 u216 u217 : Value}
theorem loadIn_of {L L0 : La} (h : LoadIn L0) (a : L.ws.xs = L0.ws.xs) (b : L.sur = L0.sur) (c : L.shi = L0.shi) : LoadIn L :=
  ⟨by rw [a]; exact h.n, by rw [b]; exact h.sur, by rw [c]; exact h.shi, by rw [a]; exact h.w⟩
theorem bnd_chk {PP PQ : Pa} {E E' : Ld} {er : Int} {W : World} {B2 B6 : Nat} {p0 p1 p2 p3 p4 p5 p6 p7 p8 p9 p10 p11 p12 p13 p14 p15 p16 p17 p18 p19 q0 q1 q2 q3 q4 q5 q6 q7 q8 q9 q10 q11 q12 q13 q14 q15 q16 q17 q18 q19 : Value} {R : Ending → World → Prop}
    (H2 : Hid (HasBlk W B2 #[p0, p1, p2, p3, p4, p5, p6, p7, p8, p9, p10, p11, p12, p13, p14, p15, p16, p17, p18, p19] 37)) (H6 : Hid (HasBlk W B6 #[q0, q1, q2, q3, q4, q5, q6, q7, q8, q9, q10, q11, q12, q13, q14, q15, q16, q17, q18, q19] 37))
    (CT : Hid (∀ W', Below W.heap.size W W' → Calls Tryz.prog 15 #[.agg #[p0, p1, p2, p3, p4, p5, p6, p7, p8, p9, p10, p11, p12, p13, p14, p15, p16, p17, p18, p19]] W' (ToldPost PP W'))) (CU : Hid (∀ W', Below W.heap.size W W' → Calls Tryz.prog 15 #[.agg #[q0, q1, q2, q3, q4, q5, q6, q7, q8, q9, q10, q11, q12, q13, q14, q15, q16, q17, q18, q19]] W' (ToldPost PQ W')))
    (TL : Hid (∀ L L', LaIs PP L → LaIs PQ L' → LoadIn L → LoadIn L' ∧ ∀ V V', TotIs (allW PP.ship L) V → TotIs (allW PQ.ship L') V' → ∀ i, i < (facE PP.ship L V PP.most).length → fndE (fv (facE PP.ship L V PP.most) i) (facE PQ.ship L' V' PQ.most) (facE PQ.ship L' V' PQ.most).length = true))
    (TM : Hid (∀ (L L' : La) (W1 : World), Below W.heap.size W W1 → L.At W1 → L'.At W1 → LaIs PP L → LaIs PQ L' → LoadIn L → ∃ D D' : List Pt × Int, (∀ W', Below W1.heap.size W1 W' → Calls Tryz.prog 17 #[.agg #[p0, p1, p2, p3, p4, p5, p6, p7, p8, p9, p10, p11, p12, p13, p14], .agg #[.slice ((L).ws).p ((L).ws).n ((L).ws).c, .int .i64 ((L).sur).lo, .int .i64 ((L).sur).hi, .int .i64 ((L).shi).lo, .int .i64 ((L).shi).hi]] W' (DrawPost D W')) ∧ (∀ W', Below W1.heap.size W1 W' → Calls Tryz.prog 17 #[.agg #[q0, q1, q2, q3, q4, q5, q6, q7, q8, q9, q10, q11, q12, q13, q14], .agg #[.slice ((L').ws).p ((L').ws).n ((L').ws).c, .int .i64 ((L').sur).lo, .int .i64 ((L').sur).hi, .int .i64 ((L').shi).lo, .int .i64 ((L').shi).hi]] W' (DrawPost D' W')) ∧ (D.2 = 0 → D'.2 = 0 ∧ D'.1.length = D.1.length ∧ ∀ k, k < D.1.length → (pt D'.1 k).x = (pt D.1 k).x ∧ (pt D.1 k).lo ≤ (pt D'.1 k).lo ∧ (pt D'.1 k).hi ≤ (pt D.1 k).hi)))
    (CL : Hid (∀ W', Below W.heap.size W W' → Calls Tryz.prog 13 #[p15, p16, p17, p18] W' (LdPost W' (er, E)))) (CK : Hid (∀ W', Below W.heap.size W W' → Calls Tryz.prog 13 #[q15, q16, q17, q18] W' (LdPost W' (0, E')))) (CS : Hid (∀ W', Below W.heap.size W W' → Calls Tryz.prog 14 #[.agg #[q0, q1, q2, q3, q4, q5, q6, q7, q8, q9, q10, q11, q12, q13, q14]] W' fun e w' => e = .returned (.int .i64 0) ∧ Below W'.heap.size W' w'))
    (HE : Hid ((loadE PP.holds.xs PP.fills.xs PP.tanks.xs PP.levels.xs).2 = E)) (HE' : Hid ((loadE PQ.holds.xs PQ.fills.xs PQ.tanks.xs PQ.levels.xs).2 = E'))
    (HN : Hid (E'.ws.length = E.ws.length)) (HS : Hid (E.sur.lo ≤ E'.sur.lo ∧ E'.sur.hi ≤ E.sur.hi)) (HH : Hid (E.shi.lo ≤ E'.shi.lo ∧ E'.shi.hi ≤ E.shi.hi)) (HW : Hid (∀ k, k < E.ws.length → InS (wv E'.ws k).mass (wv E.ws k).mass ∧ InS (wv E'.ws k).along (wv E.ws k).along ∧ InS (wv E'.ws k).high (wv E.ws k).high))
    (hR : ∀ w', Below W.heap.size W w' → R (.returned (.bool true)) w') :
    Code.wp Tryz.prog (bndCut 4) (bodyPost Tryz.prog Tryz.f4 R) { tmps := #[u0, u1, .pointer (some ⟨B2, 0, none⟩), u3, u4, u5, .pointer (some ⟨B6, 0, none⟩), u7, u8, u9, u10, u11, u12, u13, u14, u15, u16, u17, u18, u19, u20, u21, u22, u23, u24, u25, u26, u27, u28, u29, u30, u31, u32, u33, u34, u35, u36, u37, u38, u39, u40, u41, u42, u43, u44, u45, u46, u47, u48, u49, u50, u51, u52, u53, u54, u55, u56, u57, u58, u59, u60, u61, u62, u63, u64, u65, u66, u67, u68, u69, u70, u71, u72, u73, u74, u75, u76, u77, u78, u79, u80, u81, u82, u83, u84, u85, u86, u87, u88, u89, u90, u91, u92, u93, u94, u95, u96, u97, u98, u99, u100, u101, u102, u103, u104, u105, u106, u107, u108, u109, u110, u111, u112, u113, u114, u115, u116, u117, u118, u119, u120, u121, u122, u123, u124, u125, u126, u127, u128, u129, u130, u131, u132, u133, u134, u135, u136, u137, u138, u139, u140, u141, u142, u143, u144, u145, u146, u147, u148, u149, u150, u151, u152, u153, u154, u155, u156, u157, u158, u159, u160, u161, u162, u163, u164, u165, u166, u167, u168, u169, u170, u171, u172, u173, u174, u175, u176, u177, u178, u179, u180, u181, u182, u183, u184, u185, u186, u187, u188, u189, u190, u191, u192, u193, u194, u195, u196, u197, u198, u199, u200, u201, u202, u203, u204, u205, u206, u207, u208, u209, u210, u211, u212, u213, u214, u215, u216, u217], defers := [] } W := by
  have HR := Lib.hid hR
  clear hR
  unfold bndCut
  conv => arg 2; whnf
  obtain ⟨ew, es, eh⟩ := E
  obtain ⟨fw, fs, fh⟩ := E'
  dsimp only at HN HS HH HW
  have tn : ((ew.length : Int) != (fw.length : Int)) = false := by rw [HN.out]; simp
  have ca15 := H2.out.cell 15
  have ca16 := H2.out.cell 16
  have ca17 := H2.out.cell 17
  have ca18 := H2.out.cell 18
  simp at ca15 ca16 ca17 ca18
  have lca := Soft.LtH.mk (b := B2) (w := W) H2.out.lt
  have cb0 := H6.out.cell 0
  have cb1 := H6.out.cell 1
  have cb2 := H6.out.cell 2
  have cb3 := H6.out.cell 3
  have cb4 := H6.out.cell 4
  have cb5 := H6.out.cell 5
  have cb6 := H6.out.cell 6
  have cb7 := H6.out.cell 7
  have cb8 := H6.out.cell 8
  have cb9 := H6.out.cell 9
  have cb10 := H6.out.cell 10
  have cb11 := H6.out.cell 11
  have cb12 := H6.out.cell 12
  have cb13 := H6.out.cell 13
  have cb14 := H6.out.cell 14
  have cb15 := H6.out.cell 15
  have cb16 := H6.out.cell 16
  have cb17 := H6.out.cell 17
  have cb18 := H6.out.cell 18
  simp at cb0 cb1 cb2 cb3 cb4 cb5 cb6 cb7 cb8 cb9 cb10 cb11 cb12 cb13 cb14 cb15 cb16 cb17 cb18
  have lcb := Soft.LtH.mk (b := B6) (w := W) H6.out.lt
  go_wp2_with (first | (go_at_call 13; (with_reducible refine (CL.out _ (by (with_reducible repeat (first | exact blr _ | refine bla ?_ _ | refine blw _ ?_ | refine bld ?_ | refine bln _ ?_ | refine bls ?_ _ | refine blt ?_)))).mono ?_); rintro e w_ ⟨p, cc, rfl, hws, hb_, hpc⟩; obtain ⟨y1, rfl⟩ := Soft.BW.mk hb_; clear hb_; have HA := Lib.hid hws; have HPC := Lib.hid hpc; clear hws hpc) | (go_at_call 13; (with_reducible refine (CK.out _ (by (with_reducible repeat (first | exact blr _ | refine bla ?_ _ | refine blw _ ?_ | refine bld ?_ | refine bln _ ?_ | refine bls ?_ _ | refine blt ?_)))).mono ?_); rintro e w_ ⟨p', cc', rfl, hws, hb_, hpc⟩; obtain ⟨y2, rfl⟩ := Soft.BW.mk hb_; clear hb_; have HB := Lib.hid hws; have HPD := Lib.hid hpc; clear hws hpc) | (go_at_call 14; (with_reducible refine (CS.out _ (by (with_reducible repeat (first | exact blr _ | refine bla ?_ _ | refine blw _ ?_ | refine bld ?_ | refine bln _ ?_ | refine bls ?_ _ | refine blt ?_)))).mono ?_); rintro e w_ ⟨rfl, hb_⟩; obtain ⟨y3, rfl⟩ := Soft.BW.mk hb_; clear hb_) | (go_at_call 12; (with_reducible refine (Top_within fs es _ true (decide_eq_true HS.out).symm).mono ?_); rintro e w_ ⟨rfl, hb_⟩; obtain ⟨y4, rfl⟩ := Soft.BW.mk hb_; clear hb_) | (go_at_call 12; (with_reducible refine (Top_within fh eh _ true (decide_eq_true HH.out).symm).mono ?_); rintro e w_ ⟨rfl, hb_⟩; obtain ⟨y5, rfl⟩ := Soft.BW.mk hb_; clear hb_; (rename ∀ (a : Act) (w_1 : World), Code.wp _ (Code.seq _ _) _ a w_1 → _ => hk_); have HKX := Lib.hid hk_; clear hk_))
  have hy : Below W.heap.size W y5.w := by (with_reducible repeat (first | exact blr _ | refine bla ?_ _ | refine blw _ ?_ | refine bld ?_ | refine bln _ ?_ | refine bls ?_ _ | refine blt ?_))
  have h7 : HasBlk y5.w y1.w.heap.size #[.slice p ew.length cc, .int .i64 es.lo, .int .i64 es.hi, .int .i64 eh.lo, .int .i64 eh.hi] 58 := HasBlk.below (Soft.heap_new y1.w _) (by (with_reducible repeat (first | exact blr _ | refine bla ?_ _ | refine blw _ ?_ | refine bld ?_ | refine bln _ ?_ | refine bls ?_ _ | refine blt ?_)))
  have h9 : HasBlk y5.w y2.w.heap.size #[.slice p' fw.length cc', .int .i64 fs.lo, .int .i64 fs.hi, .int .i64 fh.lo, .int .i64 fh.hi] 58 := HasBlk.below (Soft.heap_new y2.w _) (by (with_reducible repeat (first | exact blr _ | refine bla ?_ _ | refine blw _ ?_ | refine bld ?_ | refine bln _ ?_ | refine bls ?_ _ | refine blt ?_)))
  have hA := HA.out.same (show Below y1.w.heap.size y1.w y5.w by (with_reducible repeat (first | exact blr _ | refine bla ?_ _ | refine blw _ ?_ | refine bld ?_ | refine bln _ ?_ | refine bls ?_ _ | refine blt ?_)))
  have hB := HB.out.same (show Below y2.w.heap.size y2.w y5.w by (with_reducible repeat (first | exact blr _ | refine bla ?_ _ | refine blw _ ?_ | refine bld ?_ | refine bln _ ?_ | refine bls ?_ _ | refine blt ?_)))
  have hL : LaIs PP ⟨⟨p, ew.length, cc, ew⟩, es, eh⟩ := ⟨by rw [HE.out], by rw [HE.out], by rw [HE.out]⟩
  have hL' : LaIs PQ ⟨⟨p', fw.length, cc', fw⟩, fs, fh⟩ := ⟨by rw [HE'.out], by rw [HE'.out], by rw [HE'.out]⟩
  refine HKX.out _ _ (bnd_wts (a := ⟨p, ew.length, cc, ew⟩) (b := ⟨p', fw.length, cc', fw⟩) (PP := PP) (PQ := PQ) (Lib.hid (H2.out.below hy)) (Lib.hid (H6.out.below hy)) (Lib.hid h7) (Lib.hid h9) (Lib.hid fun W' hb => CT.out W' (bel_step hy hb)) (Lib.hid fun W' hb => CU.out W' (bel_step hy hb)) TL (Lib.hid fun L0 h0 hi => ?_) (Lib.hid hA) (Lib.hid hB) HN HW (fun w' hw' => HR.out w' (bel_step hy hw')))
  exact TM.out ⟨⟨p, ew.length, cc, ew⟩, es, eh⟩ ⟨⟨p', fw.length, cc', fw⟩, fs, fh⟩ y5.w hy ⟨hA, HPC.out⟩ ⟨hB, HPD.out⟩ hL hL' (loadIn_of hi (hL.ws.trans h0.ws.symm) (hL.sur.trans h0.sur.symm) (hL.shi.trans h0.shi.symm))

/-- What the law asks of parts and their truth, in plain words. -/
structure Bnd (P P' : Pa) : Prop where
  ok : PartsOk P'
  wl : (loadE P'.holds.xs P'.fills.xs P'.tanks.xs P'.levels.xs).2.ws.length = (loadE P.holds.xs P.fills.xs P.tanks.xs P.levels.xs).2.ws.length
  sur : InS (loadE P'.holds.xs P'.fills.xs P'.tanks.xs P'.levels.xs).2.sur (loadE P.holds.xs P.fills.xs P.tanks.xs P.levels.xs).2.sur
  shi : InS (loadE P'.holds.xs P'.fills.xs P'.tanks.xs P'.levels.xs).2.shi (loadE P.holds.xs P.fills.xs P.tanks.xs P.levels.xs).2.shi
  ws : ∀ k, k < (loadE P.holds.xs P.fills.xs P.tanks.xs P.levels.xs).2.ws.length → InS (wv (loadE P'.holds.xs P'.fills.xs P'.tanks.xs P'.levels.xs).2.ws k).mass (wv (loadE P.holds.xs P.fills.xs P.tanks.xs P.levels.xs).2.ws k).mass ∧ InS (wv (loadE P'.holds.xs P'.fills.xs P'.tanks.xs P'.levels.xs).2.ws k).along (wv (loadE P.holds.xs P.fills.xs P.tanks.xs P.levels.xs).2.ws k).along ∧ InS (wv (loadE P'.holds.xs P'.fills.xs P'.tanks.xs P'.levels.xs).2.ws k).high (wv (loadE P.holds.xs P.fills.xs P.tanks.xs P.levels.xs).2.ws k).high
  li : ∀ L L', LaIs P L → LaIs P' L' → LoadIn L → LoadIn L'
  fac : ∀ L L', LaIs P L → LaIs P' L' → LoadIn L → ∀ V V', TotIs (allW P.ship L) V → TotIs (allW P'.ship L') V' → ∀ i, i < (facE P.ship L V P.most).length → fndE (fv (facE P.ship L V P.most) i) (facE P'.ship L' V' P'.most) (facE P'.ship L' V' P'.most).length = true
  mg : ∀ L L', LaIs P L → LaIs P' L' → LoadIn L → ∀ V V', TotIs (allW P.ship L) V → TotIs (allW P'.ship L') V' → (mgnE P.ship L V).2 = 0 → (mgnE P'.ship L' V').2 = 0 ∧ (mgnE P'.ship L' V').1.length = (mgnE P.ship L V).1.length ∧ ∀ k, k < (mgnE P.ship L V).1.length → (pt (mgnE P'.ship L' V').1 k).x = (pt (mgnE P.ship L V).1 k).x ∧ (pt (mgnE P.ship L V).1 k).lo ≤ (pt (mgnE P'.ship L' V').1 k).lo ∧ (pt (mgnE P'.ship L' V').1 k).hi ≤ (pt (mgnE P.ship L V).1 k).hi
theorem bnd_tru {PP : Pa} {s : Is} {W : World} {B2 : Nat} {R : Ending → World → Prop}
    (HP : Hid (PP.At W)) (HSI : Hid (s.At W)) (HOK : Hid (PartsOk PP)) (HB : Hid (∀ PQ, PaT s.xs PP PQ → Bnd PP PQ)) (H2 : Hid (HasBlk W B2 #[.int .i64 (PP.ship).len, .slice ((PP.ship).dra).p ((PP.ship).dra).n ((PP.ship).dra).c, .slice ((PP.ship).hei).p ((PP.ship).hei).n ((PP.ship).hei).c, .slice ((PP.ship).cen).p ((PP.ship).cen).n ((PP.ship).cen).c, .slice ((PP.ship).tri).p ((PP.ship).tri).n ((PP.ship).tri).c, .slice ((PP.ship).flo).p ((PP.ship).flo).n ((PP.ship).flo).c, .slice ((PP.ship).cross).p ((PP.ship).cross).n ((PP.ship).cross).c, .slice ((PP.ship).sin).p ((PP.ship).sin).n ((PP.ship).sin).c, .slice ((PP.ship).shi).p ((PP.ship).shi).n ((PP.ship).shi).c, .int .i64 (((PP.ship).light).mass).lo, .int .i64 (((PP.ship).light).mass).hi, .int .i64 (((PP.ship).light).along).lo, .int .i64 (((PP.ship).light).along).hi, .int .i64 (((PP.ship).light).high).lo, .int .i64 (((PP.ship).light).high).hi, .slice PP.holds.p PP.holds.n PP.holds.c, .slice PP.fills.p PP.fills.n PP.fills.c, .slice PP.tanks.p PP.tanks.n PP.tanks.c, .slice PP.levels.p PP.levels.n PP.levels.c, .int .i64 PP.most] 37))
    (hR : ∀ w', Below W.heap.size W w' → R (.returned (.bool true)) w') :
    Code.wp Tryz.prog (bndCut 3) (bodyPost Tryz.prog Tryz.f4 R) { tmps := #[u0, .slice s.p s.n s.c, .pointer (some ⟨B2, 0, none⟩), u3, u4, u5, u6, u7, u8, u9, u10, u11, u12, u13, u14, u15, u16, u17, u18, u19, u20, u21, u22, u23, u24, u25, u26, u27, u28, u29, u30, u31, u32, u33, u34, u35, u36, u37, u38, u39, u40, u41, u42, u43, u44, u45, u46, u47, u48, u49, u50, u51, u52, u53, u54, u55, u56, u57, u58, u59, u60, u61, u62, u63, u64, u65, u66, u67, u68, u69, u70, u71, u72, u73, u74, u75, u76, u77, u78, u79, u80, u81, u82, u83, u84, u85, u86, u87, u88, u89, u90, u91, u92, u93, u94, u95, u96, u97, u98, u99, u100, u101, u102, u103, u104, u105, u106, u107, u108, u109, u110, u111, u112, u113, u114, u115, u116, u117, u118, u119, u120, u121, u122, u123, u124, u125, u126, u127, u128, u129, u130, u131, u132, u133, u134, u135, u136, u137, u138, u139, u140, u141, u142, u143, u144, u145, u146, u147, u148, u149, u150, u151, u152, u153, u154, u155, u156, u157, u158, u159, u160, u161, u162, u163, u164, u165, u166, u167, u168, u169, u170, u171, u172, u173, u174, u175, u176, u177, u178, u179, u180, u181, u182, u183, u184, u185, u186, u187, u188, u189, u190, u191, u192, u193, u194, u195, u196, u197, u198, u199, u200, u201, u202, u203, u204, u205, u206, u207, u208, u209, u210, u211, u212, u213, u214, u215, u216, u217], defers := [] } W := by
  have HR := Lib.hid hR
  have CT := Lib.hid (Top_truth PP s W HP.out HSI.out HOK.out)
  clear hR
  unfold bndCut
  conv => arg 2; whnf
  go_wp2_with (first
    | (refine wpList_load_part rfl 37 (.tmp 2) rfl B2 0 rfl 37 _ #[.int .i64 (PP.ship).len, .slice ((PP.ship).dra).p ((PP.ship).dra).n ((PP.ship).dra).c, .slice ((PP.ship).hei).p ((PP.ship).hei).n ((PP.ship).hei).c, .slice ((PP.ship).cen).p ((PP.ship).cen).n ((PP.ship).cen).c, .slice ((PP.ship).tri).p ((PP.ship).tri).n ((PP.ship).tri).c, .slice ((PP.ship).flo).p ((PP.ship).flo).n ((PP.ship).flo).c, .slice ((PP.ship).cross).p ((PP.ship).cross).n ((PP.ship).cross).c, .slice ((PP.ship).sin).p ((PP.ship).sin).n ((PP.ship).sin).c, .slice ((PP.ship).shi).p ((PP.ship).shi).n ((PP.ship).shi).c, .int .i64 (((PP.ship).light).mass).lo, .int .i64 (((PP.ship).light).mass).hi, .int .i64 (((PP.ship).light).along).lo, .int .i64 (((PP.ship).light).along).hi, .int .i64 (((PP.ship).light).high).lo, .int .i64 (((PP.ship).light).high).hi, .slice PP.holds.p PP.holds.n PP.holds.c, .slice PP.fills.p PP.fills.n PP.fills.c, .slice PP.tanks.p PP.tanks.n PP.tanks.c, .slice PP.levels.p PP.levels.n PP.levels.c, .int .i64 PP.most] _ H2.out Tryz.underlying37 rfl (by kernel_rfl) rfl ?_)
    | (go_at_call 7; refine CT.out.mono ?_; rintro e w_ ⟨PQ, rfl, hT, hQ, hb_⟩; obtain ⟨y1, rfl⟩ := Soft.BW.mk hb_; clear hb_; have HQ := Lib.hid hQ; have HT := Lib.hid hT; clear hQ hT; (rename ∀ (a : Act) (w_1 : World), Code.wp _ (Code.seq _ _) _ a w_1 → _ => hk_); have HKX := Lib.hid hk_; clear hk_)
    | (refine wpList_store_new rfl 37 (.tmp 6) (.tmp 35) rfl y1.w.heap.size (by simp) #[.int .i64 (PQ.ship).len, .slice ((PQ.ship).dra).p ((PQ.ship).dra).n ((PQ.ship).dra).c, .slice ((PQ.ship).hei).p ((PQ.ship).hei).n ((PQ.ship).hei).c, .slice ((PQ.ship).cen).p ((PQ.ship).cen).n ((PQ.ship).cen).c, .slice ((PQ.ship).tri).p ((PQ.ship).tri).n ((PQ.ship).tri).c, .slice ((PQ.ship).flo).p ((PQ.ship).flo).n ((PQ.ship).flo).c, .slice ((PQ.ship).cross).p ((PQ.ship).cross).n ((PQ.ship).cross).c, .slice ((PQ.ship).sin).p ((PQ.ship).sin).n ((PQ.ship).sin).c, .slice ((PQ.ship).shi).p ((PQ.ship).shi).n ((PQ.ship).shi).c, .int .i64 (((PQ.ship).light).mass).lo, .int .i64 (((PQ.ship).light).mass).hi, .int .i64 (((PQ.ship).light).along).lo, .int .i64 (((PQ.ship).light).along).hi, .int .i64 (((PQ.ship).light).high).lo, .int .i64 (((PQ.ship).light).high).hi, .slice PQ.holds.p PQ.holds.n PQ.holds.c, .slice PQ.fills.p PQ.fills.n PQ.fills.c, .slice PQ.tanks.p PQ.tanks.n PQ.tanks.c, .slice PQ.levels.p PQ.levels.n PQ.levels.c, .int .i64 PQ.most] rfl rfl (by kernel_rfl) rfl (by kernel_rfl) ?_))
  have bd := HB.out PQ HT.out
  have ok := HOK.out
  have hy : Below W.heap.size W (y1.w.alloc (.cells #[.int .i64 (PQ.ship).len, .slice ((PQ.ship).dra).p ((PQ.ship).dra).n ((PQ.ship).dra).c, .slice ((PQ.ship).hei).p ((PQ.ship).hei).n ((PQ.ship).hei).c, .slice ((PQ.ship).cen).p ((PQ.ship).cen).n ((PQ.ship).cen).c, .slice ((PQ.ship).tri).p ((PQ.ship).tri).n ((PQ.ship).tri).c, .slice ((PQ.ship).flo).p ((PQ.ship).flo).n ((PQ.ship).flo).c, .slice ((PQ.ship).cross).p ((PQ.ship).cross).n ((PQ.ship).cross).c, .slice ((PQ.ship).sin).p ((PQ.ship).sin).n ((PQ.ship).sin).c, .slice ((PQ.ship).shi).p ((PQ.ship).shi).n ((PQ.ship).shi).c, .int .i64 (((PQ.ship).light).mass).lo, .int .i64 (((PQ.ship).light).mass).hi, .int .i64 (((PQ.ship).light).along).lo, .int .i64 (((PQ.ship).light).along).hi, .int .i64 (((PQ.ship).light).high).lo, .int .i64 (((PQ.ship).light).high).hi, .slice PQ.holds.p PQ.holds.n PQ.holds.c, .slice PQ.fills.p PQ.fills.n PQ.fills.c, .slice PQ.tanks.p PQ.tanks.n PQ.tanks.c, .slice PQ.levels.p PQ.levels.n PQ.levels.c, .int .i64 PQ.most] 37)) := by (with_reducible repeat (first | exact blr _ | refine bla ?_ _ | refine blw _ ?_ | refine bld ?_ | refine bln _ ?_ | refine bls ?_ _ | refine blt ?_))
  have hP := HP.out.same hy
  have hQ := HQ.out.same (show Below y1.w.heap.size y1.w (y1.w.alloc (.cells #[.int .i64 (PQ.ship).len, .slice ((PQ.ship).dra).p ((PQ.ship).dra).n ((PQ.ship).dra).c, .slice ((PQ.ship).hei).p ((PQ.ship).hei).n ((PQ.ship).hei).c, .slice ((PQ.ship).cen).p ((PQ.ship).cen).n ((PQ.ship).cen).c, .slice ((PQ.ship).tri).p ((PQ.ship).tri).n ((PQ.ship).tri).c, .slice ((PQ.ship).flo).p ((PQ.ship).flo).n ((PQ.ship).flo).c, .slice ((PQ.ship).cross).p ((PQ.ship).cross).n ((PQ.ship).cross).c, .slice ((PQ.ship).sin).p ((PQ.ship).sin).n ((PQ.ship).sin).c, .slice ((PQ.ship).shi).p ((PQ.ship).shi).n ((PQ.ship).shi).c, .int .i64 (((PQ.ship).light).mass).lo, .int .i64 (((PQ.ship).light).mass).hi, .int .i64 (((PQ.ship).light).along).lo, .int .i64 (((PQ.ship).light).along).hi, .int .i64 (((PQ.ship).light).high).lo, .int .i64 (((PQ.ship).light).high).hi, .slice PQ.holds.p PQ.holds.n PQ.holds.c, .slice PQ.fills.p PQ.fills.n PQ.fills.c, .slice PQ.tanks.p PQ.tanks.n PQ.tanks.c, .slice PQ.levels.p PQ.levels.n PQ.levels.c, .int .i64 PQ.most] 37)) from bel_alloc (bel_refl _) _)
  refine HKX.out _ _ (bnd_chk (PP := PP) (PQ := PQ) (er := (loadE PP.holds.xs PP.fills.xs PP.tanks.xs PP.levels.xs).1) (Lib.hid (H2.out.below hy)) (Lib.hid (Soft.heap_new y1.w _)) (Lib.hid fun W' hb => Top_told PP W' (hP.same hb) ok) (Lib.hid fun W' hb => Top_told PQ W' (hQ.same hb) bd.ok) (Lib.hid fun L L' l l' hi => ⟨bd.li L L' l l' hi, bd.fac L L' l l' hi⟩)
    (Lib.hid fun L L' W1 hb hL hL' l l' hi => ?_) (Lib.hid fun W' hb => hold_Load PP.holds PP.fills PP.tanks PP.levels W' (hP.same hb).holds (hP.same hb).fills (hP.same hb).tanks (hP.same hb).levels) (Lib.hid fun W' hb => ?_) (Lib.hid fun W' hb => ?_) (Lib.hid rfl) (Lib.hid rfl) (Lib.hid bd.wl) (Lib.hid bd.sur) (Lib.hid bd.shi) (Lib.hid bd.ws) (fun w' hw' => HR.out w' (bel_step hy hw')))
  · obtain ⟨V, hV⟩ := tot_ex (allW_ok ok.ship hi)
    have hi' := bd.li L L' l l' hi
    obtain ⟨V', hV'⟩ := tot_ex (allW_ok bd.ok.ship hi')
    exact ⟨mgnE PP.ship L V, mgnE PQ.ship L' V', fun W' hb' => cond_Margin PP.ship L V W' ⟨((hP.same hb).same hb').ship, hL.same hb', ok.ship, hi, hV⟩, fun W' hb' => cond_Margin PQ.ship L' V' W' ⟨((hQ.same hb).same hb').ship, hL'.same hb', bd.ok.ship, hi', hV'⟩, bd.mg L L' l l' hi V V' hV hV'⟩
  · have h := hold_Load PQ.holds PQ.fills PQ.tanks PQ.levels W' (hQ.same hb).holds (hQ.same hb).fills (hQ.same hb).tanks (hQ.same hb).levels
    rw [show loadE PQ.holds.xs PQ.fills.xs PQ.tanks.xs PQ.levels.xs = (0, (loadE PQ.holds.xs PQ.fills.xs PQ.tanks.xs PQ.levels.xs).2) from Prod.ext bd.ok.load rfl] at h
    exact h
  · have h := cond_CheckShip PQ.ship W' (hQ.same hb).ship
    rw [shipErr_ok bd.ok.ship] at h
    exact h
end Go.Proofs.YteagdcgmmdiakaaGreat
namespace Go.Proofs.YteagdcgmmdiakaaGreat
set_option linter.unusedSimpArgs false
set_option linter.unusedVariables false
open Go.RowKit Go.Shelf
set_option maxRecDepth 100000
set_option maxHeartbeats 8000000
attribute [local go_sem] Oper.semAt_some Instr.field asAgg Soft.upon Soft.upon0 Soft.stepC Soft.BW.cell_if Soft.BW.frozen_if Soft.cell_alloc_if Soft.frozen_alloc_if
attribute [local irreducible] Soft.wpSoft Soft.wpMix
theorem tbOf3 {w : World} {g : Nat} {a b c : Pt} {t : TypeId} (h : HasBlk w g #[.int .i64 a.x, .int .i64 a.lo, .int .i64 a.hi, .int .i64 b.x, .int .i64 b.lo, .int .i64 b.hi, .int .i64 c.x, .int .i64 c.lo, .int .i64 c.hi] t) : Tb.At w ⟨some ⟨g, 0, none⟩, 3, 3, [a, b, c]⟩ := by
  refine ⟨rfl, by dsimp only; omega, by dsimp only; omega, by dsimp only; omega, fun _ => ⟨g, 0, rfl, h.lt, fun i hi => ?_⟩⟩
  match i, hi with
  | 0, _ => exact ⟨h.cell 0, h.cell 1, h.cell 2⟩
  | 1, _ => exact ⟨h.cell 3, h.cell 4, h.cell 5⟩
  | 2, _ => exact ⟨h.cell 6, h.cell 7, h.cell 8⟩
def awT : List Pt := [⟨0, 0, 0⟩, ⟨10, 5, 8⟩, ⟨40, 20, 20⟩]
theorem aw_at : atE awT 11 = (⟨5, 9⟩, 0) := by kernel_rfl
theorem aw_area : areaE awT 5 11 = ((48, 77), 0) := by kernel_rfl
theorem aw_lit : litE ⟨10, 10⟩ ⟨700, 800⟩ = ⟨12, 15⟩ := by kernel_rfl
theorem aw_mass : massErr ⟨10, 10⟩ ⟨700, 800⟩ = 0 := by kernel_rfl
/-- The two weights. -/
def awA : Wt := ⟨⟨1, 3⟩, ⟨0, 0⟩, ⟨0, 0⟩⟩
def awB : Wt := ⟨⟨1, 1⟩, ⟨10, 10⟩, ⟨0, 0⟩⟩
theorem perm_two {l : List Wt} {a b : Wt} (hab : a ≠ b) (h : l.Perm [a, b]) : l = [a, b] ∨ l = [b, a] := by
  have hl := h.length_eq
  match l, hl with
  | [x, y], _ =>
    have hx : x ∈ [a, b] := h.subset (by simp)
    have hy : y ∈ [a, b] := h.subset (by simp)
    have ha : a ∈ [x, y] := h.symm.subset (by simp)
    have hb : b ∈ [x, y] := h.symm.subset (by simp)
    simp at hx hy ha hb
    rcases hx with rfl | rfl <;> rcases hy with rfl | rfl <;> simp_all
theorem aw_centre {r : Rg} (h : CentreIs Wt.along [awA, awB] r) : r = ⟨2, 5⟩ := by
  obtain ⟨l1, l2, p1, q1, p2, q2, rfl⟩ := h
  have hne : awA ≠ awB := by decide
  rcases perm_two hne p1 with rfl | rfl
  · rcases perm_two hne p2 with rfl | rfl
    · exact absurd (q2 0 1 (by decide) (by decide)) (by decide)
    · decide
  · exact absurd (q1 0 1 (by decide) (by decide)) (by decide)
theorem aw_all : AllWt [awA, awB] where
  n := by decide
  w := fun k hk => by
    match k, hk with
    | 0, _ => decide
    | 1, _ => decide
  pos := by decide
theorem aw_sum {v : Wt} {c : Int} (h : SumIs [awA, awB] v c) : c = 0 ∧ v.along = ⟨2, 5⟩ := by
  rcases h with ⟨h, _⟩ | ⟨_, ⟨k, hk, h⟩, _⟩ | ⟨_, _, h, _⟩ | ⟨_, rfl, _, h, _⟩
  · exact absurd h (by decide)
  · exact absurd (aw_all.w k hk) h
  · exact absurd h aw_all.pos
  · exact ⟨rfl, aw_centre h⟩
theorem wsOf2 {w : World} {g : Nat} {a b : Wt} {t : TypeId} (h : HasBlk w g #[.int .i64 ((a).mass).lo, .int .i64 ((a).mass).hi, .int .i64 ((a).along).lo, .int .i64 ((a).along).hi, .int .i64 ((a).high).lo, .int .i64 ((a).high).hi, .int .i64 ((b).mass).lo, .int .i64 ((b).mass).hi, .int .i64 ((b).along).lo, .int .i64 ((b).along).hi, .int .i64 ((b).high).lo, .int .i64 ((b).high).hi] t) : WsAt w ⟨some ⟨g, 0, none⟩, 2, 2, [a, b]⟩ := by
  refine ⟨rfl, Nat.le_refl _, by dsimp only; omega, fun _ => ⟨g, 0, rfl, h.lt, fun i hi j v hv => ?_⟩⟩
  have hj : j < 6 := by
    have := (List.getElem?_eq_some_iff.1 hv).1
    simpa [wtC] using this
  refine (h.cell _).trans ?_
  match i, hi with
  | 0, _ =>
    match j, hj with
    | 0, _ => exact hv
    | 1, _ => exact hv
    | 2, _ => exact hv
    | 3, _ => exact hv
    | 4, _ => exact hv
    | 5, _ => exact hv
  | 1, _ =>
    match j, hj with
    | 0, _ => exact hv
    | 1, _ => exact hv
    | 2, _ => exact hv
    | 3, _ => exact hv
    | 4, _ => exact hv
    | 5, _ => exact hv
theorem Top_awake (w : World) : Calls Tryz.prog 5 #[] w fun e w' => e = .returned (.bool true) ∧ Below w.heap.size w w' := by
  go_enter Tryz.func5, Tryz.ntmps5
  go_wp2_with fail
  have gT : HasBlk ((w.alloc (.cells #[.int .i64 0, .int .i64 0, .int .i64 0, .int .i64 10, .int .i64 5, .int .i64 8, .int .i64 40, .int .i64 20, .int .i64 20] 69)).alloc (.cells #[.slice (some ⟨w.heap.size, 0, none⟩) 3 3] 24)) w.heap.size #[.int .i64 0, .int .i64 0, .int .i64 0, .int .i64 10, .int .i64 5, .int .i64 8, .int .i64 40, .int .i64 20, .int .i64 20] 69 := by simp only [HasBlk, Soft.heap_alloc_if, Soft.heap_new]
  have HT := Lib.hid (tbOf3 (a := ⟨0, 0, 0⟩) (b := ⟨10, 5, 8⟩) (c := ⟨40, 20, 20⟩) gT)
  have gB : HasBlk ((w.alloc (.cells #[.int .i64 0, .int .i64 0, .int .i64 0, .int .i64 10, .int .i64 5, .int .i64 8, .int .i64 40, .int .i64 20, .int .i64 20] 69)).alloc (.cells #[.slice (some ⟨w.heap.size, 0, none⟩) 3 3] 24)) (w.heap.size + 1) #[.slice (some ⟨w.heap.size, 0, none⟩) 3 3] 24 := by simp only [HasBlk, Soft.heap_new1]
  have hB : Below w.heap.size w ((w.alloc (.cells #[.int .i64 0, .int .i64 0, .int .i64 0, .int .i64 10, .int .i64 5, .int .i64 8, .int .i64 40, .int .i64 20, .int .i64 20] 69)).alloc (.cells #[.slice (some ⟨w.heap.size, 0, none⟩) 3 3] 24)) := by (with_reducible repeat (first | exact blr _ | refine bla ?_ _ | refine blw _ ?_ | refine bld ?_ | refine bln _ ?_ | refine bls ?_ _ | refine blt ?_))
  generalize (w.alloc (.cells #[.int .i64 0, .int .i64 0, .int .i64 0, .int .i64 10, .int .i64 5, .int .i64 8, .int .i64 40, .int .i64 20, .int .i64 20] 69)).alloc (.cells #[.slice (some ⟨w.heap.size, 0, none⟩) 3 3] 24) = W0 at *
  have cT := gB.cell 0
  simp at cT
  have lT := Soft.LtH.mk (b := w.heap.size + 1) (w := W0) gB.lt
  have HB := Lib.hid hB
  clear gT gB hB
  have CA := Lib.hid (fun W hW => fix_At ⟨some ⟨w.heap.size, 0, none⟩, 3, 3, awT⟩ 11 W hW)
  have CR := Lib.hid (fun W hW => fix_Area ⟨some ⟨w.heap.size, 0, none⟩, 3, 3, awT⟩ 5 11 W hW)
  have CL := Lib.hid (fun W => hold_Litres ⟨10, 10⟩ ⟨700, 800⟩ W)
  dsimp only at CA CR CL
  rw [aw_at] at CA
  rw [aw_area] at CR
  rw [aw_lit, aw_mass] at CL
  refine (CA.out W0 HT.out).mono ?_
  rintro e w1 ⟨rfl, hb_⟩
  obtain ⟨y1, rfl⟩ := Soft.BW.mk hb_
  clear hb_
  go_wp2_with (go_at_call 19; refine (CR.out _ (HT.out.same (by (with_reducible repeat (first | exact blr _ | refine bla ?_ _ | refine blw _ ?_ | refine bld ?_ | refine bln _ ?_ | refine bls ?_ _ | refine blt ?_))))).mono ?_; rintro e w_ ⟨rfl, hb_⟩; obtain ⟨y2, rfl⟩ := Soft.BW.mk hb_; clear hb_)
  have hW : WsAt (y2.w.alloc (.cells #[.int .i64 ((awA).mass).lo, .int .i64 ((awA).mass).hi, .int .i64 ((awA).along).lo, .int .i64 ((awA).along).hi, .int .i64 ((awA).high).lo, .int .i64 ((awA).high).hi, .int .i64 ((awB).mass).lo, .int .i64 ((awB).mass).hi, .int .i64 ((awB).along).lo, .int .i64 ((awB).along).hi, .int .i64 ((awB).high).lo, .int .i64 ((awB).high).hi] 29)) ⟨some ⟨y2.w.heap.size, 0, none⟩, 2, 2, [awA, awB]⟩ := wsOf2 (a := awA) (b := awB) (t := 29) (Soft.heap_new _ _)
  refine (cond_Sum1 y2.w.heap.size 0 2 2 [awA, awB] (by decide) _ hW).mono ?_
  rintro e w3 ⟨⟨v, c, hv, rfl⟩, hb_⟩
  obtain ⟨rfl, hal⟩ := aw_sum hv
  obtain ⟨m, al, hg⟩ := v
  dsimp only at hal
  subst hal
  obtain ⟨y3, rfl⟩ := Soft.BW.mk hb_
  clear hb_ hW hv
  go_wp2_with (go_at_call 21; refine (CL.out _).mono ?_; rintro e w_ ⟨rfl, hb_⟩; obtain ⟨y4, rfl⟩ := Soft.BW.mk hb_; clear hb_)
  refine bodyPost_ret (v := .bool true) (by simp [results, Tryz.results5, go_sem]) rfl ?_
  exact ⟨rfl, HB.out.trans ((show Below W0.heap.size W0 _ by (with_reducible repeat (first | exact blr _ | refine bla ?_ _ | refine blw _ ?_ | refine bld ?_ | refine bln _ ?_ | refine bls ?_ _ | refine blt ?_))).mono HB.out.size)⟩
end Go.Proofs.YteagdcgmmdiakaaGreat
namespace Go.Proofs.YteagdcgmmdiakaaGreat
set_option linter.unusedSimpArgs false
set_option linter.unusedVariables false
open Go.RowKit
section
variable {P : Program}
/-- .. where the operation has a guard. -/
theorem wpList_load_guard {ops : Array Oper} {rest : List Oper} {o : Oper} {a : Act} {w : World} {Q : Exit → Act → World → Prop} (hwt : Region.wanted o (yielded ops a.tmps) = true) (ty : TypeId) (x : Operand) (ho : o.op = .load ty x)
    (g off : Nat) (hx : a.eval x = .pointer (some ⟨g, off, none⟩)) (t : TypeId) (old cs : Array Value) (d : TypeDesc) (hg : w.heap[g]? = some (.cells old t (0, 0)))
    (hu : P.underlying ty = some d) (hd : (match d with | .struct _ | .array _ _ => true | _ => false) = true) (hi : (P.info? ty).map (·.size) = some cs.size)
    (hcs : (old.toList.drop off).take cs.size = cs.toList)
    (h : wpList P ops Q rest (a.put o.dst (.agg cs)) w) : wpList P ops Q (o :: rest) a w :=
  wpList_step fun _ hK => by
    rw [if_pos hwt]
    have hl : (loadCells ⟨g, off, none⟩ cs.toList.length).run P w = .ok cs.toList.toArray w :=
      run_loadCells_list (P := P) w ⟨g, off, none⟩ cs.toList (fun j v hv => by
        have hadd : (⟨g, off, none⟩ : Addr).add j = ⟨g, off + j, none⟩ := by unfold Addr.add; split <;> simp_all
        rw [hadd]
        rw [← hcs, List.getElem?_take] at hv
        split at hv
        · rw [List.getElem?_drop] at hv
          simpa [World.cell?, hg] using hv
        · cases hv)
    have hld : (loadVar ty ⟨g, off, none⟩).run P w = .ok (.agg cs) w := by
      cases hq : P.info? ty with
      | none => simp [hq] at hi
      | some i =>
        have hs : i.size = cs.size := by simpa [hq] using hi
        have hagg : (isAgg ty).run P w = .ok true w := by
          unfold isAgg
          rw [Sem.run_bind, run_underlying hu w]
          cases d <;> simp_all
        simp only [Array.length_toList, Array.toArray_toList] at hl
        simp [loadVar, Sem.run_bind, hagg, sizeOf, typeInfo, hq, hs, hl]
    unfold Oper.wp execOp
    simp only [ho, hx, Instr.loadAt, Instr.sureAddr, Sem.run_bind, Sem.run_pure, Result.andThen_ok, hld]
    exact hK _ _ h
end
end Go.Proofs.YteagdcgmmdiakaaGreat
namespace Go.Proofs.YteagdcgmmdiakaaGreat
set_option linter.unusedSimpArgs false
set_option linter.unusedVariables false
open Go.RowKit
set_option maxRecDepth 1000000
set_option maxHeartbeats 20000000
attribute [local go_sem] Instr.field asAgg Soft.upon Soft.upon0 Soft.stepC Soft.BW.cell_if Soft.BW.frozen_if Soft.cell_alloc_if Soft.frozen_alloc_if
attribute [local irreducible] Soft.wpSoft Soft.wpMix
theorem Top_TopBounds (P : Pa) (s : Is) (w : World) (hP : P.At w) (hs : s.At w) (hB : PartsOk P → ∀ P', PaT s.xs P P' → Bnd P P') :
    Calls Tryz.prog 4 #[.agg #[.int .i64 ((P).ship).len, .slice (((P).ship).dra).p (((P).ship).dra).n (((P).ship).dra).c, .slice (((P).ship).hei).p (((P).ship).hei).n (((P).ship).hei).c, .slice (((P).ship).cen).p (((P).ship).cen).n (((P).ship).cen).c, .slice (((P).ship).tri).p (((P).ship).tri).n (((P).ship).tri).c, .slice (((P).ship).flo).p (((P).ship).flo).n (((P).ship).flo).c, .slice (((P).ship).cross).p (((P).ship).cross).n (((P).ship).cross).c, .slice (((P).ship).sin).p (((P).ship).sin).n (((P).ship).sin).c, .slice (((P).ship).shi).p (((P).ship).shi).n (((P).ship).shi).c, .int .i64 ((((P).ship).light).mass).lo, .int .i64 ((((P).ship).light).mass).hi, .int .i64 ((((P).ship).light).along).lo, .int .i64 ((((P).ship).light).along).hi, .int .i64 ((((P).ship).light).high).lo, .int .i64 ((((P).ship).light).high).hi, .slice ((P).holds).p ((P).holds).n ((P).holds).c, .slice ((P).fills).p ((P).fills).n ((P).fills).c, .slice ((P).tanks).p ((P).tanks).n ((P).tanks).c, .slice ((P).levels).p ((P).levels).n ((P).levels).c, .int .i64 (P).most], .slice s.p s.n s.c] w fun e w' => e = .returned (.bool true) ∧ Below w.heap.size w w' := by
  have CA := Lib.hid (fun W => Top_awake W)
  obtain ⟨v, hv⟩ : ∃ v : Bool, v = true ↔ PartsOk P := ⟨@decide (PartsOk P) (Classical.propDecidable _), by simp⟩
  have CV := Lib.hid (fun W (hb : Below w.heap.size w W) => Top_valid P W (hP.same hb) v hv)
  have HP := Lib.hid hP
  have HSI := Lib.hid hs
  have HV := Lib.hid hv
  have HBN := Lib.hid hB
  clear hP hs hv hB
  go_enter Tryz.func4, Tryz.ntmps4
  go_wp2_with fail
  refine (CA.out _).mono ?_
  rintro e w_ ⟨rfl, hb_⟩
  have E0 : HasBlk w_ w.heap.size #[.int .i64 (P.ship).len, .slice ((P.ship).dra).p ((P.ship).dra).n ((P.ship).dra).c, .slice ((P.ship).hei).p ((P.ship).hei).n ((P.ship).hei).c, .slice ((P.ship).cen).p ((P.ship).cen).n ((P.ship).cen).c, .slice ((P.ship).tri).p ((P.ship).tri).n ((P.ship).tri).c, .slice ((P.ship).flo).p ((P.ship).flo).n ((P.ship).flo).c, .slice ((P.ship).cross).p ((P.ship).cross).n ((P.ship).cross).c, .slice ((P.ship).sin).p ((P.ship).sin).n ((P.ship).sin).c, .slice ((P.ship).shi).p ((P.ship).shi).n ((P.ship).shi).c, .int .i64 (((P.ship).light).mass).lo, .int .i64 (((P.ship).light).mass).hi, .int .i64 (((P.ship).light).along).lo, .int .i64 (((P.ship).light).along).hi, .int .i64 (((P.ship).light).high).lo, .int .i64 (((P.ship).light).high).hi, .slice P.holds.p P.holds.n P.holds.c, .slice P.fills.p P.fills.n P.fills.c, .slice P.tanks.p P.tanks.n P.tanks.c, .slice P.levels.p P.levels.n P.levels.c, .int .i64 P.most] 37 := HasBlk.below (Soft.heap_new w _) hb_
  have hB : Below w.heap.size w w_ := bel_step (by (with_reducible repeat (first | exact blr _ | refine bla ?_ _ | refine blw _ ?_ | refine bld ?_ | refine bln _ ?_ | refine bls ?_ _ | refine blt ?_))) hb_
  have l0 := Soft.LtH.mk (b := w.heap.size) (w := w_) E0.lt
  have B0 := Lib.hid E0; have HB := Lib.hid hB
  clear E0 hB hb_
  by_cases hok : PartsOk P
  · obtain rfl := HV.out.2 hok
    have HOK := Lib.hid hok
    clear hok HV
    go_wp2_with (refine wpList_load_guard rfl 37 (.tmp 2) rfl w.heap.size 0 rfl 37 _ #[.int .i64 (P.ship).len, .slice ((P.ship).dra).p ((P.ship).dra).n ((P.ship).dra).c, .slice ((P.ship).hei).p ((P.ship).hei).n ((P.ship).hei).c, .slice ((P.ship).cen).p ((P.ship).cen).n ((P.ship).cen).c, .slice ((P.ship).tri).p ((P.ship).tri).n ((P.ship).tri).c, .slice ((P.ship).flo).p ((P.ship).flo).n ((P.ship).flo).c, .slice ((P.ship).cross).p ((P.ship).cross).n ((P.ship).cross).c, .slice ((P.ship).sin).p ((P.ship).sin).n ((P.ship).sin).c, .slice ((P.ship).shi).p ((P.ship).shi).n ((P.ship).shi).c, .int .i64 (((P.ship).light).mass).lo, .int .i64 (((P.ship).light).mass).hi, .int .i64 (((P.ship).light).along).lo, .int .i64 (((P.ship).light).along).hi, .int .i64 (((P.ship).light).high).lo, .int .i64 (((P.ship).light).high).hi, .slice P.holds.p P.holds.n P.holds.c, .slice P.fills.p P.fills.n P.fills.c, .slice P.tanks.p P.tanks.n P.tanks.c, .slice P.levels.p P.levels.n P.levels.c, .int .i64 P.most] _ B0.out Tryz.underlying37 rfl (by kernel_rfl) rfl ?wkb; (case' wkb => (go_wp2_with fail); refine (CV.out _ HB.out).mono ?_; rintro e w_ ⟨rfl, hb_⟩; obtain ⟨y2, rfl⟩ := Soft.BW.mk hb_; clear hb_; (rename ∀ (a : Act) (w_1 : World), Code.wp _ (Code.seq _ _) _ a w_1 → _ => hk_); have HKX := Lib.hid hk_; clear hk_; (go_wp2_with fail)))
    have hY := bel_step HB.out (show Below w_.heap.size w_ y2.w by (with_reducible repeat (first | exact blr _ | refine bla ?_ _ | refine blw _ ?_ | refine bld ?_ | refine bln _ ?_ | refine bls ?_ _ | refine blt ?_)))
    have hYY : Below w_.heap.size w_ y2.w := (by (with_reducible repeat (first | exact blr _ | refine bla ?_ _ | refine blw _ ?_ | refine bld ?_ | refine bln _ ?_ | refine bls ?_ _ | refine blt ?_)))
    refine HKX.out _ _ (bnd_tru (PP := P) (s := s) (Lib.hid (HP.out.same hY)) (Lib.hid (HSI.out.below hY)) HOK (Lib.hid (HBN.out HOK.out)) (Lib.hid (B0.out.below hYY)) (fun w' hw' => ⟨rfl, bel_step hY hw'⟩))
  · obtain rfl : v = false := by cases v with | false => rfl | true => exact absurd (HV.out.1 rfl) hok
    clear HV hok
    go_wp2_with (refine wpList_load_guard rfl 37 (.tmp 2) rfl w.heap.size 0 rfl 37 _ #[.int .i64 (P.ship).len, .slice ((P.ship).dra).p ((P.ship).dra).n ((P.ship).dra).c, .slice ((P.ship).hei).p ((P.ship).hei).n ((P.ship).hei).c, .slice ((P.ship).cen).p ((P.ship).cen).n ((P.ship).cen).c, .slice ((P.ship).tri).p ((P.ship).tri).n ((P.ship).tri).c, .slice ((P.ship).flo).p ((P.ship).flo).n ((P.ship).flo).c, .slice ((P.ship).cross).p ((P.ship).cross).n ((P.ship).cross).c, .slice ((P.ship).sin).p ((P.ship).sin).n ((P.ship).sin).c, .slice ((P.ship).shi).p ((P.ship).shi).n ((P.ship).shi).c, .int .i64 (((P.ship).light).mass).lo, .int .i64 (((P.ship).light).mass).hi, .int .i64 (((P.ship).light).along).lo, .int .i64 (((P.ship).light).along).hi, .int .i64 (((P.ship).light).high).lo, .int .i64 (((P.ship).light).high).hi, .slice P.holds.p P.holds.n P.holds.c, .slice P.fills.p P.fills.n P.fills.c, .slice P.tanks.p P.tanks.n P.tanks.c, .slice P.levels.p P.levels.n P.levels.c, .int .i64 P.most] _ B0.out Tryz.underlying37 rfl (by kernel_rfl) rfl ?wkc; (case' wkc => (go_wp2_with fail); refine (CV.out _ HB.out).mono ?_; rintro e w_ ⟨rfl, hb_⟩; obtain ⟨y2, rfl⟩ := Soft.BW.mk hb_; clear hb_; (go_wp2_with fail); go_ret; exact ⟨rfl, bel_step HB.out (by (with_reducible repeat (first | exact blr _ | refine bla ?_ _ | refine blw _ ?_ | refine bld ?_ | refine bln _ ?_ | refine bls ?_ _ | refine blt ?_)))⟩))
end Go.Proofs.YteagdcgmmdiakaaGreat
namespace Go.Proofs.YteagdcgmmdiakaaGreat
set_option linter.unusedSimpArgs false
set_option linter.unusedVariables false
open Go.RowKit
set_option maxHeartbeats 1000000
theorem TabIn.ok {ps qs : List Pt} (h : TabIn ps qs) (hp : TabOk ps) : TabOk qs := by
  refine ⟨by rw [h.len]; exact hp.pos, by rw [h.len]; exact hp.le, fun k hk => ?_⟩
  rw [h.len] at hk
  have a := hp.all k hk
  have b := h.at_ k hk
  unfold ptOk at a ⊢
  by_cases h0 : k = 0
  · subst h0
    omega
  · have c := h.at_ (k - 1) (by omega)
    omega
theorem TabIn.isTab {ps qs : List Pt} {lo hi most : Int} (h : TabIn ps qs) (hp : isTab ps lo hi most) : isTab qs lo hi most := by
  refine ⟨h.ok hp.1, fun k hk => ?_⟩
  rw [h.len] at hk
  have a := hp.2 k hk
  have b := h.at_ k hk
  omega
/-- A ship within another one. -/
structure ShIn (S S' : Sh) : Prop where
  len : S'.len = S.len
  dra : TabIn S.dra.ps S'.dra.ps
  hei : TabIn S.hei.ps S'.hei.ps
  cen : TabIn S.cen.ps S'.cen.ps
  tri : TabIn S.tri.ps S'.tri.ps
  flo : TabIn S.flo.ps S'.flo.ps
  sin : TabIn S.sin.ps S'.sin.ps
  shi : TabIn S.shi.ps S'.shi.ps
  mass : InS S'.light.mass S.light.mass
  along : InS S'.light.along S.light.along
  high : InS S'.light.high S.light.high
  light : isWt S'.light
  ncross : S'.cross.xs.length = S.cross.xs.length
  cross : ∀ i, i < S.cross.xs.length → (crv S'.cross.xs i).tonnes = (crv S.cross.xs i).tonnes ∧ TabIn (crv S.cross.xs i).arms.ps (crv S'.cross.xs i).arms.ps
theorem shIn_of {xs : List Int} {S S' : Sh} (ok : ShipOk S) (h : ShT xs S S') : ShIn S S' := by
  obtain ⟨⟨m1, m2, m3⟩, ⟨a1, a2, a3⟩, g1, g2, g3⟩ := ok.light
  have e1 := oneN_in m2 xs 8
  have e2 := oneN_in a2 xs 9
  have e3 := oneN_in g2 xs 10
  refine ⟨h.len, ?_, ?_, ?_, ?_, ?_, ?_, ?_, ?_, ?_, ?_, ?_, h.ncross, fun i hi => ⟨(h.cross i hi).1, ?_⟩⟩
  · rw [h.dra]; exact tabIn_curve ok.dra.1 _ _
  · rw [h.hei]; exact tabIn_curve ok.hei.1 _ _
  · rw [h.cen]; exact tabIn_curve ok.cen.1 _ _
  · rw [h.tri]; exact tabIn_curve ok.tri.1 _ _
  · rw [h.flo]; exact tabIn_curve ok.flo.1 _ _
  · rw [h.sin]; exact tabIn_curve ok.sin.1 _ _
  · rw [h.shi]; exact tabIn_curve ok.shi.1 _ _
  · rw [h.light]; exact inS_one m2 _ _
  · rw [h.light]; exact inS_one a2 _ _
  · rw [h.light]; exact inS_one g2 _ _
  · rw [h.light]
    unfold isWt isPart wtT oneR
    dsimp only
    omega
  · rw [(h.cross i hi).2]; exact tabIn_curve (ok.cross i hi).2.1 _ _
theorem upr_at (S : Sh) (i : Nat) (hi : i < 2 + S.cross.xs.length) : tbv (uprT S) i = if i = 0 then S.sin else if i = 1 then S.shi else (crv S.cross.xs (i - 2)).arms := by
  unfold uprT uprK tbv
  match i, hi with
  | 0, _ => rfl
  | 1, _ => rfl
  | i + 2, hi => simp [upto, show i < S.cross.xs.length by omega]
theorem ShIn.upr {S S' : Sh} (h : ShIn S S') (i : Nat) (hi : i < 2 + S.cross.xs.length) : TabIn (tbv (uprT S) i).ps (tbv (uprT S') i).ps := by
  rw [upr_at S i hi, upr_at S' i (by rw [h.ncross]; exact hi)]
  split
  · exact h.sin
  · split
    · exact h.shi
    · exact (h.cross (i - 2) (by omega)).2
theorem ShIn.aLo {S S' : Sh} (h : ShIn S S') (hu : UprOk S) : ∀ k, k ≤ 2 + S.cross.xs.length → aLo (uprT S') k = aLo (uprT S) k
  | 0, _ => rfl
  | k + 1, hk => by
    have a := ShIn.aLo h hu k (by omega)
    have b := (h.upr k (by omega)).ends (hu k (by omega)).pos
    unfold Go.Proofs.YteagdcgmmdiakaaGreat.aLo
    rw [a, b.1]
theorem ShIn.aHi {S S' : Sh} (h : ShIn S S') (hu : UprOk S) : ∀ k, k ≤ 2 + S.cross.xs.length → aHi (uprT S') k = aHi (uprT S) k
  | 0, _ => rfl
  | k + 1, hk => by
    have a := ShIn.aHi h hu k (by omega)
    have b := (h.upr k (by omega)).ends (hu k (by omega)).pos
    unfold Go.Proofs.YteagdcgmmdiakaaGreat.aHi
    rw [a, b.2]
theorem ShIn.ang {S S' : Sh} (h : ShIn S S') (hu : UprOk S) : angLo S' = angLo S ∧ angHi S' = angHi S := by
  unfold angLo angHi
  rw [h.ncross]
  exact ⟨h.aLo hu _ (Nat.le_refl _), h.aHi hu _ (Nat.le_refl _)⟩
theorem stJ_same {lo hi : Int} {ps qs : List Pt} (h : TabIn ps qs) (base : List Int) : ∀ j, j ≤ ps.length → stJ lo hi qs base j = stJ lo hi ps base j
  | 0, _ => rfl
  | j + 1, hj => by
    have a := stJ_same h base (lo := lo) (hi := hi) j (by omega)
    have b := (h.at_ j (by omega)).1
    unfold stJ
    rw [a, b]
theorem ShIn.stK {S S' : Sh} (h : ShIn S S') (lo hi : Int) : ∀ k, k ≤ 2 + S.cross.xs.length → stK lo hi (uprT S') k = stK lo hi (uprT S) k
  | 0, _ => rfl
  | k + 1, hk => by
    have a := ShIn.stK h lo hi k (by omega)
    have b := h.upr k (by omega)
    unfold Go.Proofs.YteagdcgmmdiakaaGreat.stK
    rw [a, b.len, stJ_same b _ _ (Nat.le_refl _)]
theorem ShIn.stat {S S' : Sh} (h : ShIn S S') (hu : UprOk S) : statS S' = statS S := by
  unfold statS
  rw [(h.ang hu).1, (h.ang hu).2, h.ncross, h.stK _ _ _ (Nat.le_refl _)]
theorem uprOk_of {S : Sh} (ok : ShipOk S) : UprOk S := upr_ok (S := S) ok.sin.1 ok.shi.1 (fun j hj => (ok.cross j hj).2.1)
theorem ShIn.ok {S S' : Sh} (h : ShIn S S') (ok : ShipOk S) : ShipOk S' := by
  have hp : ∀ k, k < S.cross.xs.length → prevT S'.cross.xs k = prevT S.cross.xs k := fun k hk => by
    unfold prevT
    split
    · rfl
    · exact (h.cross (k - 1) (by omega)).1
  refine ⟨by rw [h.len]; exact ok.len, by rw [h.ncross]; exact ok.n, h.light, Int.le_trans ok.mass h.mass.1, h.dra.isTab ok.dra, h.hei.isTab ok.hei, h.cen.isTab ok.cen, h.tri.isTab ok.tri, h.flo.isTab ok.flo, fun k hk => ?_, h.sin.isTab ok.sin, h.shi.isTab ok.shi, ?_⟩
  · rw [h.ncross] at hk
    rw [hp k hk, (h.cross k hk).1]
    exact ⟨(ok.cross k hk).1, (h.cross k hk).2.isTab (ok.cross k hk).2⟩
  · rw [(h.ang (uprOk_of ok)).1, (h.ang (uprOk_of ok)).2]
    exact ok.ang

theorem TabIn.two {ps qs : List Pt} (h : TabIn ps qs) (hp : Tab2 ps) : Tab2 qs := by
  refine ⟨h.ok hp.ok, by rw [h.len]; exact hp.two, fun ⟨k, hk, hn⟩ => hp.pos ⟨k, by rw [← h.len]; exact hk, ?_⟩⟩
  have := (h.at_ k (by rw [← h.len]; exact hk)).2.1
  omega
theorem TabIn.same {ps qs ps' qs' : List Pt} (h : TabIn ps ps') (k : TabIn qs qs') (hp : 1 ≤ ps.length) (hq : 1 ≤ qs.length) (he : sameEnds ps qs) : sameEnds ps' qs' := by
  have a := h.ends hp
  have b := k.ends hq
  unfold sameEnds at he ⊢
  rw [a.1, a.2, b.1, b.2]
  exact he
theorem side_mono {ps : List Pt} {s : Int} (h : mono ps s) (up : Bool) : mono (sideP ps up) s := by
  intro k hk
  have hl : (sideP ps up).length = ps.length := upto_length _ _
  rw [hl] at hk
  have a := h k hk
  unfold monoAt at a
  unfold monoAt sideP
  rw [upto_pt _ _ _ (by omega), upto_pt _ _ _ (by omega)]
  unfold sidePt
  cases up
  · exact ⟨a.1, a.1⟩
  · exact ⟨a.2, a.2⟩
theorem part_one {r : Rg} {lo hi : Int} (h : isPart r lo hi) (xs : List Int) (i : Nat) : isPart (oneR r xs i) lo hi := by
  unfold isPart at h ⊢
  have := oneN_in (r := r) (by omega) xs i
  unfold oneR
  dsimp only
  omega
theorem tabs_one {a b c a' b' c' : List Pt} (h : tabs3 a b c) (ha : TabIn a a') (hb : TabIn b b') (hc : TabIn c c') : tabs3 a' b' c' := by
  obtain ⟨h1, ⟨h2, h3⟩, h4, h5⟩ := h
  exact ⟨ha.two h1, ⟨hb.two h2, hb.same ha h2.ok.pos h1.ok.pos h3⟩, hc.two h4, hc.same ha h4.ok.pos h1.ok.pos h5⟩
theorem ho_ok {xs : List Int} {h h' : Ho} {i : Nat} (ok : HoldOk h) (t : HoT xs h i h') : HoldOk h' := by
  have tb := ok.tabs
  refine ⟨by rw [t.id]; exact ok.id, by rw [t.along]; exact part_one ok.along _ _, ?_, by rw [t.vol]; exact side_mono ok.mv _, by rw [t.hei]; exact side_mono ok.mh _, by rw [t.tri]; exact part_one ok.tri _ _, by rw [t.unt]; exact part_one ok.unt _ _, by rw [t.v0]; exact part_one ok.v0 _ _, by rw [t.h0]; exact part_one ok.h0 _ _⟩
  rw [t.vol, t.mom, t.hei]
  exact tabs_one tb (tabIn_side tb.1.ok _) (tabIn_curve tb.2.1.1.ok _ _) (tabIn_side tb.2.2.1.ok _)
theorem one_zero (xs : List Int) (i : Nat) : oneR ⟨0, 0⟩ xs i = ⟨0, 0⟩ := by
  have := oneN_in (r := ⟨0, 0⟩) (Int.le_refl 0) xs i
  unfold oneR
  dsimp only at this
  rw [show oneN ⟨0, 0⟩ xs i = 0 by omega]
theorem fi_ok {xs : List Int} {h h' : Ho} {f : Fi} {i : Nat} (ok : HoldOk h) (hf : FillIn h f) (t : HoT xs h i h') : FillIn h' (fiT xs f i) := by
  have hv := (tabIn_side ok.tabs.1.ok (upB xs (11 + i))).ends ok.tabs.1.ok.pos
  unfold FillIn at hf ⊢
  unfold fiT
  dsimp only
  rw [t.id, t.vol, hv.1, hv.2]
  obtain ⟨h0, h1⟩ := hf
  refine ⟨h0, ?_⟩
  rcases h1 with ⟨a, b, c⟩ | ⟨a, b, c⟩ | ⟨a, b, c⟩
  · exact .inl ⟨a, by rw [b]; exact one_zero _ _, by rw [c]; exact one_zero _ _⟩
  · exact .inr (.inl ⟨a, by rw [b]; exact one_zero _ _, part_one c _ _⟩)
  · exact .inr (.inr ⟨a, part_one b _ _, part_one c _ _⟩)

theorem lv_ok {xs : List Int} {t t' : Tk} {l : Lv} {i : Nat} (ok : TankOk t) (hl : LevelIn t l) (h : TkT xs t i t') : TankOk t' ∧ LevelIn t' (lvT xs l i) := by
  have tb := ok.tabs
  have hv := (tabIn_side tb.1.ok (upB xs (14 + i))).ends tb.1.ok.pos
  refine ⟨⟨by rw [h.id]; exact ok.id, by rw [h.along]; exact part_one ok.along _ _, ?_, by rw [h.vol]; exact side_mono ok.mv _, by rw [h.hei]; exact side_mono ok.mh _⟩, ?_⟩
  · rw [h.vol, h.sur, h.hei]
    exact tabs_one tb (tabIn_side tb.1.ok _) (tabIn_curve tb.2.1.1.ok _ _) (tabIn_side tb.2.2.1.ok _)
  · obtain ⟨a, b, c, d⟩ := hl
    unfold LevelIn lvT
    dsimp only
    rw [h.id, h.vol, hv.1, hv.2]
    refine ⟨a, part_one b _ _, part_one c _ _, fun hp => ?_⟩
    have e := d hp
    have := oneN_in c.2.1 xs (15 + i)
    have := c.2.2
    unfold oneR
    dsimp only
    omega
theorem over_one {ps ps' : List Pt} (ht : Tab2 ps) (h : TabIn ps ps') {r : Rg} (hr : isPart r (firstX ps) (lastX ps)) (xs : List Int) (i : Nat) :
    InS (overE ps' (oneR r xs i)).1 (overE ps r).1 ∧ (overE ps' (oneR r xs i)).1.lo ≤ (overE ps' (oneR r xs i)).1.hi := by
  have he := h.ends ht.ok.pos
  have hp := part_one hr xs i
  have hp' : isPart (oneR r xs i) (firstX ps') (lastX ps') := by rw [he.1, he.2]; exact hp
  rw [overE_eq ht hr, overE_eq (h.two ht) hp']
  exact ⟨overS_nar ht.ok (h.ok ht.ok) h hr.1 hr.2.2 (Int.le_refl _) (inS_one hr.2.1 _ _), overS_le (h.ok ht.ok) hp'.1 hp'.2.1 hp'.2.2⟩
theorem fill_nar {xs : List Int} {f : Fi} {r r' : Rg} {ps ps' : List Pt} {i : Nat} (ht : Tab2 ps) (h : TabIn ps ps') (hr : InS r' r) (hl : r'.lo ≤ r'.hi) (hu : 3 ≤ f.state → isPart f.ull (firstX ps) (lastX ps)) :
    InS (fillS (fiT xs f i) r' ps') (fillS f r ps) ∧ (fillS (fiT xs f i) r' ps').lo ≤ (fillS (fiT xs f i) r' ps').hi := by
  unfold fillS fiT
  dsimp only
  split
  · exact ⟨hr, hl⟩
  · split
    · rename_i _ h3
      exact over_one ht h (hu h3.1) _ _
    · exact ⟨⟨Int.le_refl _, Int.le_refl _⟩, Int.le_refl _⟩
theorem fill_err {h : Ho} {f : Fi} (a : HoldOk h) (b : FillIn h f) : fillErr h f = 0 := by unfold fillErr; rw [if_pos a, if_pos b]
theorem fill_up {h : Ho} {f : Fi} (b : FillIn h f) (h3 : 3 ≤ f.state) : isPart f.ull (firstX h.vol.ps) (lastX h.vol.ps) := (fill_free b h3).2.1
theorem fill_den {h : Ho} {f : Fi} (b : FillIn h f) : 0 ≤ f.den.lo ∧ f.den.lo ≤ f.den.hi := by
  obtain ⟨_, ⟨_, _, e⟩ | ⟨_, _, e⟩ | ⟨_, _, e⟩⟩ := b
  · rw [e]; decide
  · unfold isDen isPart at e; omega
  · unfold isDen isPart at e; omega
theorem weigh_one {v v' d : Rg} (hv : InS v' v) (h1 : 0 ≤ v.lo) (h2 : v'.lo ≤ v'.hi) (hd : 0 ≤ d.lo ∧ d.lo ≤ d.hi) (xs : List Int) (i : Nat) : InS (weighS v' (oneR d xs i)) (weighS v d) :=
  weigh_mono hv (inS_one hd.2 _ _) h1 h2 hd.1 (Int.le_refl _)

theorem ho_wt {xs : List Int} {h h' : Ho} {f : Fi} {i : Nat} (ok : HoldOk h) (hf : FillIn h f) (t : HoT xs h i h') : WtIn (wtE h' (fiT xs f i)) (wtE h f) ∧ InS (heelE h' (fiT xs f i)) (heelE h f) := by
  have ok' := ho_ok ok t
  have hf' := fi_ok ok hf t
  have tb := ok.tabs
  have e0 := fill_err ok hf
  have e1 := fill_err ok' hf'
  have hd := fill_den hf
  have a1 := inS_one ok.v0.2.1 xs i
  have a2 := inS_one ok.h0.2.1 xs i
  have hu := fun h3 => fill_up hf h3
  have v := fill_nar (f := f) (xs := xs) (i := i) tb.1 (tabIn_side tb.1.ok (upB xs (11 + i))) a1 (Int.le_refl _) hu
  have hh3 : 3 ≤ f.state → isPart f.ull (firstX h.hei.ps) (lastX h.hei.ps) := fun h3 => by
    have e := tb.2.2.2
    rw [e.1, e.2]; exact hu h3
  have hm3 : 3 ≤ f.state → isPart f.ull (firstX h.mom.ps) (lastX h.mom.ps) := fun h3 => by
    have e := tb.2.1.2
    rw [e.1, e.2]; exact hu h3
  have g := fill_nar (f := f) (xs := xs) (i := i) tb.2.2.1 (tabIn_side tb.2.2.1.ok (upB xs (11 + i))) a2 (Int.le_refl _) hh3
  rw [← t.v0, ← t.vol] at v
  rw [← t.h0, ← t.hei] at g
  change InS (volS h' (fiT xs f i)) (volS h f) ∧ _ at v
  change InS (heightS h' (fiT xs f i)) (heightS h f) ∧ _ at g
  have m : InS (momS h' (fiT xs f i)) (momS h f) ∧ (momS h' (fiT xs f i)).lo ≤ (momS h' (fiT xs f i)).hi := by
    unfold momS fiT
    dsimp only
    split
    · rw [t.tri]; exact ⟨inS_one ok.tri.2.1 _ _, Int.le_refl _⟩
    · split
      · rw [t.unt]; exact ⟨inS_one ok.unt.2.1 _ _, Int.le_refl _⟩
      · split
        · rename_i h3
          rw [t.mom]
          exact over_one tb.2.1.1 (tabIn_curve tb.2.1.1.ok _ _) (hm3 (by omega)) _ _
        · exact ⟨⟨Int.le_refl _, Int.le_refl _⟩, Int.le_refl _⟩
  have w1 := weigh_one v.1 (volS_in ok f).a v.2 hd xs (13 + i)
  have w2 := weigh_one m.1 (momS_in ok f).a m.2 hd xs (13 + i)
  unfold wtE heelE
  rw [if_pos e0, if_pos e1, if_pos e0, if_pos e1]
  refine ⟨⟨w1, ?_, g.1⟩, w2⟩
  show InS h'.along h.along
  rw [t.along]
  exact inS_one ok.along.2.1 _ _
theorem weigh_nn {v d : Rg} (h : 0 ≤ v.lo) (h1 : v.lo ≤ v.hi) (hd : 0 ≤ d.lo ∧ d.lo ≤ d.hi) : 0 ≤ (weighS v d).lo ∧ 0 ≤ (weighS v d).hi := by
  unfold weighS
  dsimp only
  have a := Int.mul_nonneg h hd.1
  have b := Int.mul_nonneg (Int.le_trans h h1) (Int.le_trans hd.1 hd.2)
  refine ⟨Int.ediv_nonneg a (by decide), by omega⟩
theorem over_nn {ps : List Pt} (ht : Tab2 ps) {r : Rg} (hr : isPart r (firstX ps) (lastX ps)) : 0 ≤ (overE ps r).1.lo ∧ (overE ps r).1.lo ≤ (overE ps r).1.hi := by
  have hb : isTab ps 0 1000000000 1000000 := ⟨ht.ok, fun k hk => by
    have a := ht.ok.all k hk
    have b : ¬(pt ps k).lo < 0 := fun h => ht.pos ⟨k, hk, h⟩
    unfold ptOk at a
    omega⟩
  have e := overS_bd hb hr.1 hr.2.1 hr.2.2
  rw [overE_eq ht hr]
  exact ⟨e.1, e.2.1⟩
theorem lv_wt {xs : List Int} {t t' : Tk} {l : Lv} {i : Nat} (ok : TankOk t) (hl : LevelIn t l) (h : TkT xs t i t') : WtIn (balE t' (lvT xs l i)) (balE t l) ∧ InS (srfE t' (lvT xs l i)) (srfE t l) := by
  obtain ⟨ok', hl'⟩ := lv_ok ok hl h
  have tb := ok.tabs
  have e0 : levelErr t l = 0 := levelErr_yes ok hl
  have e1 : levelErr t' (lvT xs l i) = 0 := levelErr_yes ok' hl'
  have hd : 0 ≤ l.den.lo ∧ l.den.lo ≤ l.den.hi := by have := hl.2.1; unfold isDen isPart at this; omega
  have hs := hl.2.2.1
  have hs2 : isPart l.snd (firstX t.sur.ps) (lastX t.sur.ps) := by have e := tb.2.1.2; rw [e.1, e.2]; exact hs
  have hs3 : isPart l.snd (firstX t.hei.ps) (lastX t.hei.ps) := by have e := tb.2.2.2; rw [e.1, e.2]; exact hs
  have v := over_one tb.1 (tabIn_side tb.1.ok (upB xs (14 + i))) hs xs (15 + i)
  have u := over_one tb.2.1.1 (tabIn_curve tb.2.1.1.ok xs i) hs2 xs (15 + i)
  have g := over_one tb.2.2.1 (tabIn_side tb.2.2.1.ok (upB xs (14 + i))) hs3 xs (15 + i)
  have vn := over_nn tb.1 hs
  have un := over_nn tb.2.1.1 hs2
  rw [← h.vol] at v
  rw [← h.sur] at u
  rw [← h.hei] at g
  change InS (heldS t' (lvT xs l i)) (heldS t l) ∧ (heldS t' (lvT xs l i)).lo ≤ (heldS t' (lvT xs l i)).hi at v
  change 0 ≤ (heldS t l).lo ∧ (heldS t l).lo ≤ (heldS t l).hi at vn
  have w1 := weigh_one v.1 vn.1 v.2 hd xs (16 + i)
  have w2 := weigh_one u.1 un.1 u.2 hd xs (16 + i)
  have n2 := weigh_nn un.1 un.2 hd
  have hd' : 0 ≤ (oneR l.den xs (16 + i)).lo ∧ (oneR l.den xs (16 + i)).lo ≤ (oneR l.den xs (16 + i)).hi := by
    have := inS_one hd.2 xs (16 + i)
    exact ⟨Int.le_trans hd.1 this.1, Int.le_refl _⟩
  have n3 := weigh_nn (Int.le_trans un.1 u.1.1) u.2 hd'
  refine ⟨?_, ?_⟩
  · unfold balE
    rw [if_pos e0, if_pos e1]
    refine ⟨w1, ?_, g.1⟩
    show InS t'.along t.along
    rw [h.along]
    exact inS_one ok.along.2.1 _ _
  · unfold srfE
    rw [if_pos e0, if_pos e1]
    unfold srfS
    have hp : (lvT xs l i).pressed = l.pressed := rfl
    rw [hp]
    obtain ⟨⟨v1, v2⟩, v3⟩ := v
    by_cases c1 : l.pressed = true ∨ (heldS t l).hi = 0
    · rw [if_pos c1, if_pos (c1.imp id fun e => by omega)]
      exact ⟨Int.le_refl _, Int.le_refl _⟩
    · rw [if_neg c1]
      by_cases c2 : (heldS t l).lo = 0
      · rw [if_pos c2]
        split
        · exact ⟨Int.le_refl _, n2.2⟩
        · split
          · exact ⟨Int.le_refl _, w2.2⟩
          · exact ⟨n3.1, w2.2⟩
      · rw [if_neg c2, if_neg (fun h => h.elim (fun e => c1 (.inl e)) fun e => by omega), if_neg (by omega)]
        exact w2
end Go.Proofs.YteagdcgmmdiakaaGreat
