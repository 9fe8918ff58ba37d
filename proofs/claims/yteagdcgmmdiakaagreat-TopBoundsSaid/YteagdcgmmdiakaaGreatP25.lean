/-
  Truth's loop over the holds and their fills.
  Conditions: each theorem's own premises.
-/
import Derived.Test.YteagdcgmmdiakaaGreatP24
namespace Go.Proofs.YteagdcgmmdiakaaGreat
set_option linter.unusedSimpArgs false
set_option linter.unusedVariables false
open Go.RowKit
set_option maxRecDepth 1000000
set_option maxHeartbeats 20000000
attribute [local go_sem] Instr.field asAgg Soft.upon Soft.upon0 Soft.stepC Soft.BW.cell_if Soft.BW.frozen_if Soft.cell_alloc_if Soft.frozen_alloc_if
attribute [local irreducible] Soft.wpSoft Soft.wpMix

theorem fill_rg {h : Ho} {f : Fi} (h0 : HoldOk h) (hf : FillIn h f) : RgOk f.ull ∧ RgOk f.den := by
  have hx0 := h0.tabs.1.1.all 0 (by have := h0.tabs.1.2; omega)
  have hxl := h0.tabs.1.1.all (h.vol.ps.length - 1) (by have := h0.tabs.1.2; omega)
  have z : RgOk (⟨0, 0⟩ : Rg) := by unfold RgOk; decide
  obtain ⟨_, ⟨_, a, b⟩ | ⟨_, a, b⟩ | ⟨_, a, b⟩⟩ := hf
  · rw [a, b]; exact ⟨z, z⟩
  · rw [a]; exact ⟨z, rgOk_part b (by decide) (by decide)⟩
  · exact ⟨rgOk_part a (by have := hx0.1; show -2000000000000000 ≤ (pt h.vol.ps 0).x; omega) (by have := hxl.2.1; show (pt h.vol.ps (h.vol.ps.length - 1)).x ≤ (2000000000000000 : Int); omega), rgOk_part b (by decide) (by decide)⟩

theorem truth_holds {s : Is} {w W : World} {p0 p1 p2 p3 p4 p5 p6 p7 p8 p9 p10 p11 p12 p13 p14 c0 c1 c2 c3 c4 c5 c6 c7 c8 c9 c10 c11 c12 c13 c14 vc : Value} {hp fp tp lp : Option Addr} {hn hc fn fc tn tc ln lc : Nat} {hx : List Ho} {fx : List Fi} {tx : List Tk} {lx : List Lv} {most : Int} {SC : Array Value} {C : List Cr} {tabs : List Tb} {u0 u3 u5 u7 u8 u9 u10 u11 u12 u13 u14 u15 u16 u17 u18 u19 u20 u21 u22 u23 u24 u25 u26 u27 u28 u29 u30 u31 u32 u33 u34 u35 u36 u37 u38 u39 u40 u41 u42 u43 u44 u45 u46 u47 u48 u49 u50 u51 u52 u53 u54 u55 u56 u57 u58 u59 u60 u61 u62 u63 u64 u65 u66 u67 u68 u69 u70 u71 u72 u73 u74 u75 u76 u77 u78 u79 u80 u81 u82 u83 u84 u85 u86 u87 u88 u89 u90 u91 u92 u93 u94 u95 u96 u97 u98 u99 u100 u101 u102 u103 u104 u105 u106 u107 u108 u109 u110 u111 u112 u113 u114 u115 u116 u117 u118 u119 u120 u121 u122 u123 u124 u125 u126 u127 u128 u129 u130 u131 u132 u133 u134 u135 u136 u137 u138 u139 u140 u141 u142 u143 u144 u145 u146 u147 u148 u149 u150 u151 u152 u153 u154 u155 u156 u157 u158 u159 u160 u161 u162 u163 u164 u165 u166 u167 u168 u169 u170 u171 u172 u173 u174 u175 u176 u177 u178 u179 u180 u181 u182 u183 u184 u185 u186 u187 u188 u189 u190 u191 u192 u193 u194 u195 u196 u197 u198 u199 u200 u201 u202 u203 u204 u205 u206 u207 u208 u209 u210 u211 u212 u213 u214 u215 u216 u217 u218 u219 u220 u221 u222 u223 u224 u225 u226 u227 u228 u229 u230 u231 u232 u233 u234 u235 u236 u237 u238 u239 u240 u241 u242 u243 u244 u245 u246 u247 u248 u249 u250 u251 : Value} {R : Ending → World → Prop}
    (HSI : Hid (s.At w)) (HH : Hid (HsAt w ⟨hp, hn, hc, hx⟩)) (HFI : Hid (FsAt w ⟨fp, fn, fc, fx⟩)) (HT : Hid (TsAt w ⟨tp, tn, tc, tx⟩)) (HL : Hid (LsAt w ⟨lp, ln, lc, lx⟩)) (h8 : hn ≤ 9) (hfn : fn = hn) (h9 : tn ≤ 9) (hln : ln = tn) (HOH : Hid (∀ k, k < hn → HoldOk (hv hx k) ∧ FillIn (hv hx k) (fiv fx k))) (HOK : Hid (∀ k, k < tn → TankOk (tv tx k) ∧ LevelIn (tv tx k) (lv lx k)))
    (H1 : Hid ((#[c0, c1, c2, c3, c4, c5, c6, c7, c8, c9, c10, c11, c12, c13, c14] : Array Value).all (·.oneCell') = true)) (HTR : Hid (Tru w W #[p0, p1, p2, p3, p4, p5, p6, p7, p8, p9, p10, p11, p12, p13, p14, .slice hp hn hc, .slice fp fn fc, .slice tp tn tc, .slice lp ln lc, .int .i64 most] SC #[c0, c1, c2, c3, c4, c5, c6, c7, c8, c9, c10, c11, c12, c13, c14, (.slice none 0 0), (.slice none 0 0), (.slice none 0 0), (.slice none 0 0), .int .i64 most] (rows5 vc (.slice none 0 0) (.slice none 0 0) (.slice none 0 0) (.slice none 0 0) C [] [] [] []) tabs))
    (hR : ∀ (vh vf vt vl : Value) (H : List Ho) (F : List Fi) (T : List Tk) (L : List Lv) (tabs' : List Tb) (w' : World), H.length = hn → F.length = hn → T.length = tn → L.length = tn → (∀ j, j < hn → HoT s.xs (hv hx j) j (hv H j)) → (∀ j, j < hn → fiv F j = fiT s.xs (fiv fx j) j) → (∀ j, j < tn → TkT s.xs (tv tx j) j (tv T j)) → (∀ j, j < tn → lv L j = lvT s.xs (lv lx j) j) → (∀ h ∈ H, h.vol ∈ tabs' ∧ h.mom ∈ tabs' ∧ h.hei ∈ tabs') → (∀ t ∈ T, t.vol ∈ tabs' ∧ t.sur ∈ tabs' ∧ t.hei ∈ tabs') → (∀ t ∈ tabs, t ∈ tabs') →
      Heap w' (w.heap.size + 4) (rows5 vc vh vf vt vl C H F T L) tabs' → Below w.heap.size w w' → R (.returned (.agg #[c0, c1, c2, c3, c4, c5, c6, c7, c8, c9, c10, c11, c12, c13, c14, vh, vf, vt, vl, .int .i64 most])) w') :
    Code.wp Tryz.prog truH (bodyPost Tryz.prog Tryz.f7 R) { tmps := #[u0, .slice s.p s.n s.c, .pointer (some ⟨w.heap.size, 0, none⟩), u3, .pointer (some ⟨w.heap.size + 1, 0, none⟩), u5, .pointer (some ⟨w.heap.size + 3, 0, none⟩), u7, u8, u9, u10, u11, u12, u13, u14, u15, u16, u17, u18, u19, u20, u21, u22, u23, u24, u25, u26, u27, u28, u29, u30, u31, u32, u33, u34, u35, u36, u37, u38, u39, u40, u41, u42, u43, u44, u45, u46, u47, u48, u49, u50, u51, u52, u53, u54, u55, u56, u57, u58, u59, u60, u61, u62, u63, u64, u65, u66, u67, u68, u69, u70, u71, u72, u73, u74, u75, u76, u77, u78, u79, u80, u81, u82, u83, u84, u85, u86, u87, u88, u89, u90, u91, u92, u93, u94, u95, u96, u97, u98, u99, u100, u101, u102, u103, u104, u105, u106, u107, u108, u109, u110, u111, u112, u113, u114, u115, u116, u117, u118, u119, u120, u121, u122, u123, u124, u125, u126, u127, u128, u129, u130, u131, u132, u133, u134, u135, u136, u137, u138, u139, u140, u141, u142, u143, u144, u145, u146, u147, u148, u149, u150, u151, u152, u153, u154, u155, u156, u157, u158, u159, u160, u161, u162, u163, u164, u165, u166, u167, u168, u169, u170, u171, u172, u173, u174, u175, u176, u177, u178, u179, u180, u181, u182, u183, u184, u185, u186, u187, u188, u189, u190, u191, u192, u193, u194, u195, u196, u197, u198, u199, u200, u201, u202, u203, u204, u205, u206, u207, u208, u209, u210, u211, u212, u213, u214, u215, u216, u217, u218, u219, u220, u221, u222, u223, u224, u225, u226, u227, u228, u229, u230, u231, u232, u233, u234, u235, u236, u237, u238, u239, u240, u241, u242, u243, u244, u245, u246, u247, u248, u249, u250, u251], defers := [] } W := by
  have s15 := HTR.out.p0.cell 15
  simp at s15
  have l0 := Soft.LtH.mk (b := w.heap.size) (w := W) HTR.out.p0.lt
  have HR := Lib.hid hR
  clear hR
  unfold truH
  conv => arg 2; whnf
  go_wp2_with fail
  go_loopw [100] (fun i wr => ∃ (k : Nat) (vh vf : Value) (H : List Ho) (F : List Fi) (tabs' : List Tb), i = .int .i64 k ∧ k ≤ hn ∧ H.length = k ∧ F.length = k ∧ (∀ j, j < k → HoT s.xs (hv hx j) j (hv H j)) ∧ (∀ j, j < k → fiv F j = fiT s.xs (fiv fx j) j) ∧ (∀ h ∈ H, h.vol ∈ tabs' ∧ h.mom ∈ tabs' ∧ h.hei ∈ tabs') ∧ (∀ t ∈ tabs, t ∈ tabs') ∧ Tru w wr #[p0, p1, p2, p3, p4, p5, p6, p7, p8, p9, p10, p11, p12, p13, p14, .slice hp hn hc, .slice fp fn fc, .slice tp tn tc, .slice lp ln lc, .int .i64 most] SC #[c0, c1, c2, c3, c4, c5, c6, c7, c8, c9, c10, c11, c12, c13, c14, vh, vf, (.slice none 0 0), (.slice none 0 0), .int .i64 most] (rows5 vc vh vf (.slice none 0 0) (.slice none 0 0) C H F [] []) tabs') (fun i _ => hn - (intOf i).toNat)
  case atStart => exact ⟨0, (.slice none 0 0), (.slice none 0 0), [], [], tabs, rfl, Nat.zero_le _, rfl, rfl, fun j hj => absurd hj (Nat.not_lt_zero j), fun j hj => absurd hj (Nat.not_lt_zero j), fun t ht => absurd ht List.not_mem_nil, fun t ht => ht, HTR.out⟩
  case round =>
    obtain ⟨k, vh, vf, H, F, tabs', rfl, hk, hHl, hFl, hH, hF, htb, hsub, htr⟩ := hrel
    clear HTR s15 l0
    by_cases hlt : k < hn
    · have aH := HH.out.same htr.bel
      obtain ⟨bt, ot, rfl, hbt0, _⟩ := HH.out.cells (by dsimp only; omega)
      obtain ⟨bl, ol, rfl, hbl0, _⟩ := HFI.out.cells (by dsimp only; omega)
      obtain ⟨bt1, ot1, e1, hbt, hct⟩ := aH.cells (by dsimp only; omega)
      cases e1
      have aQ := aH.2.2 k hlt
      obtain ⟨x0, x1, x2, x3, x4, x5, x6, x7, x8, x9, x10, x11, x12, x13⟩ := hct k hlt
      dsimp only at x0 x1 x2 x3 x4 x5 x6 x7 x8 x9 x10 x11 x12 x13 hbt hbt0 hbl0 aQ
      have lb0 := Soft.LtH.mk (b := bt) (w := wr) hbt
      obtain ⟨ok1, ok2⟩ := HOH.out k hlt
      have CP := Lib.hid (fun W (hb : Below wr.heap.size wr W) => show Calls Tryz.prog 11 #[.slice s.p s.n s.c, .int .i64 (11 + (k : Int)), .int .i64 2] W (fun e w' => e = .returned (.int .i64 (pickN s.xs (11 + k) 2)) ∧ w' = W) from Top_pick s (11 + k) 2 W ((HSI.out.below htr.bel).below hb) (by omega) (by decide))
      have HUP := Lib.hid (show upB s.xs (11 + k) = decide (pickN s.xs (11 + k) 2 = 1) from rfl)
      have HTR := Lib.hid htr; have HHL := Lib.hid hHl; have HFL := Lib.hid hFl; have HHT := Lib.hid hH; have HFT := Lib.hid hF; have HTB := Lib.hid htb; have HSUB := Lib.hid hsub; have AQ := Lib.hid aQ; have OK1 := Lib.hid ok1; have OK2 := Lib.hid ok2
      clear htr hHl hFl hH hF htb hsub aH hct ok1 ok2 aQ
      generalize pickN s.xs (11 + k) 2 = pk at *
      generalize hq : hv hx k = q at *
      have HQE := Lib.hid hq
      clear hq
      go_wp2_with (go_at_call 11; refine (CP.out _ (by (with_reducible repeat (first | exact blr _ | refine bla ?_ _ | refine blw _ ?_ | refine bld ?_ | refine bln _ ?_ | refine bls ?_ _ | refine blt ?_)))).mono ?_; rintro e w_ ⟨rfl, hw_⟩; subst w_)
      obtain ⟨up, hup⟩ : ∃ up, (pk == 1) = up := ⟨_, rfl⟩
      have HUP2 := Lib.hid (show upB s.xs (11 + k) = up by rw [HUP.out, ← hup]; exact (Bool.beq_eq_decide_eq pk 1).symm)
      rw [hup]
      clear hup HUP CP x0 x1 x2 x3 x4 x5 x6 x7 x8 x9 x10 x11 x12 x13 lb0 hbt hbt0
      have t0 : HasBlk (wr.alloc (.cells #[.int .i64 (q).id, .int .i64 ((q).along).lo, .int .i64 ((q).along).hi, .slice ((q).vol).p ((q).vol).n ((q).vol).c, .slice ((q).mom).p ((q).mom).n ((q).mom).c, .slice ((q).hei).p ((q).hei).n ((q).hei).c, .int .i64 ((q).tri).lo, .int .i64 ((q).tri).hi, .int .i64 ((q).unt).lo, .int .i64 ((q).unt).hi, .int .i64 ((q).v0).lo, .int .i64 ((q).v0).hi, .int .i64 ((q).h0).lo, .int .i64 ((q).h0).hi] 49)) wr.heap.size #[.int .i64 (q).id, .int .i64 ((q).along).lo, .int .i64 ((q).along).hi, .slice ((q).vol).p ((q).vol).n ((q).vol).c, .slice ((q).mom).p ((q).mom).n ((q).mom).c, .slice ((q).hei).p ((q).hei).n ((q).hei).c, .int .i64 ((q).tri).lo, .int .i64 ((q).tri).hi, .int .i64 ((q).unt).lo, .int .i64 ((q).unt).hi, .int .i64 ((q).v0).lo, .int .i64 ((q).v0).hi, .int .i64 ((q).h0).lo, .int .i64 ((q).h0).hi] 49 := by simp only [HasBlk, Soft.heap_new]
      have hW5 : Below wr.heap.size wr (wr.alloc (.cells #[.int .i64 (q).id, .int .i64 ((q).along).lo, .int .i64 ((q).along).hi, .slice ((q).vol).p ((q).vol).n ((q).vol).c, .slice ((q).mom).p ((q).mom).n ((q).mom).c, .slice ((q).hei).p ((q).hei).n ((q).hei).c, .int .i64 ((q).tri).lo, .int .i64 ((q).tri).hi, .int .i64 ((q).unt).lo, .int .i64 ((q).unt).hi, .int .i64 ((q).v0).lo, .int .i64 ((q).v0).hi, .int .i64 ((q).h0).lo, .int .i64 ((q).h0).hi] 49)) := by (with_reducible repeat (first | exact blr _ | refine bla ?_ _ | refine blw _ ?_ | refine bld ?_ | refine bln _ ?_ | refine bls ?_ _ | refine blt ?_))
      generalize wr.alloc (.cells #[.int .i64 (q).id, .int .i64 ((q).along).lo, .int .i64 ((q).along).hi, .slice ((q).vol).p ((q).vol).n ((q).vol).c, .slice ((q).mom).p ((q).mom).n ((q).mom).c, .slice ((q).hei).p ((q).hei).n ((q).hei).c, .int .i64 ((q).tri).lo, .int .i64 ((q).tri).hi, .int .i64 ((q).unt).lo, .int .i64 ((q).unt).hi, .int .i64 ((q).v0).lo, .int .i64 ((q).v0).hi, .int .i64 ((q).h0).lo, .int .i64 ((q).h0).hi] 49) = W5 at *
      have tr := HTR.out.call hW5
      have AQ5 := Lib.hid (AQ.out.same hW5)
      have HW5 := Lib.hid tr.bel
      have HSZ := Lib.hid (show w.heap.size + 4 ≤ wr.heap.size from HTR.out.lt)
      clear HTR AQ hW5
      have tl := t0.lt
      generalize wr.heap.size = RB at *
      have x0 := t0.cell 0
      have x1 := t0.cell 1
      have x2 := t0.cell 2
      have x3 := t0.cell 3
      have x4 := t0.cell 4
      have x5 := t0.cell 5
      have x6 := t0.cell 6
      have x7 := t0.cell 7
      have x8 := t0.cell 8
      have x9 := t0.cell 9
      have x10 := t0.cell 10
      have x11 := t0.cell 11
      have x12 := t0.cell 12
      have x13 := t0.cell 13
      have m0 := tr.out.cell 15
      simp at x0 x1 x2 x3 x4 x5 x6 x7 x8 x9 x10 x11 x12 x13 m0
      have lr := Soft.LtH.mk (b := RB) (w := W5) tl
      have l3 := Soft.LtH.mk (b := w.heap.size + 3) (w := W5) tr.out.lt
      have HTR := Lib.hid tr
      clear tr t0
      have CO1 := Lib.hid (fun W (hb : Below W5.heap.size W5 W) => show Calls Tryz.prog 9 #[.agg #[.int .i64 (q.along).lo, .int .i64 (q.along).hi], .slice s.p s.n s.c, .int .i64 (k : Int)] W (fun e w' => e = .returned (.agg #[.int .i64 (oneR (q.along) s.xs (k)).lo, .int .i64 (oneR (q.along) s.xs (k)).hi]) ∧ Below W.heap.size W w') from Top_one (q.along) s (k) W ((HSI.out.below HW5.out).below hb) (by omega) (rgOk_part OK1.out.along (by decide) (by decide)))
      have CO2 := Lib.hid (fun W (hb : Below W5.heap.size W5 W) => show Calls Tryz.prog 9 #[.agg #[.int .i64 (q.tri).lo, .int .i64 (q.tri).hi], .slice s.p s.n s.c, .int .i64 (k : Int)] W (fun e w' => e = .returned (.agg #[.int .i64 (oneR (q.tri) s.xs (k)).lo, .int .i64 (oneR (q.tri) s.xs (k)).hi]) ∧ Below W.heap.size W w') from Top_one (q.tri) s (k) W ((HSI.out.below HW5.out).below hb) (by omega) (rgOk_part OK1.out.tri (by decide) (by decide)))
      have CO3 := Lib.hid (fun W (hb : Below W5.heap.size W5 W) => show Calls Tryz.prog 9 #[.agg #[.int .i64 (q.unt).lo, .int .i64 (q.unt).hi], .slice s.p s.n s.c, .int .i64 (k : Int)] W (fun e w' => e = .returned (.agg #[.int .i64 (oneR (q.unt) s.xs (k)).lo, .int .i64 (oneR (q.unt) s.xs (k)).hi]) ∧ Below W.heap.size W w') from Top_one (q.unt) s (k) W ((HSI.out.below HW5.out).below hb) (by omega) (rgOk_part OK1.out.unt (by decide) (by decide)))
      have CO4 := Lib.hid (fun W (hb : Below W5.heap.size W5 W) => show Calls Tryz.prog 9 #[.agg #[.int .i64 (q.v0).lo, .int .i64 (q.v0).hi], .slice s.p s.n s.c, .int .i64 (k : Int)] W (fun e w' => e = .returned (.agg #[.int .i64 (oneR (q.v0) s.xs (k)).lo, .int .i64 (oneR (q.v0) s.xs (k)).hi]) ∧ Below W.heap.size W w') from Top_one (q.v0) s (k) W ((HSI.out.below HW5.out).below hb) (by omega) (rgOk_part OK1.out.v0 (by decide) (by decide)))
      have CO5 := Lib.hid (fun W (hb : Below W5.heap.size W5 W) => show Calls Tryz.prog 9 #[.agg #[.int .i64 (q.h0).lo, .int .i64 (q.h0).hi], .slice s.p s.n s.c, .int .i64 (k : Int)] W (fun e w' => e = .returned (.agg #[.int .i64 (oneR (q.h0) s.xs (k)).lo, .int .i64 (oneR (q.h0) s.xs (k)).hi]) ∧ Below W.heap.size W w') from Top_one (q.h0) s (k) W ((HSI.out.below HW5.out).below hb) (by omega) (rgOk_part OK1.out.h0 (by decide) (by decide)))
      have CT1 := Lib.hid (fun W (hb : Below W5.heap.size W5 W) => Top_side (q.vol) up W ((AQ5.out.1).same hb) (tbSane_of (AQ5.out.1) OK1.out.tabs.1.1).1)
      have CT2 := Lib.hid (fun W (hb : Below W5.heap.size W5 W) => show Calls Tryz.prog 22 #[.agg #[.slice (q.mom).p (q.mom).n (q.mom).c], .slice s.p s.n s.c, .int .i64 (k : Int)] W (TbPost W (curveP (q.mom).ps s.xs k)) from Top_curve (q.mom) s k W ((AQ5.out.2.1).same hb) ((HSI.out.below HW5.out).below hb) (by omega) (tbSane_of (AQ5.out.2.1) OK1.out.tabs.2.1.1.1))
      have CT3 := Lib.hid (fun W (hb : Below W5.heap.size W5 W) => Top_side (q.hei) up W ((AQ5.out.2.2).same hb) (tbSane_of (AQ5.out.2.2) OK1.out.tabs.2.2.1.1).1)
      generalize hr1 : oneR q.along s.xs k = r1 at *
      generalize hr2 : oneR q.tri s.xs k = r2 at *
      generalize hr3 : oneR q.unt s.xs k = r3 at *
      generalize hr4 : oneR q.v0 s.xs k = r4 at *
      generalize hr5 : oneR q.h0 s.xs k = r5 at *
      have HRS := Lib.hid (⟨hr1, hr2, hr3, hr4, hr5⟩ : _ ∧ _ ∧ _ ∧ _ ∧ _)
      clear hr1 hr2 hr3 hr4 hr5
      go_wp2_with fail
      ((refine Soft.region_mix [(true, 0), (true, 1), (true, 2), (true, 3), (true, 4), (true, 5), (true, 6), (true, 7), (true, 9), (true, 10), (true, 11), (true, 13), (true, 14), (true, 15), (true, 16), (true, 18), (true, 19), (true, 20), (true, 22), (true, 23), (true, 24), (true, 25), (true, 27), (true, 28), (true, 29), (true, 30), (true, 32), (true, 33), (true, 34), (true, 35), (true, 37), (true, 38), (true, 39), (true, 40), (false, 8), (false, 12), (false, 17), (false, 21), (false, 26), (false, 31), (false, 36), (false, 41), (true, 42), (false, 43)] [44, 45, 46] (by kernel_rfl) (by kernel_rfl) (by kernel_rfl) (by kernel_rfl) ?_; change Soft.wpMix _ _ _ _ [(true, _), (true, _), (true, _), (true, _), (true, _), (true, _), (true, _), (true, _), (true, _), (true, _), (true, _), (true, _), (true, _), (true, _), (true, _), (true, _), (true, _), (true, _), (true, _), (true, _), (true, _), (true, _), (true, _), (true, _), (true, _), (true, _), (true, _), (true, _), (true, _), (true, _), (true, _), (true, _), (true, _), (true, _), (false, _), (false, _), (false, _), (false, _), (false, _), (false, _), (false, _), (false, _), (true, _), (false, _)] _ _); (refine Soft.mix_q (fun K hK => ?_); go_simp; (try go_bits); first | (refine hK _ ?_; clear hK K) | (apply Exists.intro; refine ⟨fun x => ?_, hK _ ?_⟩; fail)); (refine Soft.mix_q (fun K hK => ?_); go_simp; (try go_bits); first | (refine hK _ ?_; clear hK K) | (apply Exists.intro; refine ⟨fun x => ?_, hK _ ?_⟩; fail)); (refine Soft.mix_q (fun K hK => ?_); go_simp; (try go_bits); first | (refine hK _ ?_; clear hK K) | (apply Exists.intro; refine ⟨fun x => ?_, hK _ ?_⟩; fail)); (refine Soft.mix_q (fun K hK => ?_); go_simp; (try go_bits); first | (refine hK _ ?_; clear hK K) | (apply Exists.intro; refine ⟨fun x => ?_, hK _ ?_⟩; fail)); (refine Soft.mix_q (fun K hK => ?_); go_simp; (try go_bits); first | (refine hK _ ?_; clear hK K) | (apply Exists.intro; refine ⟨fun x => ?_, hK _ ?_⟩; fail)); (refine Soft.mix_q (fun K hK => ?_); go_simp; (try go_bits); first | (refine hK _ ?_; clear hK K) | (apply Exists.intro; refine ⟨fun x => ?_, hK _ ?_⟩; fail)); (refine Soft.mix_q (fun K hK => ?_); go_simp; (try go_bits); first | (refine hK _ ?_; clear hK K) | (apply Exists.intro; refine ⟨fun x => ?_, hK _ ?_⟩; fail)); (refine Soft.mix_q (fun K hK => ?_); go_simp; (try go_bits); first | (refine hK _ ?_; clear hK K) | (apply Exists.intro; refine ⟨fun x => ?_, hK _ ?_⟩; fail)); (refine Soft.mix_q (fun K hK => ?_); go_simp; (try go_bits); first | (refine hK _ ?_; clear hK K) | (apply Exists.intro; refine ⟨fun x => ?_, hK _ ?_⟩; fail)); (refine Soft.mix_q (fun K hK => ?_); go_simp; (try go_bits); first | (refine hK _ ?_; clear hK K) | (apply Exists.intro; refine ⟨fun x => ?_, hK _ ?_⟩; fail)); (refine Soft.mix_q (fun K hK => ?_); go_simp; (try go_bits); first | (refine hK _ ?_; clear hK K) | (apply Exists.intro; refine ⟨fun x => ?_, hK _ ?_⟩; fail)); (refine Soft.mix_q (fun K hK => ?_); go_simp; (try go_bits); first | (refine hK _ ?_; clear hK K) | (apply Exists.intro; refine ⟨fun x => ?_, hK _ ?_⟩; fail)); (refine Soft.mix_q (fun K hK => ?_); go_simp; (try go_bits); first | (refine hK _ ?_; clear hK K) | (apply Exists.intro; refine ⟨fun x => ?_, hK _ ?_⟩; fail)); (refine Soft.mix_q (fun K hK => ?_); go_simp; (try go_bits); first | (refine hK _ ?_; clear hK K) | (apply Exists.intro; refine ⟨fun x => ?_, hK _ ?_⟩; fail)); (refine Soft.mix_q (fun K hK => ?_); go_simp; (try go_bits); first | (refine hK _ ?_; clear hK K) | (apply Exists.intro; refine ⟨fun x => ?_, hK _ ?_⟩; fail)); (refine Soft.mix_q (fun K hK => ?_); go_simp; (try go_bits); first | (refine hK _ ?_; clear hK K) | (apply Exists.intro; refine ⟨fun x => ?_, hK _ ?_⟩; fail)); (refine Soft.mix_q (fun K hK => ?_); go_simp; (try go_bits); first | (refine hK _ ?_; clear hK K) | (apply Exists.intro; refine ⟨fun x => ?_, hK _ ?_⟩; fail)); (refine Soft.mix_q (fun K hK => ?_); go_simp; (try go_bits); first | (refine hK _ ?_; clear hK K) | (apply Exists.intro; refine ⟨fun x => ?_, hK _ ?_⟩; fail)); (refine Soft.mix_q (fun K hK => ?_); go_simp; (try go_bits); first | (refine hK _ ?_; clear hK K) | (apply Exists.intro; refine ⟨fun x => ?_, hK _ ?_⟩; fail)); (refine Soft.mix_q (fun K hK => ?_); go_simp; (try go_bits); first | (refine hK _ ?_; clear hK K) | (apply Exists.intro; refine ⟨fun x => ?_, hK _ ?_⟩; fail)); (refine Soft.mix_q (fun K hK => ?_); go_simp; (try go_bits); first | (refine hK _ ?_; clear hK K) | (apply Exists.intro; refine ⟨fun x => ?_, hK _ ?_⟩; fail)); (refine Soft.mix_q (fun K hK => ?_); go_simp; (try go_bits); first | (refine hK _ ?_; clear hK K) | (apply Exists.intro; refine ⟨fun x => ?_, hK _ ?_⟩; fail)); (refine Soft.mix_q (fun K hK => ?_); go_simp; (try go_bits); first | (refine hK _ ?_; clear hK K) | (apply Exists.intro; refine ⟨fun x => ?_, hK _ ?_⟩; fail)); (refine Soft.mix_q (fun K hK => ?_); go_simp; (try go_bits); first | (refine hK _ ?_; clear hK K) | (apply Exists.intro; refine ⟨fun x => ?_, hK _ ?_⟩; fail)); (refine Soft.mix_q (fun K hK => ?_); go_simp; (try go_bits); first | (refine hK _ ?_; clear hK K) | (apply Exists.intro; refine ⟨fun x => ?_, hK _ ?_⟩; fail)); (refine Soft.mix_q (fun K hK => ?_); go_simp; (try go_bits); first | (refine hK _ ?_; clear hK K) | (apply Exists.intro; refine ⟨fun x => ?_, hK _ ?_⟩; fail)); (refine Soft.mix_q (fun K hK => ?_); go_simp; (try go_bits); first | (refine hK _ ?_; clear hK K) | (apply Exists.intro; refine ⟨fun x => ?_, hK _ ?_⟩; fail)); (refine Soft.mix_q (fun K hK => ?_); go_simp; (try go_bits); first | (refine hK _ ?_; clear hK K) | (apply Exists.intro; refine ⟨fun x => ?_, hK _ ?_⟩; fail)); (refine Soft.mix_q (fun K hK => ?_); go_simp; (try go_bits); first | (refine hK _ ?_; clear hK K) | (apply Exists.intro; refine ⟨fun x => ?_, hK _ ?_⟩; fail)); (refine Soft.mix_q (fun K hK => ?_); go_simp; (try go_bits); first | (refine hK _ ?_; clear hK K) | (apply Exists.intro; refine ⟨fun x => ?_, hK _ ?_⟩; fail)); (refine Soft.mix_q (fun K hK => ?_); go_simp; (try go_bits); first | (refine hK _ ?_; clear hK K) | (apply Exists.intro; refine ⟨fun x => ?_, hK _ ?_⟩; fail)); (refine Soft.mix_q (fun K hK => ?_); go_simp; (try go_bits); first | (refine hK _ ?_; clear hK K) | (apply Exists.intro; refine ⟨fun x => ?_, hK _ ?_⟩; fail)); (refine Soft.mix_q (fun K hK => ?_); go_simp; (try go_bits); first | (refine hK _ ?_; clear hK K) | (apply Exists.intro; refine ⟨fun x => ?_, hK _ ?_⟩; fail)); (refine Soft.mix_q (fun K hK => ?_); go_simp; (try go_bits); first | (refine hK _ ?_; clear hK K) | (apply Exists.intro; refine ⟨fun x => ?_, hK _ ?_⟩; fail)); (refine Soft.mix_c (fun K hK => ?_); go_simp; (try go_bits); ((go_at_call 9; (with_reducible refine (CO1.out _ (by (with_reducible repeat (first | exact blr _ | refine bla ?_ _ | refine blw _ ?_ | refine bld ?_ | refine bln _ ?_ | refine bls ?_ _ | refine blt ?_)))).mono ?_); rintro e w_ ⟨rfl, hb_⟩; obtain ⟨o1, rfl⟩ := Soft.BW.mk hb_; clear hb_; refine ⟨_, rfl, (by first | with_reducible exact Soft.BW.below o1 | simpa using Soft.BW.below o1), hK _ _ ?_⟩)); clear hK K); (refine Soft.mix_c (fun K hK => ?_); go_simp; (try go_bits); ((go_at_call 23; (with_reducible refine (CT1.out _ (by (with_reducible repeat (first | exact blr _ | refine bla ?_ _ | refine blw _ ?_ | refine bld ?_ | refine bln _ ?_ | refine bls ?_ _ | refine blt ?_)))).mono ?_); rintro e w_ ⟨q1, rfl, hq1, hp1, hf1, hb_⟩; obtain ⟨y1, rfl⟩ := Soft.BW.mk hb_; clear hb_; have HQ1 := Lib.hid hq1; have HF1 := Lib.hid hf1; have HE1 := Lib.hid hp1; clear hq1 hf1 hp1; refine ⟨_, rfl, (by first | with_reducible exact Soft.BW.below y1 | simpa using Soft.BW.below y1), hK _ _ ?_⟩)); clear hK K); (refine Soft.mix_c (fun K hK => ?_); go_simp; (try go_bits); ((go_at_call 22; (with_reducible refine (CT2.out _ (by (with_reducible repeat (first | exact blr _ | refine bla ?_ _ | refine blw _ ?_ | refine bld ?_ | refine bln _ ?_ | refine bls ?_ _ | refine blt ?_)))).mono ?_); rintro e w_ ⟨q2, rfl, hq2, hp2, hf2, hb_⟩; obtain ⟨y2, rfl⟩ := Soft.BW.mk hb_; clear hb_; have HQ2 := Lib.hid hq2; have HF2 := Lib.hid hf2; have HE2 := Lib.hid hp2; clear hq2 hf2 hp2; refine ⟨_, rfl, (by first | with_reducible exact Soft.BW.below y2 | simpa using Soft.BW.below y2), hK _ _ ?_⟩)); clear hK K); (refine Soft.mix_c (fun K hK => ?_); go_simp; (try go_bits); ((go_at_call 23; (with_reducible refine (CT3.out _ (by (with_reducible repeat (first | exact blr _ | refine bla ?_ _ | refine blw _ ?_ | refine bld ?_ | refine bln _ ?_ | refine bls ?_ _ | refine blt ?_)))).mono ?_); rintro e w_ ⟨q3, rfl, hq3, hp3, hf3, hb_⟩; obtain ⟨y3, rfl⟩ := Soft.BW.mk hb_; clear hb_; have HQ3 := Lib.hid hq3; have HF3 := Lib.hid hf3; have HE3 := Lib.hid hp3; clear hq3 hf3 hp3; refine ⟨_, rfl, (by first | with_reducible exact Soft.BW.below y3 | simpa using Soft.BW.below y3), hK _ _ ?_⟩)); clear hK K); (refine Soft.mix_c (fun K hK => ?_); go_simp; (try go_bits); ((go_at_call 9; (with_reducible refine (CO2.out _ (by (with_reducible repeat (first | exact blr _ | refine bla ?_ _ | refine blw _ ?_ | refine bld ?_ | refine bln _ ?_ | refine bls ?_ _ | refine blt ?_)))).mono ?_); rintro e w_ ⟨rfl, hb_⟩; obtain ⟨o2, rfl⟩ := Soft.BW.mk hb_; clear hb_; refine ⟨_, rfl, (by first | with_reducible exact Soft.BW.below o2 | simpa using Soft.BW.below o2), hK _ _ ?_⟩)); clear hK K); (refine Soft.mix_c (fun K hK => ?_); go_simp; (try go_bits); ((go_at_call 9; (with_reducible refine (CO3.out _ (by (with_reducible repeat (first | exact blr _ | refine bla ?_ _ | refine blw _ ?_ | refine bld ?_ | refine bln _ ?_ | refine bls ?_ _ | refine blt ?_)))).mono ?_); rintro e w_ ⟨rfl, hb_⟩; obtain ⟨o3, rfl⟩ := Soft.BW.mk hb_; clear hb_; refine ⟨_, rfl, (by first | with_reducible exact Soft.BW.below o3 | simpa using Soft.BW.below o3), hK _ _ ?_⟩)); clear hK K); (refine Soft.mix_c (fun K hK => ?_); go_simp; (try go_bits); ((go_at_call 9; (with_reducible refine (CO4.out _ (by (with_reducible repeat (first | exact blr _ | refine bla ?_ _ | refine blw _ ?_ | refine bld ?_ | refine bln _ ?_ | refine bls ?_ _ | refine blt ?_)))).mono ?_); rintro e w_ ⟨rfl, hb_⟩; obtain ⟨o4, rfl⟩ := Soft.BW.mk hb_; clear hb_; refine ⟨_, rfl, (by first | with_reducible exact Soft.BW.below o4 | simpa using Soft.BW.below o4), hK _ _ ?_⟩)); clear hK K); (refine Soft.mix_c (fun K hK => ?_); go_simp; (try go_bits); ((go_at_call 9; (with_reducible refine (CO5.out _ (by (with_reducible repeat (first | exact blr _ | refine bla ?_ _ | refine blw _ ?_ | refine bld ?_ | refine bln _ ?_ | refine bls ?_ _ | refine blt ?_)))).mono ?_); rintro e w_ ⟨rfl, hb_⟩; obtain ⟨o5, rfl⟩ := Soft.BW.mk hb_; clear hb_; refine ⟨_, rfl, (by first | with_reducible exact Soft.BW.below o5 | simpa using Soft.BW.below o5), hK _ _ ?_⟩)); clear hK K); (refine Soft.mix_q (fun K hK => ?_); go_simp; (try go_bits); first | (refine hK _ ?_; clear hK K) | (apply Exists.intro; refine ⟨fun x => ?_, hK _ ?_⟩; fail)); (refine Soft.mix_c (fun K hK => ?_); go_simp; (try go_bits); refine ⟨by first | exact Below.refl _ _ | exact Below.alloc (Below.refl _ _) (Nat.le_refl _) _, hK _ _ ?_⟩; clear hK K); (refine Soft.mix_nil ?_; intro hbx; change wpList _ _ _ [_, _, _] _ _))
      have hY : Below W5.heap.size W5 (o5.w.alloc (.cells #[.int .i64 q.id, .int .i64 r1.lo, .int .i64 r1.hi, .slice q1.p q1.n q1.c, .slice q2.p q2.n q2.c, .slice q3.p q3.n q3.c, .int .i64 r2.lo, .int .i64 r2.hi, .int .i64 r3.lo, .int .i64 r3.hi, .int .i64 r4.lo, .int .i64 r4.hi, .int .i64 r5.lo, .int .i64 r5.hi] 49)) := by (with_reducible repeat (first | exact blr _ | refine bla ?_ _ | refine blw _ ?_ | refine bld ?_ | refine bln _ ?_ | refine bls ?_ _ | refine blt ?_))
      have HY5 := Lib.hid hY
      have hYs := hY.size
      have hy1 : W5.heap.size ≤ o5.w.heap.size := by have := (show Below W5.heap.size W5 o5.w by (with_reducible repeat (first | exact blr _ | refine bla ?_ _ | refine blw _ ?_ | refine bld ?_ | refine bln _ ?_ | refine bls ?_ _ | refine blt ?_))).size; exact this
      have hlt4 := HTR.out.lt
      have OW := Lib.hid ((HTR.out.call hY).heap.own 1 _ rfl)
      have PK := Lib.hid ((HTR.out.out).below hY)
      clear hY
      go_wp2_with (at_builtin; go_loud (refine app_row rt5_hold rfl (.tmp 111) (.tmp 153) rfl (w.heap.size + 4) vh H.length (H.flatMap hoC) rfl OW.out o5.w.heap.size (hoC (⟨q.id, r1, q1, q2, q3, r2, r3, r4, r5⟩ : Ho)) rfl rfl (fun u hu => by simp [hoC] at hu; rcases hu with rfl | rfl | rfl | rfl | rfl | rfl | rfl | rfl | rfl | rfl | rfl | rfl | rfl | rfl <;> rfl) (fun jj uu huu => (HasBlk.cell (c := #[.int .i64 q.id, .int .i64 r1.lo, .int .i64 r1.hi, .slice q1.p q1.n q1.c, .slice q2.p q2.n q2.c, .slice q3.p q3.n q3.c, .int .i64 r2.lo, .int .i64 r2.hi, .int .i64 r3.lo, .int .i64 r3.hi, .int .i64 r4.lo, .int .i64 r4.hi, .int .i64 r5.lo, .int .i64 r5.hi]) (t := 49) (Soft.heap_new _ _) jj).trans (by simpa [hoC] using huu)) (by have := HHL.out; omega) (by omega) ?_); intro g3 g3c wg3 ho3 hb3 hg3 hl3 hg4 hg5 hc4 hc5; have HOg3 := Lib.hid ho3; have HBg3 := Lib.hid hb3; have HGg3 := Lib.hid hg3; have HLg3 := Lib.hid hl3; have z7 := HasBlk.frozen ((hb3.block (w.heap.size + 3) (by omega)).trans PK.out) 15; have z8 := HasBlk.cell ((hb3.block (w.heap.size + 3) (by omega)).trans PK.out) 15; simp at z8; have lz := Soft.LtH.mk (b := w.heap.size + 3) (w := wg3) (Nat.lt_of_lt_of_le (by omega) hb3.size); have k16 := HasBlk.cell ((hb3.block w.heap.size (by omega)).trans (HTR.out.p0.below HY5.out)) 16; simp at k16; have lk := Soft.LtH.mk (b := w.heap.size) (w := wg3) (Nat.lt_of_lt_of_le (by omega) hb3.size); have bw3 := (HTR.out.bel.trans (HY5.out.mono HTR.out.bel.size)).trans (hb3.mono (by omega)); obtain ⟨bl1, ol1, e2, hbl, hcl⟩ := (HFI.out.same bw3).cells (by dsimp only; omega); cases e2; obtain ⟨j0, j1, j2, j3, j4, j5⟩ := hcl k (by dsimp only; omega); dsimp only at j0 j1 j2 j3 j4 j5 hbl; have lk2 := Soft.LtH.mk (b := bl) (w := wg3) hbl; have nq1 : ¬(bl = w.heap.size + 3) := (by omega); have nq2 : ¬(w.heap.size + 3 = bl) := (by omega); have kk1 : (k : Int) < fn := (by omega); clear hcl bw3; generalize hg : fiv fx k = g at *; have HGE := Lib.hid hg; clear hg; clear ho3 hb3 hg3 hl3)
      have HT_ := HTR.out.add HY5.out (more := [q1, q2, q3]) (fun t ht => by 
        simp only [List.mem_cons, List.not_mem_nil, or_false] at ht
        have z1 : Below W5.heap.size W5 o1.w := by (with_reducible repeat (first | exact blr _ | refine bla ?_ _ | refine blw _ ?_ | refine bld ?_ | refine bln _ ?_ | refine bls ?_ _ | refine blt ?_))
        have z2 : Below W5.heap.size W5 y1.w := by (with_reducible repeat (first | exact blr _ | refine bla ?_ _ | refine blw _ ?_ | refine bld ?_ | refine bln _ ?_ | refine bls ?_ _ | refine blt ?_))
        have z3 : Below W5.heap.size W5 y2.w := by (with_reducible repeat (first | exact blr _ | refine bla ?_ _ | refine blw _ ?_ | refine bld ?_ | refine bln _ ?_ | refine bls ?_ _ | refine blt ?_))
        rcases ht with rfl | rfl | rfl
        · exact ⟨HQ1.out.same (by (with_reducible repeat (first | exact blr _ | refine bla ?_ _ | refine blw _ ?_ | refine bld ?_ | refine bln _ ?_ | refine bls ?_ _ | refine blt ?_))), fun b o e => Nat.le_trans z1.size (HF1.out b o e)⟩
        · exact ⟨HQ2.out.same (by (with_reducible repeat (first | exact blr _ | refine bla ?_ _ | refine blw _ ?_ | refine bld ?_ | refine bln _ ?_ | refine bls ?_ _ | refine blt ?_))), fun b o e => Nat.le_trans z2.size (HF2.out b o e)⟩
        · exact ⟨HQ3.out.same (by (with_reducible repeat (first | exact blr _ | refine bla ?_ _ | refine blw _ ?_ | refine bld ?_ | refine bln _ ?_ | refine bls ?_ _ | refine blt ?_))), fun b o e => Nat.le_trans z3.size (HF3.out b o e)⟩) 1 rfl (r' := ⟨49, 14, H.flatMap hoC ++ hoC (⟨q.id, r1, q1, q2, q3, r2, r3, r4, r5⟩ : Ho), H.length + 1, .slice (some ⟨g3, 0, none⟩) (H.length + 1) g3c⟩) HOg3.out HBg3.out HGg3.out HLg3.out rfl 15 (.slice (some ⟨g3, 0, none⟩) (H.length + 1) g3c)
      rw [rows5_H] at HT_
      have g0 : HasBlk ((wg3.setCell ⟨w.heap.size + 3, 15, none⟩ (.slice (some ⟨g3, 0, none⟩) (H.length + 1) g3c)).alloc (.cells #[.int .i64 (g).hold, .int .i64 (g).state, .int .i64 ((g).ull).lo, .int .i64 ((g).ull).hi, .int .i64 ((g).den).lo, .int .i64 ((g).den).hi] 44)) wg3.heap.size #[.int .i64 (g).hold, .int .i64 (g).state, .int .i64 ((g).ull).lo, .int .i64 ((g).ull).hi, .int .i64 ((g).den).lo, .int .i64 ((g).den).hi] 44 := by
        have h := Soft.heap_new (wg3.setCell ⟨w.heap.size + 3, 15, none⟩ (.slice (some ⟨g3, 0, none⟩) (H.length + 1) g3c)) (.cells #[.int .i64 (g).hold, .int .i64 (g).state, .int .i64 ((g).ull).lo, .int .i64 ((g).ull).hi, .int .i64 ((g).den).lo, .int .i64 ((g).den).hi] 44)
        rw [World.size_setCell] at h
        exact h
      have RQ := Lib.hid (⟨HE1.out, HE2.out, HE3.out⟩ : _ ∧ _ ∧ _)
      have HT2 := HT_.call ((Below.refl _ _).alloc (Nat.le_refl _) (.cells #[.int .i64 (g).hold, .int .i64 (g).state, .int .i64 ((g).ull).lo, .int .i64 ((g).ull).hi, .int .i64 ((g).den).lo, .int .i64 ((g).den).hi] 44))
      clear HT_ HTR HE1 HE2 HE3 HF1 HF2 HF3 HQ1 HQ2 HQ3 HY5 HOg3 HBg3 HGg3 HLg3 PK OW z7 z8 lz x0 x1 x2 x3 x4 x5 x6 x7 x8 x9 x10 x11 x12 x13 m0 lr l3 CO1 CO2 CO3 CO4 CO5 CT1 CT2 CT3 AQ5 HW5 hYs hy1 hlt4 tl hbx k16 lk lk2 nq1 nq2 kk1 j0 j1 j2 j3 j4 j5 hbl
      generalize (wg3.setCell ⟨w.heap.size + 3, 15, none⟩ (.slice (some ⟨g3, 0, none⟩) (H.length + 1) g3c)).alloc (.cells #[.int .i64 (g).hold, .int .i64 (g).state, .int .i64 ((g).ull).lo, .int .i64 ((g).ull).hi, .int .i64 ((g).den).lo, .int .i64 ((g).den).hi] 44) = W6 at *
      have HTR := Lib.hid HT2
      clear HT2
      have HW6 := Lib.hid HTR.out.bel
      have hlt4 := HTR.out.lt
      have gl := g0.lt
      generalize wg3.heap.size = RC at *
      have e0 := g0.cell 0
      have e1 := g0.cell 1
      have e2 := g0.cell 2
      have e3 := g0.cell 3
      have e4 := g0.cell 4
      have e5 := g0.cell 5
      have m0 := HTR.out.out.cell 16
      simp at e0 e1 e2 e3 e4 e5 m0
      have lr := Soft.LtH.mk (b := RC) (w := W6) gl
      have l3 := Soft.LtH.mk (b := w.heap.size + 3) (w := W6) HTR.out.out.lt
      obtain ⟨rg1, rg2⟩ := fill_rg OK1.out OK2.out
      have CO6 := Lib.hid (fun W (hb : Below W6.heap.size W6 W) => show Calls Tryz.prog 9 #[.agg #[.int .i64 (g.ull).lo, .int .i64 (g.ull).hi], .slice s.p s.n s.c, .int .i64 (12 + (k : Int))] W (fun e w' => e = .returned (.agg #[.int .i64 (oneR (g.ull) s.xs (12 + k)).lo, .int .i64 (oneR (g.ull) s.xs (12 + k)).hi]) ∧ Below W.heap.size W w') from Top_one (g.ull) s (12 + k) W ((HSI.out.below HW6.out).below hb) (by omega) (rg1))
      have CO7 := Lib.hid (fun W (hb : Below W6.heap.size W6 W) => show Calls Tryz.prog 9 #[.agg #[.int .i64 (g.den).lo, .int .i64 (g.den).hi], .slice s.p s.n s.c, .int .i64 (13 + (k : Int))] W (fun e w' => e = .returned (.agg #[.int .i64 (oneR (g.den) s.xs (13 + k)).lo, .int .i64 (oneR (g.den) s.xs (13 + k)).hi]) ∧ Below W.heap.size W w') from Top_one (g.den) s (13 + k) W ((HSI.out.below HW6.out).below hb) (by omega) (rg2))
      generalize hr6 : oneR g.ull s.xs (12 + k) = r6 at *
      generalize hr7 : oneR g.den s.xs (13 + k) = r7 at *
      have HR6 := Lib.hid hr6; have HR7 := Lib.hid hr7
      clear hr6 hr7 rg1 rg2
      go_wp2_with fail
      ((refine Soft.region_mix [(true, 0), (true, 1), (true, 2), (true, 3), (true, 4), (true, 5), (true, 6), (true, 7), (true, 8), (true, 9), (true, 10), (true, 12), (true, 13), (true, 14), (true, 15), (true, 16), (false, 11), (false, 17), (true, 18), (false, 19)] [20, 21, 22] (by kernel_rfl) (by kernel_rfl) (by kernel_rfl) (by kernel_rfl) ?_; change Soft.wpMix _ _ _ _ [(true, _), (true, _), (true, _), (true, _), (true, _), (true, _), (true, _), (true, _), (true, _), (true, _), (true, _), (true, _), (true, _), (true, _), (true, _), (true, _), (false, _), (false, _), (true, _), (false, _)] _ _); (refine Soft.mix_q (fun K hK => ?_); go_simp; (try go_bits); first | (refine hK _ ?_; clear hK K) | (apply Exists.intro; refine ⟨fun x => ?_, hK _ ?_⟩; fail)); (refine Soft.mix_q (fun K hK => ?_); go_simp; (try go_bits); first | (refine hK _ ?_; clear hK K) | (apply Exists.intro; refine ⟨fun x => ?_, hK _ ?_⟩; fail)); (refine Soft.mix_q (fun K hK => ?_); go_simp; (try go_bits); first | (refine hK _ ?_; clear hK K) | (apply Exists.intro; refine ⟨fun x => ?_, hK _ ?_⟩; fail)); (refine Soft.mix_q (fun K hK => ?_); go_simp; (try go_bits); first | (refine hK _ ?_; clear hK K) | (apply Exists.intro; refine ⟨fun x => ?_, hK _ ?_⟩; fail)); (refine Soft.mix_q (fun K hK => ?_); go_simp; (try go_bits); first | (refine hK _ ?_; clear hK K) | (apply Exists.intro; refine ⟨fun x => ?_, hK _ ?_⟩; fail)); (refine Soft.mix_q (fun K hK => ?_); go_simp; (try go_bits); first | (refine hK _ ?_; clear hK K) | (apply Exists.intro; refine ⟨fun x => ?_, hK _ ?_⟩; fail)); (refine Soft.mix_q (fun K hK => ?_); go_simp; (try go_bits); first | (refine hK _ ?_; clear hK K) | (apply Exists.intro; refine ⟨fun x => ?_, hK _ ?_⟩; fail)); (refine Soft.mix_q (fun K hK => ?_); go_simp; (try go_bits); first | (refine hK _ ?_; clear hK K) | (apply Exists.intro; refine ⟨fun x => ?_, hK _ ?_⟩; fail)); (refine Soft.mix_q (fun K hK => ?_); go_simp; (try go_bits); first | (refine hK _ ?_; clear hK K) | (apply Exists.intro; refine ⟨fun x => ?_, hK _ ?_⟩; fail)); (refine Soft.mix_q (fun K hK => ?_); go_simp; (try go_bits); first | (refine hK _ ?_; clear hK K) | (apply Exists.intro; refine ⟨fun x => ?_, hK _ ?_⟩; fail)); (refine Soft.mix_q (fun K hK => ?_); go_simp; (try go_bits); first | (refine hK _ ?_; clear hK K) | (apply Exists.intro; refine ⟨fun x => ?_, hK _ ?_⟩; fail)); (refine Soft.mix_q (fun K hK => ?_); go_simp; (try go_bits); first | (refine hK _ ?_; clear hK K) | (apply Exists.intro; refine ⟨fun x => ?_, hK _ ?_⟩; fail)); (refine Soft.mix_q (fun K hK => ?_); go_simp; (try go_bits); first | (refine hK _ ?_; clear hK K) | (apply Exists.intro; refine ⟨fun x => ?_, hK _ ?_⟩; fail)); (refine Soft.mix_q (fun K hK => ?_); go_simp; (try go_bits); first | (refine hK _ ?_; clear hK K) | (apply Exists.intro; refine ⟨fun x => ?_, hK _ ?_⟩; fail)); (refine Soft.mix_q (fun K hK => ?_); go_simp; (try go_bits); first | (refine hK _ ?_; clear hK K) | (apply Exists.intro; refine ⟨fun x => ?_, hK _ ?_⟩; fail)); (refine Soft.mix_q (fun K hK => ?_); go_simp; (try go_bits); first | (refine hK _ ?_; clear hK K) | (apply Exists.intro; refine ⟨fun x => ?_, hK _ ?_⟩; fail)); (refine Soft.mix_c (fun K hK => ?_); go_simp; (try go_bits); ((go_at_call 9; (with_reducible refine (CO6.out _ (by (with_reducible repeat (first | exact blr _ | refine bla ?_ _ | refine blw _ ?_ | refine bld ?_ | refine bln _ ?_ | refine bls ?_ _ | refine blt ?_)))).mono ?_); rintro e w_ ⟨rfl, hb_⟩; obtain ⟨o6, rfl⟩ := Soft.BW.mk hb_; clear hb_; refine ⟨_, rfl, (by first | with_reducible exact Soft.BW.below o6 | simpa using Soft.BW.below o6), hK _ _ ?_⟩)); clear hK K); (refine Soft.mix_c (fun K hK => ?_); go_simp; (try go_bits); ((go_at_call 9; (with_reducible refine (CO7.out _ (by (with_reducible repeat (first | exact blr _ | refine bla ?_ _ | refine blw _ ?_ | refine bld ?_ | refine bln _ ?_ | refine bls ?_ _ | refine blt ?_)))).mono ?_); rintro e w_ ⟨rfl, hb_⟩; obtain ⟨o7, rfl⟩ := Soft.BW.mk hb_; clear hb_; refine ⟨_, rfl, (by first | with_reducible exact Soft.BW.below o7 | simpa using Soft.BW.below o7), hK _ _ ?_⟩)); clear hK K); (refine Soft.mix_q (fun K hK => ?_); go_simp; (try go_bits); first | (refine hK _ ?_; clear hK K) | (apply Exists.intro; refine ⟨fun x => ?_, hK _ ?_⟩; fail)); (refine Soft.mix_c (fun K hK => ?_); go_simp; (try go_bits); refine ⟨by first | exact Below.refl _ _ | exact Below.alloc (Below.refl _ _) (Nat.le_refl _) _, hK _ _ ?_⟩; clear hK K); (refine Soft.mix_nil ?_; intro hbx; change wpList _ _ _ [_, _, _] _ _))
      have hY : Below W6.heap.size W6 (o7.w.alloc (.cells #[.int .i64 g.hold, .int .i64 g.state, .int .i64 r6.lo, .int .i64 r6.hi, .int .i64 r7.lo, .int .i64 r7.hi] 44)) := by (with_reducible repeat (first | exact blr _ | refine bla ?_ _ | refine blw _ ?_ | refine bld ?_ | refine bln _ ?_ | refine bls ?_ _ | refine blt ?_))
      have HY6 := Lib.hid hY
      have hYs := hY.size
      have hy1 : W6.heap.size ≤ o7.w.heap.size := by have := (show Below W6.heap.size W6 o7.w by (with_reducible repeat (first | exact blr _ | refine bla ?_ _ | refine blw _ ?_ | refine bld ?_ | refine bln _ ?_ | refine bls ?_ _ | refine blt ?_))).size; exact this
      have hlt4 := HTR.out.lt
      have OW := Lib.hid ((HTR.out.call hY).heap.own 2 _ rfl)
      have PK := Lib.hid ((HTR.out.out).below hY)
      clear hY
      go_wp2_with (at_builtin; go_loud (refine app_row rt5_fill rfl (.tmp 162) (.tmp 180) rfl (w.heap.size + 4) vf F.length (F.flatMap fiC) rfl OW.out o7.w.heap.size (fiC (⟨g.hold, g.state, r6, r7⟩ : Fi)) rfl rfl (fun u hu => by simp [fiC] at hu; rcases hu with rfl | rfl | rfl | rfl | rfl | rfl <;> rfl) (fun jj uu huu => (HasBlk.cell (c := #[.int .i64 g.hold, .int .i64 g.state, .int .i64 r6.lo, .int .i64 r6.hi, .int .i64 r7.lo, .int .i64 r7.hi]) (t := 44) (Soft.heap_new _ _) jj).trans (by simpa [fiC] using huu)) (by have := HFL.out; omega) (by omega) ?_); intro g4 g4c wg4 ho3 hb3 hg3 hl3 hg4 hg5 hc4 hc5; have HOg4 := Lib.hid ho3; have HBg4 := Lib.hid hb3; have HGg4 := Lib.hid hg3; have HLg4 := Lib.hid hl3; have z7 := HasBlk.frozen ((hb3.block (w.heap.size + 3) (by omega)).trans PK.out) 16; have z8 := HasBlk.cell ((hb3.block (w.heap.size + 3) (by omega)).trans PK.out) 16; simp at z8; have lz := Soft.LtH.mk (b := w.heap.size + 3) (w := wg4) (Nat.lt_of_lt_of_le (by omega) hb3.size); clear ho3 hb3 hg3 hl3)
      have HT_ := HTR.out.add HY6.out (more := []) (fun t ht => by exact absurd ht List.not_mem_nil) 2 rfl (r' := ⟨44, 6, F.flatMap fiC ++ fiC (⟨g.hold, g.state, r6, r7⟩ : Fi), F.length + 1, .slice (some ⟨g4, 0, none⟩) (F.length + 1) g4c⟩) HOg4.out HBg4.out HGg4.out HLg4.out rfl 16 (.slice (some ⟨g4, 0, none⟩) (F.length + 1) g4c)
      rw [rows5_F, List.append_nil] at HT_
      go_roundw
      case rel =>
        refine ⟨k + 1, .slice (some ⟨g3, 0, none⟩) (H.length + 1) g3c, .slice (some ⟨g4, 0, none⟩) (F.length + 1) g4c, H ++ [(⟨q.id, r1, q1, q2, q3, r2, r3, r4, r5⟩ : Ho)], F ++ [(⟨g.hold, g.state, r6, r7⟩ : Fi)], tabs' ++ [q1, q2, q3], by simp, by omega, by simp [HHL.out], by simp [HFL.out], fun j hj => ?_, fun j hj => ?_, fun t ht => ?_, fun t ht => List.mem_append_left _ (HSUB.out t ht), HT_⟩
        · have hcr := get_snoc' H (⟨q.id, r1, q1, q2, q3, r2, r3, r4, r5⟩ : Ho) j
          rw [HHL.out] at hcr
          show HoT _ _ _ (((H ++ [(⟨q.id, r1, q1, q2, q3, r2, r3, r4, r5⟩ : Ho)])[j]?).getD default)
          rw [hcr]
          by_cases e : j < k
          · rw [if_pos e]; exact HHT.out j e
          · obtain rfl : j = k := by omega
            rw [if_neg e, if_pos rfl, HQE.out]
            obtain ⟨a1, a2, a3⟩ := RQ.out
            obtain ⟨i1, i2, i3, i4, i5⟩ := HRS.out
            exact ⟨rfl, i1.symm, by rw [HUP2.out]; exact a1, a2, by rw [HUP2.out]; exact a3, i2.symm, i3.symm, i4.symm, i5.symm⟩
        · have hcr := get_snoc' F (⟨g.hold, g.state, r6, r7⟩ : Fi) j
          rw [HFL.out] at hcr
          show (((F ++ [(⟨g.hold, g.state, r6, r7⟩ : Fi)])[j]?).getD default) = _
          rw [hcr]
          by_cases e : j < k
          · rw [if_pos e]; exact HFT.out j e
          · obtain rfl : j = k := by omega
            rw [if_neg e, if_pos rfl, HGE.out, ← HR6.out, ← HR7.out]
            rfl
        · rcases List.mem_append.1 ht with h | h
          · obtain ⟨a1, a2, a3⟩ := HTB.out t h
            exact ⟨List.mem_append_left _ a1, List.mem_append_left _ a2, List.mem_append_left _ a3⟩
          · obtain rfl := List.mem_singleton.1 h
            exact ⟨List.mem_append_right _ (by simp), List.mem_append_right _ (by simp), List.mem_append_right _ (by simp)⟩
      case measure => simp [intOf]; omega
    · obtain rfl : k = hn := by omega
      have HTR := Lib.hid htr
      have HF := Lib.hid (⟨hHl, hFl, hH, hF, htb, hsub⟩ : _ ∧ _ ∧ _ ∧ _ ∧ _ ∧ _)
      clear htr hHl hFl hH hF htb hsub
      rename Act → World → Prop => Kx
      rename ∀ (a : Act) (w_1 : World), Code.wp _ _ _ a w_1 → Kx a w_1 => hk_
      have HKX := Lib.hid hk_
      clear hk_
      go_wp2_with fail
      refine HKX.out _ _ ?_
      refine truth_tanks HSI HT HL h9 hln HOK H1 HTR ?_
      intro vt vl T L tabs2 w' t1 t2 t3 t4 t5 t6 t7 t8
      obtain ⟨f1, f2, f3, f4, f5, f6⟩ := HF.out
      exact HR.out vh vf vt vl H F T L tabs2 w' f1 f2 t1 t2 f3 f4 t3 t4 (fun h hh => ⟨t6 _ (f5 h hh).1, t6 _ (f5 h hh).2.1, t6 _ (f5 h hh).2.2⟩) t5 (fun t ht => t6 t (f6 t ht)) t7 t8

end Go.Proofs.YteagdcgmmdiakaaGreat
