/-
  TopPours from truth on.
  A load of a struct under a guard.
  The walk of the law TopPours.
  Conditions: each theorem's own premises.
-/
import Derived.Test.YteagdcgmmdiakaaGreatP26
import Derived.Test.YteagdcgmmdiakaaGreatP14
import Derived.Test.YteagdcgmmdiakaaGreatP17
import Derived.Test.YteagdcgmmdiakaaGreatP22
namespace Go.Proofs.YteagdcgmmdiakaaGreat
set_option linter.unusedSimpArgs false
set_option linter.unusedVariables false
open Go.RowKit
set_option maxRecDepth 1000000
set_option maxHeartbeats 20000000
attribute [local go_sem] Instr.field asAgg Soft.upon Soft.upon0 Soft.stepC Soft.BW.cell_if Soft.BW.frozen_if Soft.cell_alloc_if Soft.frozen_alloc_if
attribute [local irreducible] Soft.wpSoft Soft.wpMix

theorem pours_main {s : Is} {W : World} {B3 B4 : Nat} {p0 p1 p2 p3 p4 p5 p6 p7 p8 p9 p10 p11 p12 p13 p14 p17 p18 p19 : Value} {hp fp : Option Addr} {hn hc fn fc : Nat} {hx : List Ho} {fx : List Fi} {m d : Rg} {u0 u1 u5 u6 u7 u8 u9 u10 u11 u12 u13 u14 u15 u16 u17 u18 u19 u20 u21 u22 u23 u24 u25 u26 u27 u28 u29 u30 u31 u32 u33 u34 u35 u36 u37 u38 u39 u40 u41 u42 u43 u44 u45 u46 u47 u48 u49 u50 u51 u52 u53 u54 u55 u56 u57 u58 u59 u60 u61 u62 u63 u64 u65 u66 u67 u68 u69 u70 u71 u72 u73 u74 u75 u76 u77 u78 u79 u80 u81 u82 u83 u84 u85 u86 u87 u88 u89 u90 u91 u92 u93 u94 u95 u96 u97 u98 u99 u100 u101 u102 u103 u104 u105 u106 u107 u108 u109 u110 u111 u112 u113 u114 u115 u116 u117 u118 u119 u120 u121 u122 u123 u124 u125 u126 u127 u128 u129 u130 u131 u132 u133 u134 u135 u136 u137 u138 u139 u140 u141 u142 u143 u144 u145 u146 u147 u148 u149 u150 u151 u152 u153 u154 u155 u156 u157 u158 u159 u160 u161 u162 u163 u164 u165 u166 u167 u168 u169 u170 : Value} {R : Ending → World → Prop}
    (HSI : Hid (s.At W)) (HH : Hid (HsAt W ⟨hp, hn, hc, hx⟩)) (HF : Hid (FsAt W ⟨fp, fn, fc, fx⟩)) (h1 : hn ≠ 0) (h2 : fn ≠ 0)
    (H3 : Hid (HasBlk W B3 #[p0, p1, p2, p3, p4, p5, p6, p7, p8, p9, p10, p11, p12, p13, p14, .slice hp hn hc, .slice fp fn fc, p17, p18, p19] 37)) (H4 : Hid (HasBlk W B4 #[.int .i64 (m).lo, .int .i64 (m).hi, .int .i64 (d).lo, .int .i64 (d).hi] 38))
    (HCT : Hid (Calls Tryz.prog 7 #[.agg #[p0, p1, p2, p3, p4, p5, p6, p7, p8, p9, p10, p11, p12, p13, p14, .slice hp hn hc, .slice fp fn fc, p17, p18, p19], .slice s.p s.n s.c] W fun e w' => ∃ P' : Pa, e = .returned (.agg #[.int .i64 ((P').ship).len, .slice (((P').ship).dra).p (((P').ship).dra).n (((P').ship).dra).c, .slice (((P').ship).hei).p (((P').ship).hei).n (((P').ship).hei).c, .slice (((P').ship).cen).p (((P').ship).cen).n (((P').ship).cen).c, .slice (((P').ship).tri).p (((P').ship).tri).n (((P').ship).tri).c, .slice (((P').ship).flo).p (((P').ship).flo).n (((P').ship).flo).c, .slice (((P').ship).cross).p (((P').ship).cross).n (((P').ship).cross).c, .slice (((P').ship).sin).p (((P').ship).sin).n (((P').ship).sin).c, .slice (((P').ship).shi).p (((P').ship).shi).n (((P').ship).shi).c, .int .i64 ((((P').ship).light).mass).lo, .int .i64 ((((P').ship).light).mass).hi, .int .i64 ((((P').ship).light).along).lo, .int .i64 ((((P').ship).light).along).hi, .int .i64 ((((P').ship).light).high).lo, .int .i64 ((((P').ship).light).high).hi, .slice ((P').holds).p ((P').holds).n ((P').holds).c, .slice ((P').fills).p ((P').fills).n ((P').fills).c, .slice ((P').tanks).p ((P').tanks).n ((P').tanks).c, .slice ((P').levels).p ((P').levels).n ((P').levels).c, .int .i64 (P').most]) ∧ P'.At w' ∧ Below W.heap.size W w' ∧ P'.holds.n ≠ 0 ∧ P'.fills.n ≠ 0 ∧ HoT s.xs (hv hx 0) 0 (hv P'.holds.xs 0) ∧ fiv P'.fills.xs 0 = fiT s.xs (fiv fx 0) 0))
    (hR : ∀ w', Below W.heap.size W w' → R (.returned (.bool true)) w') :
    Code.wp Tryz.prog topM (bodyPost Tryz.prog Tryz.f3 R) { tmps := #[u0, u1, .slice s.p s.n s.c, .pointer (some ⟨B3, 0, none⟩), .pointer (some ⟨B4, 0, none⟩), u5, u6, u7, u8, u9, u10, u11, u12, u13, u14, u15, u16, u17, u18, u19, u20, u21, u22, u23, u24, u25, u26, u27, u28, u29, u30, u31, u32, u33, u34, u35, u36, u37, u38, u39, u40, u41, u42, u43, u44, u45, u46, u47, u48, u49, u50, u51, u52, u53, u54, u55, u56, u57, u58, u59, u60, u61, u62, u63, u64, u65, u66, u67, u68, u69, u70, u71, u72, u73, u74, u75, u76, u77, u78, u79, u80, u81, u82, u83, u84, u85, u86, u87, u88, u89, u90, u91, u92, u93, u94, u95, u96, u97, u98, u99, u100, u101, u102, u103, u104, u105, u106, u107, u108, u109, u110, u111, u112, u113, u114, u115, u116, u117, u118, u119, u120, u121, u122, u123, u124, u125, u126, u127, u128, u129, u130, u131, u132, u133, u134, u135, u136, u137, u138, u139, u140, u141, u142, u143, u144, u145, u146, u147, u148, u149, u150, u151, u152, u153, u154, u155, u156, u157, u158, u159, u160, u161, u162, u163, u164, u165, u166, u167, u168, u169, u170], defers := [] } W := by
  have HR := Lib.hid hR
  clear hR
  have zz1 : 0 < hn := by omega
  have zz2 : 0 < fn := by omega
  obtain ⟨bt, ot, rfl, hbt0, _⟩ := HH.out.cells h1
  obtain ⟨bl, ol, rfl, hbl0, _⟩ := HF.out.cells h2
  unfold topM
  conv => arg 2; whnf
  go_wp2_with (first
    | (refine wpList_load_part rfl 37 (.tmp 3) rfl B3 0 rfl 37 _ #[p0, p1, p2, p3, p4, p5, p6, p7, p8, p9, p10, p11, p12, p13, p14, .slice (some ⟨bt, ot, none⟩) hn hc, .slice (some ⟨bl, ol, none⟩) fn fc, p17, p18, p19] _ H3.out Tryz.underlying37 rfl (by kernel_rfl) rfl ?_)
    | (go_at_call 7; refine HCT.out.mono ?_; rintro e w_ ⟨P', rfl, hP', hb_, hn1, hn2, hT1, hT2⟩; obtain ⟨y1, rfl⟩ := Soft.BW.mk hb_; clear hb_; have HP' := Lib.hid hP'; have HN := Lib.hid (⟨hn1, hn2, hT1, hT2⟩ : _ ∧ _ ∧ _ ∧ _); clear hP' hn1 hn2 hT1 hT2)
    | (refine wpList_store_new rfl 37 (.tmp 8) (.tmp 40) rfl y1.w.heap.size (by simp) #[.int .i64 ((P').ship).len, .slice (((P').ship).dra).p (((P').ship).dra).n (((P').ship).dra).c, .slice (((P').ship).hei).p (((P').ship).hei).n (((P').ship).hei).c, .slice (((P').ship).cen).p (((P').ship).cen).n (((P').ship).cen).c, .slice (((P').ship).tri).p (((P').ship).tri).n (((P').ship).tri).c, .slice (((P').ship).flo).p (((P').ship).flo).n (((P').ship).flo).c, .slice (((P').ship).cross).p (((P').ship).cross).n (((P').ship).cross).c, .slice (((P').ship).sin).p (((P').ship).sin).n (((P').ship).sin).c, .slice (((P').ship).shi).p (((P').ship).shi).n (((P').ship).shi).c, .int .i64 ((((P').ship).light).mass).lo, .int .i64 ((((P').ship).light).mass).hi, .int .i64 ((((P').ship).light).along).lo, .int .i64 ((((P').ship).light).along).hi, .int .i64 ((((P').ship).light).high).lo, .int .i64 ((((P').ship).light).high).hi, .slice ((P').holds).p ((P').holds).n ((P').holds).c, .slice ((P').fills).p ((P').fills).n ((P').fills).c, .slice ((P').tanks).p ((P').tanks).n ((P').tanks).c, .slice ((P').levels).p ((P').levels).n ((P').levels).c, .int .i64 (P').most] rfl rfl (by kernel_rfl) rfl (by kernel_rfl) ?_))
  have hY : Below W.heap.size W (y1.w.alloc (.cells #[.int .i64 ((P').ship).len, .slice (((P').ship).dra).p (((P').ship).dra).n (((P').ship).dra).c, .slice (((P').ship).hei).p (((P').ship).hei).n (((P').ship).hei).c, .slice (((P').ship).cen).p (((P').ship).cen).n (((P').ship).cen).c, .slice (((P').ship).tri).p (((P').ship).tri).n (((P').ship).tri).c, .slice (((P').ship).flo).p (((P').ship).flo).n (((P').ship).flo).c, .slice (((P').ship).cross).p (((P').ship).cross).n (((P').ship).cross).c, .slice (((P').ship).sin).p (((P').ship).sin).n (((P').ship).sin).c, .slice (((P').ship).shi).p (((P').ship).shi).n (((P').ship).shi).c, .int .i64 ((((P').ship).light).mass).lo, .int .i64 ((((P').ship).light).mass).hi, .int .i64 ((((P').ship).light).along).lo, .int .i64 ((((P').ship).light).along).hi, .int .i64 ((((P').ship).light).high).lo, .int .i64 ((((P').ship).light).high).hi, .slice ((P').holds).p ((P').holds).n ((P').holds).c, .slice ((P').fills).p ((P').fills).n ((P').fills).c, .slice ((P').tanks).p ((P').tanks).n ((P').tanks).c, .slice ((P').levels).p ((P').levels).n ((P').levels).c, .int .i64 (P').most] 37)) := by (repeat (first | with_reducible exact bel_refl _ | with_reducible refine bel_alloc ?_ _ | with_reducible refine bel_bw _ ?_ | with_reducible refine bel_drew ?_ | with_reducible refine bel_drewN _ ?_ | ((with_reducible refine bel_set ?_ ?_ _); rotate_left; focus (first | (simp; done) | omega | (simp; omega))) | refine bel_step ?_ (by with_reducible assumption)))
  have e8 : HasBlk (y1.w.alloc (.cells #[.int .i64 ((P').ship).len, .slice (((P').ship).dra).p (((P').ship).dra).n (((P').ship).dra).c, .slice (((P').ship).hei).p (((P').ship).hei).n (((P').ship).hei).c, .slice (((P').ship).cen).p (((P').ship).cen).n (((P').ship).cen).c, .slice (((P').ship).tri).p (((P').ship).tri).n (((P').ship).tri).c, .slice (((P').ship).flo).p (((P').ship).flo).n (((P').ship).flo).c, .slice (((P').ship).cross).p (((P').ship).cross).n (((P').ship).cross).c, .slice (((P').ship).sin).p (((P').ship).sin).n (((P').ship).sin).c, .slice (((P').ship).shi).p (((P').ship).shi).n (((P').ship).shi).c, .int .i64 ((((P').ship).light).mass).lo, .int .i64 ((((P').ship).light).mass).hi, .int .i64 ((((P').ship).light).along).lo, .int .i64 ((((P').ship).light).along).hi, .int .i64 ((((P').ship).light).high).lo, .int .i64 ((((P').ship).light).high).hi, .slice ((P').holds).p ((P').holds).n ((P').holds).c, .slice ((P').fills).p ((P').fills).n ((P').fills).c, .slice ((P').tanks).p ((P').tanks).n ((P').tanks).c, .slice ((P').levels).p ((P').levels).n ((P').levels).c, .int .i64 (P').most] 37)) y1.w.heap.size #[.int .i64 ((P').ship).len, .slice (((P').ship).dra).p (((P').ship).dra).n (((P').ship).dra).c, .slice (((P').ship).hei).p (((P').ship).hei).n (((P').ship).hei).c, .slice (((P').ship).cen).p (((P').ship).cen).n (((P').ship).cen).c, .slice (((P').ship).tri).p (((P').ship).tri).n (((P').ship).tri).c, .slice (((P').ship).flo).p (((P').ship).flo).n (((P').ship).flo).c, .slice (((P').ship).cross).p (((P').ship).cross).n (((P').ship).cross).c, .slice (((P').ship).sin).p (((P').ship).sin).n (((P').ship).sin).c, .slice (((P').ship).shi).p (((P').ship).shi).n (((P').ship).shi).c, .int .i64 ((((P').ship).light).mass).lo, .int .i64 ((((P').ship).light).mass).hi, .int .i64 ((((P').ship).light).along).lo, .int .i64 ((((P').ship).light).along).hi, .int .i64 ((((P').ship).light).high).lo, .int .i64 ((((P').ship).light).high).hi, .slice ((P').holds).p ((P').holds).n ((P').holds).c, .slice ((P').fills).p ((P').fills).n ((P').fills).c, .slice ((P').tanks).p ((P').tanks).n ((P').tanks).c, .slice ((P').levels).p ((P').levels).n ((P').levels).c, .int .i64 (P').most] 37 := Soft.heap_new _ _
  have a8 := HP'.out.same (bel_alloc (bel_refl y1.w) (.cells #[.int .i64 ((P').ship).len, .slice (((P').ship).dra).p (((P').ship).dra).n (((P').ship).dra).c, .slice (((P').ship).hei).p (((P').ship).hei).n (((P').ship).hei).c, .slice (((P').ship).cen).p (((P').ship).cen).n (((P').ship).cen).c, .slice (((P').ship).tri).p (((P').ship).tri).n (((P').ship).tri).c, .slice (((P').ship).flo).p (((P').ship).flo).n (((P').ship).flo).c, .slice (((P').ship).cross).p (((P').ship).cross).n (((P').ship).cross).c, .slice (((P').ship).sin).p (((P').ship).sin).n (((P').ship).sin).c, .slice (((P').ship).shi).p (((P').ship).shi).n (((P').ship).shi).c, .int .i64 ((((P').ship).light).mass).lo, .int .i64 ((((P').ship).light).mass).hi, .int .i64 ((((P').ship).light).along).lo, .int .i64 ((((P').ship).light).along).hi, .int .i64 ((((P').ship).light).high).lo, .int .i64 ((((P').ship).light).high).hi, .slice ((P').holds).p ((P').holds).n ((P').holds).c, .slice ((P').fills).p ((P').fills).n ((P').fills).c, .slice ((P').tanks).p ((P').tanks).n ((P').tanks).c, .slice ((P').levels).p ((P').levels).n ((P').levels).c, .int .i64 (P').most] 37))
  have HB8 := Lib.hid e8
  have HP8 := Lib.hid a8
  have HW1 := Lib.hid hY
  clear hY e8 a8 HP'
  generalize y1.w.heap.size = B8 at *
  generalize y1.w.alloc (.cells #[.int .i64 ((P').ship).len, .slice (((P').ship).dra).p (((P').ship).dra).n (((P').ship).dra).c, .slice (((P').ship).hei).p (((P').ship).hei).n (((P').ship).hei).c, .slice (((P').ship).cen).p (((P').ship).cen).n (((P').ship).cen).c, .slice (((P').ship).tri).p (((P').ship).tri).n (((P').ship).tri).c, .slice (((P').ship).flo).p (((P').ship).flo).n (((P').ship).flo).c, .slice (((P').ship).cross).p (((P').ship).cross).n (((P').ship).cross).c, .slice (((P').ship).sin).p (((P').ship).sin).n (((P').ship).sin).c, .slice (((P').ship).shi).p (((P').ship).shi).n (((P').ship).shi).c, .int .i64 ((((P').ship).light).mass).lo, .int .i64 ((((P').ship).light).mass).hi, .int .i64 ((((P').ship).light).along).lo, .int .i64 ((((P').ship).light).along).hi, .int .i64 ((((P').ship).light).high).lo, .int .i64 ((((P').ship).light).high).hi, .slice ((P').holds).p ((P').holds).n ((P').holds).c, .slice ((P').fills).p ((P').fills).n ((P').fills).c, .slice ((P').tanks).p ((P').tanks).n ((P').tanks).c, .slice ((P').levels).p ((P').levels).n ((P').levels).c, .int .i64 (P').most] 37) = W1 at *
  have aH := HH.out.same HW1.out
  have aF := HF.out.same HW1.out
  obtain ⟨bt1, ot1, e1, hbt, hct⟩ := aH.cells h1
  obtain ⟨bl1, ol1, e2, hbl, hcl⟩ := aF.cells h2
  cases e1
  cases e2
  have hat := aH.2.2 0 (by dsimp only; omega)
  obtain ⟨x0, x1, x2, x3, x4, x5, x6, x7, x8, x9, x10, x11, x12, x13⟩ := hct 0 (by dsimp only; omega)
  obtain ⟨y0, y1, y2, y3, y4, y5⟩ := hcl 0 (by dsimp only; omega)
  dsimp only at x0 x1 x2 x3 x4 x5 x6 x7 x8 x9 x10 x11 x12 x13 y0 y1 y2 y3 y4 y5 hbt hbl hat
  simp only [Nat.zero_mul, Nat.add_zero] at x0 x1 x2 x3 x4 x5 x6 x7 x8 x9 x10 x11 x12 x13 y0 y1 y2 y3 y4 y5
  have s15 := (H3.out.below HW1.out).cell 15
  have s16 := (H3.out.below HW1.out).cell 16
  have r0 := (H4.out.below HW1.out).cell 0
  have r1 := (H4.out.below HW1.out).cell 1
  have r2 := (H4.out.below HW1.out).cell 2
  have r3 := (H4.out.below HW1.out).cell 3
  simp at s15 s16 r0 r1 r2 r3
  have l0 := Soft.LtH.mk (b := bt) (w := W1) hbt
  have l1 := Soft.LtH.mk (b := bl) (w := W1) hbl
  have l2 := Soft.LtH.mk (b := B3) (w := W1) (H3.out.below HW1.out).lt
  have l3 := Soft.LtH.mk (b := B4) (w := W1) (H4.out.below HW1.out).lt
  have HAT := Lib.hid hat
  clear aH aF hct hcl hat

  have CPO := Lib.hid (fun W' (hb : Below W1.heap.size W1 W') => hold_Pour (hv hx 0) (fiv fx 0) m d W' (HAT.out.same hb))
  generalize hhh : hv hx 0 = hh at *
  generalize hff : fiv fx 0 = ff at *
  generalize hE : pourE hh ff m d = E at *
  have HEE := Lib.hid hE
  have HHH := Lib.hid hhh
  have HFF := Lib.hid hff
  clear hE hhh hff
  obtain ⟨⟨gh, gs, gu, gd⟩, ge⟩ := E
  dsimp only at CPO
  go_wp2_with fail
  (refine Soft.region1e 15 17 [0, 1, 2, 3, 4, 5, 6, 7, 8, 9, 10, 11, 12, 13, 14, 15] 16 [17, 18] _ (by kernel_rfl) (by kernel_rfl) (by intro _ _ _ _ _ _ h; dsimp +zetaDelta only [Exit.then] at h ⊢; exact Soft.bodyPost_put h) (by kernel_rfl) (by kernel_rfl) (by decide) rfl rfl (by kernel_rfl) ?_; change Soft.wpSoft _ _ _ _ _ [_, _, _, _, _, _, _, _, _, _, _, _, _, _, _, _] _; (repeat (refine Soft.soft_step (fun K hK => ?_); go_simp; (try go_bits); first | (refine hK _ ?_; clear hK K) | (apply Exists.intro; refine ⟨fun x => ?_, hK _ ?_⟩; ((go_at_call 8; with_reducible exact (CPO.out _ (by (repeat (first | with_reducible exact bel_refl _ | with_reducible refine bel_alloc ?_ _ | with_reducible refine bel_bw _ ?_ | with_reducible refine bel_drew ?_ | with_reducible refine bel_drewN _ ?_ | ((with_reducible refine bel_set ?_ ?_ _); rotate_left; focus (first | (simp; done) | omega | (simp; omega))) | refine bel_step ?_ (by with_reducible assumption))))))); clear hK K))); refine Soft.soft_nil ?_)
  refine ⟨fun b => .pointer (some ⟨b, 0, none⟩), .cells #[.int .i64 0, .int .i64 0, .int .i64 0, .int .i64 0, .int .i64 0, .int .i64 0] 44, fun x => by go_simp, fun kb xx hnew => ?_⟩
  change wpList _ _ _ [_, _] _ _
  obtain ⟨N, z1, rfl, ex⟩ := newSplit hnew
  rw [ex]
  clear hnew ex xx
  refine wpList_store_row rfl 44 _ _ rfl N.w.heap.size _ rfl rfl 44 _ (HasBlk.below (Soft.heap_new N.w _) z1.below) (by kernel_rfl) rfl (by kernel_rfl) ?_
  obtain ⟨z2, ex2, ex3⟩ := bwStore z1 #[.int .i64 gh, .int .i64 gs, .int .i64 gu.lo, .int .i64 gu.hi, .int .i64 gd.lo, .int .i64 gd.hi]
  rw [ex2]
  clear ex2 ex3 z1
  have hY : Below W1.heap.size W1 z2.w := by (repeat (first | with_reducible exact bel_refl _ | with_reducible refine bel_alloc ?_ _ | with_reducible refine bel_bw _ ?_ | with_reducible refine bel_drew ?_ | with_reducible refine bel_drewN _ ?_ | ((with_reducible refine bel_set ?_ ?_ _); rotate_left; focus (first | (simp; done) | omega | (simp; omega))) | refine bel_step ?_ (by with_reducible assumption)))
  have c0 : HasBlk z2.w N.w.heap.size #[.int .i64 gh, .int .i64 gs, .int .i64 gu.lo, .int .i64 gu.hi, .int .i64 gd.lo, .int .i64 gd.hi] 44 := HasBlk.below (Soft.heap_new N.w _) z2.below
  have HW2 := Lib.hid (bel_step HW1.out hY)
  have HC := Lib.hid c0
  have H8 := Lib.hid (HB8.out.below hY)
  have HP2 := Lib.hid (HP8.out.same hY)
  clear x0 x1 x2 x3 x4 x5 x6 x7 x8 x9 x10 x11 x12 x13 y0 y1 y2 y3 y4 y5 s15 s16 r0 r1 r2 r3 l0 l1 l2 l3 hY c0 HAT CPO HB8 HP8
  generalize N.w.heap.size = BF at *
  generalize z2.w = W2 at *
  have aH := HH.out.same HW2.out
  have aF := HF.out.same HW2.out
  obtain ⟨bt1, ot1, e1, hbt, hct⟩ := aH.cells h1
  obtain ⟨bl1, ol1, e2, hbl, hcl⟩ := aF.cells h2
  cases e1
  cases e2
  have hat := aH.2.2 0 (by dsimp only; omega)
  obtain ⟨x0, x1, x2, x3, x4, x5, x6, x7, x8, x9, x10, x11, x12, x13⟩ := hct 0 (by dsimp only; omega)
  obtain ⟨y0, y1, y2, y3, y4, y5⟩ := hcl 0 (by dsimp only; omega)
  dsimp only at x0 x1 x2 x3 x4 x5 x6 x7 x8 x9 x10 x11 x12 x13 y0 y1 y2 y3 y4 y5 hbt hbl hat
  simp only [Nat.zero_mul, Nat.add_zero] at x0 x1 x2 x3 x4 x5 x6 x7 x8 x9 x10 x11 x12 x13 y0 y1 y2 y3 y4 y5
  have s15 := (H3.out.below HW2.out).cell 15
  have s16 := (H3.out.below HW2.out).cell 16
  have r0 := (H4.out.below HW2.out).cell 0
  have r1 := (H4.out.below HW2.out).cell 1
  have r2 := (H4.out.below HW2.out).cell 2
  have r3 := (H4.out.below HW2.out).cell 3
  simp at s15 s16 r0 r1 r2 r3
  have l0 := Soft.LtH.mk (b := bt) (w := W2) hbt
  have l1 := Soft.LtH.mk (b := bl) (w := W2) hbl
  have l2 := Soft.LtH.mk (b := B3) (w := W2) (H3.out.below HW2.out).lt
  have l3 := Soft.LtH.mk (b := B4) (w := W2) (H4.out.below HW2.out).lt
  have HAT := Lib.hid hat
  clear aH aF hct hcl hat

  by_cases he : ge = 0
  · have dE : (ge != 0) = false := by rw [he]; rfl
    subst he
    have e0 : (pourE hh ff m d).2 = 0 := by rw [HEE.out]
    obtain ⟨_, ⟨r0, hdd⟩, hm0, _⟩ := pour_ok e0
    have hmr : m.lo ≤ m.hi ∧ m.hi ≤ 1000000000000000 := by
      rcases rangeErr_cases m with ⟨_, a, b, c⟩ | ⟨a, _⟩
      · exact ⟨a, c⟩
      · omega
    obtain ⟨dd1, dd2, dd3⟩ := hdd
    have CO1 := Lib.hid (fun W' (hb : Below W2.heap.size W2 W') => show Calls Tryz.prog 9 #[.agg #[.int .i64 (m).lo, .int .i64 (m).hi], .slice s.p s.n s.c, .int .i64 17] W' (fun e w' => e = .returned (.agg #[.int .i64 (oneN m s.xs 17), .int .i64 (oneN m s.xs 17)]) ∧ Below W'.heap.size W' w') from Top_one m s 17 W' ((HSI.out.below HW2.out).below hb) (by decide) (by unfold RgOk; omega))
    have CO2 := Lib.hid (fun W' (hb : Below W2.heap.size W2 W') => show Calls Tryz.prog 9 #[.agg #[.int .i64 (d).lo, .int .i64 (d).hi], .slice s.p s.n s.c, .int .i64 18] W' (fun e w' => e = .returned (.agg #[.int .i64 ((oneR d s.xs 18)).lo, .int .i64 ((oneR d s.xs 18)).hi]) ∧ Below W'.heap.size W' w') from Top_one d s 18 W' ((HSI.out.below HW2.out).below hb) (by decide) (by unfold RgOk; omega))
    have hn0 := oneN_in hmr.1 s.xs 17
    have hbt := bet_pour e0
    have hpa := pours_all HN.out.2.2.1 e0
    rw [HEE.out] at hbt hpa
    dsimp only at hbt hpa
    have HBT := Lib.hid hbt; have HPA := Lib.hid hpa
    have HNN := Lib.hid (show 0 ≤ oneN m s.xs 17 ∧ oneN m s.xs 17 ≤ 1000000000000000 from ⟨by omega, by omega⟩)
    clear r0 hm0 hmr dd1 dd2 dd3 hn0 hbt hpa e0
    generalize oneN m s.xs 17 = nn at *
    generalize oneR d s.xs 18 = de at *
    go_wp2_with (first
      | (go_at_call 9; (with_reducible refine (CO1.out _ (by (repeat (first | with_reducible exact bel_refl _ | with_reducible refine bel_alloc ?_ _ | with_reducible refine bel_bw _ ?_ | with_reducible refine bel_drew ?_ | with_reducible refine bel_drewN _ ?_ | ((with_reducible refine bel_set ?_ ?_ _); rotate_left; focus (first | (simp; done) | omega | (simp; omega))) | refine bel_step ?_ (by with_reducible assumption))))).mono ?_); rintro e w_ ⟨rfl, hb_⟩; obtain ⟨o3, rfl⟩ := Soft.BW.mk hb_; clear hb_)
      | (go_at_call 9; (with_reducible refine (CO2.out _ (by (repeat (first | with_reducible exact bel_refl _ | with_reducible refine bel_alloc ?_ _ | with_reducible refine bel_bw _ ?_ | with_reducible refine bel_drew ?_ | with_reducible refine bel_drewN _ ?_ | ((with_reducible refine bel_set ?_ ?_ _); rotate_left; focus (first | (simp; done) | omega | (simp; omega))) | refine bel_step ?_ (by with_reducible assumption))))).mono ?_); rintro e w_ ⟨rfl, hb_⟩; obtain ⟨o4, rfl⟩ := Soft.BW.mk hb_; clear hb_))
    have hY3 : Below W2.heap.size W2 (o4.w.alloc (.cells #[.int .i64 (de).lo, .int .i64 (de).hi] 27)) := by (repeat (first | with_reducible exact bel_refl _ | with_reducible refine bel_alloc ?_ _ | with_reducible refine bel_bw _ ?_ | with_reducible refine bel_drew ?_ | with_reducible refine bel_drewN _ ?_ | ((with_reducible refine bel_set ?_ ?_ _); rotate_left; focus (first | (simp; done) | omega | (simp; omega))) | refine bel_step ?_ (by with_reducible assumption)))
    have k11 : HasBlk (o4.w.alloc (.cells #[.int .i64 (de).lo, .int .i64 (de).hi] 27)) o3.w.heap.size #[.int .i64 nn, .int .i64 nn] 27 := HasBlk.below (HasBlk.below (Soft.heap_new o3.w _) o4.below) (bel_alloc (bel_refl o4.w) _)
    have k12 : HasBlk (o4.w.alloc (.cells #[.int .i64 (de).lo, .int .i64 (de).hi] 27)) o4.w.heap.size #[.int .i64 (de).lo, .int .i64 (de).hi] 27 := Soft.heap_new _ _
    have HW3 := Lib.hid (bel_step HW2.out hY3)
    have K11 := Lib.hid k11; have K12 := Lib.hid k12
    have K8 := Lib.hid (H8.out.below hY3)
    have KP := Lib.hid (HP2.out.same hY3)
    have KC := Lib.hid (HC.out.below hY3)
    clear x0 x1 x2 x3 x4 x5 x6 x7 x8 x9 x10 x11 x12 x13 y0 y1 y2 y3 y4 y5 s15 s16 r0 r1 r2 r3 l0 l1 l2 l3 hY3 k11 k12 H8 HP2 HC HAT CO1 CO2
    generalize o3.w.heap.size = B11 at *
    generalize o4.w.heap.size = B12 at *
    generalize o4.w.alloc (.cells #[.int .i64 (de).lo, .int .i64 (de).hi] 27) = W3 at *
    have aH := HH.out.same HW3.out
    have aF := HF.out.same HW3.out
    obtain ⟨bt1, ot1, e1, hbt, hct⟩ := aH.cells h1
    obtain ⟨bl1, ol1, e2, hbl, hcl⟩ := aF.cells h2
    cases e1
    cases e2
    have hat := aH.2.2 0 (by dsimp only; omega)
    obtain ⟨x0, x1, x2, x3, x4, x5, x6, x7, x8, x9, x10, x11, x12, x13⟩ := hct 0 (by dsimp only; omega)
    obtain ⟨y0, y1, y2, y3, y4, y5⟩ := hcl 0 (by dsimp only; omega)
    dsimp only at x0 x1 x2 x3 x4 x5 x6 x7 x8 x9 x10 x11 x12 x13 y0 y1 y2 y3 y4 y5 hbt hbl hat
    simp only [Nat.zero_mul, Nat.add_zero] at x0 x1 x2 x3 x4 x5 x6 x7 x8 x9 x10 x11 x12 x13 y0 y1 y2 y3 y4 y5
    have s15 := (H3.out.below HW3.out).cell 15
    have s16 := (H3.out.below HW3.out).cell 16
    have r0 := (H4.out.below HW3.out).cell 0
    have r1 := (H4.out.below HW3.out).cell 1
    have r2 := (H4.out.below HW3.out).cell 2
    have r3 := (H4.out.below HW3.out).cell 3
    simp at s15 s16 r0 r1 r2 r3
    have l0 := Soft.LtH.mk (b := bt) (w := W3) hbt
    have l1 := Soft.LtH.mk (b := bl) (w := W3) hbl
    have l2 := Soft.LtH.mk (b := B3) (w := W3) (H3.out.below HW3.out).lt
    have l3 := Soft.LtH.mk (b := B4) (w := W3) (H4.out.below HW3.out).lt
    have HAT := Lib.hid hat
    clear aH aF hct hcl hat

    have c0 := KC.out.cell 0
    have c1 := KC.out.cell 1
    have c2 := KC.out.cell 2
    have c3 := KC.out.cell 3
    have c4 := KC.out.cell 4
    have c5 := KC.out.cell 5
    simp at c0 c1 c2 c3 c4 c5
    have l4 := Soft.LtH.mk (b := BF) (w := W3) KC.out.lt
    have HT1 := Lib.hid HN.out.2.2.1
    have HT2 := Lib.hid HN.out.2.2.2
    have HN12 := Lib.hid (⟨HN.out.1, HN.out.2.1⟩ : _ ∧ _)
    clear HN
    have CB := Lib.hid (fun W' (hb : Below W3.heap.size W3 W') => (hold_Between hh ff ⟨gh, gs, gu, gd⟩ W' (by rw [← HHH.out]; exact HAT.out.same hb)))
    rw [HBT.out.1] at CB
    rw [HHH.out] at x0 x1 x2 x3 x4 x5 x6 x7 x8 x9 x10 x11 x12 x13
    rw [HFF.out] at y0 y1 y2 y3 y4 y5
    generalize hbl : (betE hh ff ⟨gh, gs, gu, gd⟩).1 = bl_ at *
    have HBL := Lib.hid hbl
    clear hbl
    rename Act → World → Prop => Kx
    rename ∀ (a : Act) (w_1 : World), Code.wp _ _ _ a w_1 → Kx a w_1 => hk_
    have HKX := Lib.hid hk_
    clear hk_
    go_wp2_with fail
    ((refine Soft.region_mix [(true, 0), (true, 1), (true, 2), (true, 3), (true, 4), (true, 5), (true, 6), (true, 7), (true, 8), (false, 9), (true, 10), (true, 11), (true, 12), (true, 13), (true, 14)] [] (by kernel_rfl) (by kernel_rfl) (by kernel_rfl) (by kernel_rfl) ?_; change Soft.wpMix _ _ _ _ [(true, _), (true, _), (true, _), (true, _), (true, _), (true, _), (true, _), (true, _), (true, _), (false, _), (true, _), (true, _), (true, _), (true, _), (true, _)] _ _); (refine Soft.mix_q (fun K hK => ?_); go_simp; (try go_bits); first | (refine hK _ ?_; clear hK K) | (apply Exists.intro; refine ⟨fun x => ?_, hK _ ?_⟩; fail)); (refine Soft.mix_q (fun K hK => ?_); go_simp; (try go_bits); first | (refine hK _ ?_; clear hK K) | (apply Exists.intro; refine ⟨fun x => ?_, hK _ ?_⟩; fail)); (refine Soft.mix_q (fun K hK => ?_); go_simp; (try go_bits); first | (refine hK _ ?_; clear hK K) | (apply Exists.intro; refine ⟨fun x => ?_, hK _ ?_⟩; fail)); (refine Soft.mix_q (fun K hK => ?_); go_simp; (try go_bits); first | (refine hK _ ?_; clear hK K) | (apply Exists.intro; refine ⟨fun x => ?_, hK _ ?_⟩; fail)); (refine Soft.mix_q (fun K hK => ?_); go_simp; (try go_bits); first | (refine hK _ ?_; clear hK K) | (apply Exists.intro; refine ⟨fun x => ?_, hK _ ?_⟩; fail)); (refine Soft.mix_q (fun K hK => ?_); go_simp; (try go_bits); first | (refine hK _ ?_; clear hK K) | (apply Exists.intro; refine ⟨fun x => ?_, hK _ ?_⟩; fail)); (refine Soft.mix_q (fun K hK => ?_); go_simp; (try go_bits); first | (refine hK _ ?_; clear hK K) | (apply Exists.intro; refine ⟨fun x => ?_, hK _ ?_⟩; fail)); (refine Soft.mix_q (fun K hK => ?_); go_simp; (try go_bits); first | (refine hK _ ?_; clear hK K) | (apply Exists.intro; refine ⟨fun x => ?_, hK _ ?_⟩; fail)); (refine Soft.mix_q (fun K hK => ?_); go_simp; (try go_bits); first | (refine hK _ ?_; clear hK K) | (apply Exists.intro; refine ⟨fun x => ?_, hK _ ?_⟩; fail)); (refine Soft.mix_c (fun K hK => ?_); go_simp; (try go_bits); ((go_at_call 10; (with_reducible refine (CB.out _ (by (repeat (first | with_reducible exact bel_refl _ | with_reducible refine bel_alloc ?_ _ | with_reducible refine bel_bw _ ?_ | with_reducible refine bel_drew ?_ | with_reducible refine bel_drewN _ ?_ | ((with_reducible refine bel_set ?_ ?_ _); rotate_left; focus (first | (simp; done) | omega | (simp; omega))) | refine bel_step ?_ (by with_reducible assumption))))).mono ?_); rintro e w_ ⟨q, rfl, hq, hqx, hb_⟩; obtain ⟨o5, rfl⟩ := Soft.BW.mk hb_; clear hb_; have HQ := Lib.hid hq; have HQX := Lib.hid hqx; clear hq hqx; refine ⟨_, rfl, (by first | with_reducible exact Soft.BW.below o5 | simpa using Soft.BW.below o5), hK _ _ ?_⟩)); clear hK K); (refine Soft.mix_q (fun K hK => ?_); go_simp; (try go_bits); first | (refine hK _ ?_; clear hK K) | (apply Exists.intro; refine ⟨fun x => ?_, hK _ ?_⟩; fail)); (refine Soft.mix_q (fun K hK => ?_); go_simp; (try go_bits); first | (refine hK _ ?_; clear hK K) | (apply Exists.intro; refine ⟨fun x => ?_, hK _ ?_⟩; fail)); (refine Soft.mix_q (fun K hK => ?_); go_simp; (try go_bits); first | (refine hK _ ?_; clear hK K) | (apply Exists.intro; refine ⟨fun x => ?_, hK _ ?_⟩; fail)); (refine Soft.mix_q (fun K hK => ?_); go_simp; (try go_bits); first | (refine hK _ ?_; clear hK K) | (apply Exists.intro; refine ⟨fun x => ?_, hK _ ?_⟩; fail)); (refine Soft.mix_q (fun K hK => ?_); go_simp; (try go_bits); first | (refine hK _ ?_; clear hK K) | (apply Exists.intro; refine ⟨fun x => ?_, hK _ ?_⟩; fail)); (refine Soft.mix_nil ?_; intro hbx; change wpList _ _ _ [] _ _))
    go_wp2_with fail
    refine HKX.out _ _ ?_
    have hY5 : Below W3.heap.size W3 o5.w := by (repeat (first | with_reducible exact bel_refl _ | with_reducible refine bel_alloc ?_ _ | with_reducible refine bel_bw _ ?_ | with_reducible refine bel_drew ?_ | with_reducible refine bel_drewN _ ?_ | ((with_reducible refine bel_set ?_ ?_ _); rotate_left; focus (first | (simp; done) | omega | (simp; omega))) | refine bel_step ?_ (by with_reducible assumption)))
    have hql := HQ.out.1
    rw [HQX.out] at hql
    obtain ⟨hb1, hb2, hb3⟩ := HBT.out
    refine pours_loop (s := s) (q := q) (f := ⟨gh, gs, gu, gd⟩) (W := o5.w) (B8 := B8) (B9 := BF) (B11 := B11) (B12 := B12) (hx := P'.holds.xs) (fx := P'.fills.xs) (nn := nn) (de := de) (Lib.hid (HSI.out.below (bel_step HW3.out hY5))) HQ (Lib.hid (KP.out.same hY5).holds) (Lib.hid (KP.out.same hY5).fills) HN12.out.1 HN12.out.2 HNN.out.1 HNN.out.2 (by omega) (by omega)
      (Lib.hid (K8.out.below hY5)) (Lib.hid (KC.out.below hY5)) (Lib.hid (K11.out.below hY5)) (Lib.hid (K12.out.below hY5)) (Lib.hid fun k => ?_) (fun w' hw' => HR.out w' (bel_step (bel_step HW3.out hY5) hw'))
    have h := HPA.out k
    rw [hql, ← HT2.out, ← HQX.out] at h
    exact h
  · have dE : (ge != 0) = true := bne_iff_ne.2 he
    go_wp2_with fail
    exact HR.out _ HW2.out

end Go.Proofs.YteagdcgmmdiakaaGreat

namespace Go.Proofs.YteagdcgmmdiakaaGreat
set_option linter.unusedSimpArgs false
set_option linter.unusedVariables false
open Go.RowKit

section
variable {P : Program}
/-- .. where the operation has a guard. -/
theorem wpList_load_guard {ops : Array Oper} {rest : List Oper} {o : Oper} {a : Act} {w : World} {Q : Exit → Act → World → Prop} (hwt : Region.wanted o (yielded ops a.tmps) = true) (ty : TypeId) (x : Operand) (ho : o.op = .load ty x)
    (g off : Nat) (hx : a.eval x = .pointer (some ⟨g, off, none⟩)) (t : TypeId) (old cs : Array Value) (d : TypeDesc) (hg : w.heap[g]? = some (.cells old t (0, 0)))
    (hu : P.underlying ty = some d) (hd : (match d with | .struct _ | .array _ _ => true | _ => false) = true) (hi : (P.info? ty).map (·.size) = some cs.size)
    (hcs : (old.toList.drop off).take cs.size = cs.toList)
    (h : wpList P ops Q rest (a.put o.dst (.agg cs)) w) : wpList P ops Q (o :: rest) a w :=
  wpList_step fun _ hK => by
    rw [if_pos hwt]
    have hl : (loadCells ⟨g, off, none⟩ cs.toList.length).run P w = .ok cs.toList.toArray w :=
      run_loadCells_list (P := P) w ⟨g, off, none⟩ cs.toList (fun j v hv => by
        have hadd : (⟨g, off, none⟩ : Addr).add j = ⟨g, off + j, none⟩ := by unfold Addr.add; split <;> simp_all
        rw [hadd]
        rw [← hcs, List.getElem?_take] at hv
        split at hv
        · rw [List.getElem?_drop] at hv
          simpa [World.cell?, hg] using hv
        · cases hv)
    have hld : (loadVar ty ⟨g, off, none⟩).run P w = .ok (.agg cs) w := by
      cases hq : P.info? ty with
      | none => simp [hq] at hi
      | some i =>
        have hs : i.size = cs.size := by simpa [hq] using hi
        have hagg : (isAgg ty).run P w = .ok true w := by
          unfold isAgg
          rw [Sem.run_bind, run_underlying hu w]
          cases d <;> simp_all
        simp only [Array.length_toList, Array.toArray_toList] at hl
        simp [loadVar, Sem.run_bind, hagg, sizeOf, typeInfo, hq, hs, hl]
    unfold Oper.wp execOp
    simp only [ho, hx, Instr.loadAt, Instr.sureAddr, Sem.run_bind, Sem.run_pure, Result.andThen_ok, hld]
    exact hK _ _ h
end

end Go.Proofs.YteagdcgmmdiakaaGreat

namespace Go.Proofs.YteagdcgmmdiakaaGreat
set_option linter.unusedSimpArgs false
set_option linter.unusedVariables false
open Go.RowKit
set_option maxRecDepth 1000000
set_option maxHeartbeats 20000000
attribute [local go_sem] Instr.field asAgg Soft.upon Soft.upon0 Soft.stepC Soft.BW.cell_if Soft.BW.frozen_if Soft.cell_alloc_if Soft.frozen_alloc_if
attribute [local irreducible] Soft.wpSoft Soft.wpMix


/-- From truth on, as the head leaves it. -/
theorem pours_enter {s : Is} {w W : World} {hp fp : Option Addr} {hn hc fn fc : Nat} {hx : List Ho} {fx : List Fi} {m d : Rg} {SH : Sh} {tk : Sl Tk} {lv_ : Sl Lv} {most : Int} {v0 v1 v2 v3 v4 v5 v6 v7 v8 v9 v10 v11 v12 v13 v14 v17 v18 v19 : Value} {u0 u1 u5 u6 u7 u8 u9 u10 u11 u12 u13 u14 u15 u16 u17 u18 u19 u20 u21 u22 u23 u24 u25 u26 u27 u28 u29 u30 u31 u32 u33 u34 u35 u36 u37 u38 u39 u40 u41 u42 u43 u44 u45 u46 u47 u48 u49 u50 u51 u52 u53 u54 u55 u56 u57 u58 u59 u60 u61 u62 u63 u64 u65 u66 u67 u68 u69 u70 u71 u72 u73 u74 u75 u76 u77 u78 u79 u80 u81 u82 u83 u84 u85 u86 u87 u88 u89 u90 u91 u92 u93 u94 u95 u96 u97 u98 u99 u100 u101 u102 u103 u104 u105 u106 u107 u108 u109 u110 u111 u112 u113 u114 u115 u116 u117 u118 u119 u120 u121 u122 u123 u124 u125 u126 u127 u128 u129 u130 u131 u132 u133 u134 u135 u136 u137 u138 u139 u140 u141 u142 u143 u144 u145 u146 u147 u148 u149 u150 u151 u152 u153 u154 u155 u156 u157 u158 u159 u160 u161 u162 u163 u164 u165 u166 u167 u168 u169 u170 : Value}
    (HSI : Hid (s.At w)) (HP : Hid (Pa.At w ⟨SH, ⟨hp, hn, hc, hx⟩, ⟨fp, fn, fc, fx⟩, tk, lv_, most⟩)) (HOK : Hid (PartsOk ⟨SH, ⟨hp, hn, hc, hx⟩, ⟨fp, fn, fc, fx⟩, tk, lv_, most⟩)) (HN0 : Hid ¬hn = 0) (HY : Hid (Below w.heap.size w W))
    (H3 : Hid (HasBlk W w.heap.size #[v0, v1, v2, v3, v4, v5, v6, v7, v8, v9, v10, v11, v12, v13, v14, .slice hp hn hc, .slice fp fn fc, v17, v18, v19] 37)) (H4 : Hid (HasBlk W (w.heap.size + 1) #[.int .i64 (m).lo, .int .i64 (m).hi, .int .i64 (d).lo, .int .i64 (d).hi] 38))
    (CT : Below w.heap.size w W → PartsOk ⟨SH, ⟨hp, hn, hc, hx⟩, ⟨fp, fn, fc, fx⟩, tk, lv_, most⟩ → Calls Tryz.prog 7 #[.agg #[v0, v1, v2, v3, v4, v5, v6, v7, v8, v9, v10, v11, v12, v13, v14, .slice hp hn hc, .slice fp fn fc, v17, v18, v19], .slice s.p s.n s.c] W (TruthPost s.xs ⟨SH, ⟨hp, hn, hc, hx⟩, ⟨fp, fn, fc, fx⟩, tk, lv_, most⟩ W)) :
    Code.wp Tryz.prog topM (bodyPost Tryz.prog Tryz.f3 fun e w' => e = .returned (.bool true) ∧ Below w.heap.size w w') { tmps := #[u0, u1, .slice s.p s.n s.c, .pointer (some ⟨w.heap.size, 0, none⟩), .pointer (some ⟨(w.heap.size + 1), 0, none⟩), u5, u6, u7, u8, u9, u10, u11, u12, u13, u14, u15, u16, u17, u18, u19, u20, u21, u22, u23, u24, u25, u26, u27, u28, u29, u30, u31, u32, u33, u34, u35, u36, u37, u38, u39, u40, u41, u42, u43, u44, u45, u46, u47, u48, u49, u50, u51, u52, u53, u54, u55, u56, u57, u58, u59, u60, u61, u62, u63, u64, u65, u66, u67, u68, u69, u70, u71, u72, u73, u74, u75, u76, u77, u78, u79, u80, u81, u82, u83, u84, u85, u86, u87, u88, u89, u90, u91, u92, u93, u94, u95, u96, u97, u98, u99, u100, u101, u102, u103, u104, u105, u106, u107, u108, u109, u110, u111, u112, u113, u114, u115, u116, u117, u118, u119, u120, u121, u122, u123, u124, u125, u126, u127, u128, u129, u130, u131, u132, u133, u134, u135, u136, u137, u138, u139, u140, u141, u142, u143, u144, u145, u146, u147, u148, u149, u150, u151, u152, u153, u154, u155, u156, u157, u158, u159, u160, u161, u162, u163, u164, u165, u166, u167, u168, u169, u170], defers := [] } W := by
  have LO := loadOk_of HOK.out.load
  dsimp only at LO
  have a1 := HP.out.holds.1
  have a2 := HP.out.fills.1
  dsimp only at a1 a2
  have n1 : hx.length ≠ 0 := by have := HN0.out; omega
  refine pours_main (s := s) (W := W) (hx := hx) (fx := fx) (m := m) (d := d) (Lib.hid (HSI.out.below HY.out)) (Lib.hid (HP.out.same HY.out).holds) (Lib.hid (HP.out.same HY.out).fills) HN0.out (by have := LO.nf; omega) H3 H4 (Lib.hid ((CT HY.out HOK.out).mono ?_)) (fun w' hw' => ⟨rfl, bel_step HY.out hw'⟩)
  rintro e w' ⟨P', he, hT, hA, hB⟩
  have b1 := hA.holds.1
  have b2 := hA.fills.1
  have t1 := hT.nh
  have t2 := hT.nf
  dsimp only at t1 t2
  exact ⟨P', he, hA, hB, by omega, by omega, hT.holds 0 (by dsimp only; omega), hT.fills 0 (by dsimp only; omega)⟩

theorem Top_TopPours (P : Pa) (m d : Rg) (s : Is) (w : World) (hP : P.At w) (hs : s.At w) :
    Calls Tryz.prog 3 #[.agg #[.int .i64 ((P).ship).len, .slice (((P).ship).dra).p (((P).ship).dra).n (((P).ship).dra).c, .slice (((P).ship).hei).p (((P).ship).hei).n (((P).ship).hei).c, .slice (((P).ship).cen).p (((P).ship).cen).n (((P).ship).cen).c, .slice (((P).ship).tri).p (((P).ship).tri).n (((P).ship).tri).c, .slice (((P).ship).flo).p (((P).ship).flo).n (((P).ship).flo).c, .slice (((P).ship).cross).p (((P).ship).cross).n (((P).ship).cross).c, .slice (((P).ship).sin).p (((P).ship).sin).n (((P).ship).sin).c, .slice (((P).ship).shi).p (((P).ship).shi).n (((P).ship).shi).c, .int .i64 ((((P).ship).light).mass).lo, .int .i64 ((((P).ship).light).mass).hi, .int .i64 ((((P).ship).light).along).lo, .int .i64 ((((P).ship).light).along).hi, .int .i64 ((((P).ship).light).high).lo, .int .i64 ((((P).ship).light).high).hi, .slice ((P).holds).p ((P).holds).n ((P).holds).c, .slice ((P).fills).p ((P).fills).n ((P).fills).c, .slice ((P).tanks).p ((P).tanks).n ((P).tanks).c, .slice ((P).levels).p ((P).levels).n ((P).levels).c, .int .i64 (P).most], .agg #[.int .i64 (m).lo, .int .i64 (m).hi, .int .i64 (d).lo, .int .i64 (d).hi], .slice s.p s.n s.c] w fun e w' => e = .returned (.bool true) ∧ Below w.heap.size w w' := by
  have CA := Lib.hid (fun W => Top_awake W)
  obtain ⟨v, hv⟩ : ∃ v : Bool, v = true ↔ PartsOk P := ⟨@decide (PartsOk P) (Classical.propDecidable _), by simp⟩
  have CV := Lib.hid (fun W (hb : Below w.heap.size w W) => Top_valid P W (hP.same hb) v hv)
  have CT := Lib.hid (fun W (hb : Below w.heap.size w W) (ok : PartsOk P) => Top_truth P s W (hP.same hb) (hs.below hb) ok)
  have HP := Lib.hid hP
  have HSI := Lib.hid hs
  have HV := Lib.hid hv
  clear hP hs hv
  obtain ⟨P0, hP0⟩ : ∃ P0 : Pa, P0 = P := ⟨_, rfl⟩
  have HP0 := Lib.hid hP0
  rw [← hP0] at HV
  clear hP0
  obtain ⟨SH, ⟨hp, hn, hc, hx⟩, ⟨fp, fn, fc, fx⟩, tk, lv_, most⟩ := P
  dsimp only at CV CT
  go_enter Tryz.func3, Tryz.ntmps3
  generalize Value.int .i64 SH.len = v0 at CV CT ⊢
  generalize Value.slice SH.dra.p SH.dra.n SH.dra.c = v1 at CV CT ⊢
  generalize Value.slice SH.hei.p SH.hei.n SH.hei.c = v2 at CV CT ⊢
  generalize Value.slice SH.cen.p SH.cen.n SH.cen.c = v3 at CV CT ⊢
  generalize Value.slice SH.tri.p SH.tri.n SH.tri.c = v4 at CV CT ⊢
  generalize Value.slice SH.flo.p SH.flo.n SH.flo.c = v5 at CV CT ⊢
  generalize Value.slice SH.cross.p SH.cross.n SH.cross.c = v6 at CV CT ⊢
  generalize Value.slice SH.sin.p SH.sin.n SH.sin.c = v7 at CV CT ⊢
  generalize Value.slice SH.shi.p SH.shi.n SH.shi.c = v8 at CV CT ⊢
  generalize Value.int .i64 SH.light.mass.lo = v9 at CV CT ⊢
  generalize Value.int .i64 SH.light.mass.hi = v10 at CV CT ⊢
  generalize Value.int .i64 SH.light.along.lo = v11 at CV CT ⊢
  generalize Value.int .i64 SH.light.along.hi = v12 at CV CT ⊢
  generalize Value.int .i64 SH.light.high.lo = v13 at CV CT ⊢
  generalize Value.int .i64 SH.light.high.hi = v14 at CV CT ⊢
  generalize Value.slice tk.p tk.n tk.c = v17 at CV CT ⊢
  generalize Value.slice lv_.p lv_.n lv_.c = v18 at CV CT ⊢
  generalize Value.int .i64 most = v19 at CV CT ⊢
  go_wp2_with fail
  refine (CA.out _).mono ?_
  rintro e w_ ⟨rfl, hb_⟩
  have E0 : HasBlk w_ w.heap.size #[v0, v1, v2, v3, v4, v5, v6, v7, v8, v9, v10, v11, v12, v13, v14, .slice hp hn hc, .slice fp fn fc, v17, v18, v19] 37 := HasBlk.below (by simp only [HasBlk, Soft.heap_alloc_if, Soft.heap_new]) hb_
  have E1 : HasBlk w_ (w.heap.size + 1) #[.int .i64 (m).lo, .int .i64 (m).hi, .int .i64 (d).lo, .int .i64 (d).hi] 38 := HasBlk.below (by simp only [HasBlk, Soft.heap_new1]) hb_
  have hB : Below w.heap.size w w_ := bel_step (by (repeat (first | with_reducible exact bel_refl _ | with_reducible refine bel_alloc ?_ _ | with_reducible refine bel_bw _ ?_ | with_reducible refine bel_drew ?_ | with_reducible refine bel_drewN _ ?_ | ((with_reducible refine bel_set ?_ ?_ _); rotate_left; focus (first | (simp; done) | omega | (simp; omega))) | refine bel_step ?_ (by with_reducible assumption)))) hb_
  have q15 := E0.cell 15
  simp at q15
  have l0 := Soft.LtH.mk (b := w.heap.size) (w := w_) E0.lt
  have B0 := Lib.hid E0; have B1 := Lib.hid E1; have HB := Lib.hid hB
  clear E0 E1 hB hb_
  by_cases hok : PartsOk P0
  · obtain rfl := HV.out.2 hok
    have HOK := Lib.hid (show PartsOk _ from by rw [HP0.out] at hok; exact hok)
    clear hok HV
    by_cases h0 : hn = 0
    · subst h0
      clear CT
      go_wp2_with (refine wpList_load_guard rfl 37 (.tmp 3) rfl w.heap.size 0 rfl 37 _ #[v0, v1, v2, v3, v4, v5, v6, v7, v8, v9, v10, v11, v12, v13, v14, .slice hp 0 hc, .slice fp fn fc, v17, v18, v19] _ B0.out Tryz.underlying37 rfl (by kernel_rfl) rfl ?wka; (case wka => (go_wp2_with fail); refine (CV.out _ HB.out).mono ?_; rintro e w_ ⟨rfl, hb_⟩; obtain ⟨y2, rfl⟩ := Soft.BW.mk hb_; clear hb_; (go_wp2_with fail); go_ret; exact ⟨rfl, bel_step HB.out (by (repeat (first | with_reducible exact bel_refl _ | with_reducible refine bel_alloc ?_ _ | with_reducible refine bel_bw _ ?_ | with_reducible refine bel_drew ?_ | with_reducible refine bel_drewN _ ?_ | ((with_reducible refine bel_set ?_ ?_ _); rotate_left; focus (first | (simp; done) | omega | (simp; omega))) | refine bel_step ?_ (by with_reducible assumption))))⟩))
    · have dn0 : ((hn : Int) == 0) = false := by rw [beq_eq_false_iff_ne]; omega
      have HN0 := Lib.hid h0
      clear h0
      go_wp2_with (refine wpList_load_guard rfl 37 (.tmp 3) rfl w.heap.size 0 rfl 37 _ #[v0, v1, v2, v3, v4, v5, v6, v7, v8, v9, v10, v11, v12, v13, v14, .slice hp hn hc, .slice fp fn fc, v17, v18, v19] _ B0.out Tryz.underlying37 rfl (by kernel_rfl) rfl ?wkb; (case' wkb => (go_wp2_with fail); refine (CV.out _ HB.out).mono ?_; rintro e w_ ⟨rfl, hb_⟩; obtain ⟨y2, rfl⟩ := Soft.BW.mk hb_; clear hb_; (rename ∀ (a : Act) (w_1 : World), Code.wp _ (Code.seq _ _) _ a w_1 → _ => hk_); have HKX := Lib.hid hk_; clear hk_; (go_wp2_with fail)))
      have hY := bel_step HB.out (show Below w_.heap.size w_ y2.w by (repeat (first | with_reducible exact bel_refl _ | with_reducible refine bel_alloc ?_ _ | with_reducible refine bel_bw _ ?_ | with_reducible refine bel_drew ?_ | with_reducible refine bel_drewN _ ?_ | ((with_reducible refine bel_set ?_ ?_ _); rotate_left; focus (first | (simp; done) | omega | (simp; omega))) | refine bel_step ?_ (by with_reducible assumption))))
      have hYY : Below w_.heap.size w_ y2.w := (by (repeat (first | with_reducible exact bel_refl _ | with_reducible refine bel_alloc ?_ _ | with_reducible refine bel_bw _ ?_ | with_reducible refine bel_drew ?_ | with_reducible refine bel_drewN _ ?_ | ((with_reducible refine bel_set ?_ ?_ _); rotate_left; focus (first | (simp; done) | omega | (simp; omega))) | refine bel_step ?_ (by with_reducible assumption))))
      refine HKX.out _ _ ?_
      exact pours_enter HSI HP HOK HN0 (Lib.hid hY) (Lib.hid (B0.out.below hYY)) (Lib.hid (B1.out.below hYY)) (fun hb ok => CT.out _ hb ok)
  · obtain rfl : v = false := by cases v with | false => rfl | true => exact absurd (HV.out.1 rfl) hok
    clear HV CT hok
    go_wp2_with (refine wpList_load_guard rfl 37 (.tmp 3) rfl w.heap.size 0 rfl 37 _ #[v0, v1, v2, v3, v4, v5, v6, v7, v8, v9, v10, v11, v12, v13, v14, .slice hp hn hc, .slice fp fn fc, v17, v18, v19] _ B0.out Tryz.underlying37 rfl (by kernel_rfl) rfl ?wkc; (case wkc => (go_wp2_with fail); refine (CV.out _ HB.out).mono ?_; rintro e w_ ⟨rfl, hb_⟩; obtain ⟨y2, rfl⟩ := Soft.BW.mk hb_; clear hb_; (go_wp2_with fail); go_ret; exact ⟨rfl, bel_step HB.out (by (repeat (first | with_reducible exact bel_refl _ | with_reducible refine bel_alloc ?_ _ | with_reducible refine bel_bw _ ?_ | with_reducible refine bel_drew ?_ | with_reducible refine bel_drewN _ ?_ | ((with_reducible refine bel_set ?_ ?_ _); rotate_left; focus (first | (simp; done) | omega | (simp; omega))) | refine bel_step ?_ (by with_reducible assumption))))⟩))

end Go.Proofs.YteagdcgmmdiakaaGreat
