/-
  The tops: truth.
  Conditions: each theorem's own premises.
-/
import Derived.Test.YteagdcgmmdiakaaGreatP25
namespace Go.Proofs.YteagdcgmmdiakaaGreat
set_option linter.unusedSimpArgs false
set_option linter.unusedVariables false
open Go.RowKit
set_option maxRecDepth 100000
set_option maxHeartbeats 20000000
attribute [local go_sem] Instr.field asAgg Soft.upon Soft.upon0 Soft.stepC Soft.BW.cell_if Soft.BW.frozen_if Soft.cell_alloc_if Soft.frozen_alloc_if
attribute [local irreducible] Soft.wpSoft Soft.wpMix

def TruthPost (xs : List Int) (P : Pa) (w : World) (e : Ending) (w' : World) : Prop := ∃ P' : Pa, e = .returned (.agg #[.int .i64 ((P').ship).len, .slice (((P').ship).dra).p (((P').ship).dra).n (((P').ship).dra).c, .slice (((P').ship).hei).p (((P').ship).hei).n (((P').ship).hei).c, .slice (((P').ship).cen).p (((P').ship).cen).n (((P').ship).cen).c, .slice (((P').ship).tri).p (((P').ship).tri).n (((P').ship).tri).c, .slice (((P').ship).flo).p (((P').ship).flo).n (((P').ship).flo).c, .slice (((P').ship).cross).p (((P').ship).cross).n (((P').ship).cross).c, .slice (((P').ship).sin).p (((P').ship).sin).n (((P').ship).sin).c, .slice (((P').ship).shi).p (((P').ship).shi).n (((P').ship).shi).c, .int .i64 ((((P').ship).light).mass).lo, .int .i64 ((((P').ship).light).mass).hi, .int .i64 ((((P').ship).light).along).lo, .int .i64 ((((P').ship).light).along).hi, .int .i64 ((((P').ship).light).high).lo, .int .i64 ((((P').ship).light).high).hi, .slice ((P').holds).p ((P').holds).n ((P').holds).c, .slice ((P').fills).p ((P').fills).n ((P').fills).c, .slice ((P').tanks).p ((P').tanks).n ((P').tanks).c, .slice ((P').levels).p ((P').levels).n ((P').levels).c, .int .i64 (P').most]) ∧ PaT xs P P' ∧ P'.At w' ∧ Below w.heap.size w w'

theorem tru_start {w W0 W : World} {PC SC oc0 : Array Value} {tabs : List Tb} (h0 : HasBlk W0 w.heap.size PC 37) (h1 : HasBlk W0 (w.heap.size + 1) zeroPa 37) (h2 : HasBlk W0 (w.heap.size + 2) SC 31) (h3 : HasBlk W0 (w.heap.size + 3) oc0 37) (hB : Below w.heap.size w W0) (hb : Below W0.heap.size W0 W)
    (ht : ∀ t ∈ tabs, t.At W ∧ ∀ b o, t.p = some ⟨b, o, none⟩ → W0.heap.size ≤ b) (oc : Array Value) :
    Tru w (W.setRow (w.heap.size + 3) oc) PC SC oc (rows5 (.slice none 0 0) (.slice none 0 0) (.slice none 0 0) (.slice none 0 0) (.slice none 0 0) [] [] [] [] []) tabs := by
  have hlt := h3.lt
  refine ⟨setRow_heap _ _ _ _ _ _ (h3.below hb), ⟨fun i r hi => ?_, fun i j r s hi hj hne g e => ?_, fun t hm => ?_⟩, HasBlk.rowx (h0.below hb) (by omega) _, HasBlk.rowx (h1.below hb) (by omega) _, HasBlk.rowx (h2.below hb) (by omega) _, below_setRow (bel_step hB hb) (by omega) _⟩
  · match i, hi with
    | 0, hi => cases hi; exact World.ownsRow_nil _ _ _ _
    | 1, hi => cases hi; exact World.ownsRow_nil _ _ _ _
    | 2, hi => cases hi; exact World.ownsRow_nil _ _ _ _
    | 3, hi => cases hi; exact World.ownsRow_nil _ _ _ _
    | 4, hi => cases hi; exact World.ownsRow_nil _ _ _ _
  · match i, hi with
    | 0, hi => cases hi; cases e
    | 1, hi => cases hi; cases e
    | 2, hi => cases hi; cases e
    | 3, hi => cases hi; cases e
    | 4, hi => cases hi; cases e
  · obtain ⟨a, f⟩ := ht t hm
    refine ⟨a.rowx (fun b o e => by have := f b o e; omega) _, fun _ b o e => ⟨by have := f b o e; omega, fun i r hi => ?_⟩⟩
    match i, hi with
    | 0, hi => cases hi; exact fun e => nomatch e
    | 1, hi => cases hi; exact fun e => nomatch e
    | 2, hi => cases hi; exact fun e => nomatch e
    | 3, hi => cases hi; exact fun e => nomatch e
    | 4, hi => cases hi; exact fun e => nomatch e

theorem Top_truth (P : Pa) (s : Is) (w : World) (hP : P.At w) (hs : s.At w) (hok : PartsOk P) :
    Calls Tryz.prog 7 #[.agg #[.int .i64 ((P).ship).len, .slice (((P).ship).dra).p (((P).ship).dra).n (((P).ship).dra).c, .slice (((P).ship).hei).p (((P).ship).hei).n (((P).ship).hei).c, .slice (((P).ship).cen).p (((P).ship).cen).n (((P).ship).cen).c, .slice (((P).ship).tri).p (((P).ship).tri).n (((P).ship).tri).c, .slice (((P).ship).flo).p (((P).ship).flo).n (((P).ship).flo).c, .slice (((P).ship).cross).p (((P).ship).cross).n (((P).ship).cross).c, .slice (((P).ship).sin).p (((P).ship).sin).n (((P).ship).sin).c, .slice (((P).ship).shi).p (((P).ship).shi).n (((P).ship).shi).c, .int .i64 ((((P).ship).light).mass).lo, .int .i64 ((((P).ship).light).mass).hi, .int .i64 ((((P).ship).light).along).lo, .int .i64 ((((P).ship).light).along).hi, .int .i64 ((((P).ship).light).high).lo, .int .i64 ((((P).ship).light).high).hi, .slice ((P).holds).p ((P).holds).n ((P).holds).c, .slice ((P).fills).p ((P).fills).n ((P).fills).c, .slice ((P).tanks).p ((P).tanks).n ((P).tanks).c, .slice ((P).levels).p ((P).levels).n ((P).levels).c, .int .i64 (P).most], .slice s.p s.n s.c] w (TruthPost s.xs P w) := by
  have hsp := hok.ship
  have CV1 := Lib.hid (fun W (hb : Below w.heap.size w W) => show Calls Tryz.prog 22 #[.agg #[.slice (P.ship.dra).p (P.ship.dra).n (P.ship.dra).c], .slice s.p s.n s.c, .int .i64 0] W (TbPost W (curveP P.ship.dra.ps s.xs 0)) from Top_curve P.ship.dra s 0 W (hP.ship.dra.same hb) (hs.below hb) (by omega) (tbSane_of hP.ship.dra hsp.dra.1))
  have CV2 := Lib.hid (fun W (hb : Below w.heap.size w W) => show Calls Tryz.prog 22 #[.agg #[.slice (P.ship.hei).p (P.ship.hei).n (P.ship.hei).c], .slice s.p s.n s.c, .int .i64 1] W (TbPost W (curveP P.ship.hei.ps s.xs 1)) from Top_curve P.ship.hei s 1 W (hP.ship.hei.same hb) (hs.below hb) (by omega) (tbSane_of hP.ship.hei hsp.hei.1))
  have CV3 := Lib.hid (fun W (hb : Below w.heap.size w W) => show Calls Tryz.prog 22 #[.agg #[.slice (P.ship.cen).p (P.ship.cen).n (P.ship.cen).c], .slice s.p s.n s.c, .int .i64 2] W (TbPost W (curveP P.ship.cen.ps s.xs 2)) from Top_curve P.ship.cen s 2 W (hP.ship.cen.same hb) (hs.below hb) (by omega) (tbSane_of hP.ship.cen hsp.cen.1))
  have CV4 := Lib.hid (fun W (hb : Below w.heap.size w W) => show Calls Tryz.prog 22 #[.agg #[.slice (P.ship.tri).p (P.ship.tri).n (P.ship.tri).c], .slice s.p s.n s.c, .int .i64 3] W (TbPost W (curveP P.ship.tri.ps s.xs 3)) from Top_curve P.ship.tri s 3 W (hP.ship.tri.same hb) (hs.below hb) (by omega) (tbSane_of hP.ship.tri hsp.tri.1))
  have CV5 := Lib.hid (fun W (hb : Below w.heap.size w W) => show Calls Tryz.prog 22 #[.agg #[.slice (P.ship.flo).p (P.ship.flo).n (P.ship.flo).c], .slice s.p s.n s.c, .int .i64 4] W (TbPost W (curveP P.ship.flo.ps s.xs 4)) from Top_curve P.ship.flo s 4 W (hP.ship.flo.same hb) (hs.below hb) (by omega) (tbSane_of hP.ship.flo hsp.flo.1))
  have CV6 := Lib.hid (fun W (hb : Below w.heap.size w W) => show Calls Tryz.prog 22 #[.agg #[.slice (P.ship.sin).p (P.ship.sin).n (P.ship.sin).c], .slice s.p s.n s.c, .int .i64 5] W (TbPost W (curveP P.ship.sin.ps s.xs 5)) from Top_curve P.ship.sin s 5 W (hP.ship.sin.same hb) (hs.below hb) (by omega) (tbSane_of hP.ship.sin hsp.sin.1))
  have CV7 := Lib.hid (fun W (hb : Below w.heap.size w W) => show Calls Tryz.prog 22 #[.agg #[.slice (P.ship.shi).p (P.ship.shi).n (P.ship.shi).c], .slice s.p s.n s.c, .int .i64 6] W (TbPost W (curveP P.ship.shi.ps s.xs 6)) from Top_curve P.ship.shi s 6 W (hP.ship.shi.same hb) (hs.below hb) (by omega) (tbSane_of hP.ship.shi hsp.shi.1))
  have HP := Lib.hid hP
  have HSI := Lib.hid hs
  have HOK := Lib.hid hok
  clear hP hs hok hsp
  obtain ⟨SP, rfl⟩ : ∃ S, P = S := ⟨_, rfl⟩
  obtain ⟨⟨len, dra, hei, cen, tri, flo, ⟨cp, cn, cc, cx⟩, sin, shi, lt⟩, ⟨hp, hn, hc, hx⟩, ⟨fp, fn, fc, fx⟩, ⟨tp, tn, tc, tx⟩, ⟨lp, ln, lc, lx⟩, most⟩ := P
  dsimp only at CV1 CV2 CV3 CV4 CV5 CV6 CV7
  have ONE := Lib.hid (show (#[.int .i64 len, .slice dra.p dra.n dra.c, .slice hei.p hei.n hei.c, .slice cen.p cen.n cen.c, .slice tri.p tri.n tri.c, .slice flo.p flo.n flo.c, .slice cp cn cc, .slice sin.p sin.n sin.c, .slice shi.p shi.n shi.c, .int .i64 ((lt).mass).lo, .int .i64 ((lt).mass).hi, .int .i64 ((lt).along).lo, .int .i64 ((lt).along).hi, .int .i64 ((lt).high).lo, .int .i64 ((lt).high).hi] : Array Value).all (·.oneCell') = true by kernel_rfl)
  go_enter Tryz.func7, Tryz.ntmps7
  generalize hvs : Value.slice s.p s.n s.c = vs at CV1 CV2 CV3 CV4 CV5 CV6 CV7 ⊢
  have HVS := Lib.hid hvs
  clear hvs
  generalize Value.slice dra.p dra.n dra.c = v1 at CV1 ONE ⊢
  generalize Value.slice hei.p hei.n hei.c = v2 at CV2 ONE ⊢
  generalize Value.slice cen.p cen.n cen.c = v3 at CV3 ONE ⊢
  generalize Value.slice tri.p tri.n tri.c = v4 at CV4 ONE ⊢
  generalize Value.slice flo.p flo.n flo.c = v5 at CV5 ONE ⊢
  generalize Value.slice sin.p sin.n sin.c = v6 at CV6 ONE ⊢
  generalize Value.slice shi.p shi.n shi.c = v7 at CV7 ONE ⊢
  have e1 : HasBlk ((w.alloc (.cells #[.int .i64 len, v1, v2, v3, v4, v5, .slice cp cn cc, v6, v7, .int .i64 ((lt).mass).lo, .int .i64 ((lt).mass).hi, .int .i64 ((lt).along).lo, .int .i64 ((lt).along).hi, .int .i64 ((lt).high).lo, .int .i64 ((lt).high).hi, .slice hp hn hc, .slice fp fn fc, .slice tp tn tc, .slice lp ln lc, .int .i64 most] 37)).alloc (.cells zeroPa 37)) w.heap.size #[.int .i64 len, v1, v2, v3, v4, v5, .slice cp cn cc, v6, v7, .int .i64 ((lt).mass).lo, .int .i64 ((lt).mass).hi, .int .i64 ((lt).along).lo, .int .i64 ((lt).along).hi, .int .i64 ((lt).high).lo, .int .i64 ((lt).high).hi, .slice hp hn hc, .slice fp fn fc, .slice tp tn tc, .slice lp ln lc, .int .i64 most] 37 := by simp only [HasBlk, Soft.heap_alloc_if, Soft.heap_new]
  have E1 := Lib.hid e1
  clear e1
  go_wp2_with (first
    | (refine wpList_load_part rfl 31 (.tmp 17) rfl w.heap.size 0 rfl 37 _ #[.int .i64 len, v1, v2, v3, v4, v5, .slice cp cn cc, v6, v7, .int .i64 ((lt).mass).lo, .int .i64 ((lt).mass).hi, .int .i64 ((lt).along).lo, .int .i64 ((lt).along).hi, .int .i64 ((lt).high).lo, .int .i64 ((lt).high).hi] _ E1.out Tryz.underlying31 rfl (by kernel_rfl) rfl ?_)
    | (refine wpList_store_new rfl 31 (.tmp 5) (.tmp 18) rfl (w.heap.size + 1 + 1) (by simp) #[.int .i64 len, v1, v2, v3, v4, v5, .slice cp cn cc, v6, v7, .int .i64 ((lt).mass).lo, .int .i64 ((lt).mass).hi, .int .i64 ((lt).along).lo, .int .i64 ((lt).along).hi, .int .i64 ((lt).high).lo, .int .i64 ((lt).high).hi] rfl rfl (by kernel_rfl) rfl ONE.out ?_)
    | (refine wpList_store_new rfl 37 (.tmp 6) (.tmp 21) rfl (w.heap.size + 1 + 1 + 1) (by simp) #[.int .i64 0, .slice none 0 0, .slice none 0 0, .slice none 0 0, .slice none 0 0, .slice none 0 0, .slice none 0 0, .slice none 0 0, .slice none 0 0, .int .i64 0, .int .i64 0, .int .i64 0, .int .i64 0, .int .i64 0, .int .i64 0, .slice none 0 0, .slice none 0 0, .slice none 0 0, .slice none 0 0, .int .i64 most] rfl rfl (by kernel_rfl) rfl (by kernel_rfl) ?_))
  go_wp2_with fail
  simp only [Nat.add_assoc, Nat.reduceAdd]
  have b0 : HasBlk ((((w.alloc (.cells #[.int .i64 len, v1, v2, v3, v4, v5, .slice cp cn cc, v6, v7, .int .i64 ((lt).mass).lo, .int .i64 ((lt).mass).hi, .int .i64 ((lt).along).lo, .int .i64 ((lt).along).hi, .int .i64 ((lt).high).lo, .int .i64 ((lt).high).hi, .slice hp hn hc, .slice fp fn fc, .slice tp tn tc, .slice lp ln lc, .int .i64 most] 37)).alloc (.cells #[.int .i64 0, .slice none 0 0, .slice none 0 0, .slice none 0 0, .slice none 0 0, .slice none 0 0, .slice none 0 0, .slice none 0 0, .slice none 0 0, .int .i64 0, .int .i64 0, .int .i64 0, .int .i64 0, .int .i64 0, .int .i64 0, .slice none 0 0, .slice none 0 0, .slice none 0 0, .slice none 0 0, .int .i64 0] 37)).alloc (.cells #[.int .i64 len, v1, v2, v3, v4, v5, .slice cp cn cc, v6, v7, .int .i64 ((lt).mass).lo, .int .i64 ((lt).mass).hi, .int .i64 ((lt).along).lo, .int .i64 ((lt).along).hi, .int .i64 ((lt).high).lo, .int .i64 ((lt).high).hi] 31)).alloc (.cells #[.int .i64 0, .slice none 0 0, .slice none 0 0, .slice none 0 0, .slice none 0 0, .slice none 0 0, .slice none 0 0, .slice none 0 0, .slice none 0 0, .int .i64 0, .int .i64 0, .int .i64 0, .int .i64 0, .int .i64 0, .int .i64 0, .slice none 0 0, .slice none 0 0, .slice none 0 0, .slice none 0 0, .int .i64 most] 37)) w.heap.size #[.int .i64 len, v1, v2, v3, v4, v5, .slice cp cn cc, v6, v7, .int .i64 ((lt).mass).lo, .int .i64 ((lt).mass).hi, .int .i64 ((lt).along).lo, .int .i64 ((lt).along).hi, .int .i64 ((lt).high).lo, .int .i64 ((lt).high).hi, .slice hp hn hc, .slice fp fn fc, .slice tp tn tc, .slice lp ln lc, .int .i64 most] 37 := by simp only [HasBlk, Soft.heap_alloc_if, Soft.heap_new]
  have b1 : HasBlk ((((w.alloc (.cells #[.int .i64 len, v1, v2, v3, v4, v5, .slice cp cn cc, v6, v7, .int .i64 ((lt).mass).lo, .int .i64 ((lt).mass).hi, .int .i64 ((lt).along).lo, .int .i64 ((lt).along).hi, .int .i64 ((lt).high).lo, .int .i64 ((lt).high).hi, .slice hp hn hc, .slice fp fn fc, .slice tp tn tc, .slice lp ln lc, .int .i64 most] 37)).alloc (.cells #[.int .i64 0, .slice none 0 0, .slice none 0 0, .slice none 0 0, .slice none 0 0, .slice none 0 0, .slice none 0 0, .slice none 0 0, .slice none 0 0, .int .i64 0, .int .i64 0, .int .i64 0, .int .i64 0, .int .i64 0, .int .i64 0, .slice none 0 0, .slice none 0 0, .slice none 0 0, .slice none 0 0, .int .i64 0] 37)).alloc (.cells #[.int .i64 len, v1, v2, v3, v4, v5, .slice cp cn cc, v6, v7, .int .i64 ((lt).mass).lo, .int .i64 ((lt).mass).hi, .int .i64 ((lt).along).lo, .int .i64 ((lt).along).hi, .int .i64 ((lt).high).lo, .int .i64 ((lt).high).hi] 31)).alloc (.cells #[.int .i64 0, .slice none 0 0, .slice none 0 0, .slice none 0 0, .slice none 0 0, .slice none 0 0, .slice none 0 0, .slice none 0 0, .slice none 0 0, .int .i64 0, .int .i64 0, .int .i64 0, .int .i64 0, .int .i64 0, .int .i64 0, .slice none 0 0, .slice none 0 0, .slice none 0 0, .slice none 0 0, .int .i64 most] 37)) (w.heap.size + 1) zeroPa 37 := by simp only [HasBlk, Soft.heap_alloc_if, Soft.heap_new1]; rfl
  have b2 : HasBlk ((((w.alloc (.cells #[.int .i64 len, v1, v2, v3, v4, v5, .slice cp cn cc, v6, v7, .int .i64 ((lt).mass).lo, .int .i64 ((lt).mass).hi, .int .i64 ((lt).along).lo, .int .i64 ((lt).along).hi, .int .i64 ((lt).high).lo, .int .i64 ((lt).high).hi, .slice hp hn hc, .slice fp fn fc, .slice tp tn tc, .slice lp ln lc, .int .i64 most] 37)).alloc (.cells #[.int .i64 0, .slice none 0 0, .slice none 0 0, .slice none 0 0, .slice none 0 0, .slice none 0 0, .slice none 0 0, .slice none 0 0, .slice none 0 0, .int .i64 0, .int .i64 0, .int .i64 0, .int .i64 0, .int .i64 0, .int .i64 0, .slice none 0 0, .slice none 0 0, .slice none 0 0, .slice none 0 0, .int .i64 0] 37)).alloc (.cells #[.int .i64 len, v1, v2, v3, v4, v5, .slice cp cn cc, v6, v7, .int .i64 ((lt).mass).lo, .int .i64 ((lt).mass).hi, .int .i64 ((lt).along).lo, .int .i64 ((lt).along).hi, .int .i64 ((lt).high).lo, .int .i64 ((lt).high).hi] 31)).alloc (.cells #[.int .i64 0, .slice none 0 0, .slice none 0 0, .slice none 0 0, .slice none 0 0, .slice none 0 0, .slice none 0 0, .slice none 0 0, .slice none 0 0, .int .i64 0, .int .i64 0, .int .i64 0, .int .i64 0, .int .i64 0, .int .i64 0, .slice none 0 0, .slice none 0 0, .slice none 0 0, .slice none 0 0, .int .i64 most] 37)) (w.heap.size + 2) #[.int .i64 len, v1, v2, v3, v4, v5, .slice cp cn cc, v6, v7, .int .i64 ((lt).mass).lo, .int .i64 ((lt).mass).hi, .int .i64 ((lt).along).lo, .int .i64 ((lt).along).hi, .int .i64 ((lt).high).lo, .int .i64 ((lt).high).hi] 31 := by simp only [HasBlk, Soft.heap_alloc_if, Soft.heap_new2]
  have b3 : HasBlk ((((w.alloc (.cells #[.int .i64 len, v1, v2, v3, v4, v5, .slice cp cn cc, v6, v7, .int .i64 ((lt).mass).lo, .int .i64 ((lt).mass).hi, .int .i64 ((lt).along).lo, .int .i64 ((lt).along).hi, .int .i64 ((lt).high).lo, .int .i64 ((lt).high).hi, .slice hp hn hc, .slice fp fn fc, .slice tp tn tc, .slice lp ln lc, .int .i64 most] 37)).alloc (.cells #[.int .i64 0, .slice none 0 0, .slice none 0 0, .slice none 0 0, .slice none 0 0, .slice none 0 0, .slice none 0 0, .slice none 0 0, .slice none 0 0, .int .i64 0, .int .i64 0, .int .i64 0, .int .i64 0, .int .i64 0, .int .i64 0, .slice none 0 0, .slice none 0 0, .slice none 0 0, .slice none 0 0, .int .i64 0] 37)).alloc (.cells #[.int .i64 len, v1, v2, v3, v4, v5, .slice cp cn cc, v6, v7, .int .i64 ((lt).mass).lo, .int .i64 ((lt).mass).hi, .int .i64 ((lt).along).lo, .int .i64 ((lt).along).hi, .int .i64 ((lt).high).lo, .int .i64 ((lt).high).hi] 31)).alloc (.cells #[.int .i64 0, .slice none 0 0, .slice none 0 0, .slice none 0 0, .slice none 0 0, .slice none 0 0, .slice none 0 0, .slice none 0 0, .slice none 0 0, .int .i64 0, .int .i64 0, .int .i64 0, .int .i64 0, .int .i64 0, .int .i64 0, .slice none 0 0, .slice none 0 0, .slice none 0 0, .slice none 0 0, .int .i64 most] 37)) (w.heap.size + 3) #[.int .i64 0, .slice none 0 0, .slice none 0 0, .slice none 0 0, .slice none 0 0, .slice none 0 0, .slice none 0 0, .slice none 0 0, .slice none 0 0, .int .i64 0, .int .i64 0, .int .i64 0, .int .i64 0, .int .i64 0, .int .i64 0, .slice none 0 0, .slice none 0 0, .slice none 0 0, .slice none 0 0, .int .i64 most] 37 := by simp only [HasBlk, Soft.heap_new3]
  have hB : Below w.heap.size w ((((w.alloc (.cells #[.int .i64 len, v1, v2, v3, v4, v5, .slice cp cn cc, v6, v7, .int .i64 ((lt).mass).lo, .int .i64 ((lt).mass).hi, .int .i64 ((lt).along).lo, .int .i64 ((lt).along).hi, .int .i64 ((lt).high).lo, .int .i64 ((lt).high).hi, .slice hp hn hc, .slice fp fn fc, .slice tp tn tc, .slice lp ln lc, .int .i64 most] 37)).alloc (.cells #[.int .i64 0, .slice none 0 0, .slice none 0 0, .slice none 0 0, .slice none 0 0, .slice none 0 0, .slice none 0 0, .slice none 0 0, .slice none 0 0, .int .i64 0, .int .i64 0, .int .i64 0, .int .i64 0, .int .i64 0, .int .i64 0, .slice none 0 0, .slice none 0 0, .slice none 0 0, .slice none 0 0, .int .i64 0] 37)).alloc (.cells #[.int .i64 len, v1, v2, v3, v4, v5, .slice cp cn cc, v6, v7, .int .i64 ((lt).mass).lo, .int .i64 ((lt).mass).hi, .int .i64 ((lt).along).lo, .int .i64 ((lt).along).hi, .int .i64 ((lt).high).lo, .int .i64 ((lt).high).hi] 31)).alloc (.cells #[.int .i64 0, .slice none 0 0, .slice none 0 0, .slice none 0 0, .slice none 0 0, .slice none 0 0, .slice none 0 0, .slice none 0 0, .slice none 0 0, .int .i64 0, .int .i64 0, .int .i64 0, .int .i64 0, .int .i64 0, .int .i64 0, .slice none 0 0, .slice none 0 0, .slice none 0 0, .slice none 0 0, .int .i64 most] 37)) := by (with_reducible repeat (first | exact blr _ | refine bla ?_ _ | refine blw _ ?_ | refine bld ?_ | refine bln _ ?_ | refine bls ?_ _ | refine blt ?_))
  generalize ((((w.alloc (.cells #[.int .i64 len, v1, v2, v3, v4, v5, .slice cp cn cc, v6, v7, .int .i64 ((lt).mass).lo, .int .i64 ((lt).mass).hi, .int .i64 ((lt).along).lo, .int .i64 ((lt).along).hi, .int .i64 ((lt).high).lo, .int .i64 ((lt).high).hi, .slice hp hn hc, .slice fp fn fc, .slice tp tn tc, .slice lp ln lc, .int .i64 most] 37)).alloc (.cells #[.int .i64 0, .slice none 0 0, .slice none 0 0, .slice none 0 0, .slice none 0 0, .slice none 0 0, .slice none 0 0, .slice none 0 0, .slice none 0 0, .int .i64 0, .int .i64 0, .int .i64 0, .int .i64 0, .int .i64 0, .int .i64 0, .slice none 0 0, .slice none 0 0, .slice none 0 0, .slice none 0 0, .int .i64 0] 37)).alloc (.cells #[.int .i64 len, v1, v2, v3, v4, v5, .slice cp cn cc, v6, v7, .int .i64 ((lt).mass).lo, .int .i64 ((lt).mass).hi, .int .i64 ((lt).along).lo, .int .i64 ((lt).along).hi, .int .i64 ((lt).high).lo, .int .i64 ((lt).high).hi] 31)).alloc (.cells #[.int .i64 0, .slice none 0 0, .slice none 0 0, .slice none 0 0, .slice none 0 0, .slice none 0 0, .slice none 0 0, .slice none 0 0, .slice none 0 0, .int .i64 0, .int .i64 0, .int .i64 0, .int .i64 0, .int .i64 0, .int .i64 0, .slice none 0 0, .slice none 0 0, .slice none 0 0, .slice none 0 0, .int .i64 most] 37)) = W0 at *
  clear E1
  have c0 := b2.cell 0
  have c1 := b2.cell 1
  have c2 := b2.cell 2
  have c3 := b2.cell 3
  have c4 := b2.cell 4
  have c5 := b2.cell 5
  have c7 := b2.cell 7
  have c8 := b2.cell 8
  simp at c0 c1 c2 c3 c4 c5 c7 c8
  have l2 := Soft.LtH.mk (b := w.heap.size + 2) (w := W0) b2.lt
  have l3 := Soft.LtH.mk (b := w.heap.size + 3) (w := W0) b3.lt
  have B0 := Lib.hid b0; have B1 := Lib.hid b1; have B2 := Lib.hid b2; have B3 := Lib.hid b3; have HB := Lib.hid hB
  clear b0 b1 b2 b3 hB
  have HBW := Lib.hid (fun W (hb : Below W0.heap.size W0 W) => bel_step HB.out hb)
  ((refine Soft.region_mix [(true, 0), (true, 1), (true, 2), (true, 3), (true, 4), (true, 6), (true, 7), (true, 8), (true, 10), (true, 11), (true, 12), (true, 14), (true, 15), (true, 16), (true, 18), (true, 19), (true, 20), (true, 22), (true, 23), (true, 24), (true, 26), (true, 27), (true, 28), (false, 5), (false, 9), (false, 13), (false, 17), (false, 21), (false, 25), (false, 29), (true, 30), (true, 31)] [32] (by kernel_rfl) (by kernel_rfl) (by kernel_rfl) (by kernel_rfl) ?_; change Soft.wpMix _ _ _ _ [(true, _), (true, _), (true, _), (true, _), (true, _), (true, _), (true, _), (true, _), (true, _), (true, _), (true, _), (true, _), (true, _), (true, _), (true, _), (true, _), (true, _), (true, _), (true, _), (true, _), (true, _), (true, _), (true, _), (false, _), (false, _), (false, _), (false, _), (false, _), (false, _), (false, _), (true, _), (true, _)] _ _); (refine Soft.mix_q (fun K hK => ?_); go_simp; (try go_bits); first | (refine hK _ ?_; clear hK K) | (apply Exists.intro; refine ⟨fun x => ?_, hK _ ?_⟩; fail)); (refine Soft.mix_q (fun K hK => ?_); go_simp; (try go_bits); first | (refine hK _ ?_; clear hK K) | (apply Exists.intro; refine ⟨fun x => ?_, hK _ ?_⟩; fail)); (refine Soft.mix_q (fun K hK => ?_); go_simp; (try go_bits); first | (refine hK _ ?_; clear hK K) | (apply Exists.intro; refine ⟨fun x => ?_, hK _ ?_⟩; fail)); (refine Soft.mix_q (fun K hK => ?_); go_simp; (try go_bits); first | (refine hK _ ?_; clear hK K) | (apply Exists.intro; refine ⟨fun x => ?_, hK _ ?_⟩; fail)); (refine Soft.mix_q (fun K hK => ?_); go_simp; (try go_bits); first | (refine hK _ ?_; clear hK K) | (apply Exists.intro; refine ⟨fun x => ?_, hK _ ?_⟩; fail)); (refine Soft.mix_q (fun K hK => ?_); go_simp; (try go_bits); first | (refine hK _ ?_; clear hK K) | (apply Exists.intro; refine ⟨fun x => ?_, hK _ ?_⟩; fail)); (refine Soft.mix_q (fun K hK => ?_); go_simp; (try go_bits); first | (refine hK _ ?_; clear hK K) | (apply Exists.intro; refine ⟨fun x => ?_, hK _ ?_⟩; fail)); (refine Soft.mix_q (fun K hK => ?_); go_simp; (try go_bits); first | (refine hK _ ?_; clear hK K) | (apply Exists.intro; refine ⟨fun x => ?_, hK _ ?_⟩; fail)); (refine Soft.mix_q (fun K hK => ?_); go_simp; (try go_bits); first | (refine hK _ ?_; clear hK K) | (apply Exists.intro; refine ⟨fun x => ?_, hK _ ?_⟩; fail)); (refine Soft.mix_q (fun K hK => ?_); go_simp; (try go_bits); first | (refine hK _ ?_; clear hK K) | (apply Exists.intro; refine ⟨fun x => ?_, hK _ ?_⟩; fail)); (refine Soft.mix_q (fun K hK => ?_); go_simp; (try go_bits); first | (refine hK _ ?_; clear hK K) | (apply Exists.intro; refine ⟨fun x => ?_, hK _ ?_⟩; fail)); (refine Soft.mix_q (fun K hK => ?_); go_simp; (try go_bits); first | (refine hK _ ?_; clear hK K) | (apply Exists.intro; refine ⟨fun x => ?_, hK _ ?_⟩; fail)); (refine Soft.mix_q (fun K hK => ?_); go_simp; (try go_bits); first | (refine hK _ ?_; clear hK K) | (apply Exists.intro; refine ⟨fun x => ?_, hK _ ?_⟩; fail)); (refine Soft.mix_q (fun K hK => ?_); go_simp; (try go_bits); first | (refine hK _ ?_; clear hK K) | (apply Exists.intro; refine ⟨fun x => ?_, hK _ ?_⟩; fail)); (refine Soft.mix_q (fun K hK => ?_); go_simp; (try go_bits); first | (refine hK _ ?_; clear hK K) | (apply Exists.intro; refine ⟨fun x => ?_, hK _ ?_⟩; fail)); (refine Soft.mix_q (fun K hK => ?_); go_simp; (try go_bits); first | (refine hK _ ?_; clear hK K) | (apply Exists.intro; refine ⟨fun x => ?_, hK _ ?_⟩; fail)); (refine Soft.mix_q (fun K hK => ?_); go_simp; (try go_bits); first | (refine hK _ ?_; clear hK K) | (apply Exists.intro; refine ⟨fun x => ?_, hK _ ?_⟩; fail)); (refine Soft.mix_q (fun K hK => ?_); go_simp; (try go_bits); first | (refine hK _ ?_; clear hK K) | (apply Exists.intro; refine ⟨fun x => ?_, hK _ ?_⟩; fail)); (refine Soft.mix_q (fun K hK => ?_); go_simp; (try go_bits); first | (refine hK _ ?_; clear hK K) | (apply Exists.intro; refine ⟨fun x => ?_, hK _ ?_⟩; fail)); (refine Soft.mix_q (fun K hK => ?_); go_simp; (try go_bits); first | (refine hK _ ?_; clear hK K) | (apply Exists.intro; refine ⟨fun x => ?_, hK _ ?_⟩; fail)); (refine Soft.mix_q (fun K hK => ?_); go_simp; (try go_bits); first | (refine hK _ ?_; clear hK K) | (apply Exists.intro; refine ⟨fun x => ?_, hK _ ?_⟩; fail)); (refine Soft.mix_q (fun K hK => ?_); go_simp; (try go_bits); first | (refine hK _ ?_; clear hK K) | (apply Exists.intro; refine ⟨fun x => ?_, hK _ ?_⟩; fail)); (refine Soft.mix_q (fun K hK => ?_); go_simp; (try go_bits); first | (refine hK _ ?_; clear hK K) | (apply Exists.intro; refine ⟨fun x => ?_, hK _ ?_⟩; fail)); (refine Soft.mix_c (fun K hK => ?_); go_simp; (try go_bits); ((go_at_call 22; (with_reducible refine (CV1.out _ (HBW.out _ (by (with_reducible repeat (first | exact blr _ | refine bla ?_ _ | refine blw _ ?_ | refine bld ?_ | refine bln _ ?_ | refine bls ?_ _ | refine blt ?_))))).mono ?_); rintro e w_ ⟨q1, rfl, hq1, hp1, hf1, hb_⟩; obtain ⟨y1, rfl⟩ := Soft.BW.mk hb_; clear hb_; have HQ1 := Lib.hid hq1; have HF1 := Lib.hid hf1; have HE1 := Lib.hid hp1; clear hq1 hf1 hp1; refine ⟨_, rfl, (by first | with_reducible exact Soft.BW.below y1 | simpa using Soft.BW.below y1), hK _ _ ?_⟩)); clear hK K); (refine Soft.mix_c (fun K hK => ?_); go_simp; (try go_bits); ((go_at_call 22; (with_reducible refine (CV2.out _ (HBW.out _ (by (with_reducible repeat (first | exact blr _ | refine bla ?_ _ | refine blw _ ?_ | refine bld ?_ | refine bln _ ?_ | refine bls ?_ _ | refine blt ?_))))).mono ?_); rintro e w_ ⟨q2, rfl, hq2, hp2, hf2, hb_⟩; obtain ⟨y2, rfl⟩ := Soft.BW.mk hb_; clear hb_; have HQ2 := Lib.hid hq2; have HF2 := Lib.hid hf2; have HE2 := Lib.hid hp2; clear hq2 hf2 hp2; refine ⟨_, rfl, (by first | with_reducible exact Soft.BW.below y2 | simpa using Soft.BW.below y2), hK _ _ ?_⟩)); clear hK K); (refine Soft.mix_c (fun K hK => ?_); go_simp; (try go_bits); ((go_at_call 22; (with_reducible refine (CV3.out _ (HBW.out _ (by (with_reducible repeat (first | exact blr _ | refine bla ?_ _ | refine blw _ ?_ | refine bld ?_ | refine bln _ ?_ | refine bls ?_ _ | refine blt ?_))))).mono ?_); rintro e w_ ⟨q3, rfl, hq3, hp3, hf3, hb_⟩; obtain ⟨y3, rfl⟩ := Soft.BW.mk hb_; clear hb_; have HQ3 := Lib.hid hq3; have HF3 := Lib.hid hf3; have HE3 := Lib.hid hp3; clear hq3 hf3 hp3; refine ⟨_, rfl, (by first | with_reducible exact Soft.BW.below y3 | simpa using Soft.BW.below y3), hK _ _ ?_⟩)); clear hK K); (refine Soft.mix_c (fun K hK => ?_); go_simp; (try go_bits); ((go_at_call 22; (with_reducible refine (CV4.out _ (HBW.out _ (by (with_reducible repeat (first | exact blr _ | refine bla ?_ _ | refine blw _ ?_ | refine bld ?_ | refine bln _ ?_ | refine bls ?_ _ | refine blt ?_))))).mono ?_); rintro e w_ ⟨q4, rfl, hq4, hp4, hf4, hb_⟩; obtain ⟨y4, rfl⟩ := Soft.BW.mk hb_; clear hb_; have HQ4 := Lib.hid hq4; have HF4 := Lib.hid hf4; have HE4 := Lib.hid hp4; clear hq4 hf4 hp4; refine ⟨_, rfl, (by first | with_reducible exact Soft.BW.below y4 | simpa using Soft.BW.below y4), hK _ _ ?_⟩)); clear hK K); (refine Soft.mix_c (fun K hK => ?_); go_simp; (try go_bits); ((go_at_call 22; (with_reducible refine (CV5.out _ (HBW.out _ (by (with_reducible repeat (first | exact blr _ | refine bla ?_ _ | refine blw _ ?_ | refine bld ?_ | refine bln _ ?_ | refine bls ?_ _ | refine blt ?_))))).mono ?_); rintro e w_ ⟨q5, rfl, hq5, hp5, hf5, hb_⟩; obtain ⟨y5, rfl⟩ := Soft.BW.mk hb_; clear hb_; have HQ5 := Lib.hid hq5; have HF5 := Lib.hid hf5; have HE5 := Lib.hid hp5; clear hq5 hf5 hp5; refine ⟨_, rfl, (by first | with_reducible exact Soft.BW.below y5 | simpa using Soft.BW.below y5), hK _ _ ?_⟩)); clear hK K); (refine Soft.mix_c (fun K hK => ?_); go_simp; (try go_bits); ((go_at_call 22; (with_reducible refine (CV6.out _ (HBW.out _ (by (with_reducible repeat (first | exact blr _ | refine bla ?_ _ | refine blw _ ?_ | refine bld ?_ | refine bln _ ?_ | refine bls ?_ _ | refine blt ?_))))).mono ?_); rintro e w_ ⟨q6, rfl, hq6, hp6, hf6, hb_⟩; obtain ⟨y6, rfl⟩ := Soft.BW.mk hb_; clear hb_; have HQ6 := Lib.hid hq6; have HF6 := Lib.hid hf6; have HE6 := Lib.hid hp6; clear hq6 hf6 hp6; refine ⟨_, rfl, (by first | with_reducible exact Soft.BW.below y6 | simpa using Soft.BW.below y6), hK _ _ ?_⟩)); clear hK K); (refine Soft.mix_c (fun K hK => ?_); go_simp; (try go_bits); ((go_at_call 22; (with_reducible refine (CV7.out _ (HBW.out _ (by (with_reducible repeat (first | exact blr _ | refine bla ?_ _ | refine blw _ ?_ | refine bld ?_ | refine bln _ ?_ | refine bls ?_ _ | refine blt ?_))))).mono ?_); rintro e w_ ⟨q7, rfl, hq7, hp7, hf7, hb_⟩; obtain ⟨y7, rfl⟩ := Soft.BW.mk hb_; clear hb_; have HQ7 := Lib.hid hq7; have HF7 := Lib.hid hf7; have HE7 := Lib.hid hp7; clear hq7 hf7 hp7; refine ⟨_, rfl, (by first | with_reducible exact Soft.BW.below y7 | simpa using Soft.BW.below y7), hK _ _ ?_⟩)); clear hK K); (refine Soft.mix_q (fun K hK => ?_); go_simp; (try go_bits); first | (refine hK _ ?_; clear hK K) | (apply Exists.intro; refine ⟨fun x => ?_, hK _ ?_⟩; fail)); (refine Soft.mix_q (fun K hK => ?_); go_simp; (try go_bits); first | (refine hK _ ?_; clear hK K) | (apply Exists.intro; refine ⟨fun x => ?_, hK _ ?_⟩; fail)); (refine Soft.mix_nil ?_; intro hbx; change wpList _ _ _ [_] _ _))
  refine wpList_store_part rfl 31 (.tmp 53) (.tmp 52) rfl (w.heap.size + 3) 0 #[.int .i64 len, .slice q1.p q1.n q1.c, .slice q2.p q2.n q2.c, .slice q3.p q3.n q3.c, .slice q4.p q4.n q4.c, .slice q5.p q5.n q5.c, .slice none 0 0, .slice q6.p q6.n q6.c, .slice q7.p q7.n q7.c, .int .i64 0, .int .i64 0, .int .i64 0, .int .i64 0, .int .i64 0, .int .i64 0] rfl rfl 37 #[.int .i64 0, .slice none 0 0, .slice none 0 0, .slice none 0 0, .slice none 0 0, .slice none 0 0, .slice none 0 0, .slice none 0 0, .slice none 0 0, .int .i64 0, .int .i64 0, .int .i64 0, .int .i64 0, .int .i64 0, .int .i64 0, .slice none 0 0, .slice none 0 0, .slice none 0 0, .slice none 0 0, .int .i64 most] #[.int .i64 len, .slice q1.p q1.n q1.c, .slice q2.p q2.n q2.c, .slice q3.p q3.n q3.c, .slice q4.p q4.n q4.c, .slice q5.p q5.n q5.c, .slice none 0 0, .slice q6.p q6.n q6.c, .slice q7.p q7.n q7.c, .int .i64 0, .int .i64 0, .int .i64 0, .int .i64 0, .int .i64 0, .int .i64 0, .slice none 0 0, .slice none 0 0, .slice none 0 0, .slice none 0 0, .int .i64 most] (B3.out.below (show Below W0.heap.size W0 y7.w by (with_reducible repeat (first | exact blr _ | refine bla ?_ _ | refine blw _ ?_ | refine bld ?_ | refine bln _ ?_ | refine bls ?_ _ | refine blt ?_)))) (by kernel_rfl) (Nat.le_of_ble_eq_true rfl) (by kernel_rfl) rfl ?_
  have hb7 : Below W0.heap.size W0 y7.w := by (with_reducible repeat (first | exact blr _ | refine bla ?_ _ | refine blw _ ?_ | refine bld ?_ | refine bln _ ?_ | refine bls ?_ _ | refine blt ?_))
  have hsz0 := HB.out.size
  have hlt0 := B3.out.lt
  have HS1 := Lib.hid (show ∀ t ∈ [q1, q2, q3, q4, q5, q6, q7], t.At y7.w ∧ ∀ b o, t.p = some ⟨b, o, none⟩ → W0.heap.size ≤ b from fun t ht => by
    have z1 : Below W0.heap.size W0 y1.w := by (with_reducible repeat (first | exact blr _ | refine bla ?_ _ | refine blw _ ?_ | refine bld ?_ | refine bln _ ?_ | refine bls ?_ _ | refine blt ?_))
    have z2 : Below W0.heap.size W0 y2.w := by (with_reducible repeat (first | exact blr _ | refine bla ?_ _ | refine blw _ ?_ | refine bld ?_ | refine bln _ ?_ | refine bls ?_ _ | refine blt ?_))
    have z3 : Below W0.heap.size W0 y3.w := by (with_reducible repeat (first | exact blr _ | refine bla ?_ _ | refine blw _ ?_ | refine bld ?_ | refine bln _ ?_ | refine bls ?_ _ | refine blt ?_))
    have z4 : Below W0.heap.size W0 y4.w := by (with_reducible repeat (first | exact blr _ | refine bla ?_ _ | refine blw _ ?_ | refine bld ?_ | refine bln _ ?_ | refine bls ?_ _ | refine blt ?_))
    have z5 : Below W0.heap.size W0 y5.w := by (with_reducible repeat (first | exact blr _ | refine bla ?_ _ | refine blw _ ?_ | refine bld ?_ | refine bln _ ?_ | refine bls ?_ _ | refine blt ?_))
    have z6 : Below W0.heap.size W0 y6.w := by (with_reducible repeat (first | exact blr _ | refine bla ?_ _ | refine blw _ ?_ | refine bld ?_ | refine bln _ ?_ | refine bls ?_ _ | refine blt ?_))
    simp only [List.mem_cons, List.not_mem_nil, or_false] at ht
    rcases ht with rfl | rfl | rfl | rfl | rfl | rfl | rfl
    · exact ⟨HQ1.out.same (by (with_reducible repeat (first | exact blr _ | refine bla ?_ _ | refine blw _ ?_ | refine bld ?_ | refine bln _ ?_ | refine bls ?_ _ | refine blt ?_))), fun b o e => Nat.le_trans (Nat.le_refl _) (HF1.out b o e)⟩
    · exact ⟨HQ2.out.same (by (with_reducible repeat (first | exact blr _ | refine bla ?_ _ | refine blw _ ?_ | refine bld ?_ | refine bln _ ?_ | refine bls ?_ _ | refine blt ?_))), fun b o e => Nat.le_trans z1.size (HF2.out b o e)⟩
    · exact ⟨HQ3.out.same (by (with_reducible repeat (first | exact blr _ | refine bla ?_ _ | refine blw _ ?_ | refine bld ?_ | refine bln _ ?_ | refine bls ?_ _ | refine blt ?_))), fun b o e => Nat.le_trans z2.size (HF3.out b o e)⟩
    · exact ⟨HQ4.out.same (by (with_reducible repeat (first | exact blr _ | refine bla ?_ _ | refine blw _ ?_ | refine bld ?_ | refine bln _ ?_ | refine bls ?_ _ | refine blt ?_))), fun b o e => Nat.le_trans z3.size (HF4.out b o e)⟩
    · exact ⟨HQ5.out.same (by (with_reducible repeat (first | exact blr _ | refine bla ?_ _ | refine blw _ ?_ | refine bld ?_ | refine bln _ ?_ | refine bls ?_ _ | refine blt ?_))), fun b o e => Nat.le_trans z4.size (HF5.out b o e)⟩
    · exact ⟨HQ6.out.same (by (with_reducible repeat (first | exact blr _ | refine bla ?_ _ | refine blw _ ?_ | refine bld ?_ | refine bln _ ?_ | refine bls ?_ _ | refine blt ?_))), fun b o e => Nat.le_trans z5.size (HF6.out b o e)⟩
    · exact ⟨HQ7.out, fun b o e => Nat.le_trans z6.size (HF7.out b o e)⟩)
  have HTR := Lib.hid (tru_start (PC := #[.int .i64 len, v1, v2, v3, v4, v5, .slice cp cn cc, v6, v7, .int .i64 ((lt).mass).lo, .int .i64 ((lt).mass).hi, .int .i64 ((lt).along).lo, .int .i64 ((lt).along).hi, .int .i64 ((lt).high).lo, .int .i64 ((lt).high).hi, .slice hp hn hc, .slice fp fn fc, .slice tp tn tc, .slice lp ln lc, .int .i64 most]) (SC := #[.int .i64 len, v1, v2, v3, v4, v5, .slice cp cn cc, v6, v7, .int .i64 ((lt).mass).lo, .int .i64 ((lt).mass).hi, .int .i64 ((lt).along).lo, .int .i64 ((lt).along).hi, .int .i64 ((lt).high).lo, .int .i64 ((lt).high).hi]) B0.out B1.out B2.out B3.out HB.out hb7 HS1.out #[.int .i64 len, .slice q1.p q1.n q1.c, .slice q2.p q2.n q2.c, .slice q3.p q3.n q3.c, .slice q4.p q4.n q4.c, .slice q5.p q5.n q5.c, .slice none 0 0, .slice q6.p q6.n q6.c, .slice q7.p q7.n q7.c, .int .i64 0, .int .i64 0, .int .i64 0, .int .i64 0, .int .i64 0, .int .i64 0, .slice none 0 0, .slice none 0 0, .slice none 0 0, .slice none 0 0, .int .i64 most])
  generalize y7.w.setRow (w.heap.size + 3) #[.int .i64 len, .slice q1.p q1.n q1.c, .slice q2.p q2.n q2.c, .slice q3.p q3.n q3.c, .slice q4.p q4.n q4.c, .slice q5.p q5.n q5.c, .slice none 0 0, .slice q6.p q6.n q6.c, .slice q7.p q7.n q7.c, .int .i64 0, .int .i64 0, .int .i64 0, .int .i64 0, .int .i64 0, .int .i64 0, .slice none 0 0, .slice none 0 0, .slice none 0 0, .slice none 0 0, .int .i64 most] = W1 at *
  have HES := Lib.hid (⟨HE1.out, HE2.out, HE3.out, HE4.out, HE5.out, HE6.out, HE7.out⟩ : _ ∧ _ ∧ _ ∧ _ ∧ _ ∧ _ ∧ _)
  clear HS1 HQ1 HQ2 HQ3 HQ4 HQ5 HQ6 HQ7 HF1 HF2 HF3 HF4 HF5 HF6 HF7 HE1 HE2 HE3 HE4 HE5 HE6 HE7 hb7 hsz0 hlt0 HBW HB B0 B1 B2 B3 CV1 CV2 CV3 CV4 CV5 CV6 CV7 c0 c1 c2 c3 c4 c5 c7 c8 l2 l3
  clear hbx
  clear y7 y6 y5 y4 y3 y2 y1 W0
  have s6 := HTR.out.p2.cell 6
  simp at s6
  have l2 := Soft.LtH.mk (b := w.heap.size + 2) (w := W1) HTR.out.p2.lt
  go_wp2_with fail
  go_loopw [57] (fun i wr => ∃ (k : Nat) (v : Value) (C : List Cr) (tabs : List Tb), i = .int .i64 k ∧ k ≤ cn ∧ C.length = k ∧ (∀ j, j < k → CrT s.xs (crv cx j) j (crv C j)) ∧ (∀ c ∈ C, c.arms ∈ tabs) ∧ (∀ t ∈ [q1, q2, q3, q4, q5, q6, q7], t ∈ tabs) ∧ Tru w wr #[.int .i64 len, v1, v2, v3, v4, v5, .slice cp cn cc, v6, v7, .int .i64 ((lt).mass).lo, .int .i64 ((lt).mass).hi, .int .i64 ((lt).along).lo, .int .i64 ((lt).along).hi, .int .i64 ((lt).high).lo, .int .i64 ((lt).high).hi, .slice hp hn hc, .slice fp fn fc, .slice tp tn tc, .slice lp ln lc, .int .i64 most] #[.int .i64 len, v1, v2, v3, v4, v5, .slice cp cn cc, v6, v7, .int .i64 ((lt).mass).lo, .int .i64 ((lt).mass).hi, .int .i64 ((lt).along).lo, .int .i64 ((lt).along).hi, .int .i64 ((lt).high).lo, .int .i64 ((lt).high).hi] #[.int .i64 len, .slice q1.p q1.n q1.c, .slice q2.p q2.n q2.c, .slice q3.p q3.n q3.c, .slice q4.p q4.n q4.c, .slice q5.p q5.n q5.c, v, .slice q6.p q6.n q6.c, .slice q7.p q7.n q7.c, .int .i64 0, .int .i64 0, .int .i64 0, .int .i64 0, .int .i64 0, .int .i64 0, .slice none 0 0, .slice none 0 0, .slice none 0 0, .slice none 0 0, .int .i64 most] (rows5 v (.slice none 0 0) (.slice none 0 0) (.slice none 0 0) (.slice none 0 0) C [] [] [] []) tabs) (fun i _ => cn - (intOf i).toNat)
  case atStart => exact ⟨0, _, [], _, rfl, Nat.zero_le _, rfl, fun j hj => absurd hj (Nat.not_lt_zero j), fun c hc => absurd hc (List.not_mem_nil), fun t ht => ht, HTR.out⟩
  case round =>
    obtain ⟨k, v, C, tabs, rfl, hk, hC, hall, harm, hq, htr⟩ := hrel
    clear HTR s6 l2
    by_cases hlt : k < cn
    · have hn12 : cn ≤ 12 := by have := HOK.out.ship.n.2; have := HP.out.ship.cross.1; dsimp only at *; omega
      have hC2 := (HP.out.ship.cross.same htr.bel)
      obtain ⟨bc0, oc0, rfl, hbl0, _⟩ := HP.out.ship.cross.cells (by dsimp only; omega)
      obtain ⟨bc1, oc1, e1, hbl1, hcs⟩ := hC2.cells (by dsimp only; omega)
      cases e1
      obtain ⟨x0, x1⟩ := hcs k hlt
      dsimp only at x0 x1 hbl1 hbl0
      have CV := Lib.hid (fun W (hb : Below wr.heap.size wr W) => show Calls Tryz.prog 22 #[.agg #[.slice ((crv cx k).arms).p ((crv cx k).arms).n ((crv cx k).arms).c], .slice s.p s.n s.c, .int .i64 (7 + (k : Int))] W (TbPost W (curveP (crv cx k).arms.ps s.xs (7 + k))) from Top_curve (crv cx k).arms s (7 + k) W ((hC2.2.2 k hlt).same hb) ((HSI.out.below htr.bel).below hb) (by omega) (tbSane_of (hC2.2.2 k hlt) (HOK.out.ship.cross k (by have := hC2.1; dsimp only at *; omega)).2.1))
      rw [HVS.out] at CV
      have m0 := htr.out.cell 6
      have z6 := htr.out.frozen 6
      simp at m0
      have lb := Soft.LtH.mk (b := bc0) (w := wr) hbl1
      have l3 := Soft.LtH.mk (b := w.heap.size + 3) (w := wr) htr.out.lt
      have HTR := Lib.hid htr; have HALL := Lib.hid hall; have HARM := Lib.hid harm; have HQT := Lib.hid hq
      have HCN := Lib.hid hC
      clear htr hall harm hq hC2 hcs hC
      generalize hq : crv cx k = q at *
      have HQE := Lib.hid hq
      clear hq
      go_wp2_with fail
      ((refine Soft.region_mix [(true, 0), (true, 1), (true, 2), (true, 3), (true, 4), (true, 5), (true, 6), (true, 7), (true, 8), (true, 9), (false, 10), (true, 11), (false, 12)] [13, 14, 15, 16] (by kernel_rfl) (by kernel_rfl) (by kernel_rfl) (by kernel_rfl) ?_; change Soft.wpMix _ _ _ _ [(true, _), (true, _), (true, _), (true, _), (true, _), (true, _), (true, _), (true, _), (true, _), (true, _), (false, _), (true, _), (false, _)] _ _); (refine Soft.mix_q (fun K hK => ?_); go_simp; (try go_bits); first | (refine hK _ ?_; clear hK K) | (apply Exists.intro; refine ⟨fun x => ?_, hK _ ?_⟩; fail)); (refine Soft.mix_q (fun K hK => ?_); go_simp; (try go_bits); first | (refine hK _ ?_; clear hK K) | (apply Exists.intro; refine ⟨fun x => ?_, hK _ ?_⟩; fail)); (refine Soft.mix_q (fun K hK => ?_); go_simp; (try go_bits); first | (refine hK _ ?_; clear hK K) | (apply Exists.intro; refine ⟨fun x => ?_, hK _ ?_⟩; fail)); (refine Soft.mix_q (fun K hK => ?_); go_simp; (try go_bits); first | (refine hK _ ?_; clear hK K) | (apply Exists.intro; refine ⟨fun x => ?_, hK _ ?_⟩; fail)); (refine Soft.mix_q (fun K hK => ?_); go_simp; (try go_bits); first | (refine hK _ ?_; clear hK K) | (apply Exists.intro; refine ⟨fun x => ?_, hK _ ?_⟩; fail)); (refine Soft.mix_q (fun K hK => ?_); go_simp; (try go_bits); first | (refine hK _ ?_; clear hK K) | (apply Exists.intro; refine ⟨fun x => ?_, hK _ ?_⟩; fail)); (refine Soft.mix_q (fun K hK => ?_); go_simp; (try go_bits); first | (refine hK _ ?_; clear hK K) | (apply Exists.intro; refine ⟨fun x => ?_, hK _ ?_⟩; fail)); (refine Soft.mix_q (fun K hK => ?_); go_simp; (try go_bits); first | (refine hK _ ?_; clear hK K) | (apply Exists.intro; refine ⟨fun x => ?_, hK _ ?_⟩; fail)); (refine Soft.mix_q (fun K hK => ?_); go_simp; (try go_bits); first | (refine hK _ ?_; clear hK K) | (apply Exists.intro; refine ⟨fun x => ?_, hK _ ?_⟩; fail)); (refine Soft.mix_q (fun K hK => ?_); go_simp; (try go_bits); first | (refine hK _ ?_; clear hK K) | (apply Exists.intro; refine ⟨fun x => ?_, hK _ ?_⟩; fail)); (refine Soft.mix_c (fun K hK => ?_); go_simp; (try go_bits); ((go_at_call 22; (with_reducible refine (CV.out _ (by (with_reducible repeat (first | exact blr _ | refine bla ?_ _ | refine blw _ ?_ | refine bld ?_ | refine bln _ ?_ | refine bls ?_ _ | refine blt ?_)))).mono ?_); rintro e w_ ⟨qa, rfl, hqa, hqe, hqf, hb_⟩; obtain ⟨y1, rfl⟩ := Soft.BW.mk hb_; clear hb_; have HQA := Lib.hid hqa; have HQF := Lib.hid hqf; have HQP := Lib.hid hqe; clear hqa hqf hqe; refine ⟨_, rfl, (by first | with_reducible exact Soft.BW.below y1 | simpa using Soft.BW.below y1), hK _ _ ?_⟩)); clear hK K); (refine Soft.mix_q (fun K hK => ?_); go_simp; (try go_bits); first | (refine hK _ ?_; clear hK K) | (apply Exists.intro; refine ⟨fun x => ?_, hK _ ?_⟩; fail)); (refine Soft.mix_c (fun K hK => ?_); go_simp; (try go_bits); refine ⟨by first | exact Below.refl _ _ | exact Below.alloc (Below.refl _ _) (Nat.le_refl _) _, hK _ _ ?_⟩; clear hK K); (refine Soft.mix_nil ?_; intro hbx; change wpList _ _ _ [_, _, _, _] _ _))
      have hY : Below wr.heap.size wr (y1.w.alloc (.cells #[.int .i64 q.tonnes, .slice qa.p qa.n qa.c] 80)) := by (with_reducible repeat (first | exact blr _ | refine bla ?_ _ | refine blw _ ?_ | refine bld ?_ | refine bln _ ?_ | refine bls ?_ _ | refine blt ?_))
      have HY := Lib.hid hY
      have hYs := hY.size
      have hy1 : wr.heap.size ≤ y1.w.heap.size := by have := y1.below.size; simp at this; omega
      have hlt4 := HTR.out.lt
      have ow := (HTR.out.call hY).heap.own 0 _ rfl
      have OW := Lib.hid ow
      have PK := Lib.hid ((HTR.out.out).below hY)
      clear ow hY
      go_wp2_with (at_builtin; go_loud (refine app_row rt5_cross rfl (.tmp 64) (.tmp 74) rfl (w.heap.size + 4) v C.length (C.flatMap crC) rfl OW.out y1.w.heap.size (crC ⟨q.tonnes, qa⟩) rfl rfl (fun u hu => by simp [crC] at hu; rcases hu with rfl | rfl <;> rfl) (fun jj uu huu => (HasBlk.cell (c := #[.int .i64 q.tonnes, .slice qa.p qa.n qa.c]) (t := 80) (Soft.heap_new _ _) jj).trans (by simpa [crC] using huu)) (by have := HCN.out; omega) (by omega) ?_); intro g3 c3 w3 ho3 hb3 hg3 hl3 hg4 hg5 hc4 hc5; have HO3 := Lib.hid ho3; have HB3 := Lib.hid hb3; have HG3 := Lib.hid hg3; have HL3 := Lib.hid hl3; have z7 := HasBlk.frozen ((hb3.block (w.heap.size + 3) (by omega)).trans PK.out) 6; have z8 := HasBlk.cell ((hb3.block (w.heap.size + 3) (by omega)).trans PK.out) 6; simp at z8; have lz := Soft.LtH.mk (b := w.heap.size + 3) (w := w3) (Nat.lt_of_lt_of_le (by omega) hb3.size); clear ho3 hb3 hg3 hl3)
      have HT := HTR.out.add HY.out (more := [qa]) (fun t ht => by obtain rfl := List.mem_singleton.1 ht; exact ⟨HQA.out.same (by (with_reducible repeat (first | exact blr _ | refine bla ?_ _ | refine blw _ ?_ | refine bld ?_ | refine bln _ ?_ | refine bls ?_ _ | refine blt ?_))), fun b o e => by have := HQF.out b o e; simp at this; omega⟩) 0 rfl (r' := ⟨80, 2, C.flatMap crC ++ crC ⟨q.tonnes, qa⟩, C.length + 1, .slice (some ⟨g3, 0, none⟩) (C.length + 1) c3⟩) HO3.out HB3.out HG3.out HL3.out rfl 6 (.slice (some ⟨g3, 0, none⟩) (C.length + 1) c3)
      rw [rows5_C] at HT
      go_roundw
      case rel =>
        refine ⟨k + 1, .slice (some ⟨g3, 0, none⟩) (C.length + 1) c3, C ++ [(⟨q.tonnes, qa⟩ : Cr)], tabs ++ [qa], by simp, by omega, by simp [HCN.out], fun j hj => ?_, fun c hc => ?_, fun t ht => List.mem_append_left _ (HQT.out t ht), HT⟩
        · have hcr := get_snoc' C (⟨q.tonnes, qa⟩ : Cr) j
          rw [HCN.out] at hcr
          show CrT _ _ _ (((C ++ [(⟨q.tonnes, qa⟩ : Cr)])[j]?).getD default)
          rw [hcr]
          by_cases e : j < k
          · rw [if_pos e]; exact HALL.out j e
          · obtain rfl : j = k := by omega
            rw [if_neg e, if_pos rfl, HQE.out]
            exact ⟨rfl, HQP.out⟩
        · rcases List.mem_append.1 hc with h | h
          · exact List.mem_append_left _ (HARM.out c h)
          · obtain rfl := List.mem_singleton.1 h
            exact List.mem_append_right _ (List.mem_singleton.2 rfl)
      case measure => simp [intOf]; omega
    · obtain rfl : k = cn := by omega
      have CO1 := Lib.hid (fun W (hb : Below wr.heap.size wr W) => show Calls Tryz.prog 9 #[.agg #[.int .i64 (lt.mass).lo, .int .i64 (lt.mass).hi], .slice s.p s.n s.c, .int .i64 8] W (fun e w' => e = .returned (.agg #[.int .i64 (oneR lt.mass s.xs 8).lo, .int .i64 (oneR lt.mass s.xs 8).hi]) ∧ Below W.heap.size W w') from Top_one lt.mass s 8 W ((HSI.out.below htr.bel).below hb) (by decide) (by have := HOK.out.ship.light.1; unfold isPart at this; unfold RgOk; dsimp only at *; omega))
      have CO2 := Lib.hid (fun W (hb : Below wr.heap.size wr W) => show Calls Tryz.prog 9 #[.agg #[.int .i64 (lt.along).lo, .int .i64 (lt.along).hi], .slice s.p s.n s.c, .int .i64 9] W (fun e w' => e = .returned (.agg #[.int .i64 (oneR lt.along s.xs 9).lo, .int .i64 (oneR lt.along s.xs 9).hi]) ∧ Below W.heap.size W w') from Top_one lt.along s 9 W ((HSI.out.below htr.bel).below hb) (by decide) (by have := HOK.out.ship.light.2.1; unfold isPart at this; unfold RgOk; dsimp only at *; omega))
      have CO3 := Lib.hid (fun W (hb : Below wr.heap.size wr W) => show Calls Tryz.prog 9 #[.agg #[.int .i64 (lt.high).lo, .int .i64 (lt.high).hi], .slice s.p s.n s.c, .int .i64 10] W (fun e w' => e = .returned (.agg #[.int .i64 (oneR lt.high s.xs 10).lo, .int .i64 (oneR lt.high s.xs 10).hi]) ∧ Below W.heap.size W w') from Top_one lt.high s 10 W ((HSI.out.below htr.bel).below hb) (by decide) (by have := HOK.out.ship.light.2.2; unfold isPart at this; unfold RgOk; dsimp only at *; omega))
      rw [HVS.out] at CO1 CO2 CO3
      have HLT := Lib.hid (show (⟨oneR lt.mass s.xs 8, oneR lt.along s.xs 9, oneR lt.high s.xs 10⟩ : Wt) = wtT s.xs lt from rfl)
      generalize oneR lt.mass s.xs 8 = r1 at CO1 HLT
      generalize oneR lt.along s.xs 9 = r2 at CO2 HLT
      generalize oneR lt.high s.xs 10 = r3 at CO3 HLT
      have c9 := htr.p2.cell 9
      have c10 := htr.p2.cell 10
      have c11 := htr.p2.cell 11
      have c12 := htr.p2.cell 12
      have c13 := htr.p2.cell 13
      have c14 := htr.p2.cell 14
      simp at c9 c10 c11 c12 c13 c14
      have l2 := Soft.LtH.mk (b := w.heap.size + 2) (w := wr) htr.p2.lt
      have l3 := Soft.LtH.mk (b := w.heap.size + 3) (w := wr) htr.out.lt
      have HTR := Lib.hid htr; have HALL := Lib.hid hall; have HARM := Lib.hid harm; have HQT := Lib.hid hq; have HCN := Lib.hid hC
      clear htr hall harm hq hC hlt hk
      go_wp2_with fail
      ((refine Soft.region_mix [(true, 0), (true, 1), (true, 2), (true, 3), (true, 5), (true, 6), (true, 7), (true, 8), (true, 10), (true, 11), (true, 12), (true, 13), (false, 4), (false, 9), (false, 14), (true, 15), (true, 16), (true, 17)] [18] (by kernel_rfl) (by kernel_rfl) (by kernel_rfl) (by kernel_rfl) ?_; change Soft.wpMix _ _ _ _ [(true, _), (true, _), (true, _), (true, _), (true, _), (true, _), (true, _), (true, _), (true, _), (true, _), (true, _), (true, _), (false, _), (false, _), (false, _), (true, _), (true, _), (true, _)] _ _); (refine Soft.mix_q (fun K hK => ?_); go_simp; (try go_bits); first | (refine hK _ ?_; clear hK K) | (apply Exists.intro; refine ⟨fun x => ?_, hK _ ?_⟩; fail)); (refine Soft.mix_q (fun K hK => ?_); go_simp; (try go_bits); first | (refine hK _ ?_; clear hK K) | (apply Exists.intro; refine ⟨fun x => ?_, hK _ ?_⟩; fail)); (refine Soft.mix_q (fun K hK => ?_); go_simp; (try go_bits); first | (refine hK _ ?_; clear hK K) | (apply Exists.intro; refine ⟨fun x => ?_, hK _ ?_⟩; fail)); (refine Soft.mix_q (fun K hK => ?_); go_simp; (try go_bits); first | (refine hK _ ?_; clear hK K) | (apply Exists.intro; refine ⟨fun x => ?_, hK _ ?_⟩; fail)); (refine Soft.mix_q (fun K hK => ?_); go_simp; (try go_bits); first | (refine hK _ ?_; clear hK K) | (apply Exists.intro; refine ⟨fun x => ?_, hK _ ?_⟩; fail)); (refine Soft.mix_q (fun K hK => ?_); go_simp; (try go_bits); first | (refine hK _ ?_; clear hK K) | (apply Exists.intro; refine ⟨fun x => ?_, hK _ ?_⟩; fail)); (refine Soft.mix_q (fun K hK => ?_); go_simp; (try go_bits); first | (refine hK _ ?_; clear hK K) | (apply Exists.intro; refine ⟨fun x => ?_, hK _ ?_⟩; fail)); (refine Soft.mix_q (fun K hK => ?_); go_simp; (try go_bits); first | (refine hK _ ?_; clear hK K) | (apply Exists.intro; refine ⟨fun x => ?_, hK _ ?_⟩; fail)); (refine Soft.mix_q (fun K hK => ?_); go_simp; (try go_bits); first | (refine hK _ ?_; clear hK K) | (apply Exists.intro; refine ⟨fun x => ?_, hK _ ?_⟩; fail)); (refine Soft.mix_q (fun K hK => ?_); go_simp; (try go_bits); first | (refine hK _ ?_; clear hK K) | (apply Exists.intro; refine ⟨fun x => ?_, hK _ ?_⟩; fail)); (refine Soft.mix_q (fun K hK => ?_); go_simp; (try go_bits); first | (refine hK _ ?_; clear hK K) | (apply Exists.intro; refine ⟨fun x => ?_, hK _ ?_⟩; fail)); (refine Soft.mix_q (fun K hK => ?_); go_simp; (try go_bits); first | (refine hK _ ?_; clear hK K) | (apply Exists.intro; refine ⟨fun x => ?_, hK _ ?_⟩; fail)); (refine Soft.mix_c (fun K hK => ?_); go_simp; (try go_bits); ((go_at_call 9; (with_reducible refine (CO1.out _ (by (with_reducible repeat (first | exact blr _ | refine bla ?_ _ | refine blw _ ?_ | refine bld ?_ | refine bln _ ?_ | refine bls ?_ _ | refine blt ?_)))).mono ?_); rintro e w_ ⟨rfl, hb_⟩; obtain ⟨o1, rfl⟩ := Soft.BW.mk hb_; clear hb_; refine ⟨_, rfl, (by first | with_reducible exact Soft.BW.below o1 | simpa using Soft.BW.below o1), hK _ _ ?_⟩)); clear hK K); (refine Soft.mix_c (fun K hK => ?_); go_simp; (try go_bits); ((go_at_call 9; (with_reducible refine (CO2.out _ (by (with_reducible repeat (first | exact blr _ | refine bla ?_ _ | refine blw _ ?_ | refine bld ?_ | refine bln _ ?_ | refine bls ?_ _ | refine blt ?_)))).mono ?_); rintro e w_ ⟨rfl, hb_⟩; obtain ⟨o2, rfl⟩ := Soft.BW.mk hb_; clear hb_; refine ⟨_, rfl, (by first | with_reducible exact Soft.BW.below o2 | simpa using Soft.BW.below o2), hK _ _ ?_⟩)); clear hK K); (refine Soft.mix_c (fun K hK => ?_); go_simp; (try go_bits); ((go_at_call 9; (with_reducible refine (CO3.out _ (by (with_reducible repeat (first | exact blr _ | refine bla ?_ _ | refine blw _ ?_ | refine bld ?_ | refine bln _ ?_ | refine bls ?_ _ | refine blt ?_)))).mono ?_); rintro e w_ ⟨rfl, hb_⟩; obtain ⟨o3, rfl⟩ := Soft.BW.mk hb_; clear hb_; refine ⟨_, rfl, (by first | with_reducible exact Soft.BW.below o3 | simpa using Soft.BW.below o3), hK _ _ ?_⟩)); clear hK K); (refine Soft.mix_q (fun K hK => ?_); go_simp; (try go_bits); first | (refine hK _ ?_; clear hK K) | (apply Exists.intro; refine ⟨fun x => ?_, hK _ ?_⟩; fail)); (refine Soft.mix_q (fun K hK => ?_); go_simp; (try go_bits); first | (refine hK _ ?_; clear hK K) | (apply Exists.intro; refine ⟨fun x => ?_, hK _ ?_⟩; fail)); (refine Soft.mix_q (fun K hK => ?_); go_simp; (try go_bits); first | (refine hK _ ?_; clear hK K) | (apply Exists.intro; refine ⟨fun x => ?_, hK _ ?_⟩; fail)); (refine Soft.mix_nil ?_; intro hbx; change wpList _ _ _ [_] _ _))
      have hY : Below wr.heap.size wr o3.w := by (with_reducible repeat (first | exact blr _ | refine bla ?_ _ | refine blw _ ?_ | refine bld ?_ | refine bln _ ?_ | refine bls ?_ _ | refine blt ?_))
      have HT := (HTR.out.call hY).row #[.int .i64 len, .slice q1.p q1.n q1.c, .slice q2.p q2.n q2.c, .slice q3.p q3.n q3.c, .slice q4.p q4.n q4.c, .slice q5.p q5.n q5.c, v, .slice q6.p q6.n q6.c, .slice q7.p q7.n q7.c, .int .i64 r1.lo, .int .i64 r1.hi, .int .i64 r2.lo, .int .i64 r2.hi, .int .i64 r3.lo, .int .i64 r3.hi, .slice none 0 0, .slice none 0 0, .slice none 0 0, .slice none 0 0, .int .i64 most]
      refine wpList_store_part rfl 29 (.tmp 96) (.tmp 94) rfl (w.heap.size + 3) 9 #[.int .i64 r1.lo, .int .i64 r1.hi, .int .i64 r2.lo, .int .i64 r2.hi, .int .i64 r3.lo, .int .i64 r3.hi] rfl rfl 37 #[.int .i64 len, .slice q1.p q1.n q1.c, .slice q2.p q2.n q2.c, .slice q3.p q3.n q3.c, .slice q4.p q4.n q4.c, .slice q5.p q5.n q5.c, v, .slice q6.p q6.n q6.c, .slice q7.p q7.n q7.c, .int .i64 0, .int .i64 0, .int .i64 0, .int .i64 0, .int .i64 0, .int .i64 0, .slice none 0 0, .slice none 0 0, .slice none 0 0, .slice none 0 0, .int .i64 most] #[.int .i64 len, .slice q1.p q1.n q1.c, .slice q2.p q2.n q2.c, .slice q3.p q3.n q3.c, .slice q4.p q4.n q4.c, .slice q5.p q5.n q5.c, v, .slice q6.p q6.n q6.c, .slice q7.p q7.n q7.c, .int .i64 r1.lo, .int .i64 r1.hi, .int .i64 r2.lo, .int .i64 r2.hi, .int .i64 r3.lo, .int .i64 r3.hi, .slice none 0 0, .slice none 0 0, .slice none 0 0, .slice none 0 0, .int .i64 most] (HTR.out.out.below hY) (by kernel_rfl) (Nat.le_of_ble_eq_true rfl) (by kernel_rfl) rfl ?_
      have HTR := Lib.hid HT
      have HF := Lib.hid (⟨HALL.out, HARM.out, HQT.out, HCN.out⟩ : _ ∧ _ ∧ _ ∧ _)
      clear HT hY hbx c9 c10 c11 c12 c13 c14 l2 l3 CO1 CO2 CO3
      rename Act → World → Prop => Kx
      rename ∀ (a : Act) (w_1 : World), Code.wp _ _ _ a w_1 → Kx a w_1 => hk_
      refine hk_ _ _ ?_
      obtain rfl := HVS.out
      have LOK := loadOk_of HOK.out.load
      dsimp only at LOK
      have e1 := HP.out.holds.1
      have e2 := HP.out.fills.1
      have e3 := HP.out.tanks.1
      have e4 := HP.out.levels.1
      have e5 := HP.out.ship.cross.1
      dsimp only at e1 e2 e3 e4 e5
      have nv := own_one (HTR.out.heap.own 0 _ rfl)
      refine truth_holds HSI (Lib.hid HP.out.holds) (Lib.hid HP.out.fills) (Lib.hid HP.out.tanks) (Lib.hid HP.out.levels) (by have := LOK.nh; omega) (by have := LOK.nf; omega) (by have := LOK.nt; omega) (by have := LOK.nl; omega) (Lib.hid fun k hk => fill_ok (LOK.h k (by omega))) (Lib.hid fun k hk => level_ok (LOK.t k (by omega))) (Lib.hid ?_) HTR ?_
      · simp only [List.all_toArray, List.all_cons, List.all_nil, Bool.and_true, Bool.and_eq_true]
        exact ⟨rfl, rfl, rfl, rfl, rfl, rfl, nv, rfl, rfl, rfl, rfl, rfl, rfl, rfl, rfl⟩
      · intro vh vf vt vl H F T L tabs2 w' t1 t2 t3 t4 t5 t6 t7 t8 t9 t10 t11 t12 t13
        obtain ⟨f1, f2, f3, f4⟩ := HF.out
        obtain ⟨g1, g2, g3, g4, g5, g6, g7⟩ := HES.out
        obtain ⟨sc, ec, xc, lc_, rc⟩ := rowsAt_own crC (fun _ => rfl) (t12.own 0 _ rfl)
        obtain ⟨sh, eh, xh, lh, rh⟩ := rowsAt_own hoC (fun _ => rfl) (t12.own 1 _ rfl)
        obtain ⟨sf, ef, xf, lf, rf⟩ := rowsAt_own fiC (fun _ => rfl) (t12.own 2 _ rfl)
        obtain ⟨st, et, xt, lt_, rt⟩ := rowsAt_own tkC (fun _ => rfl) (t12.own 3 _ rfl)
        obtain ⟨sl, el, xl, ll, rl⟩ := rowsAt_own lvC (fun _ => rfl) (t12.own 4 _ rfl)
        dsimp only at ec eh ef et el
        have tq : ∀ t ∈ [q1, q2, q3, q4, q5, q6, q7], t.At w' := fun t ht => (t12.tab t (t11 t (f3 t ht))).1
        refine ⟨⟨⟨len, q1, q2, q3, q4, q5, sc, q6, q7, ⟨r1, r2, r3⟩⟩, sh, sf, st, sl, most⟩, ?_, ⟨⟨rfl, g1, g2, g3, g4, g5, g6, g7, HLT.out, ?_, ?_⟩, rfl, ?_, ?_, ?_, ?_, ?_, ?_, ?_, ?_⟩, ⟨⟨tq _ (by simp), tq _ (by simp), tq _ (by simp), tq _ (by simp), tq _ (by simp), ⟨lc_, rc, ?_⟩, tq _ (by simp), tq _ (by simp)⟩, ⟨lh, rh, ?_⟩, ⟨lf, rf⟩, ⟨lt_, rt, ?_⟩, ⟨ll, rl⟩⟩, t13⟩
        · rw [ec, eh, ef, et, el]
        · show sc.xs.length = cx.length
          rw [xc, f4, e5]
        · intro i hi
          show CrT s.xs (crv cx i) i (crv sc.xs i)
          rw [xc]
          exact f1 i (by dsimp only at hi; omega)
        · show sh.xs.length = hx.length
          rw [xh, t1, e1]
        · show sf.xs.length = hx.length
          rw [xf, t2, e1]
        · show st.xs.length = tx.length
          rw [xt, t3, e3]
        · show sl.xs.length = tx.length
          rw [xl, t4, e3]
        · intro i hi
          show HoT s.xs (hv hx i) i (hv sh.xs i)
          rw [xh]
          exact t5 i (by dsimp only at hi; omega)
        · intro i hi
          show fiv sf.xs i = fiT s.xs (fiv fx i) i
          rw [xf]
          exact t6 i (by dsimp only at hi; omega)
        · intro i hi
          show TkT s.xs (tv tx i) i (tv st.xs i)
          rw [xt]
          exact t7 i (by dsimp only at hi; omega)
        · intro i hi
          show lv sl.xs i = lvT s.xs (lv lx i) i
          rw [xl]
          exact t8 i (by dsimp only at hi; omega)
        · intro i hi
          dsimp only at hi ⊢
          have hm : crv sc.xs i ∈ C := by
            rw [← xc, show crv sc.xs i = sc.xs[i]'(by omega) by show sc.xs[i]?.getD default = _; rw [List.getElem?_eq_getElem (show i < sc.xs.length by omega)]; rfl]
            exact List.getElem_mem _
          exact (t12.tab _ (t11 _ (f2 _ hm))).1
        · intro i hi
          dsimp only at hi ⊢
          have hm : hv sh.xs i ∈ H := by
            rw [← xh, show hv sh.xs i = sh.xs[i]'(by omega) by show sh.xs[i]?.getD default = _; rw [List.getElem?_eq_getElem (show i < sh.xs.length by omega)]; rfl]
            exact List.getElem_mem _
          obtain ⟨a1, a2, a3⟩ := t9 _ hm
          exact ⟨(t12.tab _ a1).1, (t12.tab _ a2).1, (t12.tab _ a3).1⟩
        · intro i hi
          dsimp only at hi ⊢
          have hm : tv st.xs i ∈ T := by
            rw [← xt, show tv st.xs i = st.xs[i]'(by omega) by show st.xs[i]?.getD default = _; rw [List.getElem?_eq_getElem (show i < st.xs.length by omega)]; rfl]
            exact List.getElem_mem _
          obtain ⟨a1, a2, a3⟩ := t10 _ hm
          exact ⟨(t12.tab _ a1).1, (t12.tab _ a2).1, (t12.tab _ a3).1⟩

end Go.Proofs.YteagdcgmmdiakaaGreat
