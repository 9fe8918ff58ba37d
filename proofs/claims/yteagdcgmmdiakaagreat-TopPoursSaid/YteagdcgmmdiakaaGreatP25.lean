/-
  hold: Pour, the ways that reach the inverse.
  Conditions: each theorem's own premises.
-/
import Derived.Test.YteagdcgmmdiakaaGreatP06
namespace Go.Proofs.YteagdcgmmdiakaaGreat
set_option linter.unusedSimpArgs false
set_option linter.unusedVariables false
open Go.RowKit
set_option maxRecDepth 100000
set_option maxHeartbeats 4000000
attribute [local go_sem] Instr.field asAgg Soft.upon Soft.BW.cell_if Soft.BW.frozen_if Soft.cell_alloc_if Soft.frozen_alloc_if


theorem pour_0no (h : Ho) (f : Fi) (m d v l : Rg) (uu : Rg × Bool) (w : World) (hh : h.At w) (hF : fillErr h f = 0) (hM : massErr m d = 0) (cl : ¬m.lo < 0) (hvb : ∀ b o, h.vol.p = some ⟨b, o, none⟩ → b < w.heap.size)
    (hv1 : 0 ≤ v.lo ∧ v.lo ≤ 1000000000 ∧ 0 ≤ v.hi ∧ v.hi ≤ 1000000000) (hl1 : -10000000000000000 ≤ l.lo ∧ l.lo ≤ 10000000000000000 ∧ -10000000000000000 ≤ l.hi ∧ l.hi ≤ 10000000000000000)
    (hVOL : ∀ W, h.At W → Calls Tryz.prog 27 #[.agg #[.int .i64 (h).id, .int .i64 ((h).along).lo, .int .i64 ((h).along).hi, .slice ((h).vol).p ((h).vol).n ((h).vol).c, .slice ((h).mom).p ((h).mom).n ((h).mom).c, .slice ((h).hei).p ((h).hei).n ((h).hei).c, .int .i64 ((h).tri).lo, .int .i64 ((h).tri).hi, .int .i64 ((h).unt).lo, .int .i64 ((h).unt).hi, .int .i64 ((h).v0).lo, .int .i64 ((h).v0).hi, .int .i64 ((h).h0).lo, .int .i64 ((h).h0).hi], .agg #[.int .i64 (f).hold, .int .i64 (f).state, .int .i64 ((f).ull).lo, .int .i64 ((f).ull).hi, .int .i64 ((f).den).lo, .int .i64 ((f).den).hi]] W fun e w' => e = .returned (.agg #[.int .i64 (v).lo, .int .i64 (v).hi]) ∧ Below W.heap.size W w')
    (hLIT : ∀ W, Calls Tryz.prog 28 #[.agg #[.int .i64 (m).lo, .int .i64 (m).hi], .agg #[.int .i64 (d).lo, .int .i64 (d).hi]] W fun e w' => e = .returned (.agg #[.int .i64 (l).lo, .int .i64 (l).hi]) ∧ Below W.heap.size W w')
    (hINV : ∀ W, h.vol.At W → Calls Tryz.prog 29 #[.agg #[.slice (h.vol).p (h.vol).n (h.vol).c], .agg #[.int .i64 (v.lo + l.lo), .int .i64 (v.hi + l.hi)], .int .i64 (-1)] W fun e w' => e = .returned (.tuple #[.agg #[.int .i64 (uu.1).lo, .int .i64 (uu.1).hi], .bool uu.2]) ∧ Below W.heap.size W w')
    (hs : f.state = 0) (hu : uu.2 = false) :
    Calls Tryz.prog 8 #[.agg #[.int .i64 (h).id, .int .i64 ((h).along).lo, .int .i64 ((h).along).hi, .slice ((h).vol).p ((h).vol).n ((h).vol).c, .slice ((h).mom).p ((h).mom).n ((h).mom).c, .slice ((h).hei).p ((h).hei).n ((h).hei).c, .int .i64 ((h).tri).lo, .int .i64 ((h).tri).hi, .int .i64 ((h).unt).lo, .int .i64 ((h).unt).hi, .int .i64 ((h).v0).lo, .int .i64 ((h).v0).hi, .int .i64 ((h).h0).lo, .int .i64 ((h).h0).hi], .agg #[.int .i64 (f).hold, .int .i64 (f).state, .int .i64 ((f).ull).lo, .int .i64 ((f).ull).hi, .int .i64 ((f).den).lo, .int .i64 ((f).den).hi], .agg #[.int .i64 (m).lo, .int .i64 (m).hi], .agg #[.int .i64 (d).lo, .int .i64 (d).hi]] w fun e w' => e = .returned (.tuple #[.agg #[.int .i64 ((zeroF : Fi)).hold, .int .i64 ((zeroF : Fi)).state, .int .i64 (((zeroF : Fi)).ull).lo, .int .i64 (((zeroF : Fi)).ull).hi, .int .i64 (((zeroF : Fi)).den).lo, .int .i64 (((zeroF : Fi)).den).hi], .int .i64 24]) ∧ Below w.heap.size w w' := by
  have hv := hh.1
  have dF : (fillErr h f != 0) = false := by rw [hF]; rfl
  have dM : (massErr m d != 0) = false := by rw [hM]; rfl
  have hvb := Lib.hid hvb; have HVOL := Lib.hid hVOL; have HLIT := Lib.hid hLIT; have HINV := Lib.hid hINV
  obtain ⟨a1, a2, a3, a4⟩ := hv1
  obtain ⟨b1, b2, b3, b4⟩ := hl1
  obtain ⟨⟨ul, uh⟩, ub⟩ := uu
  obtain ⟨vl, vh⟩ := v
  obtain ⟨ll, lh⟩ := l
  dsimp only at *
  have d0 : (f.state == 0) = true := by rw [hs]; rfl
  have HS := Lib.hid (show stIs f.state true false false (.func (.func 134) #[] #[]) from .inl ⟨hs, rfl, rfl, rfl, rfl⟩)
  clear hs
  subst hu
  clear hF hM hVOL hLIT hINV
  go_enter Tryz.func8, Tryz.ntmps8
  go_wp2_with (first | (go_at_call 24; (with_reducible refine (hold_CheckFill h f _ (by with_reducible repeat (first | exact hh | refine Ho.At.alloc ?_ _ | refine Ho.At.bw ?_ _ | refine Tk.At.alloc ?_ _ | refine Tk.At.bw ?_ _))).mono ?_); rintro e w_ ⟨rfl, hb_⟩; obtain ⟨y1, rfl⟩ := Soft.BW.mk hb_; clear hb_) | (go_at_call 25; (with_reducible refine (hold_checkMass m d _).mono ?_); rintro e w_ ⟨rfl, hb_⟩; obtain ⟨y2, rfl⟩ := Soft.BW.mk hb_; clear hb_) | (go_at_call 26; (with_reducible refine (hold_stateOf f.state _ _ _ _ _ HS.out).mono ?_); rintro e w_ ⟨rfl, hb_⟩; obtain ⟨y3, rfl⟩ := Soft.BW.mk hb_; clear hb_))
  (refine Soft.region2 [0, 1, 2, 3, 4, 5] 6 7 [8, 9] _ _ (by kernel_rfl) (by kernel_rfl) (by kernel_rfl) rfl rfl rfl rfl (by kernel_rfl) ?_; change Soft.wpSoft _ _ _ _ _ [_, _, _, _, _, _] _; (repeat (refine Soft.soft_step (fun K hK => ?_); go_simp; (try go_bits); first | (refine hK _ ?_; clear hK K) | (apply Exists.intro; refine ⟨fun x => ?_, hK _ ?_⟩; (first | (go_at_call 27; exact HVOL.out _ (by with_reducible repeat (first | exact hh | refine Ho.At.alloc ?_ _ | refine Ho.At.bw ?_ _ | refine Tk.At.alloc ?_ _ | refine Tk.At.bw ?_ _))) | (go_at_call 28; exact HLIT.out _)); clear hK K))); refine Soft.soft_nil ?_)
  refine ⟨fun b => .pointer (some ⟨b, 0, none⟩), .cells #[.int .i64 0, .int .i64 0] 27, fun b => .pointer (some ⟨b, 0, none⟩), .cells #[.int .i64 0, .int .i64 0] 27, fun x => by go_simp, fun k x => by go_simp, fun ka kb x hne na nb => ?_⟩
  change wpList _ _ _ [_, _] _ _
  have ka0 := na.le
  have kb0 := nb.le
  have s1 := y1.below.size
  have s2 := y2.below.size
  have s3 := y3.below.size
  simp at ka0 kb0 s1
  have C0 : HasBlk x.w w.heap.size #[.int .i64 (h).id, .int .i64 ((h).along).lo, .int .i64 ((h).along).hi, .slice ((h).vol).p ((h).vol).n ((h).vol).c, .slice ((h).mom).p ((h).mom).n ((h).mom).c, .slice ((h).hei).p ((h).hei).n ((h).hei).c, .int .i64 ((h).tri).lo, .int .i64 ((h).tri).hi, .int .i64 ((h).unt).lo, .int .i64 ((h).unt).hi, .int .i64 ((h).v0).lo, .int .i64 ((h).v0).hi, .int .i64 ((h).h0).lo, .int .i64 ((h).h0).hi] 49 := (by simp only [HasBlk, Soft.BW.heap_if, Soft.heap_alloc_if, Soft.heap_new, Soft.heap_new1, Soft.heap_new2, Soft.heap_new3, Soft.heap_new4, Soft.heap_new5])
  have C1 : HasBlk x.w (w.heap.size + 1) #[.int .i64 (f).hold, .int .i64 (f).state, .int .i64 ((f).ull).lo, .int .i64 ((f).ull).hi, .int .i64 ((f).den).lo, .int .i64 ((f).den).hi] 44 := (by simp only [HasBlk, Soft.BW.heap_if, Soft.heap_alloc_if, Soft.heap_new, Soft.heap_new1, Soft.heap_new2, Soft.heap_new3, Soft.heap_new4, Soft.heap_new5])
  have C3 : HasBlk x.w (w.heap.size + 1 + 1 + 1) #[.int .i64 (d).lo, .int .i64 (d).hi] 27 := (by simp only [HasBlk, Soft.BW.heap_if, Soft.heap_alloc_if, Soft.heap_new, Soft.heap_new1, Soft.heap_new2, Soft.heap_new3, Soft.heap_new4, Soft.heap_new5])
  have C4 : HasBlk x.w (w.heap.size + 1 + 1 + 1 + 1) #[.int .i64 0, .int .i64 0, .int .i64 0, .int .i64 0, .int .i64 0, .int .i64 0] 44 := (by simp only [HasBlk, Soft.BW.heap_if, Soft.heap_alloc_if, Soft.heap_new, Soft.heap_new1, Soft.heap_new2, Soft.heap_new3, Soft.heap_new4, Soft.heap_new5])
  have CA := na.at_
  have CB := nb.at_
  have CV : h.vol.At x.w := (by repeat (first | exact hv | refine Tb.At.alloc ?_ _ | refine Tb.At.bw ?_ _))
  have CE : Below w.heap.size w x.w := by (repeat (first | with_reducible exact bel_refl _ | with_reducible refine bel_alloc ?_ _ | with_reducible refine bel_bw _ ?_ | with_reducible refine bel_drew ?_ | with_reducible refine bel_drewN _ ?_ | ((with_reducible refine bel_set ?_ ?_ _); rotate_left; focus (first | (simp; done) | omega | (simp; omega))) | refine bel_step ?_ (by with_reducible assumption)))
  have X0 := Lib.hid C0; have X1 := Lib.hid C1; have X3 := Lib.hid C3; have X4 := Lib.hid C4; have XA := Lib.hid CA; have XB := Lib.hid CB; have XV := Lib.hid CV; have XE := Lib.hid CE
  clear C0 C1 C3 C4 CA CB CV CE na nb
  have n1 : ¬(ka = w.heap.size) := by omega
  have n2 : ¬(ka = w.heap.size + 1) := by omega
  have n3 : ¬(ka = w.heap.size + 1 + 1 + 1) := by omega
  have n4 : ¬(ka = w.heap.size + 1 + 1 + 1 + 1) := by omega
  refine wpList_store_row rfl 27 _ _ rfl ka _ rfl rfl 27 _ XA.out (by kernel_rfl) rfl (by kernel_rfl) ?_
  refine wpList_store_row rfl 27 _ _ rfl kb _ rfl rfl 27 _ (HasBlk.rowx XB.out (Ne.symm hne) _) (by kernel_rfl) rfl (by kernel_rfl) ?_
  have D0 := HasBlk.rowx (HasBlk.rowx X0.out (show w.heap.size ≠ ka by omega) #[.int .i64 vl, .int .i64 vh]) (show w.heap.size ≠ kb by omega) #[.int .i64 ll, .int .i64 lh]
  have D1 := HasBlk.rowx (HasBlk.rowx X1.out (show w.heap.size + 1 ≠ ka by omega) #[.int .i64 vl, .int .i64 vh]) (show w.heap.size + 1 ≠ kb by omega) #[.int .i64 ll, .int .i64 lh]
  have D3 := HasBlk.rowx (HasBlk.rowx X3.out (show w.heap.size + 1 + 1 + 1 ≠ ka by omega) #[.int .i64 vl, .int .i64 vh]) (show w.heap.size + 1 + 1 + 1 ≠ kb by omega) #[.int .i64 ll, .int .i64 lh]
  have D4 := HasBlk.rowx (HasBlk.rowx X4.out (show w.heap.size + 1 + 1 + 1 + 1 ≠ ka by omega) #[.int .i64 vl, .int .i64 vh]) (show w.heap.size + 1 + 1 + 1 + 1 ≠ kb by omega) #[.int .i64 ll, .int .i64 lh]
  have DA : HasBlk ((x.w.setRow ka #[.int .i64 vl, .int .i64 vh]).setRow kb #[.int .i64 ll, .int .i64 lh]) ka #[.int .i64 vl, .int .i64 vh] 27 := HasBlk.rowx (setRow_heap _ _ _ _ _ _ XA.out) hne _
  have DB : HasBlk ((x.w.setRow ka #[.int .i64 vl, .int .i64 vh]).setRow kb #[.int .i64 ll, .int .i64 lh]) kb #[.int .i64 ll, .int .i64 lh] 27 := setRow_heap _ _ _ _ _ _ (HasBlk.rowx XB.out (Ne.symm hne) _)
  have DV := Tb.At.rowx (Tb.At.rowx XV.out (g := ka) (fun b o e => by have := hvb.out b o e; omega) #[.int .i64 vl, .int .i64 vh]) (g := kb) (fun b o e => by have := hvb.out b o e; omega) #[.int .i64 ll, .int .i64 lh]
  have DE := below_setRow (g := kb) (below_setRow (g := ka) XE.out (by omega) #[.int .i64 vl, .int .i64 vh]) (by omega) #[.int .i64 ll, .int .i64 lh]
  generalize (x.w.setRow ka #[.int .i64 vl, .int .i64 vh]).setRow kb #[.int .i64 ll, .int .i64 lh] = W1 at *
  have i0 := Soft.LtH.mk (w := W1) D0.lt
  have i1 := Soft.LtH.mk (w := W1) D1.lt
  have i3 := Soft.LtH.mk (w := W1) D3.lt
  have i4 := Soft.LtH.mk (w := W1) D4.lt
  have iA := Soft.LtH.mk (w := W1) DA.lt
  have iB := Soft.LtH.mk (w := W1) DB.lt
  have c03 := D0.cell 3
  have c10 := D1.cell 0
  have c13 := D1.cell 3
  have c14 := D1.cell 4
  have c15 := D1.cell 5
  have c30 := D3.cell 0
  have c31 := D3.cell 1
  have c40 := D4.cell 0
  have c41 := D4.cell 1
  have c42 := D4.cell 2
  have c43 := D4.cell 3
  have c44 := D4.cell 4
  have c45 := D4.cell 5
  have f40 := D4.frozen 0
  have f41 := D4.frozen 1
  have f42 := D4.frozen 2
  have f43 := D4.frozen 3
  have f44 := D4.frozen 4
  have f45 := D4.frozen 5
  have cA0 := DA.cell 0
  have cA1 := DA.cell 1
  have cB0 := DB.cell 0
  have cB1 := DB.cell 1
  simp at c03 c10 c13 c14 c15 c30 c31 c40 c41 c42 c43 c44 c45 cA0 cA1 cB0 cB1
  have BB := Lib.hid DE; have BV := Lib.hid DV
  clear D0 D1 D3 D4 DA DB DV DE X0 X1 X3 X4 XA XB XV XE
  go_wp2_with (first | (go_at_call 29; (with_reducible refine (HINV.out _ (by repeat (first | exact BV.out | refine Tb.At.alloc ?_ _ | refine Tb.At.bw ?_ _))).mono ?_); rintro e w_ ⟨rfl, hb_⟩; obtain ⟨y5, rfl⟩ := Soft.BW.mk hb_; clear hb_) | (go_at_call 30; (with_reducible refine (hold_hull d f.den _).mono ?_); rintro e w_ ⟨rfl, hb_⟩; obtain ⟨y6, rfl⟩ := Soft.BW.mk hb_; clear hb_))
  all_goals
    refine bodyPost_ret (v := .tuple #[.agg #[.int .i64 ((zeroF : Fi)).hold, .int .i64 ((zeroF : Fi)).state, .int .i64 (((zeroF : Fi)).ull).lo, .int .i64 (((zeroF : Fi)).ull).hi, .int .i64 (((zeroF : Fi)).den).lo, .int .i64 (((zeroF : Fi)).den).hi], .int .i64 24]) (by simp [results, Tryz.results8, go_sem, zeroF, c40, c41, c42, c43, c44, c45, f40, f41, f42, f43, f44, f45]) rfl ?_
    refine ⟨rfl, ?_⟩
    (repeat (first | with_reducible exact bel_refl _ | with_reducible refine bel_alloc ?_ _ | with_reducible refine bel_bw _ ?_ | with_reducible refine bel_drew ?_ | with_reducible refine bel_drewN _ ?_ | ((with_reducible refine bel_set ?_ ?_ _); rotate_left; focus (first | (simp; done) | omega | (simp; omega))) | refine bel_step ?_ (by with_reducible assumption)))
    exact BB.out

theorem pour_0yes (h : Ho) (f : Fi) (m d v l : Rg) (uu : Rg × Bool) (w : World) (hh : h.At w) (hF : fillErr h f = 0) (hM : massErr m d = 0) (cl : ¬m.lo < 0) (hvb : ∀ b o, h.vol.p = some ⟨b, o, none⟩ → b < w.heap.size)
    (hv1 : 0 ≤ v.lo ∧ v.lo ≤ 1000000000 ∧ 0 ≤ v.hi ∧ v.hi ≤ 1000000000) (hl1 : -10000000000000000 ≤ l.lo ∧ l.lo ≤ 10000000000000000 ∧ -10000000000000000 ≤ l.hi ∧ l.hi ≤ 10000000000000000)
    (hVOL : ∀ W, h.At W → Calls Tryz.prog 27 #[.agg #[.int .i64 (h).id, .int .i64 ((h).along).lo, .int .i64 ((h).along).hi, .slice ((h).vol).p ((h).vol).n ((h).vol).c, .slice ((h).mom).p ((h).mom).n ((h).mom).c, .slice ((h).hei).p ((h).hei).n ((h).hei).c, .int .i64 ((h).tri).lo, .int .i64 ((h).tri).hi, .int .i64 ((h).unt).lo, .int .i64 ((h).unt).hi, .int .i64 ((h).v0).lo, .int .i64 ((h).v0).hi, .int .i64 ((h).h0).lo, .int .i64 ((h).h0).hi], .agg #[.int .i64 (f).hold, .int .i64 (f).state, .int .i64 ((f).ull).lo, .int .i64 ((f).ull).hi, .int .i64 ((f).den).lo, .int .i64 ((f).den).hi]] W fun e w' => e = .returned (.agg #[.int .i64 (v).lo, .int .i64 (v).hi]) ∧ Below W.heap.size W w')
    (hLIT : ∀ W, Calls Tryz.prog 28 #[.agg #[.int .i64 (m).lo, .int .i64 (m).hi], .agg #[.int .i64 (d).lo, .int .i64 (d).hi]] W fun e w' => e = .returned (.agg #[.int .i64 (l).lo, .int .i64 (l).hi]) ∧ Below W.heap.size W w')
    (hINV : ∀ W, h.vol.At W → Calls Tryz.prog 29 #[.agg #[.slice (h.vol).p (h.vol).n (h.vol).c], .agg #[.int .i64 (v.lo + l.lo), .int .i64 (v.hi + l.hi)], .int .i64 (-1)] W fun e w' => e = .returned (.tuple #[.agg #[.int .i64 (uu.1).lo, .int .i64 (uu.1).hi], .bool uu.2]) ∧ Below W.heap.size W w')
    (hs : f.state = 0) (hu : uu.2 = true) :
    Calls Tryz.prog 8 #[.agg #[.int .i64 (h).id, .int .i64 ((h).along).lo, .int .i64 ((h).along).hi, .slice ((h).vol).p ((h).vol).n ((h).vol).c, .slice ((h).mom).p ((h).mom).n ((h).mom).c, .slice ((h).hei).p ((h).hei).n ((h).hei).c, .int .i64 ((h).tri).lo, .int .i64 ((h).tri).hi, .int .i64 ((h).unt).lo, .int .i64 ((h).unt).hi, .int .i64 ((h).v0).lo, .int .i64 ((h).v0).hi, .int .i64 ((h).h0).lo, .int .i64 ((h).h0).hi], .agg #[.int .i64 (f).hold, .int .i64 (f).state, .int .i64 ((f).ull).lo, .int .i64 ((f).ull).hi, .int .i64 ((f).den).lo, .int .i64 ((f).den).hi], .agg #[.int .i64 (m).lo, .int .i64 (m).hi], .agg #[.int .i64 (d).lo, .int .i64 (d).hi]] w fun e w' => e = .returned (.tuple #[.agg #[.int .i64 ((⟨f.hold, 3, uu.1, d⟩ : Fi)).hold, .int .i64 ((⟨f.hold, 3, uu.1, d⟩ : Fi)).state, .int .i64 (((⟨f.hold, 3, uu.1, d⟩ : Fi)).ull).lo, .int .i64 (((⟨f.hold, 3, uu.1, d⟩ : Fi)).ull).hi, .int .i64 (((⟨f.hold, 3, uu.1, d⟩ : Fi)).den).lo, .int .i64 (((⟨f.hold, 3, uu.1, d⟩ : Fi)).den).hi], .int .i64 0]) ∧ Below w.heap.size w w' := by
  have hv := hh.1
  have dF : (fillErr h f != 0) = false := by rw [hF]; rfl
  have dM : (massErr m d != 0) = false := by rw [hM]; rfl
  have hvb := Lib.hid hvb; have HVOL := Lib.hid hVOL; have HLIT := Lib.hid hLIT; have HINV := Lib.hid hINV
  obtain ⟨a1, a2, a3, a4⟩ := hv1
  obtain ⟨b1, b2, b3, b4⟩ := hl1
  obtain ⟨⟨ul, uh⟩, ub⟩ := uu
  obtain ⟨vl, vh⟩ := v
  obtain ⟨ll, lh⟩ := l
  dsimp only at *
  have d0 : (f.state == 0) = true := by rw [hs]; rfl
  have HS := Lib.hid (show stIs f.state true false false (.func (.func 134) #[] #[]) from .inl ⟨hs, rfl, rfl, rfl, rfl⟩)
  clear hs
  subst hu
  clear hF hM hVOL hLIT hINV
  go_enter Tryz.func8, Tryz.ntmps8
  go_wp2_with (first | (go_at_call 24; (with_reducible refine (hold_CheckFill h f _ (by with_reducible repeat (first | exact hh | refine Ho.At.alloc ?_ _ | refine Ho.At.bw ?_ _ | refine Tk.At.alloc ?_ _ | refine Tk.At.bw ?_ _))).mono ?_); rintro e w_ ⟨rfl, hb_⟩; obtain ⟨y1, rfl⟩ := Soft.BW.mk hb_; clear hb_) | (go_at_call 25; (with_reducible refine (hold_checkMass m d _).mono ?_); rintro e w_ ⟨rfl, hb_⟩; obtain ⟨y2, rfl⟩ := Soft.BW.mk hb_; clear hb_) | (go_at_call 26; (with_reducible refine (hold_stateOf f.state _ _ _ _ _ HS.out).mono ?_); rintro e w_ ⟨rfl, hb_⟩; obtain ⟨y3, rfl⟩ := Soft.BW.mk hb_; clear hb_))
  (refine Soft.region2 [0, 1, 2, 3, 4, 5] 6 7 [8, 9] _ _ (by kernel_rfl) (by kernel_rfl) (by kernel_rfl) rfl rfl rfl rfl (by kernel_rfl) ?_; change Soft.wpSoft _ _ _ _ _ [_, _, _, _, _, _] _; (repeat (refine Soft.soft_step (fun K hK => ?_); go_simp; (try go_bits); first | (refine hK _ ?_; clear hK K) | (apply Exists.intro; refine ⟨fun x => ?_, hK _ ?_⟩; (first | (go_at_call 27; exact HVOL.out _ (by with_reducible repeat (first | exact hh | refine Ho.At.alloc ?_ _ | refine Ho.At.bw ?_ _ | refine Tk.At.alloc ?_ _ | refine Tk.At.bw ?_ _))) | (go_at_call 28; exact HLIT.out _)); clear hK K))); refine Soft.soft_nil ?_)
  refine ⟨fun b => .pointer (some ⟨b, 0, none⟩), .cells #[.int .i64 0, .int .i64 0] 27, fun b => .pointer (some ⟨b, 0, none⟩), .cells #[.int .i64 0, .int .i64 0] 27, fun x => by go_simp, fun k x => by go_simp, fun ka kb x hne na nb => ?_⟩
  change wpList _ _ _ [_, _] _ _
  have ka0 := na.le
  have kb0 := nb.le
  have s1 := y1.below.size
  have s2 := y2.below.size
  have s3 := y3.below.size
  simp at ka0 kb0 s1
  have C0 : HasBlk x.w w.heap.size #[.int .i64 (h).id, .int .i64 ((h).along).lo, .int .i64 ((h).along).hi, .slice ((h).vol).p ((h).vol).n ((h).vol).c, .slice ((h).mom).p ((h).mom).n ((h).mom).c, .slice ((h).hei).p ((h).hei).n ((h).hei).c, .int .i64 ((h).tri).lo, .int .i64 ((h).tri).hi, .int .i64 ((h).unt).lo, .int .i64 ((h).unt).hi, .int .i64 ((h).v0).lo, .int .i64 ((h).v0).hi, .int .i64 ((h).h0).lo, .int .i64 ((h).h0).hi] 49 := (by simp only [HasBlk, Soft.BW.heap_if, Soft.heap_alloc_if, Soft.heap_new, Soft.heap_new1, Soft.heap_new2, Soft.heap_new3, Soft.heap_new4, Soft.heap_new5])
  have C1 : HasBlk x.w (w.heap.size + 1) #[.int .i64 (f).hold, .int .i64 (f).state, .int .i64 ((f).ull).lo, .int .i64 ((f).ull).hi, .int .i64 ((f).den).lo, .int .i64 ((f).den).hi] 44 := (by simp only [HasBlk, Soft.BW.heap_if, Soft.heap_alloc_if, Soft.heap_new, Soft.heap_new1, Soft.heap_new2, Soft.heap_new3, Soft.heap_new4, Soft.heap_new5])
  have C3 : HasBlk x.w (w.heap.size + 1 + 1 + 1) #[.int .i64 (d).lo, .int .i64 (d).hi] 27 := (by simp only [HasBlk, Soft.BW.heap_if, Soft.heap_alloc_if, Soft.heap_new, Soft.heap_new1, Soft.heap_new2, Soft.heap_new3, Soft.heap_new4, Soft.heap_new5])
  have C4 : HasBlk x.w (w.heap.size + 1 + 1 + 1 + 1) #[.int .i64 0, .int .i64 0, .int .i64 0, .int .i64 0, .int .i64 0, .int .i64 0] 44 := (by simp only [HasBlk, Soft.BW.heap_if, Soft.heap_alloc_if, Soft.heap_new, Soft.heap_new1, Soft.heap_new2, Soft.heap_new3, Soft.heap_new4, Soft.heap_new5])
  have CA := na.at_
  have CB := nb.at_
  have CV : h.vol.At x.w := (by repeat (first | exact hv | refine Tb.At.alloc ?_ _ | refine Tb.At.bw ?_ _))
  have CE : Below w.heap.size w x.w := by (repeat (first | with_reducible exact bel_refl _ | with_reducible refine bel_alloc ?_ _ | with_reducible refine bel_bw _ ?_ | with_reducible refine bel_drew ?_ | with_reducible refine bel_drewN _ ?_ | ((with_reducible refine bel_set ?_ ?_ _); rotate_left; focus (first | (simp; done) | omega | (simp; omega))) | refine bel_step ?_ (by with_reducible assumption)))
  have X0 := Lib.hid C0; have X1 := Lib.hid C1; have X3 := Lib.hid C3; have X4 := Lib.hid C4; have XA := Lib.hid CA; have XB := Lib.hid CB; have XV := Lib.hid CV; have XE := Lib.hid CE
  clear C0 C1 C3 C4 CA CB CV CE na nb
  have n1 : ¬(ka = w.heap.size) := by omega
  have n2 : ¬(ka = w.heap.size + 1) := by omega
  have n3 : ¬(ka = w.heap.size + 1 + 1 + 1) := by omega
  have n4 : ¬(ka = w.heap.size + 1 + 1 + 1 + 1) := by omega
  refine wpList_store_row rfl 27 _ _ rfl ka _ rfl rfl 27 _ XA.out (by kernel_rfl) rfl (by kernel_rfl) ?_
  refine wpList_store_row rfl 27 _ _ rfl kb _ rfl rfl 27 _ (HasBlk.rowx XB.out (Ne.symm hne) _) (by kernel_rfl) rfl (by kernel_rfl) ?_
  have D0 := HasBlk.rowx (HasBlk.rowx X0.out (show w.heap.size ≠ ka by omega) #[.int .i64 vl, .int .i64 vh]) (show w.heap.size ≠ kb by omega) #[.int .i64 ll, .int .i64 lh]
  have D1 := HasBlk.rowx (HasBlk.rowx X1.out (show w.heap.size + 1 ≠ ka by omega) #[.int .i64 vl, .int .i64 vh]) (show w.heap.size + 1 ≠ kb by omega) #[.int .i64 ll, .int .i64 lh]
  have D3 := HasBlk.rowx (HasBlk.rowx X3.out (show w.heap.size + 1 + 1 + 1 ≠ ka by omega) #[.int .i64 vl, .int .i64 vh]) (show w.heap.size + 1 + 1 + 1 ≠ kb by omega) #[.int .i64 ll, .int .i64 lh]
  have D4 := HasBlk.rowx (HasBlk.rowx X4.out (show w.heap.size + 1 + 1 + 1 + 1 ≠ ka by omega) #[.int .i64 vl, .int .i64 vh]) (show w.heap.size + 1 + 1 + 1 + 1 ≠ kb by omega) #[.int .i64 ll, .int .i64 lh]
  have DA : HasBlk ((x.w.setRow ka #[.int .i64 vl, .int .i64 vh]).setRow kb #[.int .i64 ll, .int .i64 lh]) ka #[.int .i64 vl, .int .i64 vh] 27 := HasBlk.rowx (setRow_heap _ _ _ _ _ _ XA.out) hne _
  have DB : HasBlk ((x.w.setRow ka #[.int .i64 vl, .int .i64 vh]).setRow kb #[.int .i64 ll, .int .i64 lh]) kb #[.int .i64 ll, .int .i64 lh] 27 := setRow_heap _ _ _ _ _ _ (HasBlk.rowx XB.out (Ne.symm hne) _)
  have DV := Tb.At.rowx (Tb.At.rowx XV.out (g := ka) (fun b o e => by have := hvb.out b o e; omega) #[.int .i64 vl, .int .i64 vh]) (g := kb) (fun b o e => by have := hvb.out b o e; omega) #[.int .i64 ll, .int .i64 lh]
  have DE := below_setRow (g := kb) (below_setRow (g := ka) XE.out (by omega) #[.int .i64 vl, .int .i64 vh]) (by omega) #[.int .i64 ll, .int .i64 lh]
  generalize (x.w.setRow ka #[.int .i64 vl, .int .i64 vh]).setRow kb #[.int .i64 ll, .int .i64 lh] = W1 at *
  have i0 := Soft.LtH.mk (w := W1) D0.lt
  have i1 := Soft.LtH.mk (w := W1) D1.lt
  have i3 := Soft.LtH.mk (w := W1) D3.lt
  have i4 := Soft.LtH.mk (w := W1) D4.lt
  have iA := Soft.LtH.mk (w := W1) DA.lt
  have iB := Soft.LtH.mk (w := W1) DB.lt
  have c03 := D0.cell 3
  have c10 := D1.cell 0
  have c13 := D1.cell 3
  have c14 := D1.cell 4
  have c15 := D1.cell 5
  have c30 := D3.cell 0
  have c31 := D3.cell 1
  have c40 := D4.cell 0
  have c41 := D4.cell 1
  have c42 := D4.cell 2
  have c43 := D4.cell 3
  have c44 := D4.cell 4
  have c45 := D4.cell 5
  have f40 := D4.frozen 0
  have f41 := D4.frozen 1
  have f42 := D4.frozen 2
  have f43 := D4.frozen 3
  have f44 := D4.frozen 4
  have f45 := D4.frozen 5
  have cA0 := DA.cell 0
  have cA1 := DA.cell 1
  have cB0 := DB.cell 0
  have cB1 := DB.cell 1
  simp at c03 c10 c13 c14 c15 c30 c31 c40 c41 c42 c43 c44 c45 cA0 cA1 cB0 cB1
  have BB := Lib.hid DE; have BV := Lib.hid DV
  clear D0 D1 D3 D4 DA DB DV DE X0 X1 X3 X4 XA XB XV XE
  go_wp2_with (first | (go_at_call 29; (with_reducible refine (HINV.out _ (by repeat (first | exact BV.out | refine Tb.At.alloc ?_ _ | refine Tb.At.bw ?_ _))).mono ?_); rintro e w_ ⟨rfl, hb_⟩; obtain ⟨y5, rfl⟩ := Soft.BW.mk hb_; clear hb_) | (go_at_call 30; (with_reducible refine (hold_hull d f.den _).mono ?_); rintro e w_ ⟨rfl, hb_⟩; obtain ⟨y6, rfl⟩ := Soft.BW.mk hb_; clear hb_))
  all_goals
    refine bodyPost_ret (v := .tuple #[.agg #[.int .i64 ((⟨f.hold, 3, ⟨ul, uh⟩, d⟩ : Fi)).hold, .int .i64 ((⟨f.hold, 3, ⟨ul, uh⟩, d⟩ : Fi)).state, .int .i64 (((⟨f.hold, 3, ⟨ul, uh⟩, d⟩ : Fi)).ull).lo, .int .i64 (((⟨f.hold, 3, ⟨ul, uh⟩, d⟩ : Fi)).ull).hi, .int .i64 (((⟨f.hold, 3, ⟨ul, uh⟩, d⟩ : Fi)).den).lo, .int .i64 (((⟨f.hold, 3, ⟨ul, uh⟩, d⟩ : Fi)).den).hi], .int .i64 0]) (by simp [results, Tryz.results8, go_sem, c40, c41, c42, c43, c44, c45, f40, f41, f42, f43, f44, f45]) rfl ?_
    refine ⟨rfl, ?_⟩
    (repeat (first | with_reducible exact bel_refl _ | with_reducible refine bel_alloc ?_ _ | with_reducible refine bel_bw _ ?_ | with_reducible refine bel_drew ?_ | with_reducible refine bel_drewN _ ?_ | ((with_reducible refine bel_set ?_ ?_ _); rotate_left; focus (first | (simp; done) | omega | (simp; omega))) | refine bel_step ?_ (by with_reducible assumption)))
    exact BB.out

theorem pour_3no (h : Ho) (f : Fi) (m d v l : Rg) (uu : Rg × Bool) (w : World) (hh : h.At w) (hF : fillErr h f = 0) (hM : massErr m d = 0) (cl : ¬m.lo < 0) (hvb : ∀ b o, h.vol.p = some ⟨b, o, none⟩ → b < w.heap.size)
    (hv1 : 0 ≤ v.lo ∧ v.lo ≤ 1000000000 ∧ 0 ≤ v.hi ∧ v.hi ≤ 1000000000) (hl1 : -10000000000000000 ≤ l.lo ∧ l.lo ≤ 10000000000000000 ∧ -10000000000000000 ≤ l.hi ∧ l.hi ≤ 10000000000000000)
    (hVOL : ∀ W, h.At W → Calls Tryz.prog 27 #[.agg #[.int .i64 (h).id, .int .i64 ((h).along).lo, .int .i64 ((h).along).hi, .slice ((h).vol).p ((h).vol).n ((h).vol).c, .slice ((h).mom).p ((h).mom).n ((h).mom).c, .slice ((h).hei).p ((h).hei).n ((h).hei).c, .int .i64 ((h).tri).lo, .int .i64 ((h).tri).hi, .int .i64 ((h).unt).lo, .int .i64 ((h).unt).hi, .int .i64 ((h).v0).lo, .int .i64 ((h).v0).hi, .int .i64 ((h).h0).lo, .int .i64 ((h).h0).hi], .agg #[.int .i64 (f).hold, .int .i64 (f).state, .int .i64 ((f).ull).lo, .int .i64 ((f).ull).hi, .int .i64 ((f).den).lo, .int .i64 ((f).den).hi]] W fun e w' => e = .returned (.agg #[.int .i64 (v).lo, .int .i64 (v).hi]) ∧ Below W.heap.size W w')
    (hLIT : ∀ W, Calls Tryz.prog 28 #[.agg #[.int .i64 (m).lo, .int .i64 (m).hi], .agg #[.int .i64 (d).lo, .int .i64 (d).hi]] W fun e w' => e = .returned (.agg #[.int .i64 (l).lo, .int .i64 (l).hi]) ∧ Below W.heap.size W w')
    (hINV : ∀ W, h.vol.At W → Calls Tryz.prog 29 #[.agg #[.slice (h.vol).p (h.vol).n (h.vol).c], .agg #[.int .i64 (v.lo + l.lo), .int .i64 (v.hi + l.hi)], .int .i64 (-1)] W fun e w' => e = .returned (.tuple #[.agg #[.int .i64 (uu.1).lo, .int .i64 (uu.1).hi], .bool uu.2]) ∧ Below W.heap.size W w')
    (hs : f.state = 3) (hu : uu.2 = false) :
    Calls Tryz.prog 8 #[.agg #[.int .i64 (h).id, .int .i64 ((h).along).lo, .int .i64 ((h).along).hi, .slice ((h).vol).p ((h).vol).n ((h).vol).c, .slice ((h).mom).p ((h).mom).n ((h).mom).c, .slice ((h).hei).p ((h).hei).n ((h).hei).c, .int .i64 ((h).tri).lo, .int .i64 ((h).tri).hi, .int .i64 ((h).unt).lo, .int .i64 ((h).unt).hi, .int .i64 ((h).v0).lo, .int .i64 ((h).v0).hi, .int .i64 ((h).h0).lo, .int .i64 ((h).h0).hi], .agg #[.int .i64 (f).hold, .int .i64 (f).state, .int .i64 ((f).ull).lo, .int .i64 ((f).ull).hi, .int .i64 ((f).den).lo, .int .i64 ((f).den).hi], .agg #[.int .i64 (m).lo, .int .i64 (m).hi], .agg #[.int .i64 (d).lo, .int .i64 (d).hi]] w fun e w' => e = .returned (.tuple #[.agg #[.int .i64 ((zeroF : Fi)).hold, .int .i64 ((zeroF : Fi)).state, .int .i64 (((zeroF : Fi)).ull).lo, .int .i64 (((zeroF : Fi)).ull).hi, .int .i64 (((zeroF : Fi)).den).lo, .int .i64 (((zeroF : Fi)).den).hi], .int .i64 24]) ∧ Below w.heap.size w w' := by
  have hv := hh.1
  have dF : (fillErr h f != 0) = false := by rw [hF]; rfl
  have dM : (massErr m d != 0) = false := by rw [hM]; rfl
  have hvb := Lib.hid hvb; have HVOL := Lib.hid hVOL; have HLIT := Lib.hid hLIT; have HINV := Lib.hid hINV
  obtain ⟨a1, a2, a3, a4⟩ := hv1
  obtain ⟨b1, b2, b3, b4⟩ := hl1
  obtain ⟨⟨ul, uh⟩, ub⟩ := uu
  obtain ⟨vl, vh⟩ := v
  obtain ⟨ll, lh⟩ := l
  dsimp only at *
  have d0 : (f.state == 0) = false := by rw [hs]; rfl
  have d3 : (f.state != 3) = false := by rw [hs]; rfl
  have HS := Lib.hid (show stIs f.state true false true (.func (.func 137) #[] #[]) from .inr (.inr (.inr (.inl ⟨hs, rfl, rfl, rfl, rfl⟩))))
  clear hs
  subst hu
  clear hF hM hVOL hLIT hINV
  go_enter Tryz.func8, Tryz.ntmps8
  go_wp2_with (first | (go_at_call 24; (with_reducible refine (hold_CheckFill h f _ (by with_reducible repeat (first | exact hh | refine Ho.At.alloc ?_ _ | refine Ho.At.bw ?_ _ | refine Tk.At.alloc ?_ _ | refine Tk.At.bw ?_ _))).mono ?_); rintro e w_ ⟨rfl, hb_⟩; obtain ⟨y1, rfl⟩ := Soft.BW.mk hb_; clear hb_) | (go_at_call 25; (with_reducible refine (hold_checkMass m d _).mono ?_); rintro e w_ ⟨rfl, hb_⟩; obtain ⟨y2, rfl⟩ := Soft.BW.mk hb_; clear hb_) | (go_at_call 26; (with_reducible refine (hold_stateOf f.state _ _ _ _ _ HS.out).mono ?_); rintro e w_ ⟨rfl, hb_⟩; obtain ⟨y3, rfl⟩ := Soft.BW.mk hb_; clear hb_))
  (refine Soft.region2 [0, 1, 2, 3, 4, 5] 6 7 [8, 9] _ _ (by kernel_rfl) (by kernel_rfl) (by kernel_rfl) rfl rfl rfl rfl (by kernel_rfl) ?_; change Soft.wpSoft _ _ _ _ _ [_, _, _, _, _, _] _; (repeat (refine Soft.soft_step (fun K hK => ?_); go_simp; (try go_bits); first | (refine hK _ ?_; clear hK K) | (apply Exists.intro; refine ⟨fun x => ?_, hK _ ?_⟩; (first | (go_at_call 27; exact HVOL.out _ (by with_reducible repeat (first | exact hh | refine Ho.At.alloc ?_ _ | refine Ho.At.bw ?_ _ | refine Tk.At.alloc ?_ _ | refine Tk.At.bw ?_ _))) | (go_at_call 28; exact HLIT.out _)); clear hK K))); refine Soft.soft_nil ?_)
  refine ⟨fun b => .pointer (some ⟨b, 0, none⟩), .cells #[.int .i64 0, .int .i64 0] 27, fun b => .pointer (some ⟨b, 0, none⟩), .cells #[.int .i64 0, .int .i64 0] 27, fun x => by go_simp, fun k x => by go_simp, fun ka kb x hne na nb => ?_⟩
  change wpList _ _ _ [_, _] _ _
  have ka0 := na.le
  have kb0 := nb.le
  have s1 := y1.below.size
  have s2 := y2.below.size
  have s3 := y3.below.size
  simp at ka0 kb0 s1
  have C0 : HasBlk x.w w.heap.size #[.int .i64 (h).id, .int .i64 ((h).along).lo, .int .i64 ((h).along).hi, .slice ((h).vol).p ((h).vol).n ((h).vol).c, .slice ((h).mom).p ((h).mom).n ((h).mom).c, .slice ((h).hei).p ((h).hei).n ((h).hei).c, .int .i64 ((h).tri).lo, .int .i64 ((h).tri).hi, .int .i64 ((h).unt).lo, .int .i64 ((h).unt).hi, .int .i64 ((h).v0).lo, .int .i64 ((h).v0).hi, .int .i64 ((h).h0).lo, .int .i64 ((h).h0).hi] 49 := (by simp only [HasBlk, Soft.BW.heap_if, Soft.heap_alloc_if, Soft.heap_new, Soft.heap_new1, Soft.heap_new2, Soft.heap_new3, Soft.heap_new4, Soft.heap_new5])
  have C1 : HasBlk x.w (w.heap.size + 1) #[.int .i64 (f).hold, .int .i64 (f).state, .int .i64 ((f).ull).lo, .int .i64 ((f).ull).hi, .int .i64 ((f).den).lo, .int .i64 ((f).den).hi] 44 := (by simp only [HasBlk, Soft.BW.heap_if, Soft.heap_alloc_if, Soft.heap_new, Soft.heap_new1, Soft.heap_new2, Soft.heap_new3, Soft.heap_new4, Soft.heap_new5])
  have C3 : HasBlk x.w (w.heap.size + 1 + 1 + 1) #[.int .i64 (d).lo, .int .i64 (d).hi] 27 := (by simp only [HasBlk, Soft.BW.heap_if, Soft.heap_alloc_if, Soft.heap_new, Soft.heap_new1, Soft.heap_new2, Soft.heap_new3, Soft.heap_new4, Soft.heap_new5])
  have C4 : HasBlk x.w (w.heap.size + 1 + 1 + 1 + 1) #[.int .i64 0, .int .i64 0, .int .i64 0, .int .i64 0, .int .i64 0, .int .i64 0] 44 := (by simp only [HasBlk, Soft.BW.heap_if, Soft.heap_alloc_if, Soft.heap_new, Soft.heap_new1, Soft.heap_new2, Soft.heap_new3, Soft.heap_new4, Soft.heap_new5])
  have CA := na.at_
  have CB := nb.at_
  have CV : h.vol.At x.w := (by repeat (first | exact hv | refine Tb.At.alloc ?_ _ | refine Tb.At.bw ?_ _))
  have CE : Below w.heap.size w x.w := by (repeat (first | with_reducible exact bel_refl _ | with_reducible refine bel_alloc ?_ _ | with_reducible refine bel_bw _ ?_ | with_reducible refine bel_drew ?_ | with_reducible refine bel_drewN _ ?_ | ((with_reducible refine bel_set ?_ ?_ _); rotate_left; focus (first | (simp; done) | omega | (simp; omega))) | refine bel_step ?_ (by with_reducible assumption)))
  have X0 := Lib.hid C0; have X1 := Lib.hid C1; have X3 := Lib.hid C3; have X4 := Lib.hid C4; have XA := Lib.hid CA; have XB := Lib.hid CB; have XV := Lib.hid CV; have XE := Lib.hid CE
  clear C0 C1 C3 C4 CA CB CV CE na nb
  have n1 : ¬(ka = w.heap.size) := by omega
  have n2 : ¬(ka = w.heap.size + 1) := by omega
  have n3 : ¬(ka = w.heap.size + 1 + 1 + 1) := by omega
  have n4 : ¬(ka = w.heap.size + 1 + 1 + 1 + 1) := by omega
  refine wpList_store_row rfl 27 _ _ rfl ka _ rfl rfl 27 _ XA.out (by kernel_rfl) rfl (by kernel_rfl) ?_
  refine wpList_store_row rfl 27 _ _ rfl kb _ rfl rfl 27 _ (HasBlk.rowx XB.out (Ne.symm hne) _) (by kernel_rfl) rfl (by kernel_rfl) ?_
  have D0 := HasBlk.rowx (HasBlk.rowx X0.out (show w.heap.size ≠ ka by omega) #[.int .i64 vl, .int .i64 vh]) (show w.heap.size ≠ kb by omega) #[.int .i64 ll, .int .i64 lh]
  have D1 := HasBlk.rowx (HasBlk.rowx X1.out (show w.heap.size + 1 ≠ ka by omega) #[.int .i64 vl, .int .i64 vh]) (show w.heap.size + 1 ≠ kb by omega) #[.int .i64 ll, .int .i64 lh]
  have D3 := HasBlk.rowx (HasBlk.rowx X3.out (show w.heap.size + 1 + 1 + 1 ≠ ka by omega) #[.int .i64 vl, .int .i64 vh]) (show w.heap.size + 1 + 1 + 1 ≠ kb by omega) #[.int .i64 ll, .int .i64 lh]
  have D4 := HasBlk.rowx (HasBlk.rowx X4.out (show w.heap.size + 1 + 1 + 1 + 1 ≠ ka by omega) #[.int .i64 vl, .int .i64 vh]) (show w.heap.size + 1 + 1 + 1 + 1 ≠ kb by omega) #[.int .i64 ll, .int .i64 lh]
  have DA : HasBlk ((x.w.setRow ka #[.int .i64 vl, .int .i64 vh]).setRow kb #[.int .i64 ll, .int .i64 lh]) ka #[.int .i64 vl, .int .i64 vh] 27 := HasBlk.rowx (setRow_heap _ _ _ _ _ _ XA.out) hne _
  have DB : HasBlk ((x.w.setRow ka #[.int .i64 vl, .int .i64 vh]).setRow kb #[.int .i64 ll, .int .i64 lh]) kb #[.int .i64 ll, .int .i64 lh] 27 := setRow_heap _ _ _ _ _ _ (HasBlk.rowx XB.out (Ne.symm hne) _)
  have DV := Tb.At.rowx (Tb.At.rowx XV.out (g := ka) (fun b o e => by have := hvb.out b o e; omega) #[.int .i64 vl, .int .i64 vh]) (g := kb) (fun b o e => by have := hvb.out b o e; omega) #[.int .i64 ll, .int .i64 lh]
  have DE := below_setRow (g := kb) (below_setRow (g := ka) XE.out (by omega) #[.int .i64 vl, .int .i64 vh]) (by omega) #[.int .i64 ll, .int .i64 lh]
  generalize (x.w.setRow ka #[.int .i64 vl, .int .i64 vh]).setRow kb #[.int .i64 ll, .int .i64 lh] = W1 at *
  have i0 := Soft.LtH.mk (w := W1) D0.lt
  have i1 := Soft.LtH.mk (w := W1) D1.lt
  have i3 := Soft.LtH.mk (w := W1) D3.lt
  have i4 := Soft.LtH.mk (w := W1) D4.lt
  have iA := Soft.LtH.mk (w := W1) DA.lt
  have iB := Soft.LtH.mk (w := W1) DB.lt
  have c03 := D0.cell 3
  have c10 := D1.cell 0
  have c13 := D1.cell 3
  have c14 := D1.cell 4
  have c15 := D1.cell 5
  have c30 := D3.cell 0
  have c31 := D3.cell 1
  have c40 := D4.cell 0
  have c41 := D4.cell 1
  have c42 := D4.cell 2
  have c43 := D4.cell 3
  have c44 := D4.cell 4
  have c45 := D4.cell 5
  have f40 := D4.frozen 0
  have f41 := D4.frozen 1
  have f42 := D4.frozen 2
  have f43 := D4.frozen 3
  have f44 := D4.frozen 4
  have f45 := D4.frozen 5
  have cA0 := DA.cell 0
  have cA1 := DA.cell 1
  have cB0 := DB.cell 0
  have cB1 := DB.cell 1
  simp at c03 c10 c13 c14 c15 c30 c31 c40 c41 c42 c43 c44 c45 cA0 cA1 cB0 cB1
  have BB := Lib.hid DE; have BV := Lib.hid DV
  clear D0 D1 D3 D4 DA DB DV DE X0 X1 X3 X4 XA XB XV XE
  go_wp2_with (first | (go_at_call 29; (with_reducible refine (HINV.out _ (by repeat (first | exact BV.out | refine Tb.At.alloc ?_ _ | refine Tb.At.bw ?_ _))).mono ?_); rintro e w_ ⟨rfl, hb_⟩; obtain ⟨y5, rfl⟩ := Soft.BW.mk hb_; clear hb_) | (go_at_call 30; (with_reducible refine (hold_hull d f.den _).mono ?_); rintro e w_ ⟨rfl, hb_⟩; obtain ⟨y6, rfl⟩ := Soft.BW.mk hb_; clear hb_))
  all_goals
    refine bodyPost_ret (v := .tuple #[.agg #[.int .i64 ((zeroF : Fi)).hold, .int .i64 ((zeroF : Fi)).state, .int .i64 (((zeroF : Fi)).ull).lo, .int .i64 (((zeroF : Fi)).ull).hi, .int .i64 (((zeroF : Fi)).den).lo, .int .i64 (((zeroF : Fi)).den).hi], .int .i64 24]) (by simp [results, Tryz.results8, go_sem, zeroF, c40, c41, c42, c43, c44, c45, f40, f41, f42, f43, f44, f45]) rfl ?_
    refine ⟨rfl, ?_⟩
    (repeat (first | with_reducible exact bel_refl _ | with_reducible refine bel_alloc ?_ _ | with_reducible refine bel_bw _ ?_ | with_reducible refine bel_drew ?_ | with_reducible refine bel_drewN _ ?_ | ((with_reducible refine bel_set ?_ ?_ _); rotate_left; focus (first | (simp; done) | omega | (simp; omega))) | refine bel_step ?_ (by with_reducible assumption)))
    exact BB.out

theorem pour_3far (h : Ho) (f : Fi) (m d v l : Rg) (uu : Rg × Bool) (w : World) (hh : h.At w) (hF : fillErr h f = 0) (hM : massErr m d = 0) (cl : ¬m.lo < 0) (hvb : ∀ b o, h.vol.p = some ⟨b, o, none⟩ → b < w.heap.size)
    (hv1 : 0 ≤ v.lo ∧ v.lo ≤ 1000000000 ∧ 0 ≤ v.hi ∧ v.hi ≤ 1000000000) (hl1 : -10000000000000000 ≤ l.lo ∧ l.lo ≤ 10000000000000000 ∧ -10000000000000000 ≤ l.hi ∧ l.hi ≤ 10000000000000000)
    (hVOL : ∀ W, h.At W → Calls Tryz.prog 27 #[.agg #[.int .i64 (h).id, .int .i64 ((h).along).lo, .int .i64 ((h).along).hi, .slice ((h).vol).p ((h).vol).n ((h).vol).c, .slice ((h).mom).p ((h).mom).n ((h).mom).c, .slice ((h).hei).p ((h).hei).n ((h).hei).c, .int .i64 ((h).tri).lo, .int .i64 ((h).tri).hi, .int .i64 ((h).unt).lo, .int .i64 ((h).unt).hi, .int .i64 ((h).v0).lo, .int .i64 ((h).v0).hi, .int .i64 ((h).h0).lo, .int .i64 ((h).h0).hi], .agg #[.int .i64 (f).hold, .int .i64 (f).state, .int .i64 ((f).ull).lo, .int .i64 ((f).ull).hi, .int .i64 ((f).den).lo, .int .i64 ((f).den).hi]] W fun e w' => e = .returned (.agg #[.int .i64 (v).lo, .int .i64 (v).hi]) ∧ Below W.heap.size W w')
    (hLIT : ∀ W, Calls Tryz.prog 28 #[.agg #[.int .i64 (m).lo, .int .i64 (m).hi], .agg #[.int .i64 (d).lo, .int .i64 (d).hi]] W fun e w' => e = .returned (.agg #[.int .i64 (l).lo, .int .i64 (l).hi]) ∧ Below W.heap.size W w')
    (hINV : ∀ W, h.vol.At W → Calls Tryz.prog 29 #[.agg #[.slice (h.vol).p (h.vol).n (h.vol).c], .agg #[.int .i64 (v.lo + l.lo), .int .i64 (v.hi + l.hi)], .int .i64 (-1)] W fun e w' => e = .returned (.tuple #[.agg #[.int .i64 (uu.1).lo, .int .i64 (uu.1).hi], .bool uu.2]) ∧ Below W.heap.size W w')
    (hs : f.state = 3) (hu : uu.2 = true) (hq : f.ull.hi < uu.1.lo) :
    Calls Tryz.prog 8 #[.agg #[.int .i64 (h).id, .int .i64 ((h).along).lo, .int .i64 ((h).along).hi, .slice ((h).vol).p ((h).vol).n ((h).vol).c, .slice ((h).mom).p ((h).mom).n ((h).mom).c, .slice ((h).hei).p ((h).hei).n ((h).hei).c, .int .i64 ((h).tri).lo, .int .i64 ((h).tri).hi, .int .i64 ((h).unt).lo, .int .i64 ((h).unt).hi, .int .i64 ((h).v0).lo, .int .i64 ((h).v0).hi, .int .i64 ((h).h0).lo, .int .i64 ((h).h0).hi], .agg #[.int .i64 (f).hold, .int .i64 (f).state, .int .i64 ((f).ull).lo, .int .i64 ((f).ull).hi, .int .i64 ((f).den).lo, .int .i64 ((f).den).hi], .agg #[.int .i64 (m).lo, .int .i64 (m).hi], .agg #[.int .i64 (d).lo, .int .i64 (d).hi]] w fun e w' => e = .returned (.tuple #[.agg #[.int .i64 ((zeroF : Fi)).hold, .int .i64 ((zeroF : Fi)).state, .int .i64 (((zeroF : Fi)).ull).lo, .int .i64 (((zeroF : Fi)).ull).hi, .int .i64 (((zeroF : Fi)).den).lo, .int .i64 (((zeroF : Fi)).den).hi], .int .i64 24]) ∧ Below w.heap.size w w' := by
  have hv := hh.1
  have dF : (fillErr h f != 0) = false := by rw [hF]; rfl
  have dM : (massErr m d != 0) = false := by rw [hM]; rfl
  have hvb := Lib.hid hvb; have HVOL := Lib.hid hVOL; have HLIT := Lib.hid hLIT; have HINV := Lib.hid hINV
  obtain ⟨a1, a2, a3, a4⟩ := hv1
  obtain ⟨b1, b2, b3, b4⟩ := hl1
  obtain ⟨⟨ul, uh⟩, ub⟩ := uu
  obtain ⟨vl, vh⟩ := v
  obtain ⟨ll, lh⟩ := l
  dsimp only at *
  have d0 : (f.state == 0) = false := by rw [hs]; rfl
  have d3 : (f.state != 3) = false := by rw [hs]; rfl
  have HS := Lib.hid (show stIs f.state true false true (.func (.func 137) #[] #[]) from .inr (.inr (.inr (.inl ⟨hs, rfl, rfl, rfl, rfl⟩))))
  clear hs
  subst hu
  clear hF hM hVOL hLIT hINV
  go_enter Tryz.func8, Tryz.ntmps8
  go_wp2_with (first | (go_at_call 24; (with_reducible refine (hold_CheckFill h f _ (by with_reducible repeat (first | exact hh | refine Ho.At.alloc ?_ _ | refine Ho.At.bw ?_ _ | refine Tk.At.alloc ?_ _ | refine Tk.At.bw ?_ _))).mono ?_); rintro e w_ ⟨rfl, hb_⟩; obtain ⟨y1, rfl⟩ := Soft.BW.mk hb_; clear hb_) | (go_at_call 25; (with_reducible refine (hold_checkMass m d _).mono ?_); rintro e w_ ⟨rfl, hb_⟩; obtain ⟨y2, rfl⟩ := Soft.BW.mk hb_; clear hb_) | (go_at_call 26; (with_reducible refine (hold_stateOf f.state _ _ _ _ _ HS.out).mono ?_); rintro e w_ ⟨rfl, hb_⟩; obtain ⟨y3, rfl⟩ := Soft.BW.mk hb_; clear hb_))
  (refine Soft.region2 [0, 1, 2, 3, 4, 5] 6 7 [8, 9] _ _ (by kernel_rfl) (by kernel_rfl) (by kernel_rfl) rfl rfl rfl rfl (by kernel_rfl) ?_; change Soft.wpSoft _ _ _ _ _ [_, _, _, _, _, _] _; (repeat (refine Soft.soft_step (fun K hK => ?_); go_simp; (try go_bits); first | (refine hK _ ?_; clear hK K) | (apply Exists.intro; refine ⟨fun x => ?_, hK _ ?_⟩; (first | (go_at_call 27; exact HVOL.out _ (by with_reducible repeat (first | exact hh | refine Ho.At.alloc ?_ _ | refine Ho.At.bw ?_ _ | refine Tk.At.alloc ?_ _ | refine Tk.At.bw ?_ _))) | (go_at_call 28; exact HLIT.out _)); clear hK K))); refine Soft.soft_nil ?_)
  refine ⟨fun b => .pointer (some ⟨b, 0, none⟩), .cells #[.int .i64 0, .int .i64 0] 27, fun b => .pointer (some ⟨b, 0, none⟩), .cells #[.int .i64 0, .int .i64 0] 27, fun x => by go_simp, fun k x => by go_simp, fun ka kb x hne na nb => ?_⟩
  change wpList _ _ _ [_, _] _ _
  have ka0 := na.le
  have kb0 := nb.le
  have s1 := y1.below.size
  have s2 := y2.below.size
  have s3 := y3.below.size
  simp at ka0 kb0 s1
  have C0 : HasBlk x.w w.heap.size #[.int .i64 (h).id, .int .i64 ((h).along).lo, .int .i64 ((h).along).hi, .slice ((h).vol).p ((h).vol).n ((h).vol).c, .slice ((h).mom).p ((h).mom).n ((h).mom).c, .slice ((h).hei).p ((h).hei).n ((h).hei).c, .int .i64 ((h).tri).lo, .int .i64 ((h).tri).hi, .int .i64 ((h).unt).lo, .int .i64 ((h).unt).hi, .int .i64 ((h).v0).lo, .int .i64 ((h).v0).hi, .int .i64 ((h).h0).lo, .int .i64 ((h).h0).hi] 49 := (by simp only [HasBlk, Soft.BW.heap_if, Soft.heap_alloc_if, Soft.heap_new, Soft.heap_new1, Soft.heap_new2, Soft.heap_new3, Soft.heap_new4, Soft.heap_new5])
  have C1 : HasBlk x.w (w.heap.size + 1) #[.int .i64 (f).hold, .int .i64 (f).state, .int .i64 ((f).ull).lo, .int .i64 ((f).ull).hi, .int .i64 ((f).den).lo, .int .i64 ((f).den).hi] 44 := (by simp only [HasBlk, Soft.BW.heap_if, Soft.heap_alloc_if, Soft.heap_new, Soft.heap_new1, Soft.heap_new2, Soft.heap_new3, Soft.heap_new4, Soft.heap_new5])
  have C3 : HasBlk x.w (w.heap.size + 1 + 1 + 1) #[.int .i64 (d).lo, .int .i64 (d).hi] 27 := (by simp only [HasBlk, Soft.BW.heap_if, Soft.heap_alloc_if, Soft.heap_new, Soft.heap_new1, Soft.heap_new2, Soft.heap_new3, Soft.heap_new4, Soft.heap_new5])
  have C4 : HasBlk x.w (w.heap.size + 1 + 1 + 1 + 1) #[.int .i64 0, .int .i64 0, .int .i64 0, .int .i64 0, .int .i64 0, .int .i64 0] 44 := (by simp only [HasBlk, Soft.BW.heap_if, Soft.heap_alloc_if, Soft.heap_new, Soft.heap_new1, Soft.heap_new2, Soft.heap_new3, Soft.heap_new4, Soft.heap_new5])
  have CA := na.at_
  have CB := nb.at_
  have CV : h.vol.At x.w := (by repeat (first | exact hv | refine Tb.At.alloc ?_ _ | refine Tb.At.bw ?_ _))
  have CE : Below w.heap.size w x.w := by (repeat (first | with_reducible exact bel_refl _ | with_reducible refine bel_alloc ?_ _ | with_reducible refine bel_bw _ ?_ | with_reducible refine bel_drew ?_ | with_reducible refine bel_drewN _ ?_ | ((with_reducible refine bel_set ?_ ?_ _); rotate_left; focus (first | (simp; done) | omega | (simp; omega))) | refine bel_step ?_ (by with_reducible assumption)))
  have X0 := Lib.hid C0; have X1 := Lib.hid C1; have X3 := Lib.hid C3; have X4 := Lib.hid C4; have XA := Lib.hid CA; have XB := Lib.hid CB; have XV := Lib.hid CV; have XE := Lib.hid CE
  clear C0 C1 C3 C4 CA CB CV CE na nb
  have n1 : ¬(ka = w.heap.size) := by omega
  have n2 : ¬(ka = w.heap.size + 1) := by omega
  have n3 : ¬(ka = w.heap.size + 1 + 1 + 1) := by omega
  have n4 : ¬(ka = w.heap.size + 1 + 1 + 1 + 1) := by omega
  refine wpList_store_row rfl 27 _ _ rfl ka _ rfl rfl 27 _ XA.out (by kernel_rfl) rfl (by kernel_rfl) ?_
  refine wpList_store_row rfl 27 _ _ rfl kb _ rfl rfl 27 _ (HasBlk.rowx XB.out (Ne.symm hne) _) (by kernel_rfl) rfl (by kernel_rfl) ?_
  have D0 := HasBlk.rowx (HasBlk.rowx X0.out (show w.heap.size ≠ ka by omega) #[.int .i64 vl, .int .i64 vh]) (show w.heap.size ≠ kb by omega) #[.int .i64 ll, .int .i64 lh]
  have D1 := HasBlk.rowx (HasBlk.rowx X1.out (show w.heap.size + 1 ≠ ka by omega) #[.int .i64 vl, .int .i64 vh]) (show w.heap.size + 1 ≠ kb by omega) #[.int .i64 ll, .int .i64 lh]
  have D3 := HasBlk.rowx (HasBlk.rowx X3.out (show w.heap.size + 1 + 1 + 1 ≠ ka by omega) #[.int .i64 vl, .int .i64 vh]) (show w.heap.size + 1 + 1 + 1 ≠ kb by omega) #[.int .i64 ll, .int .i64 lh]
  have D4 := HasBlk.rowx (HasBlk.rowx X4.out (show w.heap.size + 1 + 1 + 1 + 1 ≠ ka by omega) #[.int .i64 vl, .int .i64 vh]) (show w.heap.size + 1 + 1 + 1 + 1 ≠ kb by omega) #[.int .i64 ll, .int .i64 lh]
  have DA : HasBlk ((x.w.setRow ka #[.int .i64 vl, .int .i64 vh]).setRow kb #[.int .i64 ll, .int .i64 lh]) ka #[.int .i64 vl, .int .i64 vh] 27 := HasBlk.rowx (setRow_heap _ _ _ _ _ _ XA.out) hne _
  have DB : HasBlk ((x.w.setRow ka #[.int .i64 vl, .int .i64 vh]).setRow kb #[.int .i64 ll, .int .i64 lh]) kb #[.int .i64 ll, .int .i64 lh] 27 := setRow_heap _ _ _ _ _ _ (HasBlk.rowx XB.out (Ne.symm hne) _)
  have DV := Tb.At.rowx (Tb.At.rowx XV.out (g := ka) (fun b o e => by have := hvb.out b o e; omega) #[.int .i64 vl, .int .i64 vh]) (g := kb) (fun b o e => by have := hvb.out b o e; omega) #[.int .i64 ll, .int .i64 lh]
  have DE := below_setRow (g := kb) (below_setRow (g := ka) XE.out (by omega) #[.int .i64 vl, .int .i64 vh]) (by omega) #[.int .i64 ll, .int .i64 lh]
  generalize (x.w.setRow ka #[.int .i64 vl, .int .i64 vh]).setRow kb #[.int .i64 ll, .int .i64 lh] = W1 at *
  have i0 := Soft.LtH.mk (w := W1) D0.lt
  have i1 := Soft.LtH.mk (w := W1) D1.lt
  have i3 := Soft.LtH.mk (w := W1) D3.lt
  have i4 := Soft.LtH.mk (w := W1) D4.lt
  have iA := Soft.LtH.mk (w := W1) DA.lt
  have iB := Soft.LtH.mk (w := W1) DB.lt
  have c03 := D0.cell 3
  have c10 := D1.cell 0
  have c13 := D1.cell 3
  have c14 := D1.cell 4
  have c15 := D1.cell 5
  have c30 := D3.cell 0
  have c31 := D3.cell 1
  have c40 := D4.cell 0
  have c41 := D4.cell 1
  have c42 := D4.cell 2
  have c43 := D4.cell 3
  have c44 := D4.cell 4
  have c45 := D4.cell 5
  have f40 := D4.frozen 0
  have f41 := D4.frozen 1
  have f42 := D4.frozen 2
  have f43 := D4.frozen 3
  have f44 := D4.frozen 4
  have f45 := D4.frozen 5
  have cA0 := DA.cell 0
  have cA1 := DA.cell 1
  have cB0 := DB.cell 0
  have cB1 := DB.cell 1
  simp at c03 c10 c13 c14 c15 c30 c31 c40 c41 c42 c43 c44 c45 cA0 cA1 cB0 cB1
  have BB := Lib.hid DE; have BV := Lib.hid DV
  clear D0 D1 D3 D4 DA DB DV DE X0 X1 X3 X4 XA XB XV XE
  go_wp2_with (first | (go_at_call 29; (with_reducible refine (HINV.out _ (by repeat (first | exact BV.out | refine Tb.At.alloc ?_ _ | refine Tb.At.bw ?_ _))).mono ?_); rintro e w_ ⟨rfl, hb_⟩; obtain ⟨y5, rfl⟩ := Soft.BW.mk hb_; clear hb_) | (go_at_call 30; (with_reducible refine (hold_hull d f.den _).mono ?_); rintro e w_ ⟨rfl, hb_⟩; obtain ⟨y6, rfl⟩ := Soft.BW.mk hb_; clear hb_))
  all_goals
    refine bodyPost_ret (v := .tuple #[.agg #[.int .i64 ((zeroF : Fi)).hold, .int .i64 ((zeroF : Fi)).state, .int .i64 (((zeroF : Fi)).ull).lo, .int .i64 (((zeroF : Fi)).ull).hi, .int .i64 (((zeroF : Fi)).den).lo, .int .i64 (((zeroF : Fi)).den).hi], .int .i64 24]) (by simp [results, Tryz.results8, go_sem, zeroF, c40, c41, c42, c43, c44, c45, f40, f41, f42, f43, f44, f45]) rfl ?_
    refine ⟨rfl, ?_⟩
    (repeat (first | with_reducible exact bel_refl _ | with_reducible refine bel_alloc ?_ _ | with_reducible refine bel_bw _ ?_ | with_reducible refine bel_drew ?_ | with_reducible refine bel_drewN _ ?_ | ((with_reducible refine bel_set ?_ ?_ _); rotate_left; focus (first | (simp; done) | omega | (simp; omega))) | refine bel_step ?_ (by with_reducible assumption)))
    exact BB.out

end Go.Proofs.YteagdcgmmdiakaaGreat

namespace Go.Proofs.YteagdcgmmdiakaaGreat
set_option linter.unusedSimpArgs false
set_option linter.unusedVariables false
open Go.RowKit
set_option maxRecDepth 100000
set_option maxHeartbeats 4000000
attribute [local go_sem] Instr.field asAgg Soft.upon Soft.BW.cell_if Soft.BW.frozen_if Soft.cell_alloc_if Soft.frozen_alloc_if


theorem pour_3yes (h : Ho) (f : Fi) (m d v l : Rg) (uu : Rg × Bool) (w : World) (hh : h.At w) (hF : fillErr h f = 0) (hM : massErr m d = 0) (cl : ¬m.lo < 0) (hvb : ∀ b o, h.vol.p = some ⟨b, o, none⟩ → b < w.heap.size)
    (hv1 : 0 ≤ v.lo ∧ v.lo ≤ 1000000000 ∧ 0 ≤ v.hi ∧ v.hi ≤ 1000000000) (hl1 : -10000000000000000 ≤ l.lo ∧ l.lo ≤ 10000000000000000 ∧ -10000000000000000 ≤ l.hi ∧ l.hi ≤ 10000000000000000)
    (hVOL : ∀ W, h.At W → Calls Tryz.prog 27 #[.agg #[.int .i64 (h).id, .int .i64 ((h).along).lo, .int .i64 ((h).along).hi, .slice ((h).vol).p ((h).vol).n ((h).vol).c, .slice ((h).mom).p ((h).mom).n ((h).mom).c, .slice ((h).hei).p ((h).hei).n ((h).hei).c, .int .i64 ((h).tri).lo, .int .i64 ((h).tri).hi, .int .i64 ((h).unt).lo, .int .i64 ((h).unt).hi, .int .i64 ((h).v0).lo, .int .i64 ((h).v0).hi, .int .i64 ((h).h0).lo, .int .i64 ((h).h0).hi], .agg #[.int .i64 (f).hold, .int .i64 (f).state, .int .i64 ((f).ull).lo, .int .i64 ((f).ull).hi, .int .i64 ((f).den).lo, .int .i64 ((f).den).hi]] W fun e w' => e = .returned (.agg #[.int .i64 (v).lo, .int .i64 (v).hi]) ∧ Below W.heap.size W w')
    (hLIT : ∀ W, Calls Tryz.prog 28 #[.agg #[.int .i64 (m).lo, .int .i64 (m).hi], .agg #[.int .i64 (d).lo, .int .i64 (d).hi]] W fun e w' => e = .returned (.agg #[.int .i64 (l).lo, .int .i64 (l).hi]) ∧ Below W.heap.size W w')
    (hINV : ∀ W, h.vol.At W → Calls Tryz.prog 29 #[.agg #[.slice (h.vol).p (h.vol).n (h.vol).c], .agg #[.int .i64 (v.lo + l.lo), .int .i64 (v.hi + l.hi)], .int .i64 (-1)] W fun e w' => e = .returned (.tuple #[.agg #[.int .i64 (uu.1).lo, .int .i64 (uu.1).hi], .bool uu.2]) ∧ Below W.heap.size W w')
    (hs : f.state = 3) (hu : uu.2 = true) (hq : ¬f.ull.hi < uu.1.lo) :
    Calls Tryz.prog 8 #[.agg #[.int .i64 (h).id, .int .i64 ((h).along).lo, .int .i64 ((h).along).hi, .slice ((h).vol).p ((h).vol).n ((h).vol).c, .slice ((h).mom).p ((h).mom).n ((h).mom).c, .slice ((h).hei).p ((h).hei).n ((h).hei).c, .int .i64 ((h).tri).lo, .int .i64 ((h).tri).hi, .int .i64 ((h).unt).lo, .int .i64 ((h).unt).hi, .int .i64 ((h).v0).lo, .int .i64 ((h).v0).hi, .int .i64 ((h).h0).lo, .int .i64 ((h).h0).hi], .agg #[.int .i64 (f).hold, .int .i64 (f).state, .int .i64 ((f).ull).lo, .int .i64 ((f).ull).hi, .int .i64 ((f).den).lo, .int .i64 ((f).den).hi], .agg #[.int .i64 (m).lo, .int .i64 (m).hi], .agg #[.int .i64 (d).lo, .int .i64 (d).hi]] w fun e w' => e = .returned (.tuple #[.agg #[.int .i64 ((⟨f.hold, 3, ⟨uu.1.lo, min uu.1.hi f.ull.hi⟩, hullS d f.den⟩ : Fi)).hold, .int .i64 ((⟨f.hold, 3, ⟨uu.1.lo, min uu.1.hi f.ull.hi⟩, hullS d f.den⟩ : Fi)).state, .int .i64 (((⟨f.hold, 3, ⟨uu.1.lo, min uu.1.hi f.ull.hi⟩, hullS d f.den⟩ : Fi)).ull).lo, .int .i64 (((⟨f.hold, 3, ⟨uu.1.lo, min uu.1.hi f.ull.hi⟩, hullS d f.den⟩ : Fi)).ull).hi, .int .i64 (((⟨f.hold, 3, ⟨uu.1.lo, min uu.1.hi f.ull.hi⟩, hullS d f.den⟩ : Fi)).den).lo, .int .i64 (((⟨f.hold, 3, ⟨uu.1.lo, min uu.1.hi f.ull.hi⟩, hullS d f.den⟩ : Fi)).den).hi], .int .i64 0]) ∧ Below w.heap.size w w' := by
  have hv := hh.1
  have dF : (fillErr h f != 0) = false := by rw [hF]; rfl
  have dM : (massErr m d != 0) = false := by rw [hM]; rfl
  have hvb := Lib.hid hvb; have HVOL := Lib.hid hVOL; have HLIT := Lib.hid hLIT; have HINV := Lib.hid hINV
  obtain ⟨a1, a2, a3, a4⟩ := hv1
  obtain ⟨b1, b2, b3, b4⟩ := hl1
  obtain ⟨⟨ul, uh⟩, ub⟩ := uu
  obtain ⟨vl, vh⟩ := v
  obtain ⟨ll, lh⟩ := l
  dsimp only at *
  have d0 : (f.state == 0) = false := by rw [hs]; rfl
  have d3 : (f.state != 3) = false := by rw [hs]; rfl
  have HS := Lib.hid (show stIs f.state true false true (.func (.func 137) #[] #[]) from .inr (.inr (.inr (.inl ⟨hs, rfl, rfl, rfl, rfl⟩))))
  clear hs
  subst hu
  clear hF hM hVOL hLIT hINV
  go_enter Tryz.func8, Tryz.ntmps8
  go_wp2_with (first | (go_at_call 24; (with_reducible refine (hold_CheckFill h f _ (by with_reducible repeat (first | exact hh | refine Ho.At.alloc ?_ _ | refine Ho.At.bw ?_ _ | refine Tk.At.alloc ?_ _ | refine Tk.At.bw ?_ _))).mono ?_); rintro e w_ ⟨rfl, hb_⟩; obtain ⟨y1, rfl⟩ := Soft.BW.mk hb_; clear hb_) | (go_at_call 25; (with_reducible refine (hold_checkMass m d _).mono ?_); rintro e w_ ⟨rfl, hb_⟩; obtain ⟨y2, rfl⟩ := Soft.BW.mk hb_; clear hb_) | (go_at_call 26; (with_reducible refine (hold_stateOf f.state _ _ _ _ _ HS.out).mono ?_); rintro e w_ ⟨rfl, hb_⟩; obtain ⟨y3, rfl⟩ := Soft.BW.mk hb_; clear hb_))
  (refine Soft.region2 [0, 1, 2, 3, 4, 5] 6 7 [8, 9] _ _ (by kernel_rfl) (by kernel_rfl) (by kernel_rfl) rfl rfl rfl rfl (by kernel_rfl) ?_; change Soft.wpSoft _ _ _ _ _ [_, _, _, _, _, _] _; (repeat (refine Soft.soft_step (fun K hK => ?_); go_simp; (try go_bits); first | (refine hK _ ?_; clear hK K) | (apply Exists.intro; refine ⟨fun x => ?_, hK _ ?_⟩; (first | (go_at_call 27; exact HVOL.out _ (by with_reducible repeat (first | exact hh | refine Ho.At.alloc ?_ _ | refine Ho.At.bw ?_ _ | refine Tk.At.alloc ?_ _ | refine Tk.At.bw ?_ _))) | (go_at_call 28; exact HLIT.out _)); clear hK K))); refine Soft.soft_nil ?_)
  refine ⟨fun b => .pointer (some ⟨b, 0, none⟩), .cells #[.int .i64 0, .int .i64 0] 27, fun b => .pointer (some ⟨b, 0, none⟩), .cells #[.int .i64 0, .int .i64 0] 27, fun x => by go_simp, fun k x => by go_simp, fun ka kb x hne na nb => ?_⟩
  change wpList _ _ _ [_, _] _ _
  have ka0 := na.le
  have kb0 := nb.le
  have s1 := y1.below.size
  have s2 := y2.below.size
  have s3 := y3.below.size
  simp at ka0 kb0 s1
  have C0 : HasBlk x.w w.heap.size #[.int .i64 (h).id, .int .i64 ((h).along).lo, .int .i64 ((h).along).hi, .slice ((h).vol).p ((h).vol).n ((h).vol).c, .slice ((h).mom).p ((h).mom).n ((h).mom).c, .slice ((h).hei).p ((h).hei).n ((h).hei).c, .int .i64 ((h).tri).lo, .int .i64 ((h).tri).hi, .int .i64 ((h).unt).lo, .int .i64 ((h).unt).hi, .int .i64 ((h).v0).lo, .int .i64 ((h).v0).hi, .int .i64 ((h).h0).lo, .int .i64 ((h).h0).hi] 49 := (by simp only [HasBlk, Soft.BW.heap_if, Soft.heap_alloc_if, Soft.heap_new, Soft.heap_new1, Soft.heap_new2, Soft.heap_new3, Soft.heap_new4, Soft.heap_new5])
  have C1 : HasBlk x.w (w.heap.size + 1) #[.int .i64 (f).hold, .int .i64 (f).state, .int .i64 ((f).ull).lo, .int .i64 ((f).ull).hi, .int .i64 ((f).den).lo, .int .i64 ((f).den).hi] 44 := (by simp only [HasBlk, Soft.BW.heap_if, Soft.heap_alloc_if, Soft.heap_new, Soft.heap_new1, Soft.heap_new2, Soft.heap_new3, Soft.heap_new4, Soft.heap_new5])
  have C3 : HasBlk x.w (w.heap.size + 1 + 1 + 1) #[.int .i64 (d).lo, .int .i64 (d).hi] 27 := (by simp only [HasBlk, Soft.BW.heap_if, Soft.heap_alloc_if, Soft.heap_new, Soft.heap_new1, Soft.heap_new2, Soft.heap_new3, Soft.heap_new4, Soft.heap_new5])
  have C4 : HasBlk x.w (w.heap.size + 1 + 1 + 1 + 1) #[.int .i64 0, .int .i64 0, .int .i64 0, .int .i64 0, .int .i64 0, .int .i64 0] 44 := (by simp only [HasBlk, Soft.BW.heap_if, Soft.heap_alloc_if, Soft.heap_new, Soft.heap_new1, Soft.heap_new2, Soft.heap_new3, Soft.heap_new4, Soft.heap_new5])
  have CA := na.at_
  have CB := nb.at_
  have CV : h.vol.At x.w := (by repeat (first | exact hv | refine Tb.At.alloc ?_ _ | refine Tb.At.bw ?_ _))
  have CE : Below w.heap.size w x.w := by (repeat (first | with_reducible exact bel_refl _ | with_reducible refine bel_alloc ?_ _ | with_reducible refine bel_bw _ ?_ | with_reducible refine bel_drew ?_ | with_reducible refine bel_drewN _ ?_ | ((with_reducible refine bel_set ?_ ?_ _); rotate_left; focus (first | (simp; done) | omega | (simp; omega))) | refine bel_step ?_ (by with_reducible assumption)))
  have X0 := Lib.hid C0; have X1 := Lib.hid C1; have X3 := Lib.hid C3; have X4 := Lib.hid C4; have XA := Lib.hid CA; have XB := Lib.hid CB; have XV := Lib.hid CV; have XE := Lib.hid CE
  clear C0 C1 C3 C4 CA CB CV CE na nb
  have n1 : ¬(ka = w.heap.size) := by omega
  have n2 : ¬(ka = w.heap.size + 1) := by omega
  have n3 : ¬(ka = w.heap.size + 1 + 1 + 1) := by omega
  have n4 : ¬(ka = w.heap.size + 1 + 1 + 1 + 1) := by omega
  refine wpList_store_row rfl 27 _ _ rfl ka _ rfl rfl 27 _ XA.out (by kernel_rfl) rfl (by kernel_rfl) ?_
  refine wpList_store_row rfl 27 _ _ rfl kb _ rfl rfl 27 _ (HasBlk.rowx XB.out (Ne.symm hne) _) (by kernel_rfl) rfl (by kernel_rfl) ?_
  have D0 := HasBlk.rowx (HasBlk.rowx X0.out (show w.heap.size ≠ ka by omega) #[.int .i64 vl, .int .i64 vh]) (show w.heap.size ≠ kb by omega) #[.int .i64 ll, .int .i64 lh]
  have D1 := HasBlk.rowx (HasBlk.rowx X1.out (show w.heap.size + 1 ≠ ka by omega) #[.int .i64 vl, .int .i64 vh]) (show w.heap.size + 1 ≠ kb by omega) #[.int .i64 ll, .int .i64 lh]
  have D3 := HasBlk.rowx (HasBlk.rowx X3.out (show w.heap.size + 1 + 1 + 1 ≠ ka by omega) #[.int .i64 vl, .int .i64 vh]) (show w.heap.size + 1 + 1 + 1 ≠ kb by omega) #[.int .i64 ll, .int .i64 lh]
  have D4 := HasBlk.rowx (HasBlk.rowx X4.out (show w.heap.size + 1 + 1 + 1 + 1 ≠ ka by omega) #[.int .i64 vl, .int .i64 vh]) (show w.heap.size + 1 + 1 + 1 + 1 ≠ kb by omega) #[.int .i64 ll, .int .i64 lh]
  have DA : HasBlk ((x.w.setRow ka #[.int .i64 vl, .int .i64 vh]).setRow kb #[.int .i64 ll, .int .i64 lh]) ka #[.int .i64 vl, .int .i64 vh] 27 := HasBlk.rowx (setRow_heap _ _ _ _ _ _ XA.out) hne _
  have DB : HasBlk ((x.w.setRow ka #[.int .i64 vl, .int .i64 vh]).setRow kb #[.int .i64 ll, .int .i64 lh]) kb #[.int .i64 ll, .int .i64 lh] 27 := setRow_heap _ _ _ _ _ _ (HasBlk.rowx XB.out (Ne.symm hne) _)
  have DV := Tb.At.rowx (Tb.At.rowx XV.out (g := ka) (fun b o e => by have := hvb.out b o e; omega) #[.int .i64 vl, .int .i64 vh]) (g := kb) (fun b o e => by have := hvb.out b o e; omega) #[.int .i64 ll, .int .i64 lh]
  have DE := below_setRow (g := kb) (below_setRow (g := ka) XE.out (by omega) #[.int .i64 vl, .int .i64 vh]) (by omega) #[.int .i64 ll, .int .i64 lh]
  generalize (x.w.setRow ka #[.int .i64 vl, .int .i64 vh]).setRow kb #[.int .i64 ll, .int .i64 lh] = W1 at *
  have i0 := Soft.LtH.mk (w := W1) D0.lt
  have i1 := Soft.LtH.mk (w := W1) D1.lt
  have i3 := Soft.LtH.mk (w := W1) D3.lt
  have i4 := Soft.LtH.mk (w := W1) D4.lt
  have iA := Soft.LtH.mk (w := W1) DA.lt
  have iB := Soft.LtH.mk (w := W1) DB.lt
  have c03 := D0.cell 3
  have c10 := D1.cell 0
  have c13 := D1.cell 3
  have c14 := D1.cell 4
  have c15 := D1.cell 5
  have c30 := D3.cell 0
  have c31 := D3.cell 1
  have c40 := D4.cell 0
  have c41 := D4.cell 1
  have c42 := D4.cell 2
  have c43 := D4.cell 3
  have c44 := D4.cell 4
  have c45 := D4.cell 5
  have f40 := D4.frozen 0
  have f41 := D4.frozen 1
  have f42 := D4.frozen 2
  have f43 := D4.frozen 3
  have f44 := D4.frozen 4
  have f45 := D4.frozen 5
  have cA0 := DA.cell 0
  have cA1 := DA.cell 1
  have cB0 := DB.cell 0
  have cB1 := DB.cell 1
  simp at c03 c10 c13 c14 c15 c30 c31 c40 c41 c42 c43 c44 c45 cA0 cA1 cB0 cB1
  have BB := Lib.hid DE; have BV := Lib.hid DV
  clear D0 D1 D3 D4 DA DB DV DE X0 X1 X3 X4 XA XB XV XE
  go_wp2_with ((go_at_call 29; (with_reducible refine (HINV.out _ (by repeat (first | exact BV.out | refine Tb.At.alloc ?_ _ | refine Tb.At.bw ?_ _))).mono ?_); rintro e w_ ⟨rfl, hb_⟩; obtain ⟨y5, rfl⟩ := Soft.BW.mk hb_; clear hb_))
  all_goals
    have q5 := y5.below.size
    have q6 := i4.lt
    have q7 : ¬(y5.w.heap.size + 1 = w.heap.size + 1 + 1 + 1 + 1) := by omega
    have q8 : ¬(w.heap.size + 1 + 1 + 1 + 1 = y5.w.heap.size + 1) := by omega
    go_wp2_with ((go_at_call 30; (with_reducible refine (hold_hull d f.den _).mono ?_); rintro e w_ ⟨rfl, hb_⟩; obtain ⟨y6, rfl⟩ := Soft.BW.mk hb_; clear hb_))
    refine bodyPost_ret (v := .tuple #[.agg #[.int .i64 ((⟨f.hold, 3, ⟨ul, min uh f.ull.hi⟩, hullS d f.den⟩ : Fi)).hold, .int .i64 ((⟨f.hold, 3, ⟨ul, min uh f.ull.hi⟩, hullS d f.den⟩ : Fi)).state, .int .i64 (((⟨f.hold, 3, ⟨ul, min uh f.ull.hi⟩, hullS d f.den⟩ : Fi)).ull).lo, .int .i64 (((⟨f.hold, 3, ⟨ul, min uh f.ull.hi⟩, hullS d f.den⟩ : Fi)).ull).hi, .int .i64 (((⟨f.hold, 3, ⟨ul, min uh f.ull.hi⟩, hullS d f.den⟩ : Fi)).den).lo, .int .i64 (((⟨f.hold, 3, ⟨ul, min uh f.ull.hi⟩, hullS d f.den⟩ : Fi)).den).hi], .int .i64 0]) (by simp [results, Tryz.results8, go_sem, q7, q8, c40, c41, c42, c43, c44, c45, f40, f41, f42, f43, f44, f45]; omega) rfl ?_
    refine ⟨rfl, ?_⟩
    (repeat (first | with_reducible exact bel_refl _ | with_reducible refine bel_alloc ?_ _ | with_reducible refine bel_bw _ ?_ | with_reducible refine bel_drew ?_ | with_reducible refine bel_drewN _ ?_ | ((with_reducible refine bel_set ?_ ?_ _); rotate_left; focus (first | (simp; done) | omega | (simp; omega))) | refine bel_step ?_ (by with_reducible assumption)))
    exact BB.out

end Go.Proofs.YteagdcgmmdiakaaGreat
