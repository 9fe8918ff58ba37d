/-
  hold: Pump.
  Conditions: each theorem's own premises.
-/
import Derived.Test.YtbjdgaeikihjbaaGreatOvr
import Derived.Test.YtbjdgaeikihjbaaGreatLiq
import Derived.Test.YtbjdgaeikihjbaaGreatLit
namespace Go.Proofs.YtbjdgaeikihjbaaGreat
set_option linter.unusedSimpArgs false
set_option linter.unusedVariables false
open Go.RowKit
set_option maxRecDepth 100000
set_option maxHeartbeats 4000000
attribute [local go_sem] Instr.field asAgg Soft.upon Soft.BW.cell_if Soft.BW.frozen_if Soft.cell_alloc_if Soft.frozen_alloc_if

def zeroL : Lv := ⟨0, false, ⟨0, 0⟩, ⟨0, 0⟩⟩
/-- What is asked of the inverse when a tank is pumped. -/
def pumpV (t : Tk) (l : Lv) (m : Rg) : Rg := ⟨max ((heldS t l).lo + (litS m l.den).lo) 0, (heldS t l).hi + (litS m l.den).hi⟩
def pumpU (t : Tk) (l : Lv) (m : Rg) : Rg × Bool := invUp t.vol.ps (pumpV t l m)
/-- The level behind pumping, and the error. -/
def pumpE (t : Tk) (l : Lv) (m : Rg) : Lv × Int :=
  if levelErr t l ≠ 0 then (zeroL, levelErr t l) else if rangeErr m ≠ 0 then (zeroL, rangeErr m)
  else if (pumpV t l m).hi < 0 then (zeroL, 24)
  else if (pumpU t l m).2 = false then (zeroL, 24)
  else (⟨l.tank, false, (pumpU t l m).1, l.den⟩, 0)




theorem pump_neg (t : Tk) (l : Lv) (m v L : Rg) (uu : Rg × Bool) (w : World) (hh : t.At w) (hF : levelErr t l = 0) (hM : rangeErr m = 0) (hvb : ∀ b o, t.vol.p = some ⟨b, o, none⟩ → b < w.heap.size)
    (hv1 : 0 ≤ v.lo ∧ v.lo ≤ 1000000000 ∧ 0 ≤ v.hi ∧ v.hi ≤ 1000000000) (hl1 : -10000000000000000 ≤ L.lo ∧ L.lo ≤ 10000000000000000 ∧ -10000000000000000 ≤ L.hi ∧ L.hi ≤ 10000000000000000)
    (hVOL : ∀ W, t.At W → Calls Tryz.prog 86 #[.agg #[.int .i64 (t).id, .int .i64 ((t).along).lo, .int .i64 ((t).along).hi, .slice ((t).vol).p ((t).vol).n ((t).vol).c, .slice ((t).sur).p ((t).sur).n ((t).sur).c, .slice ((t).hei).p ((t).hei).n ((t).hei).c], .agg #[.int .i64 (l).tank, .bool (l).pressed, .int .i64 ((l).snd).lo, .int .i64 ((l).snd).hi, .int .i64 ((l).den).lo, .int .i64 ((l).den).hi]] W fun e w' => e = .returned (.agg #[.int .i64 (v).lo, .int .i64 (v).hi]) ∧ Below W.heap.size W w')
    (hLIT : ∀ W, Calls Tryz.prog 76 #[.agg #[.int .i64 (m).lo, .int .i64 (m).hi], .agg #[.int .i64 (l.den).lo, .int .i64 (l.den).hi]] W fun e w' => e = .returned (.agg #[.int .i64 (L).lo, .int .i64 (L).hi]) ∧ Below W.heap.size W w')
    (hINV : ∀ W, t.vol.At W → Calls Tryz.prog 77 #[.agg #[.slice (t.vol).p (t.vol).n (t.vol).c], .agg #[.int .i64 (max (v.lo + L.lo) 0), .int .i64 (v.hi + L.hi)], .int .i64 1] W fun e w' => e = .returned (.tuple #[.agg #[.int .i64 (uu.1).lo, .int .i64 (uu.1).hi], .bool uu.2]) ∧ Below W.heap.size W w')
    (hn : v.hi + L.hi < 0) :
    Calls Tryz.prog 34 #[.agg #[.int .i64 (t).id, .int .i64 ((t).along).lo, .int .i64 ((t).along).hi, .slice ((t).vol).p ((t).vol).n ((t).vol).c, .slice ((t).sur).p ((t).sur).n ((t).sur).c, .slice ((t).hei).p ((t).hei).n ((t).hei).c], .agg #[.int .i64 (l).tank, .bool (l).pressed, .int .i64 ((l).snd).lo, .int .i64 ((l).snd).hi, .int .i64 ((l).den).lo, .int .i64 ((l).den).hi], .agg #[.int .i64 (m).lo, .int .i64 (m).hi]] w fun e w' => e = .returned (.tuple #[.agg #[.int .i64 ((zeroL : Lv)).tank, .bool ((zeroL : Lv)).pressed, .int .i64 (((zeroL : Lv)).snd).lo, .int .i64 (((zeroL : Lv)).snd).hi, .int .i64 (((zeroL : Lv)).den).lo, .int .i64 (((zeroL : Lv)).den).hi], .int .i64 24]) ∧ Below w.heap.size w w' := by
  have hv := hh.1
  have dF : (levelErr t l != 0) = false := by rw [hF]; rfl
  have dM : (rangeErr m != 0) = false := by rw [hM]; rfl
  have hvb := Lib.hid hvb; have HVOL := Lib.hid hVOL; have HLIT := Lib.hid hLIT; have HINV := Lib.hid hINV
  obtain ⟨a1, a2, a3, a4⟩ := hv1
  obtain ⟨b1, b2, b3, b4⟩ := hl1
  obtain ⟨⟨ul, uh⟩, ub⟩ := uu
  obtain ⟨vl, vh⟩ := v
  obtain ⟨ll, lh⟩ := L
  dsimp only at *
  clear hF hM hVOL hLIT hINV
  go_enter Tryz.func34, Tryz.ntmps34
  go_wp2_with (first | (go_at_call 38; (with_reducible refine (hold_CheckLevel t l _ (by with_reducible repeat (first | exact hh | refine Ho.At.alloc ?_ _ | refine Ho.At.bw ?_ _ | refine Tk.At.alloc ?_ _ | refine Tk.At.bw ?_ _))).mono ?_); rintro e w_ ⟨rfl, hb_⟩; obtain ⟨y1, rfl⟩ := Soft.BW.mk hb_; clear hb_) | (go_at_call 82; (with_reducible refine (fix_CheckRange m _).mono ?_); rintro e w_ ⟨rfl, hb_⟩; obtain ⟨y2, rfl⟩ := Soft.BW.mk hb_; clear hb_))
  (refine Soft.region2 [0, 1, 2, 3, 4, 5, 6] 7 8 [9, 10] _ _ (by kernel_rfl) (by kernel_rfl) (by kernel_rfl) rfl rfl rfl rfl (by kernel_rfl) ?_; change Soft.wpSoft _ _ _ _ _ [_, _, _, _, _, _, _] _; (repeat (refine Soft.soft_step (fun K hK => ?_); go_simp; (try go_bits); first | (refine hK _ ?_; clear hK K) | (apply Exists.intro; refine ⟨fun x => ?_, hK _ ?_⟩; (first | (go_at_call 86; exact HVOL.out _ (by with_reducible repeat (first | exact hh | refine Ho.At.alloc ?_ _ | refine Ho.At.bw ?_ _ | refine Tk.At.alloc ?_ _ | refine Tk.At.bw ?_ _))) | (go_at_call 76; exact HLIT.out _)); clear hK K))); refine Soft.soft_nil ?_)
  refine ⟨fun b => .pointer (some ⟨b, 0, none⟩), .cells #[.int .i64 0, .int .i64 0] 23, fun b => .pointer (some ⟨b, 0, none⟩), .cells #[.int .i64 0, .int .i64 0] 23, fun x => by go_simp, fun k x => by go_simp, fun ka kb x hne na nb => ?_⟩
  change wpList _ _ _ [_, _] _ _
  have ka0 := na.le
  have kb0 := nb.le
  have s1 := y1.below.size
  have s2 := y2.below.size
  simp at ka0 kb0 s1
  have C0 : HasBlk x.w w.heap.size #[.int .i64 (t).id, .int .i64 ((t).along).lo, .int .i64 ((t).along).hi, .slice ((t).vol).p ((t).vol).n ((t).vol).c, .slice ((t).sur).p ((t).sur).n ((t).sur).c, .slice ((t).hei).p ((t).hei).n ((t).hei).c] 49 := (by simp only [HasBlk, Soft.BW.heap_if, Soft.heap_alloc_if, Soft.heap_new, Soft.heap_new1, Soft.heap_new2, Soft.heap_new3, Soft.heap_new4, Soft.heap_new5])
  have C1 : HasBlk x.w (w.heap.size + 1) #[.int .i64 (l).tank, .bool (l).pressed, .int .i64 ((l).snd).lo, .int .i64 ((l).snd).hi, .int .i64 ((l).den).lo, .int .i64 ((l).den).hi] 51 := (by simp only [HasBlk, Soft.BW.heap_if, Soft.heap_alloc_if, Soft.heap_new, Soft.heap_new1, Soft.heap_new2, Soft.heap_new3, Soft.heap_new4, Soft.heap_new5])
  have C3 : HasBlk x.w (w.heap.size + 1 + 1 + 1) #[.int .i64 0, .bool false, .int .i64 0, .int .i64 0, .int .i64 0, .int .i64 0] 51 := (by simp only [HasBlk, Soft.BW.heap_if, Soft.heap_alloc_if, Soft.heap_new, Soft.heap_new1, Soft.heap_new2, Soft.heap_new3, Soft.heap_new4, Soft.heap_new5])
  have CA := na.at_
  have CB := nb.at_
  have CV : t.vol.At x.w := (by repeat (first | exact hv | refine Tb.At.alloc ?_ _ | refine Tb.At.bw ?_ _))
  have CE : Below w.heap.size w x.w := by (repeat (first | with_reducible exact bel_refl _ | with_reducible refine bel_alloc ?_ _ | with_reducible refine bel_bw _ ?_ | with_reducible refine bel_drew ?_ | with_reducible refine bel_drewN _ ?_ | ((with_reducible refine bel_set ?_ ?_ _); rotate_left; focus (first | (simp; done) | omega | (simp; omega))) | refine bel_step ?_ (by with_reducible assumption)))
  have X0 := Lib.hid C0; have X1 := Lib.hid C1; have X3 := Lib.hid C3; have XA := Lib.hid CA; have XB := Lib.hid CB; have XV := Lib.hid CV; have XE := Lib.hid CE
  clear C0 C1 C3 CA CB CV CE na nb
  have n1 : ¬(ka = w.heap.size) := by omega
  have n2 : ¬(ka = w.heap.size + 1) := by omega
  have n3 : ¬(ka = w.heap.size + 1 + 1 + 1) := by omega
  have n5 : ¬(ka = kb) := hne
  have n6 : ¬(kb = ka) := Ne.symm hne
  refine wpList_store_row rfl 23 _ _ rfl ka _ rfl rfl 23 _ XA.out (by kernel_rfl) rfl (by kernel_rfl) ?_
  refine wpList_store_row rfl 23 _ _ rfl kb _ rfl rfl 23 _ (HasBlk.rowx XB.out (Ne.symm hne) _) (by kernel_rfl) rfl (by kernel_rfl) ?_
  have D0 := HasBlk.rowx (HasBlk.rowx X0.out (show w.heap.size ≠ ka by omega) #[.int .i64 vl, .int .i64 vh]) (show w.heap.size ≠ kb by omega) #[.int .i64 ll, .int .i64 lh]
  have D1 := HasBlk.rowx (HasBlk.rowx X1.out (show w.heap.size + 1 ≠ ka by omega) #[.int .i64 vl, .int .i64 vh]) (show w.heap.size + 1 ≠ kb by omega) #[.int .i64 ll, .int .i64 lh]
  have D3 := HasBlk.rowx (HasBlk.rowx X3.out (show w.heap.size + 1 + 1 + 1 ≠ ka by omega) #[.int .i64 vl, .int .i64 vh]) (show w.heap.size + 1 + 1 + 1 ≠ kb by omega) #[.int .i64 ll, .int .i64 lh]
  have DA : HasBlk ((x.w.setRow ka #[.int .i64 vl, .int .i64 vh]).setRow kb #[.int .i64 ll, .int .i64 lh]) ka #[.int .i64 vl, .int .i64 vh] 23 := HasBlk.rowx (setRow_heap _ _ _ _ _ _ XA.out) hne _
  have DB : HasBlk ((x.w.setRow ka #[.int .i64 vl, .int .i64 vh]).setRow kb #[.int .i64 ll, .int .i64 lh]) kb #[.int .i64 ll, .int .i64 lh] 23 := setRow_heap _ _ _ _ _ _ (HasBlk.rowx XB.out (Ne.symm hne) _)
  have DV := Tb.At.rowx (Tb.At.rowx XV.out (g := ka) (fun b o e => by have := hvb.out b o e; omega) #[.int .i64 vl, .int .i64 vh]) (g := kb) (fun b o e => by have := hvb.out b o e; omega) #[.int .i64 ll, .int .i64 lh]
  have DE := below_setRow (g := kb) (below_setRow (g := ka) XE.out (by omega) #[.int .i64 vl, .int .i64 vh]) (by omega) #[.int .i64 ll, .int .i64 lh]
  generalize (x.w.setRow ka #[.int .i64 vl, .int .i64 vh]).setRow kb #[.int .i64 ll, .int .i64 lh] = W1 at *
  have cA0 := DA.cell 0
  have cA1 := DA.cell 1
  have fA0 := DA.frozen 0
  have fA1 := DA.frozen 1
  have cB0 := DB.cell 0
  have cB1 := DB.cell 1
  have iA := Soft.LtH.mk (w := W1) DA.lt
  have iB := Soft.LtH.mk (w := W1) DB.lt
  simp at cA0 cA1 cB0 cB1
  have i0 := Soft.LtH.mk (w := W1) D0.lt
  have i1 := Soft.LtH.mk (w := W1) D1.lt
  have i3 := Soft.LtH.mk (w := W1) D3.lt
  have c03 := D0.cell 3
  have c10 := D1.cell 0
  have c14 := D1.cell 4
  have c15 := D1.cell 5
  have c30 := D3.cell 0
  have c31 := D3.cell 1
  have c32 := D3.cell 2
  have c33 := D3.cell 3
  have c34 := D3.cell 4
  have c35 := D3.cell 5
  have f30 := D3.frozen 0
  have f31 := D3.frozen 1
  have f32 := D3.frozen 2
  have f33 := D3.frozen 3
  have f34 := D3.frozen 4
  have f35 := D3.frozen 5
  simp at c03 c10 c14 c15 c30 c31 c32 c33 c34 c35
  have m1 : ¬(w.heap.size = ka) := by omega
  have m2 : ¬(w.heap.size + 1 = ka) := by omega
  have m3 : ¬(w.heap.size + 1 + 1 + 1 = ka) := by omega
  have BB := Lib.hid DE; have BV := Lib.hid DV
  clear D0 D1 D3 DA DB DV DE X0 X1 X3 XA XB XV XE
  go_wp2_with fail
  all_goals
    refine bodyPost_ret (v := .tuple #[.agg #[.int .i64 ((zeroL : Lv)).tank, .bool ((zeroL : Lv)).pressed, .int .i64 (((zeroL : Lv)).snd).lo, .int .i64 (((zeroL : Lv)).snd).hi, .int .i64 (((zeroL : Lv)).den).lo, .int .i64 (((zeroL : Lv)).den).hi], .int .i64 24]) (by simp [results, Tryz.results34, go_sem, zeroL, c30, c31, c32, c33, c34, c35, f30, f31, f32, f33, f34, f35, n1, n2, n3, m1, m2, m3]) rfl ?_
    refine ⟨rfl, ?_⟩
    (repeat (first | with_reducible exact bel_refl _ | with_reducible refine bel_alloc ?_ _ | with_reducible refine bel_bw _ ?_ | with_reducible refine bel_drew ?_ | with_reducible refine bel_drewN _ ?_ | ((with_reducible refine bel_set ?_ ?_ _); rotate_left; focus (first | (simp; done) | omega | (simp; omega))) | refine bel_step ?_ (by with_reducible assumption)))
    exact BB.out

theorem pump_noz (t : Tk) (l : Lv) (m v L : Rg) (uu : Rg × Bool) (w : World) (hh : t.At w) (hF : levelErr t l = 0) (hM : rangeErr m = 0) (hvb : ∀ b o, t.vol.p = some ⟨b, o, none⟩ → b < w.heap.size)
    (hv1 : 0 ≤ v.lo ∧ v.lo ≤ 1000000000 ∧ 0 ≤ v.hi ∧ v.hi ≤ 1000000000) (hl1 : -10000000000000000 ≤ L.lo ∧ L.lo ≤ 10000000000000000 ∧ -10000000000000000 ≤ L.hi ∧ L.hi ≤ 10000000000000000)
    (hVOL : ∀ W, t.At W → Calls Tryz.prog 86 #[.agg #[.int .i64 (t).id, .int .i64 ((t).along).lo, .int .i64 ((t).along).hi, .slice ((t).vol).p ((t).vol).n ((t).vol).c, .slice ((t).sur).p ((t).sur).n ((t).sur).c, .slice ((t).hei).p ((t).hei).n ((t).hei).c], .agg #[.int .i64 (l).tank, .bool (l).pressed, .int .i64 ((l).snd).lo, .int .i64 ((l).snd).hi, .int .i64 ((l).den).lo, .int .i64 ((l).den).hi]] W fun e w' => e = .returned (.agg #[.int .i64 (v).lo, .int .i64 (v).hi]) ∧ Below W.heap.size W w')
    (hLIT : ∀ W, Calls Tryz.prog 76 #[.agg #[.int .i64 (m).lo, .int .i64 (m).hi], .agg #[.int .i64 (l.den).lo, .int .i64 (l.den).hi]] W fun e w' => e = .returned (.agg #[.int .i64 (L).lo, .int .i64 (L).hi]) ∧ Below W.heap.size W w')
    (hINV : ∀ W, t.vol.At W → Calls Tryz.prog 77 #[.agg #[.slice (t.vol).p (t.vol).n (t.vol).c], .agg #[.int .i64 (max (v.lo + L.lo) 0), .int .i64 (v.hi + L.hi)], .int .i64 1] W fun e w' => e = .returned (.tuple #[.agg #[.int .i64 (uu.1).lo, .int .i64 (uu.1).hi], .bool uu.2]) ∧ Below W.heap.size W w')
    (hn : ¬v.hi + L.hi < 0) (hlo : v.lo + L.lo < 0) (hu : uu.2 = false) :
    Calls Tryz.prog 34 #[.agg #[.int .i64 (t).id, .int .i64 ((t).along).lo, .int .i64 ((t).along).hi, .slice ((t).vol).p ((t).vol).n ((t).vol).c, .slice ((t).sur).p ((t).sur).n ((t).sur).c, .slice ((t).hei).p ((t).hei).n ((t).hei).c], .agg #[.int .i64 (l).tank, .bool (l).pressed, .int .i64 ((l).snd).lo, .int .i64 ((l).snd).hi, .int .i64 ((l).den).lo, .int .i64 ((l).den).hi], .agg #[.int .i64 (m).lo, .int .i64 (m).hi]] w fun e w' => e = .returned (.tuple #[.agg #[.int .i64 ((zeroL : Lv)).tank, .bool ((zeroL : Lv)).pressed, .int .i64 (((zeroL : Lv)).snd).lo, .int .i64 (((zeroL : Lv)).snd).hi, .int .i64 (((zeroL : Lv)).den).lo, .int .i64 (((zeroL : Lv)).den).hi], .int .i64 24]) ∧ Below w.heap.size w w' := by
  have hv := hh.1
  have dF : (levelErr t l != 0) = false := by rw [hF]; rfl
  have dM : (rangeErr m != 0) = false := by rw [hM]; rfl
  have hvb := Lib.hid hvb; have HVOL := Lib.hid hVOL; have HLIT := Lib.hid hLIT; have HINV := Lib.hid hINV
  obtain ⟨a1, a2, a3, a4⟩ := hv1
  obtain ⟨b1, b2, b3, b4⟩ := hl1
  obtain ⟨⟨ul, uh⟩, ub⟩ := uu
  obtain ⟨vl, vh⟩ := v
  obtain ⟨ll, lh⟩ := L
  dsimp only at *
  clear hF hM hVOL hLIT hINV
  subst hu
  go_enter Tryz.func34, Tryz.ntmps34
  go_wp2_with (first | (go_at_call 38; (with_reducible refine (hold_CheckLevel t l _ (by with_reducible repeat (first | exact hh | refine Ho.At.alloc ?_ _ | refine Ho.At.bw ?_ _ | refine Tk.At.alloc ?_ _ | refine Tk.At.bw ?_ _))).mono ?_); rintro e w_ ⟨rfl, hb_⟩; obtain ⟨y1, rfl⟩ := Soft.BW.mk hb_; clear hb_) | (go_at_call 82; (with_reducible refine (fix_CheckRange m _).mono ?_); rintro e w_ ⟨rfl, hb_⟩; obtain ⟨y2, rfl⟩ := Soft.BW.mk hb_; clear hb_))
  (refine Soft.region2 [0, 1, 2, 3, 4, 5, 6] 7 8 [9, 10] _ _ (by kernel_rfl) (by kernel_rfl) (by kernel_rfl) rfl rfl rfl rfl (by kernel_rfl) ?_; change Soft.wpSoft _ _ _ _ _ [_, _, _, _, _, _, _] _; (repeat (refine Soft.soft_step (fun K hK => ?_); go_simp; (try go_bits); first | (refine hK _ ?_; clear hK K) | (apply Exists.intro; refine ⟨fun x => ?_, hK _ ?_⟩; (first | (go_at_call 86; exact HVOL.out _ (by with_reducible repeat (first | exact hh | refine Ho.At.alloc ?_ _ | refine Ho.At.bw ?_ _ | refine Tk.At.alloc ?_ _ | refine Tk.At.bw ?_ _))) | (go_at_call 76; exact HLIT.out _)); clear hK K))); refine Soft.soft_nil ?_)
  refine ⟨fun b => .pointer (some ⟨b, 0, none⟩), .cells #[.int .i64 0, .int .i64 0] 23, fun b => .pointer (some ⟨b, 0, none⟩), .cells #[.int .i64 0, .int .i64 0] 23, fun x => by go_simp, fun k x => by go_simp, fun ka kb x hne na nb => ?_⟩
  change wpList _ _ _ [_, _] _ _
  have ka0 := na.le
  have kb0 := nb.le
  have s1 := y1.below.size
  have s2 := y2.below.size
  simp at ka0 kb0 s1
  have C0 : HasBlk x.w w.heap.size #[.int .i64 (t).id, .int .i64 ((t).along).lo, .int .i64 ((t).along).hi, .slice ((t).vol).p ((t).vol).n ((t).vol).c, .slice ((t).sur).p ((t).sur).n ((t).sur).c, .slice ((t).hei).p ((t).hei).n ((t).hei).c] 49 := (by simp only [HasBlk, Soft.BW.heap_if, Soft.heap_alloc_if, Soft.heap_new, Soft.heap_new1, Soft.heap_new2, Soft.heap_new3, Soft.heap_new4, Soft.heap_new5])
  have C1 : HasBlk x.w (w.heap.size + 1) #[.int .i64 (l).tank, .bool (l).pressed, .int .i64 ((l).snd).lo, .int .i64 ((l).snd).hi, .int .i64 ((l).den).lo, .int .i64 ((l).den).hi] 51 := (by simp only [HasBlk, Soft.BW.heap_if, Soft.heap_alloc_if, Soft.heap_new, Soft.heap_new1, Soft.heap_new2, Soft.heap_new3, Soft.heap_new4, Soft.heap_new5])
  have C3 : HasBlk x.w (w.heap.size + 1 + 1 + 1) #[.int .i64 0, .bool false, .int .i64 0, .int .i64 0, .int .i64 0, .int .i64 0] 51 := (by simp only [HasBlk, Soft.BW.heap_if, Soft.heap_alloc_if, Soft.heap_new, Soft.heap_new1, Soft.heap_new2, Soft.heap_new3, Soft.heap_new4, Soft.heap_new5])
  have CA := na.at_
  have CB := nb.at_
  have CV : t.vol.At x.w := (by repeat (first | exact hv | refine Tb.At.alloc ?_ _ | refine Tb.At.bw ?_ _))
  have CE : Below w.heap.size w x.w := by (repeat (first | with_reducible exact bel_refl _ | with_reducible refine bel_alloc ?_ _ | with_reducible refine bel_bw _ ?_ | with_reducible refine bel_drew ?_ | with_reducible refine bel_drewN _ ?_ | ((with_reducible refine bel_set ?_ ?_ _); rotate_left; focus (first | (simp; done) | omega | (simp; omega))) | refine bel_step ?_ (by with_reducible assumption)))
  have X0 := Lib.hid C0; have X1 := Lib.hid C1; have X3 := Lib.hid C3; have XA := Lib.hid CA; have XB := Lib.hid CB; have XV := Lib.hid CV; have XE := Lib.hid CE
  clear C0 C1 C3 CA CB CV CE na nb
  have n1 : ¬(ka = w.heap.size) := by omega
  have n2 : ¬(ka = w.heap.size + 1) := by omega
  have n3 : ¬(ka = w.heap.size + 1 + 1 + 1) := by omega
  have n5 : ¬(ka = kb) := hne
  have n6 : ¬(kb = ka) := Ne.symm hne
  refine wpList_store_row rfl 23 _ _ rfl ka _ rfl rfl 23 _ XA.out (by kernel_rfl) rfl (by kernel_rfl) ?_
  refine wpList_store_row rfl 23 _ _ rfl kb _ rfl rfl 23 _ (HasBlk.rowx XB.out (Ne.symm hne) _) (by kernel_rfl) rfl (by kernel_rfl) ?_
  have D0 := HasBlk.rowx (HasBlk.rowx X0.out (show w.heap.size ≠ ka by omega) #[.int .i64 vl, .int .i64 vh]) (show w.heap.size ≠ kb by omega) #[.int .i64 ll, .int .i64 lh]
  have D1 := HasBlk.rowx (HasBlk.rowx X1.out (show w.heap.size + 1 ≠ ka by omega) #[.int .i64 vl, .int .i64 vh]) (show w.heap.size + 1 ≠ kb by omega) #[.int .i64 ll, .int .i64 lh]
  have D3 := HasBlk.rowx (HasBlk.rowx X3.out (show w.heap.size + 1 + 1 + 1 ≠ ka by omega) #[.int .i64 vl, .int .i64 vh]) (show w.heap.size + 1 + 1 + 1 ≠ kb by omega) #[.int .i64 ll, .int .i64 lh]
  have DA : HasBlk ((x.w.setRow ka #[.int .i64 vl, .int .i64 vh]).setRow kb #[.int .i64 ll, .int .i64 lh]) ka #[.int .i64 vl, .int .i64 vh] 23 := HasBlk.rowx (setRow_heap _ _ _ _ _ _ XA.out) hne _
  have DB : HasBlk ((x.w.setRow ka #[.int .i64 vl, .int .i64 vh]).setRow kb #[.int .i64 ll, .int .i64 lh]) kb #[.int .i64 ll, .int .i64 lh] 23 := setRow_heap _ _ _ _ _ _ (HasBlk.rowx XB.out (Ne.symm hne) _)
  have DV := Tb.At.rowx (Tb.At.rowx XV.out (g := ka) (fun b o e => by have := hvb.out b o e; omega) #[.int .i64 vl, .int .i64 vh]) (g := kb) (fun b o e => by have := hvb.out b o e; omega) #[.int .i64 ll, .int .i64 lh]
  have DE := below_setRow (g := kb) (below_setRow (g := ka) XE.out (by omega) #[.int .i64 vl, .int .i64 vh]) (by omega) #[.int .i64 ll, .int .i64 lh]
  generalize (x.w.setRow ka #[.int .i64 vl, .int .i64 vh]).setRow kb #[.int .i64 ll, .int .i64 lh] = W1 at *
  have cA0 := DA.cell 0
  have cA1 := DA.cell 1
  have fA0 := DA.frozen 0
  have fA1 := DA.frozen 1
  have cB0 := DB.cell 0
  have cB1 := DB.cell 1
  have iA := Soft.LtH.mk (w := W1) DA.lt
  have iB := Soft.LtH.mk (w := W1) DB.lt
  simp at cA0 cA1 cB0 cB1
  have i0 := Soft.LtH.mk (w := W1) D0.lt
  have i1 := Soft.LtH.mk (w := W1) D1.lt
  have i3 := Soft.LtH.mk (w := W1) D3.lt
  have c03 := D0.cell 3
  have c10 := D1.cell 0
  have c14 := D1.cell 4
  have c15 := D1.cell 5
  have c30 := D3.cell 0
  have c31 := D3.cell 1
  have c32 := D3.cell 2
  have c33 := D3.cell 3
  have c34 := D3.cell 4
  have c35 := D3.cell 5
  have f30 := D3.frozen 0
  have f31 := D3.frozen 1
  have f32 := D3.frozen 2
  have f33 := D3.frozen 3
  have f34 := D3.frozen 4
  have f35 := D3.frozen 5
  simp at c03 c10 c14 c15 c30 c31 c32 c33 c34 c35
  have m1 : ¬(w.heap.size = ka) := by omega
  have m2 : ¬(w.heap.size + 1 = ka) := by omega
  have m3 : ¬(w.heap.size + 1 + 1 + 1 = ka) := by omega
  have BB := Lib.hid DE; have BV := Lib.hid DV
  clear D0 D1 D3 DA DB DV DE X0 X1 X3 XA XB XV XE
  have HINV : Hid (∀ W, t.vol.At W → Calls Tryz.prog 77 #[.agg #[.slice (t.vol).p (t.vol).n (t.vol).c], .agg #[.int .i64 (0), .int .i64 (vh + lh)], .int .i64 1] W fun e w' => e = .returned (.tuple #[.agg #[.int .i64 ul, .int .i64 uh], .bool false]) ∧ Below W.heap.size W w') := Lib.hid (fun W hW => by have := HINV.out W hW; rwa [show max (vl + ll) 0 = 0 by omega] at this)
  go_wp2_with ((go_at_call 77; (with_reducible refine (HINV.out _ (by with_reducible repeat (first | exact BV.out | refine Tb.At.setCell ?_ (fun b o e => by have := hvb.out b o e; dsimp only; omega) _))).mono ?_); rintro e w_ ⟨rfl, hb_⟩; obtain ⟨y5, rfl⟩ := Soft.BW.mk hb_; clear hb_))
  refine bodyPost_ret (v := .tuple #[.agg #[.int .i64 ((zeroL : Lv)).tank, .bool ((zeroL : Lv)).pressed, .int .i64 (((zeroL : Lv)).snd).lo, .int .i64 (((zeroL : Lv)).snd).hi, .int .i64 (((zeroL : Lv)).den).lo, .int .i64 (((zeroL : Lv)).den).hi], .int .i64 24]) (by simp [results, Tryz.results34, go_sem, zeroL, c30, c31, c32, c33, c34, c35, f30, f31, f32, f33, f34, f35, n1, n2, n3, m1, m2, m3]) rfl ?_
  refine ⟨rfl, ?_⟩
  (repeat (first | with_reducible exact bel_refl _ | with_reducible refine bel_alloc ?_ _ | with_reducible refine bel_bw _ ?_ | with_reducible refine bel_drew ?_ | with_reducible refine bel_drewN _ ?_ | ((with_reducible refine bel_set ?_ ?_ _); rotate_left; focus (first | (simp; done) | omega | (simp; omega))) | refine bel_step ?_ (by with_reducible assumption)))
  exact BB.out

theorem pump_nop (t : Tk) (l : Lv) (m v L : Rg) (uu : Rg × Bool) (w : World) (hh : t.At w) (hF : levelErr t l = 0) (hM : rangeErr m = 0) (hvb : ∀ b o, t.vol.p = some ⟨b, o, none⟩ → b < w.heap.size)
    (hv1 : 0 ≤ v.lo ∧ v.lo ≤ 1000000000 ∧ 0 ≤ v.hi ∧ v.hi ≤ 1000000000) (hl1 : -10000000000000000 ≤ L.lo ∧ L.lo ≤ 10000000000000000 ∧ -10000000000000000 ≤ L.hi ∧ L.hi ≤ 10000000000000000)
    (hVOL : ∀ W, t.At W → Calls Tryz.prog 86 #[.agg #[.int .i64 (t).id, .int .i64 ((t).along).lo, .int .i64 ((t).along).hi, .slice ((t).vol).p ((t).vol).n ((t).vol).c, .slice ((t).sur).p ((t).sur).n ((t).sur).c, .slice ((t).hei).p ((t).hei).n ((t).hei).c], .agg #[.int .i64 (l).tank, .bool (l).pressed, .int .i64 ((l).snd).lo, .int .i64 ((l).snd).hi, .int .i64 ((l).den).lo, .int .i64 ((l).den).hi]] W fun e w' => e = .returned (.agg #[.int .i64 (v).lo, .int .i64 (v).hi]) ∧ Below W.heap.size W w')
    (hLIT : ∀ W, Calls Tryz.prog 76 #[.agg #[.int .i64 (m).lo, .int .i64 (m).hi], .agg #[.int .i64 (l.den).lo, .int .i64 (l.den).hi]] W fun e w' => e = .returned (.agg #[.int .i64 (L).lo, .int .i64 (L).hi]) ∧ Below W.heap.size W w')
    (hINV : ∀ W, t.vol.At W → Calls Tryz.prog 77 #[.agg #[.slice (t.vol).p (t.vol).n (t.vol).c], .agg #[.int .i64 (max (v.lo + L.lo) 0), .int .i64 (v.hi + L.hi)], .int .i64 1] W fun e w' => e = .returned (.tuple #[.agg #[.int .i64 (uu.1).lo, .int .i64 (uu.1).hi], .bool uu.2]) ∧ Below W.heap.size W w')
    (hn : ¬v.hi + L.hi < 0) (hlo : ¬v.lo + L.lo < 0) (hu : uu.2 = false) :
    Calls Tryz.prog 34 #[.agg #[.int .i64 (t).id, .int .i64 ((t).along).lo, .int .i64 ((t).along).hi, .slice ((t).vol).p ((t).vol).n ((t).vol).c, .slice ((t).sur).p ((t).sur).n ((t).sur).c, .slice ((t).hei).p ((t).hei).n ((t).hei).c], .agg #[.int .i64 (l).tank, .bool (l).pressed, .int .i64 ((l).snd).lo, .int .i64 ((l).snd).hi, .int .i64 ((l).den).lo, .int .i64 ((l).den).hi], .agg #[.int .i64 (m).lo, .int .i64 (m).hi]] w fun e w' => e = .returned (.tuple #[.agg #[.int .i64 ((zeroL : Lv)).tank, .bool ((zeroL : Lv)).pressed, .int .i64 (((zeroL : Lv)).snd).lo, .int .i64 (((zeroL : Lv)).snd).hi, .int .i64 (((zeroL : Lv)).den).lo, .int .i64 (((zeroL : Lv)).den).hi], .int .i64 24]) ∧ Below w.heap.size w w' := by
  have hv := hh.1
  have dF : (levelErr t l != 0) = false := by rw [hF]; rfl
  have dM : (rangeErr m != 0) = false := by rw [hM]; rfl
  have hvb := Lib.hid hvb; have HVOL := Lib.hid hVOL; have HLIT := Lib.hid hLIT; have HINV := Lib.hid hINV
  obtain ⟨a1, a2, a3, a4⟩ := hv1
  obtain ⟨b1, b2, b3, b4⟩ := hl1
  obtain ⟨⟨ul, uh⟩, ub⟩ := uu
  obtain ⟨vl, vh⟩ := v
  obtain ⟨ll, lh⟩ := L
  dsimp only at *
  clear hF hM hVOL hLIT hINV
  subst hu
  go_enter Tryz.func34, Tryz.ntmps34
  go_wp2_with (first | (go_at_call 38; (with_reducible refine (hold_CheckLevel t l _ (by with_reducible repeat (first | exact hh | refine Ho.At.alloc ?_ _ | refine Ho.At.bw ?_ _ | refine Tk.At.alloc ?_ _ | refine Tk.At.bw ?_ _))).mono ?_); rintro e w_ ⟨rfl, hb_⟩; obtain ⟨y1, rfl⟩ := Soft.BW.mk hb_; clear hb_) | (go_at_call 82; (with_reducible refine (fix_CheckRange m _).mono ?_); rintro e w_ ⟨rfl, hb_⟩; obtain ⟨y2, rfl⟩ := Soft.BW.mk hb_; clear hb_))
  (refine Soft.region2 [0, 1, 2, 3, 4, 5, 6] 7 8 [9, 10] _ _ (by kernel_rfl) (by kernel_rfl) (by kernel_rfl) rfl rfl rfl rfl (by kernel_rfl) ?_; change Soft.wpSoft _ _ _ _ _ [_, _, _, _, _, _, _] _; (repeat (refine Soft.soft_step (fun K hK => ?_); go_simp; (try go_bits); first | (refine hK _ ?_; clear hK K) | (apply Exists.intro; refine ⟨fun x => ?_, hK _ ?_⟩; (first | (go_at_call 86; exact HVOL.out _ (by with_reducible repeat (first | exact hh | refine Ho.At.alloc ?_ _ | refine Ho.At.bw ?_ _ | refine Tk.At.alloc ?_ _ | refine Tk.At.bw ?_ _))) | (go_at_call 76; exact HLIT.out _)); clear hK K))); refine Soft.soft_nil ?_)
  refine ⟨fun b => .pointer (some ⟨b, 0, none⟩), .cells #[.int .i64 0, .int .i64 0] 23, fun b => .pointer (some ⟨b, 0, none⟩), .cells #[.int .i64 0, .int .i64 0] 23, fun x => by go_simp, fun k x => by go_simp, fun ka kb x hne na nb => ?_⟩
  change wpList _ _ _ [_, _] _ _
  have ka0 := na.le
  have kb0 := nb.le
  have s1 := y1.below.size
  have s2 := y2.below.size
  simp at ka0 kb0 s1
  have C0 : HasBlk x.w w.heap.size #[.int .i64 (t).id, .int .i64 ((t).along).lo, .int .i64 ((t).along).hi, .slice ((t).vol).p ((t).vol).n ((t).vol).c, .slice ((t).sur).p ((t).sur).n ((t).sur).c, .slice ((t).hei).p ((t).hei).n ((t).hei).c] 49 := (by simp only [HasBlk, Soft.BW.heap_if, Soft.heap_alloc_if, Soft.heap_new, Soft.heap_new1, Soft.heap_new2, Soft.heap_new3, Soft.heap_new4, Soft.heap_new5])
  have C1 : HasBlk x.w (w.heap.size + 1) #[.int .i64 (l).tank, .bool (l).pressed, .int .i64 ((l).snd).lo, .int .i64 ((l).snd).hi, .int .i64 ((l).den).lo, .int .i64 ((l).den).hi] 51 := (by simp only [HasBlk, Soft.BW.heap_if, Soft.heap_alloc_if, Soft.heap_new, Soft.heap_new1, Soft.heap_new2, Soft.heap_new3, Soft.heap_new4, Soft.heap_new5])
  have C3 : HasBlk x.w (w.heap.size + 1 + 1 + 1) #[.int .i64 0, .bool false, .int .i64 0, .int .i64 0, .int .i64 0, .int .i64 0] 51 := (by simp only [HasBlk, Soft.BW.heap_if, Soft.heap_alloc_if, Soft.heap_new, Soft.heap_new1, Soft.heap_new2, Soft.heap_new3, Soft.heap_new4, Soft.heap_new5])
  have CA := na.at_
  have CB := nb.at_
  have CV : t.vol.At x.w := (by repeat (first | exact hv | refine Tb.At.alloc ?_ _ | refine Tb.At.bw ?_ _))
  have CE : Below w.heap.size w x.w := by (repeat (first | with_reducible exact bel_refl _ | with_reducible refine bel_alloc ?_ _ | with_reducible refine bel_bw _ ?_ | with_reducible refine bel_drew ?_ | with_reducible refine bel_drewN _ ?_ | ((with_reducible refine bel_set ?_ ?_ _); rotate_left; focus (first | (simp; done) | omega | (simp; omega))) | refine bel_step ?_ (by with_reducible assumption)))
  have X0 := Lib.hid C0; have X1 := Lib.hid C1; have X3 := Lib.hid C3; have XA := Lib.hid CA; have XB := Lib.hid CB; have XV := Lib.hid CV; have XE := Lib.hid CE
  clear C0 C1 C3 CA CB CV CE na nb
  have n1 : ¬(ka = w.heap.size) := by omega
  have n2 : ¬(ka = w.heap.size + 1) := by omega
  have n3 : ¬(ka = w.heap.size + 1 + 1 + 1) := by omega
  have n5 : ¬(ka = kb) := hne
  have n6 : ¬(kb = ka) := Ne.symm hne
  refine wpList_store_row rfl 23 _ _ rfl ka _ rfl rfl 23 _ XA.out (by kernel_rfl) rfl (by kernel_rfl) ?_
  refine wpList_store_row rfl 23 _ _ rfl kb _ rfl rfl 23 _ (HasBlk.rowx XB.out (Ne.symm hne) _) (by kernel_rfl) rfl (by kernel_rfl) ?_
  have D0 := HasBlk.rowx (HasBlk.rowx X0.out (show w.heap.size ≠ ka by omega) #[.int .i64 vl, .int .i64 vh]) (show w.heap.size ≠ kb by omega) #[.int .i64 ll, .int .i64 lh]
  have D1 := HasBlk.rowx (HasBlk.rowx X1.out (show w.heap.size + 1 ≠ ka by omega) #[.int .i64 vl, .int .i64 vh]) (show w.heap.size + 1 ≠ kb by omega) #[.int .i64 ll, .int .i64 lh]
  have D3 := HasBlk.rowx (HasBlk.rowx X3.out (show w.heap.size + 1 + 1 + 1 ≠ ka by omega) #[.int .i64 vl, .int .i64 vh]) (show w.heap.size + 1 + 1 + 1 ≠ kb by omega) #[.int .i64 ll, .int .i64 lh]
  have DA : HasBlk ((x.w.setRow ka #[.int .i64 vl, .int .i64 vh]).setRow kb #[.int .i64 ll, .int .i64 lh]) ka #[.int .i64 vl, .int .i64 vh] 23 := HasBlk.rowx (setRow_heap _ _ _ _ _ _ XA.out) hne _
  have DB : HasBlk ((x.w.setRow ka #[.int .i64 vl, .int .i64 vh]).setRow kb #[.int .i64 ll, .int .i64 lh]) kb #[.int .i64 ll, .int .i64 lh] 23 := setRow_heap _ _ _ _ _ _ (HasBlk.rowx XB.out (Ne.symm hne) _)
  have DV := Tb.At.rowx (Tb.At.rowx XV.out (g := ka) (fun b o e => by have := hvb.out b o e; omega) #[.int .i64 vl, .int .i64 vh]) (g := kb) (fun b o e => by have := hvb.out b o e; omega) #[.int .i64 ll, .int .i64 lh]
  have DE := below_setRow (g := kb) (below_setRow (g := ka) XE.out (by omega) #[.int .i64 vl, .int .i64 vh]) (by omega) #[.int .i64 ll, .int .i64 lh]
  generalize (x.w.setRow ka #[.int .i64 vl, .int .i64 vh]).setRow kb #[.int .i64 ll, .int .i64 lh] = W1 at *
  have cA0 := DA.cell 0
  have cA1 := DA.cell 1
  have fA0 := DA.frozen 0
  have fA1 := DA.frozen 1
  have cB0 := DB.cell 0
  have cB1 := DB.cell 1
  have iA := Soft.LtH.mk (w := W1) DA.lt
  have iB := Soft.LtH.mk (w := W1) DB.lt
  simp at cA0 cA1 cB0 cB1
  have i0 := Soft.LtH.mk (w := W1) D0.lt
  have i1 := Soft.LtH.mk (w := W1) D1.lt
  have i3 := Soft.LtH.mk (w := W1) D3.lt
  have c03 := D0.cell 3
  have c10 := D1.cell 0
  have c14 := D1.cell 4
  have c15 := D1.cell 5
  have c30 := D3.cell 0
  have c31 := D3.cell 1
  have c32 := D3.cell 2
  have c33 := D3.cell 3
  have c34 := D3.cell 4
  have c35 := D3.cell 5
  have f30 := D3.frozen 0
  have f31 := D3.frozen 1
  have f32 := D3.frozen 2
  have f33 := D3.frozen 3
  have f34 := D3.frozen 4
  have f35 := D3.frozen 5
  simp at c03 c10 c14 c15 c30 c31 c32 c33 c34 c35
  have m1 : ¬(w.heap.size = ka) := by omega
  have m2 : ¬(w.heap.size + 1 = ka) := by omega
  have m3 : ¬(w.heap.size + 1 + 1 + 1 = ka) := by omega
  have BB := Lib.hid DE; have BV := Lib.hid DV
  clear D0 D1 D3 DA DB DV DE X0 X1 X3 XA XB XV XE
  have HINV : Hid (∀ W, t.vol.At W → Calls Tryz.prog 77 #[.agg #[.slice (t.vol).p (t.vol).n (t.vol).c], .agg #[.int .i64 (vl + ll), .int .i64 (vh + lh)], .int .i64 1] W fun e w' => e = .returned (.tuple #[.agg #[.int .i64 ul, .int .i64 uh], .bool false]) ∧ Below W.heap.size W w') := Lib.hid (fun W hW => by have := HINV.out W hW; rwa [show max (vl + ll) 0 = vl + ll by omega] at this)
  go_wp2_with ((go_at_call 77; (with_reducible refine (HINV.out _ (by with_reducible repeat (first | exact BV.out | refine Tb.At.setCell ?_ (fun b o e => by have := hvb.out b o e; dsimp only; omega) _))).mono ?_); rintro e w_ ⟨rfl, hb_⟩; obtain ⟨y5, rfl⟩ := Soft.BW.mk hb_; clear hb_))
  refine bodyPost_ret (v := .tuple #[.agg #[.int .i64 ((zeroL : Lv)).tank, .bool ((zeroL : Lv)).pressed, .int .i64 (((zeroL : Lv)).snd).lo, .int .i64 (((zeroL : Lv)).snd).hi, .int .i64 (((zeroL : Lv)).den).lo, .int .i64 (((zeroL : Lv)).den).hi], .int .i64 24]) (by simp [results, Tryz.results34, go_sem, zeroL, c30, c31, c32, c33, c34, c35, f30, f31, f32, f33, f34, f35, n1, n2, n3, m1, m2, m3]) rfl ?_
  refine ⟨rfl, ?_⟩
  (repeat (first | with_reducible exact bel_refl _ | with_reducible refine bel_alloc ?_ _ | with_reducible refine bel_bw _ ?_ | with_reducible refine bel_drew ?_ | with_reducible refine bel_drewN _ ?_ | ((with_reducible refine bel_set ?_ ?_ _); rotate_left; focus (first | (simp; done) | omega | (simp; omega))) | refine bel_step ?_ (by with_reducible assumption)))
  exact BB.out

theorem pump_yesz (t : Tk) (l : Lv) (m v L : Rg) (uu : Rg × Bool) (w : World) (hh : t.At w) (hF : levelErr t l = 0) (hM : rangeErr m = 0) (hvb : ∀ b o, t.vol.p = some ⟨b, o, none⟩ → b < w.heap.size)
    (hv1 : 0 ≤ v.lo ∧ v.lo ≤ 1000000000 ∧ 0 ≤ v.hi ∧ v.hi ≤ 1000000000) (hl1 : -10000000000000000 ≤ L.lo ∧ L.lo ≤ 10000000000000000 ∧ -10000000000000000 ≤ L.hi ∧ L.hi ≤ 10000000000000000)
    (hVOL : ∀ W, t.At W → Calls Tryz.prog 86 #[.agg #[.int .i64 (t).id, .int .i64 ((t).along).lo, .int .i64 ((t).along).hi, .slice ((t).vol).p ((t).vol).n ((t).vol).c, .slice ((t).sur).p ((t).sur).n ((t).sur).c, .slice ((t).hei).p ((t).hei).n ((t).hei).c], .agg #[.int .i64 (l).tank, .bool (l).pressed, .int .i64 ((l).snd).lo, .int .i64 ((l).snd).hi, .int .i64 ((l).den).lo, .int .i64 ((l).den).hi]] W fun e w' => e = .returned (.agg #[.int .i64 (v).lo, .int .i64 (v).hi]) ∧ Below W.heap.size W w')
    (hLIT : ∀ W, Calls Tryz.prog 76 #[.agg #[.int .i64 (m).lo, .int .i64 (m).hi], .agg #[.int .i64 (l.den).lo, .int .i64 (l.den).hi]] W fun e w' => e = .returned (.agg #[.int .i64 (L).lo, .int .i64 (L).hi]) ∧ Below W.heap.size W w')
    (hINV : ∀ W, t.vol.At W → Calls Tryz.prog 77 #[.agg #[.slice (t.vol).p (t.vol).n (t.vol).c], .agg #[.int .i64 (max (v.lo + L.lo) 0), .int .i64 (v.hi + L.hi)], .int .i64 1] W fun e w' => e = .returned (.tuple #[.agg #[.int .i64 (uu.1).lo, .int .i64 (uu.1).hi], .bool uu.2]) ∧ Below W.heap.size W w')
    (hn : ¬v.hi + L.hi < 0) (hlo : v.lo + L.lo < 0) (hu : uu.2 = true) :
    Calls Tryz.prog 34 #[.agg #[.int .i64 (t).id, .int .i64 ((t).along).lo, .int .i64 ((t).along).hi, .slice ((t).vol).p ((t).vol).n ((t).vol).c, .slice ((t).sur).p ((t).sur).n ((t).sur).c, .slice ((t).hei).p ((t).hei).n ((t).hei).c], .agg #[.int .i64 (l).tank, .bool (l).pressed, .int .i64 ((l).snd).lo, .int .i64 ((l).snd).hi, .int .i64 ((l).den).lo, .int .i64 ((l).den).hi], .agg #[.int .i64 (m).lo, .int .i64 (m).hi]] w fun e w' => e = .returned (.tuple #[.agg #[.int .i64 ((⟨l.tank, false, uu.1, l.den⟩ : Lv)).tank, .bool ((⟨l.tank, false, uu.1, l.den⟩ : Lv)).pressed, .int .i64 (((⟨l.tank, false, uu.1, l.den⟩ : Lv)).snd).lo, .int .i64 (((⟨l.tank, false, uu.1, l.den⟩ : Lv)).snd).hi, .int .i64 (((⟨l.tank, false, uu.1, l.den⟩ : Lv)).den).lo, .int .i64 (((⟨l.tank, false, uu.1, l.den⟩ : Lv)).den).hi], .int .i64 0]) ∧ Below w.heap.size w w' := by
  have hv := hh.1
  have dF : (levelErr t l != 0) = false := by rw [hF]; rfl
  have dM : (rangeErr m != 0) = false := by rw [hM]; rfl
  have hvb := Lib.hid hvb; have HVOL := Lib.hid hVOL; have HLIT := Lib.hid hLIT; have HINV := Lib.hid hINV
  obtain ⟨a1, a2, a3, a4⟩ := hv1
  obtain ⟨b1, b2, b3, b4⟩ := hl1
  obtain ⟨⟨ul, uh⟩, ub⟩ := uu
  obtain ⟨vl, vh⟩ := v
  obtain ⟨ll, lh⟩ := L
  dsimp only at *
  clear hF hM hVOL hLIT hINV
  subst hu
  go_enter Tryz.func34, Tryz.ntmps34
  go_wp2_with (first | (go_at_call 38; (with_reducible refine (hold_CheckLevel t l _ (by with_reducible repeat (first | exact hh | refine Ho.At.alloc ?_ _ | refine Ho.At.bw ?_ _ | refine Tk.At.alloc ?_ _ | refine Tk.At.bw ?_ _))).mono ?_); rintro e w_ ⟨rfl, hb_⟩; obtain ⟨y1, rfl⟩ := Soft.BW.mk hb_; clear hb_) | (go_at_call 82; (with_reducible refine (fix_CheckRange m _).mono ?_); rintro e w_ ⟨rfl, hb_⟩; obtain ⟨y2, rfl⟩ := Soft.BW.mk hb_; clear hb_))
  (refine Soft.region2 [0, 1, 2, 3, 4, 5, 6] 7 8 [9, 10] _ _ (by kernel_rfl) (by kernel_rfl) (by kernel_rfl) rfl rfl rfl rfl (by kernel_rfl) ?_; change Soft.wpSoft _ _ _ _ _ [_, _, _, _, _, _, _] _; (repeat (refine Soft.soft_step (fun K hK => ?_); go_simp; (try go_bits); first | (refine hK _ ?_; clear hK K) | (apply Exists.intro; refine ⟨fun x => ?_, hK _ ?_⟩; (first | (go_at_call 86; exact HVOL.out _ (by with_reducible repeat (first | exact hh | refine Ho.At.alloc ?_ _ | refine Ho.At.bw ?_ _ | refine Tk.At.alloc ?_ _ | refine Tk.At.bw ?_ _))) | (go_at_call 76; exact HLIT.out _)); clear hK K))); refine Soft.soft_nil ?_)
  refine ⟨fun b => .pointer (some ⟨b, 0, none⟩), .cells #[.int .i64 0, .int .i64 0] 23, fun b => .pointer (some ⟨b, 0, none⟩), .cells #[.int .i64 0, .int .i64 0] 23, fun x => by go_simp, fun k x => by go_simp, fun ka kb x hne na nb => ?_⟩
  change wpList _ _ _ [_, _] _ _
  have ka0 := na.le
  have kb0 := nb.le
  have s1 := y1.below.size
  have s2 := y2.below.size
  simp at ka0 kb0 s1
  have C0 : HasBlk x.w w.heap.size #[.int .i64 (t).id, .int .i64 ((t).along).lo, .int .i64 ((t).along).hi, .slice ((t).vol).p ((t).vol).n ((t).vol).c, .slice ((t).sur).p ((t).sur).n ((t).sur).c, .slice ((t).hei).p ((t).hei).n ((t).hei).c] 49 := (by simp only [HasBlk, Soft.BW.heap_if, Soft.heap_alloc_if, Soft.heap_new, Soft.heap_new1, Soft.heap_new2, Soft.heap_new3, Soft.heap_new4, Soft.heap_new5])
  have C1 : HasBlk x.w (w.heap.size + 1) #[.int .i64 (l).tank, .bool (l).pressed, .int .i64 ((l).snd).lo, .int .i64 ((l).snd).hi, .int .i64 ((l).den).lo, .int .i64 ((l).den).hi] 51 := (by simp only [HasBlk, Soft.BW.heap_if, Soft.heap_alloc_if, Soft.heap_new, Soft.heap_new1, Soft.heap_new2, Soft.heap_new3, Soft.heap_new4, Soft.heap_new5])
  have C3 : HasBlk x.w (w.heap.size + 1 + 1 + 1) #[.int .i64 0, .bool false, .int .i64 0, .int .i64 0, .int .i64 0, .int .i64 0] 51 := (by simp only [HasBlk, Soft.BW.heap_if, Soft.heap_alloc_if, Soft.heap_new, Soft.heap_new1, Soft.heap_new2, Soft.heap_new3, Soft.heap_new4, Soft.heap_new5])
  have CA := na.at_
  have CB := nb.at_
  have CV : t.vol.At x.w := (by repeat (first | exact hv | refine Tb.At.alloc ?_ _ | refine Tb.At.bw ?_ _))
  have CE : Below w.heap.size w x.w := by (repeat (first | with_reducible exact bel_refl _ | with_reducible refine bel_alloc ?_ _ | with_reducible refine bel_bw _ ?_ | with_reducible refine bel_drew ?_ | with_reducible refine bel_drewN _ ?_ | ((with_reducible refine bel_set ?_ ?_ _); rotate_left; focus (first | (simp; done) | omega | (simp; omega))) | refine bel_step ?_ (by with_reducible assumption)))
  have X0 := Lib.hid C0; have X1 := Lib.hid C1; have X3 := Lib.hid C3; have XA := Lib.hid CA; have XB := Lib.hid CB; have XV := Lib.hid CV; have XE := Lib.hid CE
  clear C0 C1 C3 CA CB CV CE na nb
  have n1 : ¬(ka = w.heap.size) := by omega
  have n2 : ¬(ka = w.heap.size + 1) := by omega
  have n3 : ¬(ka = w.heap.size + 1 + 1 + 1) := by omega
  have n5 : ¬(ka = kb) := hne
  have n6 : ¬(kb = ka) := Ne.symm hne
  refine wpList_store_row rfl 23 _ _ rfl ka _ rfl rfl 23 _ XA.out (by kernel_rfl) rfl (by kernel_rfl) ?_
  refine wpList_store_row rfl 23 _ _ rfl kb _ rfl rfl 23 _ (HasBlk.rowx XB.out (Ne.symm hne) _) (by kernel_rfl) rfl (by kernel_rfl) ?_
  have D0 := HasBlk.rowx (HasBlk.rowx X0.out (show w.heap.size ≠ ka by omega) #[.int .i64 vl, .int .i64 vh]) (show w.heap.size ≠ kb by omega) #[.int .i64 ll, .int .i64 lh]
  have D1 := HasBlk.rowx (HasBlk.rowx X1.out (show w.heap.size + 1 ≠ ka by omega) #[.int .i64 vl, .int .i64 vh]) (show w.heap.size + 1 ≠ kb by omega) #[.int .i64 ll, .int .i64 lh]
  have D3 := HasBlk.rowx (HasBlk.rowx X3.out (show w.heap.size + 1 + 1 + 1 ≠ ka by omega) #[.int .i64 vl, .int .i64 vh]) (show w.heap.size + 1 + 1 + 1 ≠ kb by omega) #[.int .i64 ll, .int .i64 lh]
  have DA : HasBlk ((x.w.setRow ka #[.int .i64 vl, .int .i64 vh]).setRow kb #[.int .i64 ll, .int .i64 lh]) ka #[.int .i64 vl, .int .i64 vh] 23 := HasBlk.rowx (setRow_heap _ _ _ _ _ _ XA.out) hne _
  have DB : HasBlk ((x.w.setRow ka #[.int .i64 vl, .int .i64 vh]).setRow kb #[.int .i64 ll, .int .i64 lh]) kb #[.int .i64 ll, .int .i64 lh] 23 := setRow_heap _ _ _ _ _ _ (HasBlk.rowx XB.out (Ne.symm hne) _)
  have DV := Tb.At.rowx (Tb.At.rowx XV.out (g := ka) (fun b o e => by have := hvb.out b o e; omega) #[.int .i64 vl, .int .i64 vh]) (g := kb) (fun b o e => by have := hvb.out b o e; omega) #[.int .i64 ll, .int .i64 lh]
  have DE := below_setRow (g := kb) (below_setRow (g := ka) XE.out (by omega) #[.int .i64 vl, .int .i64 vh]) (by omega) #[.int .i64 ll, .int .i64 lh]
  generalize (x.w.setRow ka #[.int .i64 vl, .int .i64 vh]).setRow kb #[.int .i64 ll, .int .i64 lh] = W1 at *
  have cA0 := DA.cell 0
  have cA1 := DA.cell 1
  have fA0 := DA.frozen 0
  have fA1 := DA.frozen 1
  have cB0 := DB.cell 0
  have cB1 := DB.cell 1
  have iA := Soft.LtH.mk (w := W1) DA.lt
  have iB := Soft.LtH.mk (w := W1) DB.lt
  simp at cA0 cA1 cB0 cB1
  have i0 := Soft.LtH.mk (w := W1) D0.lt
  have i1 := Soft.LtH.mk (w := W1) D1.lt
  have i3 := Soft.LtH.mk (w := W1) D3.lt
  have c03 := D0.cell 3
  have c10 := D1.cell 0
  have c14 := D1.cell 4
  have c15 := D1.cell 5
  have c30 := D3.cell 0
  have c31 := D3.cell 1
  have c32 := D3.cell 2
  have c33 := D3.cell 3
  have c34 := D3.cell 4
  have c35 := D3.cell 5
  have f30 := D3.frozen 0
  have f31 := D3.frozen 1
  have f32 := D3.frozen 2
  have f33 := D3.frozen 3
  have f34 := D3.frozen 4
  have f35 := D3.frozen 5
  simp at c03 c10 c14 c15 c30 c31 c32 c33 c34 c35
  have m1 : ¬(w.heap.size = ka) := by omega
  have m2 : ¬(w.heap.size + 1 = ka) := by omega
  have m3 : ¬(w.heap.size + 1 + 1 + 1 = ka) := by omega
  have BB := Lib.hid DE; have BV := Lib.hid DV
  clear D0 D1 D3 DA DB DV DE X0 X1 X3 XA XB XV XE
  have HINV : Hid (∀ W, t.vol.At W → Calls Tryz.prog 77 #[.agg #[.slice (t.vol).p (t.vol).n (t.vol).c], .agg #[.int .i64 (0), .int .i64 (vh + lh)], .int .i64 1] W fun e w' => e = .returned (.tuple #[.agg #[.int .i64 ul, .int .i64 uh], .bool true]) ∧ Below W.heap.size W w') := Lib.hid (fun W hW => by have := HINV.out W hW; rwa [show max (vl + ll) 0 = 0 by omega] at this)
  go_wp2_with ((go_at_call 77; (with_reducible refine (HINV.out _ (by with_reducible repeat (first | exact BV.out | refine Tb.At.setCell ?_ (fun b o e => by have := hvb.out b o e; dsimp only; omega) _))).mono ?_); rintro e w_ ⟨rfl, hb_⟩; obtain ⟨y5, rfl⟩ := Soft.BW.mk hb_; clear hb_))
  refine bodyPost_ret (v := .tuple #[.agg #[.int .i64 ((⟨l.tank, false, ⟨ul, uh⟩, l.den⟩ : Lv)).tank, .bool ((⟨l.tank, false, ⟨ul, uh⟩, l.den⟩ : Lv)).pressed, .int .i64 (((⟨l.tank, false, ⟨ul, uh⟩, l.den⟩ : Lv)).snd).lo, .int .i64 (((⟨l.tank, false, ⟨ul, uh⟩, l.den⟩ : Lv)).snd).hi, .int .i64 (((⟨l.tank, false, ⟨ul, uh⟩, l.den⟩ : Lv)).den).lo, .int .i64 (((⟨l.tank, false, ⟨ul, uh⟩, l.den⟩ : Lv)).den).hi], .int .i64 0]) (by simp [results, Tryz.results34, go_sem, zeroL, c30, c31, c32, c33, c34, c35, f30, f31, f32, f33, f34, f35, n1, n2, n3, m1, m2, m3]) rfl ?_
  refine ⟨rfl, ?_⟩
  (repeat (first | with_reducible exact bel_refl _ | with_reducible refine bel_alloc ?_ _ | with_reducible refine bel_bw _ ?_ | with_reducible refine bel_drew ?_ | with_reducible refine bel_drewN _ ?_ | ((with_reducible refine bel_set ?_ ?_ _); rotate_left; focus (first | (simp; done) | omega | (simp; omega))) | refine bel_step ?_ (by with_reducible assumption)))
  exact BB.out

theorem pump_yesp (t : Tk) (l : Lv) (m v L : Rg) (uu : Rg × Bool) (w : World) (hh : t.At w) (hF : levelErr t l = 0) (hM : rangeErr m = 0) (hvb : ∀ b o, t.vol.p = some ⟨b, o, none⟩ → b < w.heap.size)
    (hv1 : 0 ≤ v.lo ∧ v.lo ≤ 1000000000 ∧ 0 ≤ v.hi ∧ v.hi ≤ 1000000000) (hl1 : -10000000000000000 ≤ L.lo ∧ L.lo ≤ 10000000000000000 ∧ -10000000000000000 ≤ L.hi ∧ L.hi ≤ 10000000000000000)
    (hVOL : ∀ W, t.At W → Calls Tryz.prog 86 #[.agg #[.int .i64 (t).id, .int .i64 ((t).along).lo, .int .i64 ((t).along).hi, .slice ((t).vol).p ((t).vol).n ((t).vol).c, .slice ((t).sur).p ((t).sur).n ((t).sur).c, .slice ((t).hei).p ((t).hei).n ((t).hei).c], .agg #[.int .i64 (l).tank, .bool (l).pressed, .int .i64 ((l).snd).lo, .int .i64 ((l).snd).hi, .int .i64 ((l).den).lo, .int .i64 ((l).den).hi]] W fun e w' => e = .returned (.agg #[.int .i64 (v).lo, .int .i64 (v).hi]) ∧ Below W.heap.size W w')
    (hLIT : ∀ W, Calls Tryz.prog 76 #[.agg #[.int .i64 (m).lo, .int .i64 (m).hi], .agg #[.int .i64 (l.den).lo, .int .i64 (l.den).hi]] W fun e w' => e = .returned (.agg #[.int .i64 (L).lo, .int .i64 (L).hi]) ∧ Below W.heap.size W w')
    (hINV : ∀ W, t.vol.At W → Calls Tryz.prog 77 #[.agg #[.slice (t.vol).p (t.vol).n (t.vol).c], .agg #[.int .i64 (max (v.lo + L.lo) 0), .int .i64 (v.hi + L.hi)], .int .i64 1] W fun e w' => e = .returned (.tuple #[.agg #[.int .i64 (uu.1).lo, .int .i64 (uu.1).hi], .bool uu.2]) ∧ Below W.heap.size W w')
    (hn : ¬v.hi + L.hi < 0) (hlo : ¬v.lo + L.lo < 0) (hu : uu.2 = true) :
    Calls Tryz.prog 34 #[.agg #[.int .i64 (t).id, .int .i64 ((t).along).lo, .int .i64 ((t).along).hi, .slice ((t).vol).p ((t).vol).n ((t).vol).c, .slice ((t).sur).p ((t).sur).n ((t).sur).c, .slice ((t).hei).p ((t).hei).n ((t).hei).c], .agg #[.int .i64 (l).tank, .bool (l).pressed, .int .i64 ((l).snd).lo, .int .i64 ((l).snd).hi, .int .i64 ((l).den).lo, .int .i64 ((l).den).hi], .agg #[.int .i64 (m).lo, .int .i64 (m).hi]] w fun e w' => e = .returned (.tuple #[.agg #[.int .i64 ((⟨l.tank, false, uu.1, l.den⟩ : Lv)).tank, .bool ((⟨l.tank, false, uu.1, l.den⟩ : Lv)).pressed, .int .i64 (((⟨l.tank, false, uu.1, l.den⟩ : Lv)).snd).lo, .int .i64 (((⟨l.tank, false, uu.1, l.den⟩ : Lv)).snd).hi, .int .i64 (((⟨l.tank, false, uu.1, l.den⟩ : Lv)).den).lo, .int .i64 (((⟨l.tank, false, uu.1, l.den⟩ : Lv)).den).hi], .int .i64 0]) ∧ Below w.heap.size w w' := by
  have hv := hh.1
  have dF : (levelErr t l != 0) = false := by rw [hF]; rfl
  have dM : (rangeErr m != 0) = false := by rw [hM]; rfl
  have hvb := Lib.hid hvb; have HVOL := Lib.hid hVOL; have HLIT := Lib.hid hLIT; have HINV := Lib.hid hINV
  obtain ⟨a1, a2, a3, a4⟩ := hv1
  obtain ⟨b1, b2, b3, b4⟩ := hl1
  obtain ⟨⟨ul, uh⟩, ub⟩ := uu
  obtain ⟨vl, vh⟩ := v
  obtain ⟨ll, lh⟩ := L
  dsimp only at *
  clear hF hM hVOL hLIT hINV
  subst hu
  go_enter Tryz.func34, Tryz.ntmps34
  go_wp2_with (first | (go_at_call 38; (with_reducible refine (hold_CheckLevel t l _ (by with_reducible repeat (first | exact hh | refine Ho.At.alloc ?_ _ | refine Ho.At.bw ?_ _ | refine Tk.At.alloc ?_ _ | refine Tk.At.bw ?_ _))).mono ?_); rintro e w_ ⟨rfl, hb_⟩; obtain ⟨y1, rfl⟩ := Soft.BW.mk hb_; clear hb_) | (go_at_call 82; (with_reducible refine (fix_CheckRange m _).mono ?_); rintro e w_ ⟨rfl, hb_⟩; obtain ⟨y2, rfl⟩ := Soft.BW.mk hb_; clear hb_))
  (refine Soft.region2 [0, 1, 2, 3, 4, 5, 6] 7 8 [9, 10] _ _ (by kernel_rfl) (by kernel_rfl) (by kernel_rfl) rfl rfl rfl rfl (by kernel_rfl) ?_; change Soft.wpSoft _ _ _ _ _ [_, _, _, _, _, _, _] _; (repeat (refine Soft.soft_step (fun K hK => ?_); go_simp; (try go_bits); first | (refine hK _ ?_; clear hK K) | (apply Exists.intro; refine ⟨fun x => ?_, hK _ ?_⟩; (first | (go_at_call 86; exact HVOL.out _ (by with_reducible repeat (first | exact hh | refine Ho.At.alloc ?_ _ | refine Ho.At.bw ?_ _ | refine Tk.At.alloc ?_ _ | refine Tk.At.bw ?_ _))) | (go_at_call 76; exact HLIT.out _)); clear hK K))); refine Soft.soft_nil ?_)
  refine ⟨fun b => .pointer (some ⟨b, 0, none⟩), .cells #[.int .i64 0, .int .i64 0] 23, fun b => .pointer (some ⟨b, 0, none⟩), .cells #[.int .i64 0, .int .i64 0] 23, fun x => by go_simp, fun k x => by go_simp, fun ka kb x hne na nb => ?_⟩
  change wpList _ _ _ [_, _] _ _
  have ka0 := na.le
  have kb0 := nb.le
  have s1 := y1.below.size
  have s2 := y2.below.size
  simp at ka0 kb0 s1
  have C0 : HasBlk x.w w.heap.size #[.int .i64 (t).id, .int .i64 ((t).along).lo, .int .i64 ((t).along).hi, .slice ((t).vol).p ((t).vol).n ((t).vol).c, .slice ((t).sur).p ((t).sur).n ((t).sur).c, .slice ((t).hei).p ((t).hei).n ((t).hei).c] 49 := (by simp only [HasBlk, Soft.BW.heap_if, Soft.heap_alloc_if, Soft.heap_new, Soft.heap_new1, Soft.heap_new2, Soft.heap_new3, Soft.heap_new4, Soft.heap_new5])
  have C1 : HasBlk x.w (w.heap.size + 1) #[.int .i64 (l).tank, .bool (l).pressed, .int .i64 ((l).snd).lo, .int .i64 ((l).snd).hi, .int .i64 ((l).den).lo, .int .i64 ((l).den).hi] 51 := (by simp only [HasBlk, Soft.BW.heap_if, Soft.heap_alloc_if, Soft.heap_new, Soft.heap_new1, Soft.heap_new2, Soft.heap_new3, Soft.heap_new4, Soft.heap_new5])
  have C3 : HasBlk x.w (w.heap.size + 1 + 1 + 1) #[.int .i64 0, .bool false, .int .i64 0, .int .i64 0, .int .i64 0, .int .i64 0] 51 := (by simp only [HasBlk, Soft.BW.heap_if, Soft.heap_alloc_if, Soft.heap_new, Soft.heap_new1, Soft.heap_new2, Soft.heap_new3, Soft.heap_new4, Soft.heap_new5])
  have CA := na.at_
  have CB := nb.at_
  have CV : t.vol.At x.w := (by repeat (first | exact hv | refine Tb.At.alloc ?_ _ | refine Tb.At.bw ?_ _))
  have CE : Below w.heap.size w x.w := by (repeat (first | with_reducible exact bel_refl _ | with_reducible refine bel_alloc ?_ _ | with_reducible refine bel_bw _ ?_ | with_reducible refine bel_drew ?_ | with_reducible refine bel_drewN _ ?_ | ((with_reducible refine bel_set ?_ ?_ _); rotate_left; focus (first | (simp; done) | omega | (simp; omega))) | refine bel_step ?_ (by with_reducible assumption)))
  have X0 := Lib.hid C0; have X1 := Lib.hid C1; have X3 := Lib.hid C3; have XA := Lib.hid CA; have XB := Lib.hid CB; have XV := Lib.hid CV; have XE := Lib.hid CE
  clear C0 C1 C3 CA CB CV CE na nb
  have n1 : ¬(ka = w.heap.size) := by omega
  have n2 : ¬(ka = w.heap.size + 1) := by omega
  have n3 : ¬(ka = w.heap.size + 1 + 1 + 1) := by omega
  have n5 : ¬(ka = kb) := hne
  have n6 : ¬(kb = ka) := Ne.symm hne
  refine wpList_store_row rfl 23 _ _ rfl ka _ rfl rfl 23 _ XA.out (by kernel_rfl) rfl (by kernel_rfl) ?_
  refine wpList_store_row rfl 23 _ _ rfl kb _ rfl rfl 23 _ (HasBlk.rowx XB.out (Ne.symm hne) _) (by kernel_rfl) rfl (by kernel_rfl) ?_
  have D0 := HasBlk.rowx (HasBlk.rowx X0.out (show w.heap.size ≠ ka by omega) #[.int .i64 vl, .int .i64 vh]) (show w.heap.size ≠ kb by omega) #[.int .i64 ll, .int .i64 lh]
  have D1 := HasBlk.rowx (HasBlk.rowx X1.out (show w.heap.size + 1 ≠ ka by omega) #[.int .i64 vl, .int .i64 vh]) (show w.heap.size + 1 ≠ kb by omega) #[.int .i64 ll, .int .i64 lh]
  have D3 := HasBlk.rowx (HasBlk.rowx X3.out (show w.heap.size + 1 + 1 + 1 ≠ ka by omega) #[.int .i64 vl, .int .i64 vh]) (show w.heap.size + 1 + 1 + 1 ≠ kb by omega) #[.int .i64 ll, .int .i64 lh]
  have DA : HasBlk ((x.w.setRow ka #[.int .i64 vl, .int .i64 vh]).setRow kb #[.int .i64 ll, .int .i64 lh]) ka #[.int .i64 vl, .int .i64 vh] 23 := HasBlk.rowx (setRow_heap _ _ _ _ _ _ XA.out) hne _
  have DB : HasBlk ((x.w.setRow ka #[.int .i64 vl, .int .i64 vh]).setRow kb #[.int .i64 ll, .int .i64 lh]) kb #[.int .i64 ll, .int .i64 lh] 23 := setRow_heap _ _ _ _ _ _ (HasBlk.rowx XB.out (Ne.symm hne) _)
  have DV := Tb.At.rowx (Tb.At.rowx XV.out (g := ka) (fun b o e => by have := hvb.out b o e; omega) #[.int .i64 vl, .int .i64 vh]) (g := kb) (fun b o e => by have := hvb.out b o e; omega) #[.int .i64 ll, .int .i64 lh]
  have DE := below_setRow (g := kb) (below_setRow (g := ka) XE.out (by omega) #[.int .i64 vl, .int .i64 vh]) (by omega) #[.int .i64 ll, .int .i64 lh]
  generalize (x.w.setRow ka #[.int .i64 vl, .int .i64 vh]).setRow kb #[.int .i64 ll, .int .i64 lh] = W1 at *
  have cA0 := DA.cell 0
  have cA1 := DA.cell 1
  have fA0 := DA.frozen 0
  have fA1 := DA.frozen 1
  have cB0 := DB.cell 0
  have cB1 := DB.cell 1
  have iA := Soft.LtH.mk (w := W1) DA.lt
  have iB := Soft.LtH.mk (w := W1) DB.lt
  simp at cA0 cA1 cB0 cB1
  have i0 := Soft.LtH.mk (w := W1) D0.lt
  have i1 := Soft.LtH.mk (w := W1) D1.lt
  have i3 := Soft.LtH.mk (w := W1) D3.lt
  have c03 := D0.cell 3
  have c10 := D1.cell 0
  have c14 := D1.cell 4
  have c15 := D1.cell 5
  have c30 := D3.cell 0
  have c31 := D3.cell 1
  have c32 := D3.cell 2
  have c33 := D3.cell 3
  have c34 := D3.cell 4
  have c35 := D3.cell 5
  have f30 := D3.frozen 0
  have f31 := D3.frozen 1
  have f32 := D3.frozen 2
  have f33 := D3.frozen 3
  have f34 := D3.frozen 4
  have f35 := D3.frozen 5
  simp at c03 c10 c14 c15 c30 c31 c32 c33 c34 c35
  have m1 : ¬(w.heap.size = ka) := by omega
  have m2 : ¬(w.heap.size + 1 = ka) := by omega
  have m3 : ¬(w.heap.size + 1 + 1 + 1 = ka) := by omega
  have BB := Lib.hid DE; have BV := Lib.hid DV
  clear D0 D1 D3 DA DB DV DE X0 X1 X3 XA XB XV XE
  have HINV : Hid (∀ W, t.vol.At W → Calls Tryz.prog 77 #[.agg #[.slice (t.vol).p (t.vol).n (t.vol).c], .agg #[.int .i64 (vl + ll), .int .i64 (vh + lh)], .int .i64 1] W fun e w' => e = .returned (.tuple #[.agg #[.int .i64 ul, .int .i64 uh], .bool true]) ∧ Below W.heap.size W w') := Lib.hid (fun W hW => by have := HINV.out W hW; rwa [show max (vl + ll) 0 = vl + ll by omega] at this)
  go_wp2_with ((go_at_call 77; (with_reducible refine (HINV.out _ (by with_reducible repeat (first | exact BV.out | refine Tb.At.setCell ?_ (fun b o e => by have := hvb.out b o e; dsimp only; omega) _))).mono ?_); rintro e w_ ⟨rfl, hb_⟩; obtain ⟨y5, rfl⟩ := Soft.BW.mk hb_; clear hb_))
  refine bodyPost_ret (v := .tuple #[.agg #[.int .i64 ((⟨l.tank, false, ⟨ul, uh⟩, l.den⟩ : Lv)).tank, .bool ((⟨l.tank, false, ⟨ul, uh⟩, l.den⟩ : Lv)).pressed, .int .i64 (((⟨l.tank, false, ⟨ul, uh⟩, l.den⟩ : Lv)).snd).lo, .int .i64 (((⟨l.tank, false, ⟨ul, uh⟩, l.den⟩ : Lv)).snd).hi, .int .i64 (((⟨l.tank, false, ⟨ul, uh⟩, l.den⟩ : Lv)).den).lo, .int .i64 (((⟨l.tank, false, ⟨ul, uh⟩, l.den⟩ : Lv)).den).hi], .int .i64 0]) (by simp [results, Tryz.results34, go_sem, zeroL, c30, c31, c32, c33, c34, c35, f30, f31, f32, f33, f34, f35, n1, n2, n3, m1, m2, m3]) rfl ?_
  refine ⟨rfl, ?_⟩
  (repeat (first | with_reducible exact bel_refl _ | with_reducible refine bel_alloc ?_ _ | with_reducible refine bel_bw _ ?_ | with_reducible refine bel_drew ?_ | with_reducible refine bel_drewN _ ?_ | ((with_reducible refine bel_set ?_ ?_ _); rotate_left; focus (first | (simp; done) | omega | (simp; omega))) | refine bel_step ?_ (by with_reducible assumption)))
  exact BB.out

theorem hold_Pump (t : Tk) (l : Lv) (m : Rg) (w : World) (hh : t.At w) :
    Calls Tryz.prog 34 #[.agg #[.int .i64 (t).id, .int .i64 ((t).along).lo, .int .i64 ((t).along).hi, .slice ((t).vol).p ((t).vol).n ((t).vol).c, .slice ((t).sur).p ((t).sur).n ((t).sur).c, .slice ((t).hei).p ((t).hei).n ((t).hei).c], .agg #[.int .i64 (l).tank, .bool (l).pressed, .int .i64 ((l).snd).lo, .int .i64 ((l).snd).hi, .int .i64 ((l).den).lo, .int .i64 ((l).den).hi], .agg #[.int .i64 (m).lo, .int .i64 (m).hi]] w fun e w' => e = .returned (.tuple #[.agg #[.int .i64 ((pumpE t l m).1).tank, .bool ((pumpE t l m).1).pressed, .int .i64 (((pumpE t l m).1).snd).lo, .int .i64 (((pumpE t l m).1).snd).hi, .int .i64 (((pumpE t l m).1).den).lo, .int .i64 (((pumpE t l m).1).den).hi], .int .i64 (pumpE t l m).2]) ∧ Below w.heap.size w w' := by
  have hv := hh.1
  by_cases cf : levelErr t l = 0
  · obtain ⟨h0, h1⟩ := level_ok cf
    have hvb : ∀ b o, t.vol.p = some ⟨b, o, none⟩ → b < w.heap.size := fun b o e => by
      have hn : 1 ≤ t.vol.n := by rw [← hv.1]; exact h0.tabs.1.ok.pos
      obtain ⟨_, _, _, _, h5⟩ := hv
      obtain ⟨b', o', e', hl, _⟩ := h5 (by omega)
      rw [e] at e'
      cases e'
      exact hl
    by_cases cm : rangeErr m = 0
    · have hB := lit_in cm h1.2.1
      have hA : RgIn (heldS t l) 0 1000000000 := overE_pos h0.tabs.1 _
      have a1 := hA.a
      have a2 := hA.b
      have a3 := hA.c
      have b1 : 0 ≤ (heldS t l).lo ∧ (heldS t l).lo ≤ 1000000000 ∧ 0 ≤ (heldS t l).hi ∧ (heldS t l).hi ≤ 1000000000 := ⟨by omega, by omega, by omega, by omega⟩
      have gV := fun W hW => hold_held t l W hW
      have gL := fun W => hold_litres m l.den W cm h1.2.1
      have gI := fun W hW => invUp_tank t (pumpV t l m) W hW h0
      have ev : pumpV t l m = ⟨max ((heldS t l).lo + (litS m l.den).lo) 0, (heldS t l).hi + (litS m l.den).hi⟩ := rfl
      by_cases cn : (heldS t l).hi + (litS m l.den).hi < 0
      · have e : pumpE t l m = (zeroL, 24) := by unfold pumpE; rw [if_neg (by omega), if_neg (by omega), if_pos (by rw [ev]; exact cn)]
        rw [e]
        exact pump_neg t l m (heldS t l) (litS m l.den) (pumpU t l m) w hh cf cm hvb b1 hB gV gL gI cn
      · cases hu : (pumpU t l m).2
        · have e : pumpE t l m = (zeroL, 24) := by unfold pumpE; rw [if_neg (by omega), if_neg (by omega), if_neg (by rw [ev]; exact cn), if_pos hu]
          rw [e]
          by_cases lo0 : (heldS t l).lo + (litS m l.den).lo < 0
          · exact pump_noz t l m (heldS t l) (litS m l.den) (pumpU t l m) w hh cf cm hvb b1 hB gV gL gI cn lo0 hu
          · exact pump_nop t l m (heldS t l) (litS m l.den) (pumpU t l m) w hh cf cm hvb b1 hB gV gL gI cn lo0 hu
        · have e : pumpE t l m = (⟨l.tank, false, (pumpU t l m).1, l.den⟩, 0) := by unfold pumpE; rw [if_neg (by omega), if_neg (by omega), if_neg (by rw [ev]; exact cn), if_neg (by rw [hu]; decide)]
          rw [e]
          by_cases lo0 : (heldS t l).lo + (litS m l.den).lo < 0
          · exact pump_yesz t l m (heldS t l) (litS m l.den) (pumpU t l m) w hh cf cm hvb b1 hB gV gL gI cn lo0 hu
          · exact pump_yesp t l m (heldS t l) (litS m l.den) (pumpU t l m) w hh cf cm hvb b1 hB gV gL gI cn lo0 hu
    · have dF : (levelErr t l != 0) = false := by rw [cf]; rfl
      have HV := Lib.hid (show pumpE t l m = (zeroL, rangeErr m) by unfold pumpE; rw [if_neg (by omega), if_pos cm])
      have dM : (rangeErr m != 0) = true := bne_iff_ne.2 cm
      clear cf h0 h1 cm hvb
      go_enter Tryz.func34, Tryz.ntmps34
      go_wp2_with (first | (go_at_call 38; (with_reducible refine (hold_CheckLevel t l _ (by with_reducible repeat (first | exact hh | refine Ho.At.alloc ?_ _ | refine Ho.At.bw ?_ _ | refine Tk.At.alloc ?_ _ | refine Tk.At.bw ?_ _))).mono ?_); rintro e w_ ⟨rfl, hb_⟩; obtain ⟨y1, rfl⟩ := Soft.BW.mk hb_; clear hb_) | (go_at_call 82; (with_reducible refine (fix_CheckRange m _).mono ?_); rintro e w_ ⟨rfl, hb_⟩; obtain ⟨y2, rfl⟩ := Soft.BW.mk hb_; clear hb_))
      rw [HV.out]
      refine bodyPost_ret (v := .tuple #[.agg #[.int .i64 (zeroL).tank, .bool (zeroL).pressed, .int .i64 ((zeroL).snd).lo, .int .i64 ((zeroL).snd).hi, .int .i64 ((zeroL).den).lo, .int .i64 ((zeroL).den).hi], .int .i64 (rangeErr m)]) (by simp [results, Tryz.results34, go_sem, zeroL]) rfl ?_
      refine ⟨rfl, ?_⟩
      (repeat (first | with_reducible exact bel_refl _ | with_reducible refine bel_alloc ?_ _ | with_reducible refine bel_bw _ ?_ | with_reducible refine bel_drew ?_ | with_reducible refine bel_drewN _ ?_ | ((with_reducible refine bel_set ?_ ?_ _); rotate_left; focus (first | (simp; done) | omega | (simp; omega))) | refine bel_step ?_ (by with_reducible assumption)))
  · have HV := Lib.hid (show pumpE t l m = (zeroL, levelErr t l) by unfold pumpE; rw [if_pos cf])
    have dF : (levelErr t l != 0) = true := bne_iff_ne.2 cf
    clear cf
    go_enter Tryz.func34, Tryz.ntmps34
    go_wp2_with (first | (go_at_call 38; (with_reducible refine (hold_CheckLevel t l _ (by with_reducible repeat (first | exact hh | refine Ho.At.alloc ?_ _ | refine Ho.At.bw ?_ _ | refine Tk.At.alloc ?_ _ | refine Tk.At.bw ?_ _))).mono ?_); rintro e w_ ⟨rfl, hb_⟩; obtain ⟨y1, rfl⟩ := Soft.BW.mk hb_; clear hb_))
    rw [HV.out]
    refine bodyPost_ret (v := .tuple #[.agg #[.int .i64 (zeroL).tank, .bool (zeroL).pressed, .int .i64 ((zeroL).snd).lo, .int .i64 ((zeroL).snd).hi, .int .i64 ((zeroL).den).lo, .int .i64 ((zeroL).den).hi], .int .i64 (levelErr t l)]) (by simp [results, Tryz.results34, go_sem, zeroL]) rfl ?_
    refine ⟨rfl, ?_⟩
    (repeat (first | with_reducible exact bel_refl _ | with_reducible refine bel_alloc ?_ _ | with_reducible refine bel_bw _ ?_ | with_reducible refine bel_drew ?_ | with_reducible refine bel_drewN _ ?_ | ((with_reducible refine bel_set ?_ ?_ _); rotate_left; focus (first | (simp; done) | omega | (simp; omega))) | refine bel_step ?_ (by with_reducible assumption)))

end Go.Proofs.YtbjdgaeikihjbaaGreat
