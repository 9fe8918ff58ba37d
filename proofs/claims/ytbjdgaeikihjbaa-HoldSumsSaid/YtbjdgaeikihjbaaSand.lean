/-
  The chapter's examples: line, example.
  The chapter's examples by their numbers.
  Conditions: each theorem's own premises.
-/
import Derived.Test.YtbjdgaeikihjbaaPouc
import Derived.Test.YtbjdgaeikihjbaaWort
import Derived.Test.YtbjdgaeikihjbaaLit
namespace Go.Proofs.Ytbjdgaeikihjbaa
set_option linter.unusedSimpArgs false
set_option linter.unusedVariables false
open Go.RowKit
set_option maxRecDepth 100000
set_option maxHeartbeats 4000000
attribute [local go_sem] Instr.field asAgg Soft.upon Soft.BW.cell_if Soft.BW.frozen_if Soft.cell_alloc_if Soft.frozen_alloc_if

def lineP (a b : Int) : List Pt := [⟨0, a, a⟩, ⟨100, b, b⟩]
def LinePost (a b : Int) (w : World) (e : Ending) (w' : World) : Prop :=
  ∃ g : Nat, e = .returned (.agg #[.slice (some ⟨g, 0, none⟩) 2 2]) ∧ w.heap.size ≤ g ∧ Tb.At w' ⟨some ⟨g, 0, none⟩, 2, 2, lineP a b⟩ ∧ Below w.heap.size w w'

theorem tb_of_blk2 {w : World} {g : Nat} {a b : Pt} {t : TypeId} (h : HasBlk w g #[.int .i64 a.x, .int .i64 a.lo, .int .i64 a.hi, .int .i64 b.x, .int .i64 b.lo, .int .i64 b.hi] t) : Tb.At w ⟨some ⟨g, 0, none⟩, 2, 2, [a, b]⟩ := by
  refine ⟨rfl, by dsimp only; omega, by dsimp only; omega, by dsimp only; omega, fun _ => ⟨g, 0, rfl, h.lt, fun i hi => ?_⟩⟩
  match i, hi with
  | 0, _ => exact ⟨h.cell 0, h.cell 1, h.cell 2⟩
  | 1, _ => exact ⟨h.cell 3, h.cell 4, h.cell 5⟩
theorem tb_of_blk3 {w : World} {g : Nat} {a b c : Pt} {t : TypeId} (h : HasBlk w g #[.int .i64 a.x, .int .i64 a.lo, .int .i64 a.hi, .int .i64 b.x, .int .i64 b.lo, .int .i64 b.hi, .int .i64 c.x, .int .i64 c.lo, .int .i64 c.hi] t) : Tb.At w ⟨some ⟨g, 0, none⟩, 3, 3, [a, b, c]⟩ := by
  refine ⟨rfl, by dsimp only; omega, by dsimp only; omega, by dsimp only; omega, fun _ => ⟨g, 0, rfl, h.lt, fun i hi => ?_⟩⟩
  match i, hi with
  | 0, _ => exact ⟨h.cell 0, h.cell 1, h.cell 2⟩
  | 1, _ => exact ⟨h.cell 3, h.cell 4, h.cell 5⟩
  | 2, _ => exact ⟨h.cell 6, h.cell 7, h.cell 8⟩

theorem L2_line (a b : Int) (w : World) : Calls Try.prog 110 #[.int .i64 a, .int .i64 b] w (LinePost a b w) := by
  go_enter Try.func110, Try.ntmps110
  go_wp2_with fail
  refine bodyPost_ret (v := .agg #[.slice (some ⟨w.heap.size + 1, 0, none⟩) 2 2]) (by simp [results, Try.results110, go_sem]) rfl ?_
  refine ⟨w.heap.size + 1, rfl, by omega, tb_of_blk2 (a := ⟨0, a, a⟩) (b := ⟨100, b, b⟩) (t := 114) ?_, ?_⟩
  · simp only [HasBlk]
    first | exact Soft.heap_new1 _ _ _ | (have := Soft.heap_new1 w; simp_all)
  · (repeat (first | with_reducible exact bel_refl _ | with_reducible refine bel_alloc ?_ _ | with_reducible refine bel_bw _ ?_ | with_reducible refine bel_drew ?_ | with_reducible refine bel_drewN _ ?_ | ((with_reducible refine bel_set ?_ ?_ _); rotate_left; focus (first | (simp; done) | omega | (simp; omega))) | refine bel_step ?_ (by with_reducible assumption)))

/-- The hold and the fill of the examples. -/
def exH (g1 g2 g3 : Nat) : Ho := ⟨1, ⟨0, 0⟩, ⟨some ⟨g1, 0, none⟩, 2, 2, lineP 1000 0⟩, ⟨some ⟨g2, 0, none⟩, 3, 3, [⟨0, 0, 0⟩, ⟨50, 400, 500⟩, ⟨100, 0, 0⟩]⟩, ⟨some ⟨g3, 0, none⟩, 2, 2, lineP 300 100⟩, ⟨10, 20⟩, ⟨50, 60⟩, ⟨1000, 1010⟩, ⟨300, 300⟩⟩
def exF : Fi := ⟨1, 3, ⟨40, 60⟩, ⟨800, 800⟩⟩
def ExPost (w : World) (e : Ending) (w' : World) : Prop :=
  ∃ g1 g2 g3 : Nat, e = .returned (.tuple #[.agg #[.int .i64 ((exH g1 g2 g3)).id, .int .i64 (((exH g1 g2 g3)).along).lo, .int .i64 (((exH g1 g2 g3)).along).hi, .slice (((exH g1 g2 g3)).vol).p (((exH g1 g2 g3)).vol).n (((exH g1 g2 g3)).vol).c, .slice (((exH g1 g2 g3)).mom).p (((exH g1 g2 g3)).mom).n (((exH g1 g2 g3)).mom).c, .slice (((exH g1 g2 g3)).hei).p (((exH g1 g2 g3)).hei).n (((exH g1 g2 g3)).hei).c, .int .i64 (((exH g1 g2 g3)).tri).lo, .int .i64 (((exH g1 g2 g3)).tri).hi, .int .i64 (((exH g1 g2 g3)).unt).lo, .int .i64 (((exH g1 g2 g3)).unt).hi, .int .i64 (((exH g1 g2 g3)).v0).lo, .int .i64 (((exH g1 g2 g3)).v0).hi, .int .i64 (((exH g1 g2 g3)).h0).lo, .int .i64 (((exH g1 g2 g3)).h0).hi], .agg #[.int .i64 (exF).hold, .int .i64 (exF).state, .int .i64 ((exF).ull).lo, .int .i64 ((exF).ull).hi, .int .i64 ((exF).den).lo, .int .i64 ((exF).den).hi]]) ∧ (exH g1 g2 g3).At w' ∧ Below w.heap.size w w'

theorem L2_example (w : World) : Calls Try.prog 67 #[] w (ExPost w) := by
  go_enter Try.func67, Try.ntmps67
  go_wp2_with fail
  refine (L2_line 1000 0 _).mono ?_
  rintro e w1 ⟨g1, rfl, hg1, ht1, hb1⟩
  obtain ⟨x1, rfl⟩ := Soft.BW.mk hb1
  clear hb1
  go_wp2_with fail
  refine (L2_line 300 100 _).mono ?_
  rintro e w2 ⟨g3, rfl, hg3, ht3, hb3⟩
  obtain ⟨x2, rfl⟩ := Soft.BW.mk hb3
  clear hb3
  have q1 := x1.below.size
  have q2 := x2.below.size
  simp at q1
  have A0 : HasBlk ((x2.w.alloc (.cells #[.int .i64 1, .int .i64 0, .int .i64 0, .slice (some ⟨g1, 0, none⟩) 2 2, .slice (some ⟨x2.w.heap.size + 1, 0, none⟩) 3 3, .slice (some ⟨g3, 0, none⟩) 2 2, .int .i64 10, .int .i64 20, .int .i64 50, .int .i64 60, .int .i64 1000, .int .i64 1010, .int .i64 300, .int .i64 300] 35)).alloc (.cells #[.int .i64 0, .int .i64 0, .int .i64 0, .int .i64 50, .int .i64 400, .int .i64 500, .int .i64 100, .int .i64 0, .int .i64 0] 114)) w.heap.size #[.int .i64 0, .int .i64 0, .int .i64 0, .slice none 0 0, .slice none 0 0, .slice none 0 0, .int .i64 0, .int .i64 0, .int .i64 0, .int .i64 0, .int .i64 0, .int .i64 0, .int .i64 0, .int .i64 0] 35 := (by simp only [HasBlk, Soft.BW.heap_if, Soft.heap_alloc_if, Soft.heap_new, Soft.heap_new1, Soft.heap_new2, Soft.heap_new3, Soft.heap_new4, Soft.heap_new5])
  have A1 : HasBlk ((x2.w.alloc (.cells #[.int .i64 1, .int .i64 0, .int .i64 0, .slice (some ⟨g1, 0, none⟩) 2 2, .slice (some ⟨x2.w.heap.size + 1, 0, none⟩) 3 3, .slice (some ⟨g3, 0, none⟩) 2 2, .int .i64 10, .int .i64 20, .int .i64 50, .int .i64 60, .int .i64 1000, .int .i64 1010, .int .i64 300, .int .i64 300] 35)).alloc (.cells #[.int .i64 0, .int .i64 0, .int .i64 0, .int .i64 50, .int .i64 400, .int .i64 500, .int .i64 100, .int .i64 0, .int .i64 0] 114)) (w.heap.size + 1) #[.int .i64 0, .int .i64 0, .int .i64 0, .int .i64 0, .int .i64 0, .int .i64 0] 38 := (by simp only [HasBlk, Soft.BW.heap_if, Soft.heap_alloc_if, Soft.heap_new, Soft.heap_new1, Soft.heap_new2, Soft.heap_new3, Soft.heap_new4, Soft.heap_new5])
  have A2 : HasBlk ((x2.w.alloc (.cells #[.int .i64 1, .int .i64 0, .int .i64 0, .slice (some ⟨g1, 0, none⟩) 2 2, .slice (some ⟨x2.w.heap.size + 1, 0, none⟩) 3 3, .slice (some ⟨g3, 0, none⟩) 2 2, .int .i64 10, .int .i64 20, .int .i64 50, .int .i64 60, .int .i64 1000, .int .i64 1010, .int .i64 300, .int .i64 300] 35)).alloc (.cells #[.int .i64 0, .int .i64 0, .int .i64 0, .int .i64 50, .int .i64 400, .int .i64 500, .int .i64 100, .int .i64 0, .int .i64 0] 114)) (x2.w.heap.size + 1) #[.int .i64 0, .int .i64 0, .int .i64 0, .int .i64 50, .int .i64 400, .int .i64 500, .int .i64 100, .int .i64 0, .int .i64 0] 114 := Soft.heap_new1 _ _ _
  have t1 : Tb.At ((x2.w.alloc (.cells #[.int .i64 1, .int .i64 0, .int .i64 0, .slice (some ⟨g1, 0, none⟩) 2 2, .slice (some ⟨x2.w.heap.size + 1, 0, none⟩) 3 3, .slice (some ⟨g3, 0, none⟩) 2 2, .int .i64 10, .int .i64 20, .int .i64 50, .int .i64 60, .int .i64 1000, .int .i64 1010, .int .i64 300, .int .i64 300] 35)).alloc (.cells #[.int .i64 0, .int .i64 0, .int .i64 0, .int .i64 50, .int .i64 400, .int .i64 500, .int .i64 100, .int .i64 0, .int .i64 0] 114)) ⟨some ⟨g1, 0, none⟩, 2, 2, lineP 1000 0⟩ := (by repeat (first | exact ht1 | refine Tb.At.alloc ?_ _ | refine Tb.At.bw ?_ _))
  have t3 : Tb.At ((x2.w.alloc (.cells #[.int .i64 1, .int .i64 0, .int .i64 0, .slice (some ⟨g1, 0, none⟩) 2 2, .slice (some ⟨x2.w.heap.size + 1, 0, none⟩) 3 3, .slice (some ⟨g3, 0, none⟩) 2 2, .int .i64 10, .int .i64 20, .int .i64 50, .int .i64 60, .int .i64 1000, .int .i64 1010, .int .i64 300, .int .i64 300] 35)).alloc (.cells #[.int .i64 0, .int .i64 0, .int .i64 0, .int .i64 50, .int .i64 400, .int .i64 500, .int .i64 100, .int .i64 0, .int .i64 0] 114)) ⟨some ⟨g3, 0, none⟩, 2, 2, lineP 300 100⟩ := (by repeat (first | exact ht3 | refine Tb.At.alloc ?_ _ | refine Tb.At.bw ?_ _))
  have hE : Below w.heap.size w ((x2.w.alloc (.cells #[.int .i64 1, .int .i64 0, .int .i64 0, .slice (some ⟨g1, 0, none⟩) 2 2, .slice (some ⟨x2.w.heap.size + 1, 0, none⟩) 3 3, .slice (some ⟨g3, 0, none⟩) 2 2, .int .i64 10, .int .i64 20, .int .i64 50, .int .i64 60, .int .i64 1000, .int .i64 1010, .int .i64 300, .int .i64 300] 35)).alloc (.cells #[.int .i64 0, .int .i64 0, .int .i64 0, .int .i64 50, .int .i64 400, .int .i64 500, .int .i64 100, .int .i64 0, .int .i64 0] 114)) := by (repeat (first | with_reducible exact bel_refl _ | with_reducible refine bel_alloc ?_ _ | with_reducible refine bel_bw _ ?_ | with_reducible refine bel_drew ?_ | with_reducible refine bel_drewN _ ?_ | ((with_reducible refine bel_set ?_ ?_ _); rotate_left; focus (first | (simp; done) | omega | (simp; omega))) | refine bel_step ?_ (by with_reducible assumption)))
  have hg1' : w.heap.size + 1 < g1 := by simp at hg1; omega
  have hg3' : w.heap.size + 1 < g3 := by omega
  have XA0 := Lib.hid A0; have XA1 := Lib.hid A1; have XA2 := Lib.hid A2; have XT1 := Lib.hid t1; have XT3 := Lib.hid t3; have XE := Lib.hid hE
  clear A0 A1 A2 t1 t3 hE ht1 ht3 hg1 hg3
  go_wp2_with (first | (refine wpList_store_row rfl 35 _ _ rfl w.heap.size _ rfl rfl 35 _ XA0.out (by kernel_rfl) rfl (by kernel_rfl) ?_) | (refine wpList_store_row rfl 38 _ _ rfl (w.heap.size + 1) _ rfl rfl 38 _ (HasBlk.rowx XA1.out (by omega) _) (by kernel_rfl) rfl (by kernel_rfl) ?_))
  have R0 : HasBlk ((((x2.w.alloc (.cells #[.int .i64 1, .int .i64 0, .int .i64 0, .slice (some ⟨g1, 0, none⟩) 2 2, .slice (some ⟨x2.w.heap.size + 1, 0, none⟩) 3 3, .slice (some ⟨g3, 0, none⟩) 2 2, .int .i64 10, .int .i64 20, .int .i64 50, .int .i64 60, .int .i64 1000, .int .i64 1010, .int .i64 300, .int .i64 300] 35)).alloc (.cells #[.int .i64 0, .int .i64 0, .int .i64 0, .int .i64 50, .int .i64 400, .int .i64 500, .int .i64 100, .int .i64 0, .int .i64 0] 114)).setRow w.heap.size #[.int .i64 1, .int .i64 0, .int .i64 0, .slice (some ⟨g1, 0, none⟩) 2 2, .slice (some ⟨x2.w.heap.size + 1, 0, none⟩) 3 3, .slice (some ⟨g3, 0, none⟩) 2 2, .int .i64 10, .int .i64 20, .int .i64 50, .int .i64 60, .int .i64 1000, .int .i64 1010, .int .i64 300, .int .i64 300]).setRow (w.heap.size + 1) #[.int .i64 1, .int .i64 3, .int .i64 40, .int .i64 60, .int .i64 800, .int .i64 800]) w.heap.size #[.int .i64 1, .int .i64 0, .int .i64 0, .slice (some ⟨g1, 0, none⟩) 2 2, .slice (some ⟨x2.w.heap.size + 1, 0, none⟩) 3 3, .slice (some ⟨g3, 0, none⟩) 2 2, .int .i64 10, .int .i64 20, .int .i64 50, .int .i64 60, .int .i64 1000, .int .i64 1010, .int .i64 300, .int .i64 300] 35 := HasBlk.rowx (setRow_heap _ _ _ _ _ _ XA0.out) (by omega) _
  have R1 : HasBlk ((((x2.w.alloc (.cells #[.int .i64 1, .int .i64 0, .int .i64 0, .slice (some ⟨g1, 0, none⟩) 2 2, .slice (some ⟨x2.w.heap.size + 1, 0, none⟩) 3 3, .slice (some ⟨g3, 0, none⟩) 2 2, .int .i64 10, .int .i64 20, .int .i64 50, .int .i64 60, .int .i64 1000, .int .i64 1010, .int .i64 300, .int .i64 300] 35)).alloc (.cells #[.int .i64 0, .int .i64 0, .int .i64 0, .int .i64 50, .int .i64 400, .int .i64 500, .int .i64 100, .int .i64 0, .int .i64 0] 114)).setRow w.heap.size #[.int .i64 1, .int .i64 0, .int .i64 0, .slice (some ⟨g1, 0, none⟩) 2 2, .slice (some ⟨x2.w.heap.size + 1, 0, none⟩) 3 3, .slice (some ⟨g3, 0, none⟩) 2 2, .int .i64 10, .int .i64 20, .int .i64 50, .int .i64 60, .int .i64 1000, .int .i64 1010, .int .i64 300, .int .i64 300]).setRow (w.heap.size + 1) #[.int .i64 1, .int .i64 3, .int .i64 40, .int .i64 60, .int .i64 800, .int .i64 800]) (w.heap.size + 1) #[.int .i64 1, .int .i64 3, .int .i64 40, .int .i64 60, .int .i64 800, .int .i64 800] 38 := setRow_heap _ _ _ _ _ _ (HasBlk.rowx XA1.out (by omega) _)
  have R2 : HasBlk ((((x2.w.alloc (.cells #[.int .i64 1, .int .i64 0, .int .i64 0, .slice (some ⟨g1, 0, none⟩) 2 2, .slice (some ⟨x2.w.heap.size + 1, 0, none⟩) 3 3, .slice (some ⟨g3, 0, none⟩) 2 2, .int .i64 10, .int .i64 20, .int .i64 50, .int .i64 60, .int .i64 1000, .int .i64 1010, .int .i64 300, .int .i64 300] 35)).alloc (.cells #[.int .i64 0, .int .i64 0, .int .i64 0, .int .i64 50, .int .i64 400, .int .i64 500, .int .i64 100, .int .i64 0, .int .i64 0] 114)).setRow w.heap.size #[.int .i64 1, .int .i64 0, .int .i64 0, .slice (some ⟨g1, 0, none⟩) 2 2, .slice (some ⟨x2.w.heap.size + 1, 0, none⟩) 3 3, .slice (some ⟨g3, 0, none⟩) 2 2, .int .i64 10, .int .i64 20, .int .i64 50, .int .i64 60, .int .i64 1000, .int .i64 1010, .int .i64 300, .int .i64 300]).setRow (w.heap.size + 1) #[.int .i64 1, .int .i64 3, .int .i64 40, .int .i64 60, .int .i64 800, .int .i64 800]) (x2.w.heap.size + 1) #[.int .i64 0, .int .i64 0, .int .i64 0, .int .i64 50, .int .i64 400, .int .i64 500, .int .i64 100, .int .i64 0, .int .i64 0] 114 := HasBlk.rowx (HasBlk.rowx XA2.out (by omega) _) (by omega) _
  have U1 := Tb.At.rowx (Tb.At.rowx XT1.out (g := w.heap.size) (fun b o e => by cases e; omega) #[.int .i64 1, .int .i64 0, .int .i64 0, .slice (some ⟨g1, 0, none⟩) 2 2, .slice (some ⟨x2.w.heap.size + 1, 0, none⟩) 3 3, .slice (some ⟨g3, 0, none⟩) 2 2, .int .i64 10, .int .i64 20, .int .i64 50, .int .i64 60, .int .i64 1000, .int .i64 1010, .int .i64 300, .int .i64 300]) (g := w.heap.size + 1) (fun b o e => by cases e; omega) #[.int .i64 1, .int .i64 3, .int .i64 40, .int .i64 60, .int .i64 800, .int .i64 800]
  have U3 := Tb.At.rowx (Tb.At.rowx XT3.out (g := w.heap.size) (fun b o e => by cases e; omega) #[.int .i64 1, .int .i64 0, .int .i64 0, .slice (some ⟨g1, 0, none⟩) 2 2, .slice (some ⟨x2.w.heap.size + 1, 0, none⟩) 3 3, .slice (some ⟨g3, 0, none⟩) 2 2, .int .i64 10, .int .i64 20, .int .i64 50, .int .i64 60, .int .i64 1000, .int .i64 1010, .int .i64 300, .int .i64 300]) (g := w.heap.size + 1) (fun b o e => by cases e; omega) #[.int .i64 1, .int .i64 3, .int .i64 40, .int .i64 60, .int .i64 800, .int .i64 800]
  have UE := below_setRow (g := w.heap.size + 1) (below_setRow (g := w.heap.size) XE.out (by omega) #[.int .i64 1, .int .i64 0, .int .i64 0, .slice (some ⟨g1, 0, none⟩) 2 2, .slice (some ⟨x2.w.heap.size + 1, 0, none⟩) 3 3, .slice (some ⟨g3, 0, none⟩) 2 2, .int .i64 10, .int .i64 20, .int .i64 50, .int .i64 60, .int .i64 1000, .int .i64 1010, .int .i64 300, .int .i64 300]) (by omega) #[.int .i64 1, .int .i64 3, .int .i64 40, .int .i64 60, .int .i64 800, .int .i64 800]
  generalize (((x2.w.alloc (.cells #[.int .i64 1, .int .i64 0, .int .i64 0, .slice (some ⟨g1, 0, none⟩) 2 2, .slice (some ⟨x2.w.heap.size + 1, 0, none⟩) 3 3, .slice (some ⟨g3, 0, none⟩) 2 2, .int .i64 10, .int .i64 20, .int .i64 50, .int .i64 60, .int .i64 1000, .int .i64 1010, .int .i64 300, .int .i64 300] 35)).alloc (.cells #[.int .i64 0, .int .i64 0, .int .i64 0, .int .i64 50, .int .i64 400, .int .i64 500, .int .i64 100, .int .i64 0, .int .i64 0] 114)).setRow w.heap.size #[.int .i64 1, .int .i64 0, .int .i64 0, .slice (some ⟨g1, 0, none⟩) 2 2, .slice (some ⟨x2.w.heap.size + 1, 0, none⟩) 3 3, .slice (some ⟨g3, 0, none⟩) 2 2, .int .i64 10, .int .i64 20, .int .i64 50, .int .i64 60, .int .i64 1000, .int .i64 1010, .int .i64 300, .int .i64 300]).setRow (w.heap.size + 1) #[.int .i64 1, .int .i64 3, .int .i64 40, .int .i64 60, .int .i64 800, .int .i64 800] = Wf at *
  have c0 := R0.cell 0
  have c1 := R0.cell 1
  have c2 := R0.cell 2
  have c3 := R0.cell 3
  have c4 := R0.cell 4
  have c5 := R0.cell 5
  have c6 := R0.cell 6
  have c7 := R0.cell 7
  have c8 := R0.cell 8
  have c9 := R0.cell 9
  have c10 := R0.cell 10
  have c11 := R0.cell 11
  have c12 := R0.cell 12
  have c13 := R0.cell 13
  have d0 := R1.cell 0
  have d1 := R1.cell 1
  have d2 := R1.cell 2
  have d3 := R1.cell 3
  have d4 := R1.cell 4
  have d5 := R1.cell 5
  simp at c0 c1 c2 c3 c4 c5 c6 c7 c8 c9 c10 c11 c12 c13 d0 d1 d2 d3 d4 d5
  refine bodyPost_ret (v := .tuple #[.agg #[.int .i64 ((exH g1 (x2.w.heap.size + 1) g3)).id, .int .i64 (((exH g1 (x2.w.heap.size + 1) g3)).along).lo, .int .i64 (((exH g1 (x2.w.heap.size + 1) g3)).along).hi, .slice (((exH g1 (x2.w.heap.size + 1) g3)).vol).p (((exH g1 (x2.w.heap.size + 1) g3)).vol).n (((exH g1 (x2.w.heap.size + 1) g3)).vol).c, .slice (((exH g1 (x2.w.heap.size + 1) g3)).mom).p (((exH g1 (x2.w.heap.size + 1) g3)).mom).n (((exH g1 (x2.w.heap.size + 1) g3)).mom).c, .slice (((exH g1 (x2.w.heap.size + 1) g3)).hei).p (((exH g1 (x2.w.heap.size + 1) g3)).hei).n (((exH g1 (x2.w.heap.size + 1) g3)).hei).c, .int .i64 (((exH g1 (x2.w.heap.size + 1) g3)).tri).lo, .int .i64 (((exH g1 (x2.w.heap.size + 1) g3)).tri).hi, .int .i64 (((exH g1 (x2.w.heap.size + 1) g3)).unt).lo, .int .i64 (((exH g1 (x2.w.heap.size + 1) g3)).unt).hi, .int .i64 (((exH g1 (x2.w.heap.size + 1) g3)).v0).lo, .int .i64 (((exH g1 (x2.w.heap.size + 1) g3)).v0).hi, .int .i64 (((exH g1 (x2.w.heap.size + 1) g3)).h0).lo, .int .i64 (((exH g1 (x2.w.heap.size + 1) g3)).h0).hi], .agg #[.int .i64 (exF).hold, .int .i64 (exF).state, .int .i64 ((exF).ull).lo, .int .i64 ((exF).ull).hi, .int .i64 ((exF).den).lo, .int .i64 ((exF).den).hi]]) (by simp [results, Try.results67, go_sem, exH, exF, c0, c1, c2, c3, c4, c5, c6, c7, c8, c9, c10, c11, c12, c13, d0, d1, d2, d3, d4, d5]) rfl ?_
  exact ⟨g1, x2.w.heap.size + 1, g3, rfl, ⟨U1, tb_of_blk3 (a := ⟨0, 0, 0⟩) (b := ⟨50, 400, 500⟩) (c := ⟨100, 0, 0⟩) R2, U3⟩, UE⟩

end Go.Proofs.Ytbjdgaeikihjbaa

namespace Go.Proofs.Ytbjdgaeikihjbaa
set_option linter.unusedSimpArgs false
set_option linter.unusedVariables false
open Go.RowKit
set_option maxRecDepth 100000

theorem ex_ok (a b c : Nat) : fillErr (exH a b c) exF = 0 := by kernel_rfl
theorem ex_mass (a b c : Nat) : massE (exH a b c) exF = ⟨320, 480⟩ := by kernel_rfl
theorem ex_heel (a b c : Nat) : heelE (exH a b c) exF = ⟨256, 400⟩ := by kernel_rfl
theorem ex_ull (a b c : Nat) : ullE (exH a b c) ⟨400, 400⟩ ⟨800, 800⟩ = (⟨49, 51⟩, 0) := by kernel_rfl
theorem ex_pour (a b c : Nat) : pourE (exH a b c) exF ⟨80, 80⟩ ⟨800, 800⟩ = (⟨1, 3, ⟨29, 51⟩, ⟨800, 800⟩⟩, 0) := by kernel_rfl
theorem ex_worst (a b c : Nat) : wrsE (exH a b c) exF = (50, 500) := by kernel_rfl

end Go.Proofs.Ytbjdgaeikihjbaa
