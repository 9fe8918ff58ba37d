/-
  The reference's maker of compartments out of numbers: Tank.
  Conditions: each theorem's own premises.
-/
import Derived.Test.YtbjdgaeikihjbaaMade
import Derived.Test.YtbjdgaeikihjbaaTank
namespace Go.Proofs.Ytbjdgaeikihjbaa
set_option linter.unusedSimpArgs false
set_option linter.unusedVariables false
open Go.RowKit
set_option maxRecDepth 100000
set_option maxHeartbeats 4000000
attribute [local go_sem] Instr.field asAgg Soft.upon Soft.BW.cell_if Soft.BW.frozen_if Soft.cell_alloc_if Soft.frozen_alloc_if



/-- Where Tank's own walk stands. -/
structure Tst (w : World) (r : Rw) (c : Array Value) (ts : List Tb) (W : World) : Prop where
  box : HasBlk W w.heap.size #[.int .i64 r.id, .int .i64 r.first, .slice r.steps.p r.steps.n r.steps.c, .slice r.vals.p r.vals.n r.vals.c] 24
  res : HasBlk W (w.heap.size + 1) #[.int .i64 0, .int .i64 0, .int .i64 0, .slice none 0 0, .slice none 0 0, .slice none 0 0] 62
  own : HasBlk W (w.heap.size + 1 + 1) c 62
  tabs : ∀ t ∈ ts, t.At W ∧ ∀ b o, t.p = some ⟨b, o, none⟩ → w.heap.size + 1 + 1 < b
  bel : Below w.heap.size w W
theorem Tst.call {w W W1 : World} {r : Rw} {c : Array Value} {ts : List Tb} (h : Tst w r c ts W) (hb : Below W.heap.size W W1) : Tst w r c ts W1 :=
  ⟨h.box.below hb, h.res.below hb, h.own.below hb, fun t ht => ⟨(h.tabs t ht).1.same hb, (h.tabs t ht).2⟩, h.bel.trans (hb.mono h.bel.size)⟩
theorem Tst.put {w W : World} {r : Rw} {c : Array Value} {ts : List Tb} (h : Tst w r c ts W) (i : Nat) (v : Value) : Tst w r (c.setIfInBounds i v) ts (W.setCell ⟨w.heap.size + 1 + 1, i, none⟩ v) :=
  ⟨h.box.set_other (by dsimp only; omega) v, h.res.set_other (by dsimp only; omega) v, h.own.put i v, fun t ht => ⟨(h.tabs t ht).1.setCell (fun b o e => by have := (h.tabs t ht).2 b o e; dsimp only; omega) v, (h.tabs t ht).2⟩, h.bel.setCell (by dsimp only; omega) v⟩
theorem Tst.tab {w W : World} {r : Rw} {c : Array Value} {ts : List Tb} {t : Tb} (h : Tst w r c ts W) (ht : t.At W) (hf : ∀ b o, t.p = some ⟨b, o, none⟩ → w.heap.size + 1 + 1 < b) : Tst w r c (t :: ts) W :=
  ⟨h.box, h.res, h.own, fun t' ht' => by
    rcases List.mem_cons.1 ht' with rfl | h'
    · exact ⟨ht, hf⟩
    · exact h.tabs t' h', h.bel⟩
theorem Tst.cells {w W : World} {r : Rw} {c : Array Value} {ts : List Tb} (h : Tst w r c ts W) : W.cell? ⟨w.heap.size, 0, none⟩ = some (.int .i64 r.id) ∧ W.cell? ⟨w.heap.size, 1, none⟩ = some (.int .i64 r.first) ∧
    W.cell? ⟨w.heap.size, 2, none⟩ = some (.slice r.steps.p r.steps.n r.steps.c) ∧ W.cell? ⟨w.heap.size, 3, none⟩ = some (.slice r.vals.p r.vals.n r.vals.c) :=
  ⟨h.box.cell 0, h.box.cell 1, h.box.cell 2, h.box.cell 3⟩
theorem Tst.cast {w W : World} {r : Rw} {c c' : Array Value} {ts : List Tb} (h : Tst w r c ts W) (e : c = c') : Tst w r c' ts W := e ▸ h

/-- A table whose first point is at 0. -/
def zeroHead : List Pt → List Pt
  | [] => []
  | p :: ps => ⟨p.x, 0, 0⟩ :: ps
theorem zeroHead_len (ps : List Pt) : (zeroHead ps).length = ps.length := by cases ps <;> rfl
theorem zeroHead_pt (ps : List Pt) (j : Nat) (hj : j < ps.length) : pt (zeroHead ps) j = if j = 0 then ⟨(pt ps 0).x, 0, 0⟩ else pt ps j := by
  cases ps with
  | nil => simp at hj
  | cons p ps =>
    cases j with
    | zero => rfl
    | succ j => rw [if_neg (by omega)]; rfl
theorem Slope.zero {r : Rw} {ps : List Pt} (h : Slope r false ps) : Slope r false (zeroHead ps) := by
  obtain ⟨⟨h1, h2⟩, h3⟩ := h
  refine ⟨⟨by rw [zeroHead_len]; exact h1, fun j hj => ?_⟩, fun j hj => ?_⟩
  · rw [zeroHead_len] at hj
    rw [zeroHead_pt _ _ hj]
    obtain ⟨a1, a2, a3, a4⟩ := h2 j hj
    split
    · rename_i e; subst e; exact ⟨a1, by dsimp only; omega, by dsimp only; omega, by dsimp only; omega⟩
    · exact ⟨a1, a2, a3, a4⟩
  · rw [zeroHead_len] at hj
    rw [zeroHead_pt ps (j + 1) hj, zeroHead_pt ps j (by omega), if_neg (show ¬j + 1 = 0 by omega)]
    have := h3 j hj
    simp only [Bool.false_eq_true, if_false] at this ⊢
    obtain ⟨b1, b2, b3, b4⟩ := h2 (j + 1) (by omega)
    split
    · exact ⟨by dsimp only; omega, by dsimp only; omega⟩
    · exact this
/-- The two stores into a table's first point. -/
theorem Tb.At.zero {w : World} {g n c : Nat} {ps : List Pt} (h : Tb.At w ⟨some ⟨g, 0, none⟩, n, c, ps⟩) (hn : 1 ≤ n) : Tb.At ((w.setCell ⟨g, 1, none⟩ (.int .i64 0)).setCell ⟨g, 2, none⟩ (.int .i64 0)) ⟨some ⟨g, 0, none⟩, n, c, zeroHead ps⟩ := by
  obtain ⟨h1, h2, h3, h4, h5⟩ := h
  obtain ⟨b, o, e, hlt, hc⟩ := h5 (by dsimp only; omega)
  dsimp only at *
  cases e
  refine ⟨by dsimp only; rw [zeroHead_len]; exact h1, h2, h3, h4, fun _ => ⟨g, 0, rfl, by simpa using hlt, fun i hi => ?_⟩⟩
  dsimp only at hi ⊢
  obtain ⟨c0, c1, c2⟩ := hc i hi
  have key : ∀ k, k ≠ 1 → k ≠ 2 → ((w.setCell ⟨g, 1, none⟩ (.int .i64 0)).setCell ⟨g, 2, none⟩ (.int .i64 0)).cell? ⟨g, k, none⟩ = w.cell? ⟨g, k, none⟩ := fun k e1 e2 => by
    rw [World.cell?_setCell_other _ _ _ _ (show (⟨g, 2, none⟩ : Addr) ≠ ⟨g, k, none⟩ from fun e => by cases e; exact e2 rfl), World.cell?_setCell_other _ _ _ _ (show (⟨g, 1, none⟩ : Addr) ≠ ⟨g, k, none⟩ from fun e => by cases e; exact e1 rfl)]
  rw [zeroHead_pt _ _ (by omega)]
  by_cases e : i = 0
  · subst e
    obtain ⟨_, z1, z2⟩ := hc 0 (by omega)
    simp only [Nat.zero_mul, Nat.zero_add, if_true] at z1 z2 c0 ⊢
    have y1 : (w.setCell ⟨g, 1, none⟩ (.int .i64 0)).cell? ⟨g, 1, none⟩ = some (.int .i64 0) := World.cell?_setCell_same _ _ _ z1
    have y2 : (w.setCell ⟨g, 1, none⟩ (.int .i64 0)).cell? ⟨g, 2, none⟩ = some (.int .i64 (pt ps 0).hi) := by rw [World.cell?_setCell_other _ _ _ _ (show (⟨g, 1, none⟩ : Addr) ≠ ⟨g, 2, none⟩ from fun e => by cases e)]; exact z2
    refine ⟨by rw [key 0 (by omega) (by omega)]; exact c0, ?_, World.cell?_setCell_same _ _ _ y2⟩
    rw [World.cell?_setCell_other _ _ _ _ (show (⟨g, 2, none⟩ : Addr) ≠ ⟨g, 1, none⟩ from fun e => by cases e)]
    exact y1
  · rw [if_neg e]
    refine ⟨?_, ?_, ?_⟩
    · rw [key _ (by omega) (by omega)]; exact c0
    · rw [key _ (by omega) (by omega)]; exact c1
    · rw [key _ (by omega) (by omega)]; exact c2

/-- A tank that is valid, its numbers small. -/
structure TankMade (r : Rw) (t : Tk) : Prop where
  ok : TankOk t
  id : t.id = 1 + r.id % 9
  vol : Made (xsS r) t.vol.ps
  sur : Made (xsS r) t.sur.ps
  hei : Made (xsS r) t.hei.ps
  xs : XsOk (xsS r) ∧ 2 ≤ (xsS r).length ∧ (xsS r).length ≤ 8

def TankPost (r : Rw) (w : World) (e : Ending) (w' : World) : Prop :=
  ∃ t : Tk, e = .returned (.agg #[.int .i64 (t).id, .int .i64 ((t).along).lo, .int .i64 ((t).along).hi, .slice ((t).vol).p ((t).vol).n ((t).vol).c, .slice ((t).sur).p ((t).sur).n ((t).sur).c, .slice ((t).hei).p ((t).hei).n ((t).hei).c]) ∧ t.At w' ∧ TankMade r t ∧ Below w.heap.size w w'
/-- The same, and the tank's tables lie in new memory. -/
def TankPostF (r : Rw) (w : World) (e : Ending) (w' : World) : Prop :=
  ∃ t : Tk, e = .returned (.agg #[.int .i64 (t).id, .int .i64 ((t).along).lo, .int .i64 ((t).along).hi, .slice ((t).vol).p ((t).vol).n ((t).vol).c, .slice ((t).sur).p ((t).sur).n ((t).sur).c, .slice ((t).hei).p ((t).hei).n ((t).hei).c]) ∧ t.At w' ∧ TankMade r t ∧ Below w.heap.size w w' ∧ ∀ t' ∈ [t.vol, t.sur, t.hei], ∀ b o, t'.p = some ⟨b, o, none⟩ → w.heap.size ≤ b

theorem Tst.zero {w W : World} {r : Rw} {c : Array Value} {g n k : Nat} {ps : List Pt} (h : Tst w r c [⟨some ⟨g, 0, none⟩, n, k, ps⟩] W) (hn : 1 ≤ n) (hg : w.heap.size + 1 + 1 < g) : Tst w r c [⟨some ⟨g, 0, none⟩, n, k, zeroHead ps⟩] ((W.setCell ⟨g, 1, none⟩ (.int .i64 0)).setCell ⟨g, 2, none⟩ (.int .i64 0)) := by
  obtain ⟨h1, h2, h3, h4, h5⟩ := h
  refine ⟨(h1.set_other (by dsimp only; omega) _).set_other (by dsimp only; omega) _, (h2.set_other (by dsimp only; omega) _).set_other (by dsimp only; omega) _, (h3.set_other (by dsimp only; omega) _).set_other (by dsimp only; omega) _, fun t ht => ?_, (h5.setCell (by dsimp only; omega) _).setCell (by dsimp only; omega) _⟩
  obtain ⟨a, b⟩ := h4 _ (List.mem_singleton.2 rfl)
  rw [List.mem_singleton] at ht
  subst ht
  exact ⟨a.zero hn, b⟩


theorem R2_Tank_fresh (r : Rw) (w : World) (hr : r.At w) :
    Calls Try.prog 36 #[.agg #[.int .i64 (r).id, .int .i64 (r).first, .slice (r).steps.p (r).steps.n (r).steps.c, .slice (r).vals.p (r).vals.n (r).vals.c]] w (TankPostF r w) := by
  have hvals := hr.vals
  obtain ⟨z0, hz0⟩ : ∃ z, z = r.id % 9 := ⟨_, rfl⟩
  have z01 := Int.emod_nonneg r.id (show (9 : Int) ≠ 0 by omega)
  have z02 := Int.emod_lt_of_pos r.id (show (0 : Int) < 9 by omega)
  rw [← hz0] at z01 z02
  obtain ⟨za, hza⟩ : ∃ z, z = pickS r.vals.xs 4 % 2001 := ⟨_, rfl⟩
  have za1 := Int.emod_nonneg (pickS r.vals.xs 4) (show (2001 : Int) ≠ 0 by omega)
  have za2 := Int.emod_lt_of_pos (pickS r.vals.xs 4) (show (0 : Int) < 2001 by omega)
  rw [← hza] at za1 za2
  obtain ⟨zb, hzb⟩ : ∃ z, z = pickS r.vals.xs 5 % 30 := ⟨_, rfl⟩
  have zb1 := Int.emod_nonneg (pickS r.vals.xs 5) (show (30 : Int) ≠ 0 by omega)
  have zb2 := Int.emod_lt_of_pos (pickS r.vals.xs 5) (show (0 : Int) < 30 by omega)
  rw [← hzb] at zb1 zb2
  obtain ⟨zc, hzc⟩ : ∃ z, z = pickS r.vals.xs 9 % 2 := ⟨_, rfl⟩
  have zc1 := Int.emod_nonneg (pickS r.vals.xs 9) (show (2 : Int) ≠ 0 by omega)
  have zc2 := Int.emod_lt_of_pos (pickS r.vals.xs 9) (show (0 : Int) < 2 by omega)
  rw [← hzc] at zc1 zc2
  have Z0 := Lib.hid hz0; have ZA := Lib.hid hza; have ZB := Lib.hid hzb; have ZC := Lib.hid hzc
  clear hz0 hza hzb hzc
  go_enter Try.func36, Try.ntmps36
  go_wp2_with (first | (go_at_call 62; (with_reducible refine (R2_Pick r.vals _ _ (by with_reducible repeat (first | exact hvals | refine Is.At.alloc ?_ _ | refine Is.At.bw ?_ _))).mono ?_); rintro e w_ ⟨rfl, hw_⟩; subst w_) | (go_at_call 37; (with_reducible refine (R2_Mod _ _ z0 _ (by omega) (by omega) Z0.out).mono ?_); rintro e w_ ⟨rfl, hw_⟩; subst w_) | (go_at_call 37; (with_reducible refine (R2_Mod _ _ za _ (by omega) (by omega) ZA.out).mono ?_); rintro e w_ ⟨rfl, hw_⟩; subst w_) | (go_at_call 37; (with_reducible refine (R2_Mod _ _ zb _ (by omega) (by omega) ZB.out).mono ?_); rintro e w_ ⟨rfl, hw_⟩; subst w_))
  have S0 : Tst w r #[.int .i64 (1 + z0), .int .i64 (za - 1000), .int .i64 (za - 1000 + zb), .slice none 0 0, .slice none 0 0, .slice none 0 0] [] (((w.alloc (.cells #[.int .i64 r.id, .int .i64 r.first, .slice r.steps.p r.steps.n r.steps.c, .slice r.vals.p r.vals.n r.vals.c] 24)).alloc (.cells #[.int .i64 0, .int .i64 0, .int .i64 0, .slice none 0 0, .slice none 0 0, .slice none 0 0] 62)).alloc (.cells #[.int .i64 (1 + z0), .int .i64 (za - 1000), .int .i64 (za - 1000 + zb), .slice none 0 0, .slice none 0 0, .slice none 0 0] 62)) :=
    ⟨by simp only [HasBlk, Soft.heap_alloc_if, Soft.heap_new], by simp only [HasBlk, Soft.heap_alloc_if, Soft.heap_new1], by simp only [HasBlk, Soft.heap_new2], fun t ht => (by cases ht), by (repeat (first | with_reducible exact bel_refl _ | with_reducible refine bel_alloc ?_ _ | with_reducible refine bel_bw _ ?_ | with_reducible refine bel_drew ?_ | with_reducible refine bel_drewN _ ?_ | ((with_reducible refine bel_set ?_ ?_ _); rotate_left; focus (first | (simp; done) | omega | (simp; omega))) | refine bel_step ?_ (by with_reducible assumption)))⟩
  generalize ((w.alloc (.cells #[.int .i64 r.id, .int .i64 r.first, .slice r.steps.p r.steps.n r.steps.c, .slice r.vals.p r.vals.n r.vals.c] 24)).alloc (.cells #[.int .i64 0, .int .i64 0, .int .i64 0, .slice none 0 0, .slice none 0 0, .slice none 0 0] 62)).alloc (.cells #[.int .i64 (1 + z0), .int .i64 (za - 1000), .int .i64 (za - 1000 + zb), .slice none 0 0, .slice none 0 0, .slice none 0 0] 62) = W0 at *
  have j1 : ¬(w.heap.size + 1 + 1 = w.heap.size) := by omega
  have j2 : ¬(w.heap.size = w.heap.size + 1 + 1) := by omega
  refine (R2_sloped r 3 300 false _ (hr.below S0.bel) (by omega) (by omega)).mono ?_
  rintro e V1 ⟨g1, n1, c1, p1, rfl, ⟨G1, cu1, hu1⟩, A1, M1, B1⟩
  have T1 := (S0.call B1).tab A1 (fun b o e => by cases e; have := (Array.getElem?_eq_some_iff.1 S0.own).1; omega)
  have l1 := Soft.LtH.mk (b := w.heap.size) (w := V1) (by have := (Array.getElem?_eq_some_iff.1 T1.own).1; omega)
  have k1 := Soft.LtH.mk (b := w.heap.size + 1 + 1) (w := V1) (Array.getElem?_eq_some_iff.1 T1.own).1
  obtain ⟨a01, a11, a21, a31⟩ := T1.cells
  have f01 := T1.own.frozen 3
  have o01 := T1.own.cell 3
  simp at o01
  have X1 := Lib.hid T1; have Y1 := Lib.hid M1; clear T1 M1 A1 B1 S0 G1
  go_wp2_with fail
  have S1 := X1.out.put 3 (.slice (some ⟨g1, 0, none⟩) n1 c1)
  have hu1' := HasBlk.set_other hu1 (p := ⟨w.heap.size + 1 + 1, 3, none⟩) (by have := X1.out.tabs _ (List.mem_singleton.2 rfl); have := this.2 g1 0 rfl; dsimp only; omega) (.slice (some ⟨g1, 0, none⟩) n1 c1)
  clear a01 a11 a21 a31 f01 o01 l1 k1 hu1
  generalize V1.setCell ⟨w.heap.size + 1 + 1, 3, none⟩ (.slice (some ⟨g1, 0, none⟩) n1 c1) = W1 at *
  have hf1 := hu1'.frozen 1
  have hf2 := hu1'.frozen 2
  obtain ⟨at1, fr1⟩ := S1.tabs ⟨some ⟨g1, 0, none⟩, n1, c1, p1⟩ (by simp)
  have hg1 := fr1 g1 0 rfl
  have hxs := xsS_ok r
  have hn1 : 2 ≤ n1 ∧ n1 ≤ 8 := by have := Y1.out.1.len; have := at1.1; dsimp only at this; omega
  obtain ⟨hn11, hn12⟩ := hn1
  have hc1 := at1.2.2.1
  have hc2 := at1.2.2.2.1
  obtain ⟨_, _, _, _, hcc⟩ := at1
  obtain ⟨b1_, o1_, e1_, lt1, hcc⟩ := hcc (by dsimp only; omega)
  cases e1_
  obtain ⟨t0, t1, t2⟩ := hcc 0 (by dsimp only; omega)
  simp only [Nat.zero_mul, Nat.zero_add] at t0 t1 t2
  dsimp only at hc1 hc2
  have m1 : ¬(w.heap.size + 1 + 1 = g1) := by omega
  have m2 : ¬(g1 = w.heap.size + 1 + 1) := by omega
  have m3 : ¬(w.heap.size = g1) := by omega
  have m4 : ¬(g1 = w.heap.size) := by omega
  have q1 := Soft.LtH.mk (b := g1) (w := W1) lt1
  have lA := Soft.LtH.mk (b := w.heap.size) (w := W1) (by have := (Array.getElem?_eq_some_iff.1 S1.own).1; omega)
  have lB := Soft.LtH.mk (b := w.heap.size + 1 + 1) (w := W1) (Array.getElem?_eq_some_iff.1 S1.own).1
  obtain ⟨a0, a1, a2, a3⟩ := S1.cells
  have ow := S1.own.cell 3
  simp at ow
  have hv1 := hvals.below S1.bel
  have HXS := Lib.hid hxs
  have XS1 := Lib.hid S1
  clear hcc fr1 hxs hu1' S1 X1
  by_cases c0 : zc = 0
  · have dc : (zc == 0) = true := by rw [c0]; rfl
    have ZC' := Lib.hid ZC.out
    clear c0
    go_wp2_with (first | (go_at_call 62; (with_reducible refine (R2_Pick r.vals _ _ (by with_reducible repeat (first | exact hv1 | refine Is.At.alloc ?_ _ | refine Is.At.bw ?_ _))).mono ?_); rintro e w_ ⟨rfl, hw_⟩; subst w_) | (go_at_call 37; (with_reducible refine (R2_Mod _ _ zc _ (by omega) (by omega) ZC'.out).mono ?_); rintro e w_ ⟨rfl, hw_⟩; subst w_))
    have S2 := XS1.out.zero (by omega) hg1
    clear t0 t1 t2 hf1 hf2 q1 lA lB a0 a1 a2 a3 ow hv1 XS1
    generalize (W1.setCell ⟨g1, 1, none⟩ (.int .i64 0)).setCell ⟨g1, 2, none⟩ (.int .i64 0) = W2 at *
    refine (R2_free r 2 500 _ (hr.below S2.bel) (by omega) (by omega)).mono ?_
    rintro e V3 ⟨g2, n2, c2, p2, rfl, ⟨G3, cu3, hu3⟩, A3, M3, B3⟩
    have T3 := (S2.call B3).tab A3 (fun b o e => by cases e; have := (Array.getElem?_eq_some_iff.1 S2.own).1; omega)
    have l3 := Soft.LtH.mk (b := w.heap.size) (w := V3) (by have := (Array.getElem?_eq_some_iff.1 T3.own).1; omega)
    have k3 := Soft.LtH.mk (b := w.heap.size + 1 + 1) (w := V3) (Array.getElem?_eq_some_iff.1 T3.own).1
    obtain ⟨a03, a13, a23, a33⟩ := T3.cells
    have f03 := T3.own.frozen 4
    have o03 := T3.own.cell 4
    simp at o03
    have X3 := Lib.hid T3; have Y3 := Lib.hid M3; clear T3 M3 A3 B3 S2 G3
    go_wp2_with fail
    have S3 := X3.out.put 4 (.slice (some ⟨g2, 0, none⟩) n2 c2)
    clear a03 a13 a23 a33 f03 o03 l3 k3
    generalize V3.setCell ⟨w.heap.size + 1 + 1, 4, none⟩ (.slice (some ⟨g2, 0, none⟩) n2 c2) = W3 at *
    refine (R2_sloped r 7 90 false _ (hr.below S3.bel) (by omega) (by omega)).mono ?_
    rintro e V4 ⟨g3, n3, c3, p3, rfl, ⟨G4, cu4, hu4⟩, A4, M4, B4⟩
    have T4 := (S3.call B4).tab A4 (fun b o e => by cases e; have := (Array.getElem?_eq_some_iff.1 S3.own).1; omega)
    have l4 := Soft.LtH.mk (b := w.heap.size) (w := V4) (by have := (Array.getElem?_eq_some_iff.1 T4.own).1; omega)
    have k4 := Soft.LtH.mk (b := w.heap.size + 1 + 1) (w := V4) (Array.getElem?_eq_some_iff.1 T4.own).1
    obtain ⟨a04, a14, a24, a34⟩ := T4.cells
    have f04 := T4.own.frozen 5
    have o04 := T4.own.cell 5
    simp at o04
    have X4 := Lib.hid T4; have Y4 := Lib.hid M4; clear T4 M4 A4 B4 S3 G4
    have S5 := (X4.out.put 5 (.slice (some ⟨g3, 0, none⟩) n3 c3)).cast (c' := #[.int .i64 (1 + z0), .int .i64 (za - 1000), .int .i64 (za - 1000 + zb), .slice (some ⟨g1, 0, none⟩) n1 c1, .slice (some ⟨g2, 0, none⟩) n2 c2, .slice (some ⟨g3, 0, none⟩) n3 c3]) (by simp)
    have X5 := Lib.hid S5; clear S5
    go_wp2_with (first | (refine wpList_load_row rfl 62 _ rfl (w.heap.size + 1 + 1) rfl 62 _ _ _ X5.out.own Try.underlying62 rfl (by kernel_rfl) ?_) | (refine wpList_store_row rfl 62 _ _ rfl (w.heap.size + 1) _ rfl rfl 62 _ X5.out.res (by kernel_rfl) rfl (by kernel_rfl) ?_))
    refine bodyPost_ret (results_cell_row rfl _ _ (w.heap.size + 1) _ _ _ _ rfl (setRow_heap _ _ _ _ _ _ X5.out.res) Try.underlying62 rfl (by kernel_rfl)) rfl ?_
    have tb := X5.out.tabs
    have key : ∀ t : Tb, t ∈ [⟨some ⟨g3, 0, none⟩, n3, c3, p3⟩, ⟨some ⟨g2, 0, none⟩, n2, c2, p2⟩, ⟨some ⟨g1, 0, none⟩, n1, c1, zeroHead p1⟩] → t.At ((V4.setCell ⟨w.heap.size + 1 + 1, 5, none⟩ (.slice (some ⟨g3, 0, none⟩) n3 c3)).setRow (w.heap.size + 1) #[.int .i64 (1 + z0), .int .i64 (za - 1000), .int .i64 (za - 1000 + zb), .slice (some ⟨g1, 0, none⟩) n1 c1, .slice (some ⟨g2, 0, none⟩) n2 c2, .slice (some ⟨g3, 0, none⟩) n3 c3]) := fun t ht => by
      obtain ⟨t1, t2⟩ := tb t ht
      exact t1.row (fun b o e => by have := t2 b o e; omega) _
    have hx := HXS.out
    have v1 := Y1.out.zero
    have v2 := Y3.out
    have v3 := Y4.out
    have hl1 := v1.1.len
    have hz := Z0.out
    refine ⟨⟨1 + z0, ⟨za - 1000, za - 1000 + zb⟩, ⟨some ⟨g1, 0, none⟩, n1, c1, zeroHead p1⟩, ⟨some ⟨g2, 0, none⟩, n2, c2, p2⟩, ⟨some ⟨g3, 0, none⟩, n3, c3, p3⟩⟩, rfl, ⟨key _ (by simp), key _ (by simp), key _ (by simp)⟩, ?_, below_setRow X5.out.bel (by omega) _, fun t ht b o e => by
      have h3 : t ∈ [(⟨some ⟨g3, 0, none⟩, n3, c3, p3⟩ : Tb), ⟨some ⟨g2, 0, none⟩, n2, c2, p2⟩, ⟨some ⟨g1, 0, none⟩, n1, c1, zeroHead p1⟩] := by
        simp only [List.mem_cons, List.not_mem_nil, or_false] at ht ⊢
        rcases ht with rfl | rfl | rfl <;> simp
      have := (tb t h3).2 b o e
      omega⟩
    refine ⟨⟨?_, ?_, ⟨v1.1.tab2 hx.1 hx.2.1 hx.2.2, ⟨v2.tab2 hx.1 hx.2.1 hx.2.2, v2.ends v1.1 (by omega)⟩, ⟨v3.1.tab2 hx.1 hx.2.1 hx.2.2, v3.1.ends v1.1 (by omega)⟩⟩, v1.mono_up, v3.mono_up⟩, ?_, v1.1, v2, v3.1, hx⟩
    · dsimp only; omega
    · show isPart _ _ _
      unfold isPart
      dsimp only
      omega
    · dsimp only; omega
  · have dc : (zc == 0) = false := by rw [beq_eq_false_iff_ne]; exact c0
    have ZC' := Lib.hid ZC.out
    clear c0
    go_wp2_with (first | (go_at_call 62; (with_reducible refine (R2_Pick r.vals _ _ (by with_reducible repeat (first | exact hv1 | refine Is.At.alloc ?_ _ | refine Is.At.bw ?_ _))).mono ?_); rintro e w_ ⟨rfl, hw_⟩; subst w_) | (go_at_call 37; (with_reducible refine (R2_Mod _ _ zc _ (by omega) (by omega) ZC'.out).mono ?_); rintro e w_ ⟨rfl, hw_⟩; subst w_))
    have S2 := XS1.out
    clear t0 t1 t2 hf1 hf2 q1 lA lB a0 a1 a2 a3 ow hv1 XS1
    rename World => W2
    refine (R2_free r 2 500 _ (hr.below S2.bel) (by omega) (by omega)).mono ?_
    rintro e V3 ⟨g2, n2, c2, p2, rfl, ⟨G3, cu3, hu3⟩, A3, M3, B3⟩
    have T3 := (S2.call B3).tab A3 (fun b o e => by cases e; have := (Array.getElem?_eq_some_iff.1 S2.own).1; omega)
    have l3 := Soft.LtH.mk (b := w.heap.size) (w := V3) (by have := (Array.getElem?_eq_some_iff.1 T3.own).1; omega)
    have k3 := Soft.LtH.mk (b := w.heap.size + 1 + 1) (w := V3) (Array.getElem?_eq_some_iff.1 T3.own).1
    obtain ⟨a03, a13, a23, a33⟩ := T3.cells
    have f03 := T3.own.frozen 4
    have o03 := T3.own.cell 4
    simp at o03
    have X3 := Lib.hid T3; have Y3 := Lib.hid M3; clear T3 M3 A3 B3 S2 G3
    go_wp2_with fail
    have S3 := X3.out.put 4 (.slice (some ⟨g2, 0, none⟩) n2 c2)
    clear a03 a13 a23 a33 f03 o03 l3 k3
    generalize V3.setCell ⟨w.heap.size + 1 + 1, 4, none⟩ (.slice (some ⟨g2, 0, none⟩) n2 c2) = W3 at *
    refine (R2_sloped r 7 90 false _ (hr.below S3.bel) (by omega) (by omega)).mono ?_
    rintro e V4 ⟨g3, n3, c3, p3, rfl, ⟨G4, cu4, hu4⟩, A4, M4, B4⟩
    have T4 := (S3.call B4).tab A4 (fun b o e => by cases e; have := (Array.getElem?_eq_some_iff.1 S3.own).1; omega)
    have l4 := Soft.LtH.mk (b := w.heap.size) (w := V4) (by have := (Array.getElem?_eq_some_iff.1 T4.own).1; omega)
    have k4 := Soft.LtH.mk (b := w.heap.size + 1 + 1) (w := V4) (Array.getElem?_eq_some_iff.1 T4.own).1
    obtain ⟨a04, a14, a24, a34⟩ := T4.cells
    have f04 := T4.own.frozen 5
    have o04 := T4.own.cell 5
    simp at o04
    have X4 := Lib.hid T4; have Y4 := Lib.hid M4; clear T4 M4 A4 B4 S3 G4
    have S5 := (X4.out.put 5 (.slice (some ⟨g3, 0, none⟩) n3 c3)).cast (c' := #[.int .i64 (1 + z0), .int .i64 (za - 1000), .int .i64 (za - 1000 + zb), .slice (some ⟨g1, 0, none⟩) n1 c1, .slice (some ⟨g2, 0, none⟩) n2 c2, .slice (some ⟨g3, 0, none⟩) n3 c3]) (by simp)
    have X5 := Lib.hid S5; clear S5
    go_wp2_with (first | (refine wpList_load_row rfl 62 _ rfl (w.heap.size + 1 + 1) rfl 62 _ _ _ X5.out.own Try.underlying62 rfl (by kernel_rfl) ?_) | (refine wpList_store_row rfl 62 _ _ rfl (w.heap.size + 1) _ rfl rfl 62 _ X5.out.res (by kernel_rfl) rfl (by kernel_rfl) ?_))
    refine bodyPost_ret (results_cell_row rfl _ _ (w.heap.size + 1) _ _ _ _ rfl (setRow_heap _ _ _ _ _ _ X5.out.res) Try.underlying62 rfl (by kernel_rfl)) rfl ?_
    have tb := X5.out.tabs
    have key : ∀ t : Tb, t ∈ [⟨some ⟨g3, 0, none⟩, n3, c3, p3⟩, ⟨some ⟨g2, 0, none⟩, n2, c2, p2⟩, ⟨some ⟨g1, 0, none⟩, n1, c1, p1⟩] → t.At ((V4.setCell ⟨w.heap.size + 1 + 1, 5, none⟩ (.slice (some ⟨g3, 0, none⟩) n3 c3)).setRow (w.heap.size + 1) #[.int .i64 (1 + z0), .int .i64 (za - 1000), .int .i64 (za - 1000 + zb), .slice (some ⟨g1, 0, none⟩) n1 c1, .slice (some ⟨g2, 0, none⟩) n2 c2, .slice (some ⟨g3, 0, none⟩) n3 c3]) := fun t ht => by
      obtain ⟨t1, t2⟩ := tb t ht
      exact t1.row (fun b o e => by have := t2 b o e; omega) _
    have hx := HXS.out
    have v1 := Y1.out
    have v2 := Y3.out
    have v3 := Y4.out
    have hl1 := v1.1.len
    have hz := Z0.out
    refine ⟨⟨1 + z0, ⟨za - 1000, za - 1000 + zb⟩, ⟨some ⟨g1, 0, none⟩, n1, c1, p1⟩, ⟨some ⟨g2, 0, none⟩, n2, c2, p2⟩, ⟨some ⟨g3, 0, none⟩, n3, c3, p3⟩⟩, rfl, ⟨key _ (by simp), key _ (by simp), key _ (by simp)⟩, ?_, below_setRow X5.out.bel (by omega) _, fun t ht b o e => by
      have h3 : t ∈ [(⟨some ⟨g3, 0, none⟩, n3, c3, p3⟩ : Tb), ⟨some ⟨g2, 0, none⟩, n2, c2, p2⟩, ⟨some ⟨g1, 0, none⟩, n1, c1, p1⟩] := by
        simp only [List.mem_cons, List.not_mem_nil, or_false] at ht ⊢
        rcases ht with rfl | rfl | rfl <;> simp
      have := (tb t h3).2 b o e
      omega⟩
    refine ⟨⟨?_, ?_, ⟨v1.1.tab2 hx.1 hx.2.1 hx.2.2, ⟨v2.tab2 hx.1 hx.2.1 hx.2.2, v2.ends v1.1 (by omega)⟩, ⟨v3.1.tab2 hx.1 hx.2.1 hx.2.2, v3.1.ends v1.1 (by omega)⟩⟩, v1.mono_up, v3.mono_up⟩, ?_, v1.1, v2, v3.1, hx⟩
    · dsimp only; omega
    · show isPart _ _ _
      unfold isPart
      dsimp only
      omega
    · dsimp only; omega

theorem R2_Tank (r : Rw) (w : World) (hr : r.At w) :
    Calls Try.prog 36 #[.agg #[.int .i64 (r).id, .int .i64 (r).first, .slice (r).steps.p (r).steps.n (r).steps.c, .slice (r).vals.p (r).vals.n (r).vals.c]] w (TankPost r w) :=
  (R2_Tank_fresh r w hr).mono fun _ _ ⟨h, a, b, c, d, _⟩ => ⟨h, a, b, c, d⟩

end Go.Proofs.Ytbjdgaeikihjbaa
