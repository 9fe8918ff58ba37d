/-
  The reference's maker of compartments out of numbers: Hold.
  Conditions: each theorem's own premises.
-/
import Derived.Test.YtbjdgaeikihjbaaMadd
import Derived.Test.YtbjdgaeikihjbaaCheck
import Derived.Test.YtbjdgaeikihjbaaFill
import Derived.Laws.CopyOwn
namespace Go.Proofs.Ytbjdgaeikihjbaa
set_option linter.unusedSimpArgs false
set_option linter.unusedVariables false
open Go.RowKit
set_option maxRecDepth 100000
set_option maxHeartbeats 4000000
attribute [local go_sem] Instr.field asAgg Soft.upon Soft.BW.cell_if Soft.BW.frozen_if Soft.cell_alloc_if Soft.frozen_alloc_if



/-- A hold that is valid, its numbers small. -/
structure HoldMade (r : Rw) (h : Ho) : Prop where
  ok : HoldOk h
  id : h.id = 1 + r.id % 9
  vol : Made (xsS r) h.vol.ps
  mom : Made (xsS r) h.mom.ps
  hei : Made (xsS r) h.hei.ps
  xs : XsOk (xsS r) ∧ 2 ≤ (xsS r).length ∧ (xsS r).length ≤ 8
  small : h.tri.hi ≤ 2000 ∧ h.unt.hi ≤ 2000 ∧ h.v0.hi ≤ 30000 ∧ h.h0.hi ≤ 2000
  top : h.v0.lo ≥ (pt h.vol.ps 0).lo ∧ h.v0.hi ≥ (pt h.vol.ps 0).hi

def HoldPost (r : Rw) (w : World) (e : Ending) (w' : World) : Prop :=
  ∃ h : Ho, e = .returned (.agg #[.int .i64 (h).id, .int .i64 ((h).along).lo, .int .i64 ((h).along).hi, .slice ((h).vol).p ((h).vol).n ((h).vol).c, .slice ((h).mom).p ((h).mom).n ((h).mom).c, .slice ((h).hei).p ((h).hei).n ((h).hei).c, .int .i64 ((h).tri).lo, .int .i64 ((h).tri).hi, .int .i64 ((h).unt).lo, .int .i64 ((h).unt).hi, .int .i64 ((h).v0).lo, .int .i64 ((h).v0).hi, .int .i64 ((h).h0).lo, .int .i64 ((h).h0).hi]) ∧ h.At w' ∧ HoldMade r h ∧ Below w.heap.size w w'
/-- The same, and the hold's tables lie in new memory. -/
def HoldPostF (r : Rw) (w : World) (e : Ending) (w' : World) : Prop :=
  ∃ h : Ho, e = .returned (.agg #[.int .i64 (h).id, .int .i64 ((h).along).lo, .int .i64 ((h).along).hi, .slice ((h).vol).p ((h).vol).n ((h).vol).c, .slice ((h).mom).p ((h).mom).n ((h).mom).c, .slice ((h).hei).p ((h).hei).n ((h).hei).c, .int .i64 ((h).tri).lo, .int .i64 ((h).tri).hi, .int .i64 ((h).unt).lo, .int .i64 ((h).unt).hi, .int .i64 ((h).v0).lo, .int .i64 ((h).v0).hi, .int .i64 ((h).h0).lo, .int .i64 ((h).h0).hi]) ∧ h.At w' ∧ HoldMade r h ∧ Below w.heap.size w w' ∧ ∀ t ∈ [h.vol, h.mom, h.hei], ∀ b o, t.p = some ⟨b, o, none⟩ → w.heap.size ≤ b

theorem xsK_ok (first : Int) (steps : List Int) : ∀ k, XsOk (xsK first steps k) ∧ iv (xsK first steps k) k = xK first steps k
  | 0 => by
    have q1 := Int.emod_nonneg first (show (50 : Int) ≠ 0 by omega)
    have q2 := Int.emod_lt_of_pos first (show (0 : Int) < 50 by omega)
    exact ⟨XsOk.one (x := first % 50) ⟨q1, by omega⟩, rfl⟩
  | k + 1 => by
    obtain ⟨a, b⟩ := xsK_ok first steps k
    have z1 := Int.emod_nonneg (iv steps k) (show (40 : Int) ≠ 0 by omega)
    have z2 := Int.emod_lt_of_pos (iv steps k) (show (0 : Int) < 40 by omega)
    rw [xsK_succ]
    have hl := xsK_len first steps k
    refine ⟨a.snoc (fun h => by rw [h] at hl; simp at hl) ?_ ?_, ?_⟩
    · rw [hl, Nat.add_sub_cancel, b]; omega
    · rw [hl, Nat.add_sub_cancel, b]; omega
    · rw [iv_snoc, if_pos hl.symm]; rfl
theorem xsS_ok (r : Rw) : XsOk (xsS r) ∧ 2 ≤ (xsS r).length ∧ (xsS r).length ≤ 8 := by
  unfold xsS
  split
  · have q1 := Int.emod_nonneg r.first (show (50 : Int) ≠ 0 by omega)
    have q2 := Int.emod_lt_of_pos r.first (show (0 : Int) < 50 by omega)
    refine ⟨(XsOk.one (x := r.first % 50) ⟨q1, by omega⟩).snoc (x := r.first % 50 + 10) (by simp) ?_ ?_, by simp, by simp⟩
    · simp [iv]; omega
    · simp [iv]
  · refine ⟨(xsK_ok _ _ _).1, ?_, ?_⟩ <;> (rw [xsK_len]; omega)

theorem Made.tab2 {xl : List Int} {ps : List Pt} (h : Made xl ps) (hx : XsOk xl) (h2 : 2 ≤ xl.length) (h8 : xl.length ≤ 8) : Tab2 ps := by
  have hl := h.len
  refine ⟨?_, by omega, fun ⟨k, hk, hn⟩ => by have := h.at_ k hk; omega⟩
  refine ⟨by omega, by omega, fun j hj => ?_⟩
  obtain ⟨a1, a2, a3, a4⟩ := h.at_ j hj
  have b := hx.lo j (by omega)
  refine ⟨by omega, by omega, by omega, by omega, by omega, ?_⟩
  by_cases h0 : j = 0
  · exact .inl h0
  · right
    obtain ⟨c1, _⟩ := h.at_ (j - 1) (by omega)
    have := (hx.up (j - 1) (by omega)).1
    rw [show j - 1 + 1 = j by omega] at this
    omega

theorem Made.ends {xl : List Int} {ps qs : List Pt} (h : Made xl ps) (h' : Made xl qs) (h1 : 1 ≤ xl.length) : sameEnds ps qs := by
  have l1 := h.len
  have l2 := h'.len
  refine ⟨?_, ?_⟩
  · show (pt ps 0).x = (pt qs 0).x
    rw [(h.at_ 0 (by omega)).1, (h'.at_ 0 (by omega)).1]
  · show (pt ps (ps.length - 1)).x = (pt qs (qs.length - 1)).x
    rw [(h.at_ _ (by omega)).1, (h'.at_ _ (by omega)).1, l1, l2]
theorem Slope.mono {r : Rw} {ps : List Pt} (h : Slope r true ps) : mono ps (-1) := fun k hk => by
  have := h.2 k (by omega)
  simp only [if_true] at this
  unfold monoAt
  omega
theorem Slope.mono_up {r : Rw} {ps : List Pt} (h : Slope r false ps) : Go.Proofs.Ytbjdgaeikihjbaa.mono ps 1 := fun k hk => by
  have := h.2 k (by omega)
  simp only [Bool.false_eq_true, if_false] at this
  unfold monoAt
  omega
theorem someS_in (r : Rw) (f m : Int) (hm : 1 ≤ m) : 0 ≤ (someS r f m).lo ∧ (someS r f m).lo ≤ (someS r f m).hi ∧ (someS r f m).hi ≤ m + 8 := by
  have z11 := Int.emod_nonneg (pickS r.vals.xs f) (show m ≠ 0 by omega)
  have z12 := Int.emod_lt_of_pos (pickS r.vals.xs f) (show 0 < m by omega)
  have z21 := Int.emod_nonneg (pickS r.vals.xs (f + 1)) (show (9 : Int) ≠ 0 by omega)
  have z22 := Int.emod_lt_of_pos (pickS r.vals.xs (f + 1)) (show (0 : Int) < 9 by omega)
  unfold someS
  dsimp only
  omega

/-- Where Hold's own walk stands: its argument's block, its result's, the hold's with its cells, the tables so far. -/
structure Hst (w : World) (r : Rw) (c : Array Value) (ts : List Tb) (W : World) : Prop where
  box : HasBlk W w.heap.size #[.int .i64 r.id, .int .i64 r.first, .slice r.steps.p r.steps.n r.steps.c, .slice r.vals.p r.vals.n r.vals.c] 24
  res : HasBlk W (w.heap.size + 1) #[.int .i64 0, .int .i64 0, .int .i64 0, .slice none 0 0, .slice none 0 0, .slice none 0 0, .int .i64 0, .int .i64 0, .int .i64 0, .int .i64 0, .int .i64 0, .int .i64 0, .int .i64 0, .int .i64 0] 35
  own : HasBlk W (w.heap.size + 1 + 1) c 35
  tabs : ∀ t ∈ ts, t.At W ∧ ∀ b o, t.p = some ⟨b, o, none⟩ → w.heap.size + 1 + 1 < b
  bel : Below w.heap.size w W
theorem Hst.call {w W W1 : World} {r : Rw} {c : Array Value} {ts : List Tb} (h : Hst w r c ts W) (hb : Below W.heap.size W W1) : Hst w r c ts W1 :=
  ⟨h.box.below hb, h.res.below hb, h.own.below hb, fun t ht => ⟨(h.tabs t ht).1.same hb, (h.tabs t ht).2⟩, h.bel.trans (hb.mono h.bel.size)⟩
theorem Hst.put {w W : World} {r : Rw} {c : Array Value} {ts : List Tb} (h : Hst w r c ts W) (i : Nat) (v : Value) : Hst w r (c.setIfInBounds i v) ts (W.setCell ⟨w.heap.size + 1 + 1, i, none⟩ v) :=
  ⟨h.box.set_other (by dsimp only; omega) v, h.res.set_other (by dsimp only; omega) v, h.own.put i v, fun t ht => ⟨(h.tabs t ht).1.setCell (fun b o e => by have := (h.tabs t ht).2 b o e; dsimp only; omega) v, (h.tabs t ht).2⟩, h.bel.setCell (by dsimp only; omega) v⟩
theorem Hst.tab {w W : World} {r : Rw} {c : Array Value} {ts : List Tb} {t : Tb} (h : Hst w r c ts W) (ht : t.At W) (hf : ∀ b o, t.p = some ⟨b, o, none⟩ → w.heap.size + 1 + 1 < b) : Hst w r c (t :: ts) W :=
  ⟨h.box, h.res, h.own, fun t' ht' => by
    rcases List.mem_cons.1 ht' with rfl | h'
    · exact ⟨ht, hf⟩
    · exact h.tabs t' h', h.bel⟩
/-- The box's cells, one by one. -/
theorem Hst.cells {w W : World} {r : Rw} {c : Array Value} {ts : List Tb} (h : Hst w r c ts W) : W.cell? ⟨w.heap.size, 0, none⟩ = some (.int .i64 r.id) ∧ W.cell? ⟨w.heap.size, 1, none⟩ = some (.int .i64 r.first) ∧
    W.cell? ⟨w.heap.size, 2, none⟩ = some (.slice r.steps.p r.steps.n r.steps.c) ∧ W.cell? ⟨w.heap.size, 3, none⟩ = some (.slice r.vals.p r.vals.n r.vals.c) :=
  ⟨h.box.cell 0, h.box.cell 1, h.box.cell 2, h.box.cell 3⟩

theorem Hst.cast {w W : World} {r : Rw} {c c' : Array Value} {ts : List Tb} (h : Hst w r c ts W) (e : c = c') : Hst w r c' ts W := e ▸ h
theorem Tb.At.row {w : World} {t : Tb} (h : t.At w) {g : Nat} (hg : ∀ b o, t.p = some ⟨b, o, none⟩ → b ≠ g) (cs : Array Value) : t.At (w.setRow g cs) := by
  obtain ⟨h1, h2, h3, h4, h5⟩ := h
  refine ⟨h1, h2, h3, h4, fun hn => ?_⟩
  obtain ⟨b, o, e, hlt, hc⟩ := h5 hn
  have key : ∀ i, (w.setRow g cs).cell? ⟨b, i, none⟩ = w.cell? ⟨b, i, none⟩ := fun i => World.cell?_of_block (w := w) (setRow_other w g b cs (hg b o e))
  refine ⟨b, o, e, by simpa [World.setRow] using hlt, fun i hi => ?_⟩
  rw [key, key, key]
  exact hc i hi
theorem R2_Hold_fresh (r : Rw) (w : World) (hr : r.At w) :
    Calls Try.prog 15 #[.agg #[.int .i64 (r).id, .int .i64 (r).first, .slice (r).steps.p (r).steps.n (r).steps.c, .slice (r).vals.p (r).vals.n (r).vals.c]] w (HoldPostF r w) := by
  have hvals := hr.vals
  obtain ⟨z0, hz0⟩ : ∃ z, z = r.id % 9 := ⟨_, rfl⟩
  have z01 := Int.emod_nonneg r.id (show (9 : Int) ≠ 0 by omega)
  have z02 := Int.emod_lt_of_pos r.id (show (0 : Int) < 9 by omega)
  rw [← hz0] at z01 z02
  obtain ⟨za, hza⟩ : ∃ z, z = pickS r.vals.xs 1 % 2001 := ⟨_, rfl⟩
  have za1 := Int.emod_nonneg (pickS r.vals.xs 1) (show (2001 : Int) ≠ 0 by omega)
  have za2 := Int.emod_lt_of_pos (pickS r.vals.xs 1) (show (0 : Int) < 2001 by omega)
  rw [← hza] at za1 za2
  obtain ⟨zb, hzb⟩ : ∃ z, z = pickS r.vals.xs 2 % 30 := ⟨_, rfl⟩
  have zb1 := Int.emod_nonneg (pickS r.vals.xs 2) (show (30 : Int) ≠ 0 by omega)
  have zb2 := Int.emod_lt_of_pos (pickS r.vals.xs 2) (show (0 : Int) < 30 by omega)
  rw [← hzb] at zb1 zb2
  obtain ⟨zc, hzc⟩ : ∃ z, z = pickS r.vals.xs 6 % 9 := ⟨_, rfl⟩
  have zc1 := Int.emod_nonneg (pickS r.vals.xs 6) (show (9 : Int) ≠ 0 by omega)
  have zc2 := Int.emod_lt_of_pos (pickS r.vals.xs 6) (show (0 : Int) < 9 by omega)
  rw [← hzc] at zc1 zc2
  obtain ⟨zd, hzd⟩ : ∃ z, z = pickS r.vals.xs 7 % 9 := ⟨_, rfl⟩
  have zd1 := Int.emod_nonneg (pickS r.vals.xs 7) (show (9 : Int) ≠ 0 by omega)
  have zd2 := Int.emod_lt_of_pos (pickS r.vals.xs 7) (show (0 : Int) < 9 by omega)
  rw [← hzd] at zd1 zd2
  have Z0 := Lib.hid hz0; have ZA := Lib.hid hza; have ZB := Lib.hid hzb; have ZC := Lib.hid hzc; have ZD := Lib.hid hzd
  clear hz0 hza hzb hzc hzd
  go_enter Try.func15, Try.ntmps15
  go_wp2_with (first | (go_at_call 62; (with_reducible refine (R2_Pick r.vals _ _ (by with_reducible repeat (first | exact hvals | refine Is.At.alloc ?_ _ | refine Is.At.bw ?_ _))).mono ?_); rintro e w_ ⟨rfl, hw_⟩; subst w_) | (go_at_call 37; (with_reducible refine (R2_Mod _ _ z0 _ (by omega) (by omega) Z0.out).mono ?_); rintro e w_ ⟨rfl, hw_⟩; subst w_) | (go_at_call 37; (with_reducible refine (R2_Mod _ _ za _ (by omega) (by omega) ZA.out).mono ?_); rintro e w_ ⟨rfl, hw_⟩; subst w_) | (go_at_call 37; (with_reducible refine (R2_Mod _ _ zb _ (by omega) (by omega) ZB.out).mono ?_); rintro e w_ ⟨rfl, hw_⟩; subst w_))
  have S0 : Hst w r #[.int .i64 (1 + z0), .int .i64 (za - 1000), .int .i64 (za - 1000 + zb), .slice none 0 0, .slice none 0 0, .slice none 0 0, .int .i64 0, .int .i64 0, .int .i64 0, .int .i64 0, .int .i64 0, .int .i64 0, .int .i64 0, .int .i64 0] [] (((w.alloc (.cells #[.int .i64 r.id, .int .i64 r.first, .slice r.steps.p r.steps.n r.steps.c, .slice r.vals.p r.vals.n r.vals.c] 24)).alloc (.cells #[.int .i64 0, .int .i64 0, .int .i64 0, .slice none 0 0, .slice none 0 0, .slice none 0 0, .int .i64 0, .int .i64 0, .int .i64 0, .int .i64 0, .int .i64 0, .int .i64 0, .int .i64 0, .int .i64 0] 35)).alloc (.cells #[.int .i64 (1 + z0), .int .i64 (za - 1000), .int .i64 (za - 1000 + zb), .slice none 0 0, .slice none 0 0, .slice none 0 0, .int .i64 0, .int .i64 0, .int .i64 0, .int .i64 0, .int .i64 0, .int .i64 0, .int .i64 0, .int .i64 0] 35)) :=
    ⟨by simp only [HasBlk, Soft.heap_alloc_if, Soft.heap_new], by simp only [HasBlk, Soft.heap_alloc_if, Soft.heap_new1], by simp only [HasBlk, Soft.heap_new2], fun t ht => (by cases ht), by (repeat (first | with_reducible exact bel_refl _ | with_reducible refine bel_alloc ?_ _ | with_reducible refine bel_bw _ ?_ | with_reducible refine bel_drew ?_ | with_reducible refine bel_drewN _ ?_ | ((with_reducible refine bel_set ?_ ?_ _); rotate_left; focus (first | (simp; done) | omega | (simp; omega))) | refine bel_step ?_ (by with_reducible assumption)))⟩
  generalize ((w.alloc (.cells #[.int .i64 r.id, .int .i64 r.first, .slice r.steps.p r.steps.n r.steps.c, .slice r.vals.p r.vals.n r.vals.c] 24)).alloc (.cells #[.int .i64 0, .int .i64 0, .int .i64 0, .slice none 0 0, .slice none 0 0, .slice none 0 0, .int .i64 0, .int .i64 0, .int .i64 0, .int .i64 0, .int .i64 0, .int .i64 0, .int .i64 0, .int .i64 0] 35)).alloc (.cells #[.int .i64 (1 + z0), .int .i64 (za - 1000), .int .i64 (za - 1000 + zb), .slice none 0 0, .slice none 0 0, .slice none 0 0, .int .i64 0, .int .i64 0, .int .i64 0, .int .i64 0, .int .i64 0, .int .i64 0, .int .i64 0, .int .i64 0] 35) = W0 at *
  have j1 : ¬(w.heap.size + 1 + 1 = w.heap.size) := by omega
  have j2 : ¬(w.heap.size = w.heap.size + 1 + 1) := by omega
  refine (R2_sloped r 0 300 true _ (hr.below S0.bel) (by omega) (by omega)).mono ?_
  rintro e V1 ⟨g1, n1, c1, p1, rfl, ⟨G1, _⟩, A1, M1, B1⟩
  have T1 := (S0.call B1).tab A1 (fun b o e => by cases e; have := (Array.getElem?_eq_some_iff.1 S0.own).1; omega)
  have l1 := Soft.LtH.mk (b := w.heap.size) (w := V1) (by have := (Array.getElem?_eq_some_iff.1 T1.own).1; omega)
  have k1 := Soft.LtH.mk (b := w.heap.size + 1 + 1) (w := V1) (Array.getElem?_eq_some_iff.1 T1.own).1
  obtain ⟨a01, a11, a21, a31⟩ := T1.cells
  have f01 := T1.own.frozen 3
  have o01 := T1.own.cell 3
  simp at o01
  have X1 := Lib.hid T1; have Y1 := Lib.hid M1; clear T1 M1 A1 B1 S0 G1
  go_wp2_with fail
  have S1 := X1.out.put 3 (.slice (some ⟨g1, 0, none⟩) n1 c1)
  clear a01 a11 a21 a31 f01 o01 l1 k1
  generalize V1.setCell ⟨w.heap.size + 1 + 1, 3, none⟩ (.slice (some ⟨g1, 0, none⟩) n1 c1) = W1 at *
  refine (R2_free r 5 800 _ (hr.below S1.bel) (by omega) (by omega)).mono ?_
  rintro e V2 ⟨g2, n2, c2, p2, rfl, ⟨G2, _⟩, A2, M2, B2⟩
  have T2 := (S1.call B2).tab A2 (fun b o e => by cases e; have := (Array.getElem?_eq_some_iff.1 S1.own).1; omega)
  have l2 := Soft.LtH.mk (b := w.heap.size) (w := V2) (by have := (Array.getElem?_eq_some_iff.1 T2.own).1; omega)
  have k2 := Soft.LtH.mk (b := w.heap.size + 1 + 1) (w := V2) (Array.getElem?_eq_some_iff.1 T2.own).1
  obtain ⟨a02, a12, a22, a32⟩ := T2.cells
  have f02 := T2.own.frozen 4
  have o02 := T2.own.cell 4
  simp at o02
  have X2 := Lib.hid T2; have Y2 := Lib.hid M2; clear T2 M2 A2 B2 S1 G2
  go_wp2_with fail
  have S2 := X2.out.put 4 (.slice (some ⟨g2, 0, none⟩) n2 c2)
  clear a02 a12 a22 a32 f02 o02 l2 k2
  generalize V2.setCell ⟨w.heap.size + 1 + 1, 4, none⟩ (.slice (some ⟨g2, 0, none⟩) n2 c2) = W2 at *
  refine (R2_sloped r 11 90 true _ (hr.below S2.bel) (by omega) (by omega)).mono ?_
  rintro e V3 ⟨g3, n3, c3, p3, rfl, ⟨G3, _⟩, A3, M3, B3⟩
  have T3 := (S2.call B3).tab A3 (fun b o e => by cases e; have := (Array.getElem?_eq_some_iff.1 S2.own).1; omega)
  have l3 := Soft.LtH.mk (b := w.heap.size) (w := V3) (by have := (Array.getElem?_eq_some_iff.1 T3.own).1; omega)
  have k3 := Soft.LtH.mk (b := w.heap.size + 1 + 1) (w := V3) (Array.getElem?_eq_some_iff.1 T3.own).1
  obtain ⟨a03, a13, a23, a33⟩ := T3.cells
  have f03 := T3.own.frozen 5
  have o03 := T3.own.cell 5
  simp at o03
  have X3 := Lib.hid T3; have Y3 := Lib.hid M3; clear T3 M3 A3 B3 S2 G3
  go_wp2_with fail
  have S3 := X3.out.put 5 (.slice (some ⟨g3, 0, none⟩) n3 c3)
  clear a03 a13 a23 a33 f03 o03 l3 k3
  generalize V3.setCell ⟨w.heap.size + 1 + 1, 5, none⟩ (.slice (some ⟨g3, 0, none⟩) n3 c3) = W3 at *
  refine (R2_some r 3 200 _ (hr.below S3.bel) (by omega) (by omega)).mono ?_
  rintro e V4 ⟨rfl, B4⟩
  have T4 := S3.call B4
  have l4 := Soft.LtH.mk (b := w.heap.size) (w := V4) (by have := (Array.getElem?_eq_some_iff.1 T4.own).1; omega)
  have k4 := Soft.LtH.mk (b := w.heap.size + 1 + 1) (w := V4) (Array.getElem?_eq_some_iff.1 T4.own).1
  obtain ⟨a04, a14, a24, a34⟩ := T4.cells
  have f04 := T4.own.frozen 6
  have f14 := T4.own.frozen 7
  have o04 := T4.own.cell 6
  have o14 := T4.own.cell 7
  simp at o04 o14
  have X4 := Lib.hid T4; clear T4 B4 S3
  go_wp2_with fail
  have S4 := (X4.out.put 6 (.int .i64 (someS r 3 200).lo)).put 7 (.int .i64 (someS r 3 200).hi)
  clear a04 a14 a24 a34 f04 o04 f14 o14 l4 k4
  generalize (V4.setCell ⟨w.heap.size + 1 + 1, 6, none⟩ (.int .i64 (someS r 3 200).lo)).setCell ⟨w.heap.size + 1 + 1, 7, none⟩ (.int .i64 (someS r 3 200).hi) = W4 at *
  refine (R2_some r 4 400 _ (hr.below S4.bel) (by omega) (by omega)).mono ?_
  rintro e V5 ⟨rfl, B5⟩
  have T5 := S4.call B5
  have l5 := Soft.LtH.mk (b := w.heap.size) (w := V5) (by have := (Array.getElem?_eq_some_iff.1 T5.own).1; omega)
  have k5 := Soft.LtH.mk (b := w.heap.size + 1 + 1) (w := V5) (Array.getElem?_eq_some_iff.1 T5.own).1
  obtain ⟨a05, a15, a25, a35⟩ := T5.cells
  have f05 := T5.own.frozen 8
  have f15 := T5.own.frozen 9
  have o05 := T5.own.cell 8
  have o15 := T5.own.cell 9
  simp at o05 o15
  have X5 := Lib.hid T5; clear T5 B5 S4
  go_wp2_with fail
  have S5 := (X5.out.put 8 (.int .i64 (someS r 4 400).lo)).put 9 (.int .i64 (someS r 4 400).hi)
  clear a05 a15 a25 a35 f05 o05 f15 o15 l5 k5
  generalize (V5.setCell ⟨w.heap.size + 1 + 1, 8, none⟩ (.int .i64 (someS r 4 400).lo)).setCell ⟨w.heap.size + 1 + 1, 9, none⟩ (.int .i64 (someS r 4 400).hi) = W5 at *
  refine (R2_some r 8 900 _ (hr.below S5.bel) (by omega) (by omega)).mono ?_
  rintro e V6 ⟨rfl, B6⟩
  have T6 := S5.call B6
  have l6 := Soft.LtH.mk (b := w.heap.size) (w := V6) (by have := (Array.getElem?_eq_some_iff.1 T6.own).1; omega)
  have k6 := Soft.LtH.mk (b := w.heap.size + 1 + 1) (w := V6) (Array.getElem?_eq_some_iff.1 T6.own).1
  have f06 := T6.own.frozen 12
  have f16 := T6.own.frozen 13
  have o06 := T6.own.cell 12
  have o16 := T6.own.cell 13
  have o3 := T6.own.cell 3
  obtain ⟨at1, fr1⟩ := T6.tabs ⟨some ⟨g1, 0, none⟩, n1, c1, p1⟩ (by simp)
  have hg1 := fr1 g1 0 rfl
  have hxs := xsS_ok r
  have hn1 : 2 ≤ n1 ∧ n1 ≤ 8 := by have := Y1.out.1.len; have := at1.1; dsimp only at this; omega
  obtain ⟨hn11, hn12⟩ := hn1
  have hc1 := at1.2.2.1
  have hc2 := at1.2.2.2.1
  obtain ⟨_, _, _, _, hcc⟩ := at1
  obtain ⟨b1_, o1_, e1_, lt1, hcc⟩ := hcc (by dsimp only; omega)
  cases e1_
  obtain ⟨t0, t1, t2⟩ := hcc 0 (by dsimp only; omega)
  have hp0 := Y1.out.1.at_ 0 (by have := Y1.out.1.len; omega)
  have HP0 := Lib.hid hp0
  simp only [Nat.zero_mul, Nat.zero_add] at t0 t1 t2
  simp at o06 o16 o3
  have m1 : ¬(w.heap.size + 1 + 1 = g1) := by omega
  have m2 : ¬(g1 = w.heap.size + 1 + 1) := by omega
  have q6 := Soft.LtH.mk (b := g1) (w := V6) lt1
  obtain ⟨p00, p01, p02, p03⟩ := hp0
  have HXS := Lib.hid hxs
  clear hcc fr1 hxs
  generalize hP : pt p1 0 = P at *
  have HPP := Lib.hid hP; clear hP
  have X6 := Lib.hid T6; clear T6 B6 S5
  dsimp only at hc1 hc2
  go_wp2_with fail
  have S6 := (X6.out.put 12 (.int .i64 (someS r 8 900).lo)).put 13 (.int .i64 (someS r 8 900).hi)
  have e6 : ((V6.setCell ⟨w.heap.size + 1 + 1, 12, none⟩ (.int .i64 (someS r 8 900).lo)).setCell ⟨w.heap.size + 1 + 1, 13, none⟩ (.int .i64 (someS r 8 900).hi)).heap.size = V6.heap.size := by simp
  clear f06 f16 o06 o16 o3 l6 k6 q6 t0 t1 t2
  generalize (V6.setCell ⟨w.heap.size + 1 + 1, 12, none⟩ (.int .i64 (someS r 8 900).lo)).setCell ⟨w.heap.size + 1 + 1, 13, none⟩ (.int .i64 (someS r 8 900).hi) = W6 at *
  rw [← e6] at *
  clear e6
  have hW6 := hr.vals.below S6.bel
  have l6 := Soft.LtH.mk (b := w.heap.size) (w := W6) (by have := (Array.getElem?_eq_some_iff.1 S6.own).1; omega)
  have k6 := Soft.LtH.mk (b := w.heap.size + 1 + 1) (w := W6) (Array.getElem?_eq_some_iff.1 S6.own).1
  obtain ⟨a06, a16, a26, a36⟩ := S6.cells
  have f06 := S6.own.frozen 10
  have f16 := S6.own.frozen 11
  have o06 := S6.own.cell 10
  have o16 := S6.own.cell 11
  simp at o06 o16
  have X7 := Lib.hid S6; clear S6
  (refine Soft.region0 [0, 1, 2, 3, 4, 5, 6, 7, 8, 9, 10, 11, 12, 13, 14, 15, 16] [17] (by kernel_rfl) (by kernel_rfl) (by kernel_rfl) (by kernel_rfl) ?_; change Soft.wpSoft _ _ _ _ _ [_, _, _, _, _, _, _, _, _, _, _, _, _, _, _, _, _] _; (repeat (refine Soft.soft_step (fun K hK => ?_); go_simp; (try go_bits); first | (refine hK _ ?_; clear hK K) | (apply Exists.intro; refine ⟨fun x => ?_, hK _ ?_⟩; (first | (go_at_call 62; exact Calls.bel (R2_Pick r.vals _ _ (by with_reducible repeat (first | exact hW6 | refine Is.At.alloc ?_ _ | refine Is.At.bw ?_ _)))) | (go_at_call 37; exact Calls.bel (R2_Mod _ _ zc _ (by omega) (by omega) ZC.out)) | (go_at_call 37; exact Calls.bel (R2_Mod _ _ zd _ (by omega) (by omega) ZD.out))); clear hK K))); refine Soft.soft_nil ?_; intro xw; change wpList _ _ _ [_] _ _)
  have S7 := (((X7.out.call (bel_alloc (bel_refl _) (.cells #[.int .i64 (iv (xsS r) 0), .int .i64 P.lo, .int .i64 P.hi] 114))).call xw.below).put 10 (.int .i64 (P.lo + zc))).put 11 (.int .i64 (P.hi + 9 + zd))
  have S8 := S7.cast (c' := #[.int .i64 (1 + z0), .int .i64 (za - 1000), .int .i64 (za - 1000 + zb), .slice (some ⟨g1, 0, none⟩) n1 c1, .slice (some ⟨g2, 0, none⟩) n2 c2, .slice (some ⟨g3, 0, none⟩) n3 c3, .int .i64 (someS r 3 200).lo, .int .i64 (someS r 3 200).hi, .int .i64 (someS r 4 400).lo, .int .i64 (someS r 4 400).hi, .int .i64 (P.lo + zc), .int .i64 (P.hi + 9 + zd), .int .i64 (someS r 8 900).lo, .int .i64 (someS r 8 900).hi]) (by simp)
  have X8 := Lib.hid S8; clear S7 S8
  go_wp2_with (first | (refine wpList_load_row rfl 35 _ rfl (w.heap.size + 1 + 1) rfl 35 _ _ _ X8.out.own Try.underlying35 rfl (by kernel_rfl) ?_) | (refine wpList_store_row rfl 35 _ _ rfl (w.heap.size + 1) _ rfl rfl 35 _ X8.out.res (by kernel_rfl) rfl (by kernel_rfl) ?_))
  refine bodyPost_ret (results_cell_row rfl _ _ (w.heap.size + 1) _ _ _ _ rfl (setRow_heap _ _ _ _ _ _ X8.out.res) Try.underlying35 rfl (by kernel_rfl)) rfl ?_
  have tb := X8.out.tabs
  have key : ∀ t : Tb, t ∈ [⟨some ⟨g3, 0, none⟩, n3, c3, p3⟩, ⟨some ⟨g2, 0, none⟩, n2, c2, p2⟩, ⟨some ⟨g1, 0, none⟩, n1, c1, p1⟩] → t.At (((xw.w.setCell ⟨w.heap.size + 1 + 1, 10, none⟩ (.int .i64 (P.lo + zc))).setCell ⟨w.heap.size + 1 + 1, 11, none⟩ (.int .i64 (P.hi + 9 + zd))).setRow (w.heap.size + 1) #[.int .i64 (1 + z0), .int .i64 (za - 1000), .int .i64 (za - 1000 + zb), .slice (some ⟨g1, 0, none⟩) n1 c1, .slice (some ⟨g2, 0, none⟩) n2 c2, .slice (some ⟨g3, 0, none⟩) n3 c3, .int .i64 (someS r 3 200).lo, .int .i64 (someS r 3 200).hi, .int .i64 (someS r 4 400).lo, .int .i64 (someS r 4 400).hi, .int .i64 (P.lo + zc), .int .i64 (P.hi + 9 + zd), .int .i64 (someS r 8 900).lo, .int .i64 (someS r 8 900).hi]) := fun t ht => by
    obtain ⟨t1, t2⟩ := tb t ht
    exact t1.row (fun b o e => by have := t2 b o e; omega) _
  have hx := HXS.out
  have v1 := Y1.out
  have v2 := Y2.out
  have v3 := Y3.out
  have s1 := someS_in r 3 200 (by omega)
  have s2 := someS_in r 4 400 (by omega)
  have s3 := someS_in r 8 900 (by omega)
  have hz := Z0.out
  have hpp := HPP.out
  have hl1 := v1.1.len
  refine ⟨⟨1 + z0, ⟨za - 1000, za - 1000 + zb⟩, ⟨some ⟨g1, 0, none⟩, n1, c1, p1⟩, ⟨some ⟨g2, 0, none⟩, n2, c2, p2⟩, ⟨some ⟨g3, 0, none⟩, n3, c3, p3⟩, someS r 3 200, someS r 4 400, ⟨P.lo + zc, P.hi + 9 + zd⟩, someS r 8 900⟩, rfl, ⟨key _ (by simp), key _ (by simp), key _ (by simp)⟩, ?_, below_setRow X8.out.bel (by omega) _, fun t ht b o e => by
    have h3 : t ∈ [(⟨some ⟨g3, 0, none⟩, n3, c3, p3⟩ : Tb), ⟨some ⟨g2, 0, none⟩, n2, c2, p2⟩, ⟨some ⟨g1, 0, none⟩, n1, c1, p1⟩] := by
      simp only [List.mem_cons, List.not_mem_nil, or_false] at ht ⊢
      rcases ht with rfl | rfl | rfl <;> simp
    have := (tb t h3).2 b o e
    omega⟩
  refine ⟨⟨?_, ?_, ⟨v1.1.tab2 hx.1 hx.2.1 hx.2.2, ⟨v2.tab2 hx.1 hx.2.1 hx.2.2, v2.ends v1.1 (by omega)⟩, ⟨v3.1.tab2 hx.1 hx.2.1 hx.2.2, v3.1.ends v1.1 (by omega)⟩⟩, v1.mono, v3.mono, ?_, ?_, ?_, ?_⟩, ?_, v1.1, v2, v3.1, hx, ?_, ?_⟩
  · dsimp only; omega
  · show isPart _ _ _
    unfold isPart
    dsimp only
    omega
  · show isPart _ _ _
    unfold isPart
    dsimp only
    omega
  · show isPart _ _ _
    unfold isPart
    dsimp only
    omega
  · show isPart _ _ _
    unfold isPart
    dsimp only
    omega
  · show isPart _ _ _
    unfold isPart
    dsimp only
    omega
  · dsimp only; omega
  · dsimp only; omega
  · dsimp only
    rw [hpp]
    omega

theorem R2_Hold (r : Rw) (w : World) (hr : r.At w) :
    Calls Try.prog 15 #[.agg #[.int .i64 (r).id, .int .i64 (r).first, .slice (r).steps.p (r).steps.n (r).steps.c, .slice (r).vals.p (r).vals.n (r).vals.c]] w (HoldPost r w) :=
  (R2_Hold_fresh r w hr).mono fun _ _ ⟨h, a, b, c, d, _⟩ => ⟨h, a, b, c, d⟩

end Go.Proofs.Ytbjdgaeikihjbaa
