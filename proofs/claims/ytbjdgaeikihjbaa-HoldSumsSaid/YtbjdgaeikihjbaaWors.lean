/-
  hold: Worst, CheckWorst.
  Conditions: each theorem's own premises.
-/
import Derived.Test.YtbjdgaeikihjbaaCand
import Derived.Test.YtbjdgaeikihjbaaTold
namespace Go.Proofs.Ytbjdgaeikihjbaa
set_option linter.unusedSimpArgs false
set_option linter.unusedVariables false
open Go.RowKit Go.Shelf
set_option maxRecDepth 100000
set_option maxHeartbeats 4000000
attribute [local go_sem] Instr.field asAgg Soft.upon Soft.BW.cell_if Soft.BW.frozen_if Soft.cell_alloc_if Soft.frozen_alloc_if Oper.semAt_some Soft.upon0

/-- Below a bound all is kept but two blocks. -/
structure BelowX (n B4 B5 : Nat) (w w' : World) : Prop where
  os : w'.os = w.os
  tape : w'.tape = w.tape
  output : w'.output = w.output
  size : w.heap.size ≤ w'.heap.size
  block : ∀ k, k < n → k ≠ B4 → k ≠ B5 → w'.heap[k]? = w.heap[k]?
theorem BelowX.of {n B4 B5 : Nat} {w w' : World} (h : Below n w w') : BelowX n B4 B5 w w' := ⟨h.os, h.tape, h.output, h.size, fun k hk _ _ => h.block k hk⟩
theorem BelowX.trans {n B4 B5 : Nat} {a b c : World} (h : BelowX n B4 B5 a b) (k : BelowX n B4 B5 b c) : BelowX n B4 B5 a c :=
  ⟨k.os.trans h.os, k.tape.trans h.tape, k.output.trans h.output, Nat.le_trans h.size k.size, fun i hi h4 h5 => (k.block i hi h4 h5).trans (h.block i hi h4 h5)⟩
theorem BelowX.set {n B4 B5 : Nat} {w : World} {p : Addr} (hp : p.block = B4 ∨ p.block = B5) (v : Value) : BelowX n B4 B5 w (w.setCell p v) :=
  ⟨rfl, rfl, rfl, by simp, fun k _ h4 h5 => Below.heap_setCell w p v k (by rcases hp with h | h <;> omega)⟩

theorem BelowX.drew {n B4 B5 : Nat} {w w' : World} (h : BelowX n B4 B5 w w') : BelowX n B4 B5 w w'.drew := ⟨h.os, h.tape, h.output, h.size, h.block⟩
theorem BelowX.putObj {n B4 B5 : Nat} {w : World} {l : Nat} {o : Obj} (hl : n ≤ l) : BelowX n B4 B5 w (w.putObj l o) :=
  ⟨rfl, rfl, rfl, (grownBy_putObj' w l o).size, fun k hk _ _ => World.putObj_heap_other (by omega)⟩

theorem hold_Worst3 (h : Ho) (f : Fi) (w : World) (hh : h.At w) (h0 : HoldOk h) (h1 : FillIn h f) (h3 : f.state = 3) :
    Calls Try.prog 40 #[.agg #[.int .i64 (h).id, .int .i64 ((h).along).lo, .int .i64 ((h).along).hi, .slice ((h).vol).p ((h).vol).n ((h).vol).c, .slice ((h).mom).p ((h).mom).n ((h).mom).c, .slice ((h).hei).p ((h).hei).n ((h).hei).c, .int .i64 ((h).tri).lo, .int .i64 ((h).tri).hi, .int .i64 ((h).unt).lo, .int .i64 ((h).unt).hi, .int .i64 ((h).v0).lo, .int .i64 ((h).v0).hi, .int .i64 ((h).h0).lo, .int .i64 ((h).h0).hi], .agg #[.int .i64 (f).hold, .int .i64 (f).state, .int .i64 ((f).ull).lo, .int .i64 ((f).ull).hi, .int .i64 ((f).den).lo, .int .i64 ((f).den).hi]] w fun e w' => e = .returned (.tuple #[.int .i64 (worS h.mom.ps f.ull).1, .int .i64 (worS h.mom.ps f.ull).2, .int .i64 0]) ∧ Below w.heap.size w w' := by
  have hT : ∀ f, Fence.wide.fn f := fun _ => trivial
  have hE := fillErr_ok h0 h1
  have hm := hh.2.1
  have hvb : Hid (∀ b o, h.mom.p = some ⟨b, o, none⟩ → b < w.heap.size) := Lib.hid (fun b o e => by
    have hn : 1 ≤ h.mom.n := by rw [← hm.1]; exact h0.tabs.2.1.1.ok.pos
    obtain ⟨_, _, _, _, h5⟩ := hm
    obtain ⟨b', o', e', hl, _⟩ := h5 (by omega)
    rw [e] at e'
    cases e'
    exact hl)
  have H0 := Lib.hid h0; have H1 := Lib.hid h1
  have d3 : (f.state != 3) = false := by rw [h3]; rfl
  clear h0 h1 h3
  refine (callsIn_wide (n := 6)).1 ?_
  refine callsIn_of_wp_marks Try.func40 rfl (hT _) ?_ rfl
  simp only [Try.ntmps40, List.size_toArray, List.length_cons, List.length_nil, Nat.reduceAdd, Nat.reduceSub, Array.replicate_succ, Array.replicate_zero, List.push_toArray, List.append_toArray, List.nil_append, List.cons_append]
  gi_wp2_with (first | (gi_at_call 68; refine (callsIn_wide.2 (hold_CheckFill h f _ (by with_reducible repeat (first | exact hh | refine Ho.At.alloc ?_ _ | refine Ho.At.bw ?_ _ | refine Tk.At.alloc ?_ _ | refine Tk.At.bw ?_ _)))).mono ?_; rintro e w_ ⟨rfl, hb_⟩; obtain ⟨y1, rfl⟩ := Soft.BW.mk hb_; clear hb_) | (gi_at_call 85; refine (cands_in Fence.wide 5 (hT _) rfl _ _ _ _ _).mono ?_; rintro e w' ⟨rfl, rfl⟩))
  have hys := y1.below.size
  simp at hys
  have hdm : firstX h.mom.ps ≤ f.ull.lo ∧ f.ull.lo ≤ f.ull.hi ∧ f.ull.hi ≤ lastX h.mom.ps := by
    obtain ⟨_, hF⟩ := H1.out
    have hse := H0.out.tabs.2.1.2
    rcases hF with ⟨e, _⟩ | ⟨e, _⟩ | ⟨_, e, _⟩
    · rw [e] at d3; simp at d3
    · rcases e with e | e <;> (rw [e] at d3; simp at d3)
    · rw [hse.1, hse.2]; exact e
  have hdm' := hdm
  have b0 : HasBlk y1.w w.heap.size #[.int .i64 (h).id, .int .i64 ((h).along).lo, .int .i64 ((h).along).hi, .slice ((h).vol).p ((h).vol).n ((h).vol).c, .slice ((h).mom).p ((h).mom).n ((h).mom).c, .slice ((h).hei).p ((h).hei).n ((h).hei).c, .int .i64 ((h).tri).lo, .int .i64 ((h).tri).hi, .int .i64 ((h).unt).lo, .int .i64 ((h).unt).hi, .int .i64 ((h).v0).lo, .int .i64 ((h).v0).hi, .int .i64 ((h).h0).lo, .int .i64 ((h).h0).hi] 35 := by simp only [HasBlk, Soft.BW.heap_if, Soft.heap_alloc_if, Soft.heap_new]
  have b1 : HasBlk y1.w (w.heap.size + 1) #[.int .i64 (f).hold, .int .i64 (f).state, .int .i64 ((f).ull).lo, .int .i64 ((f).ull).hi, .int .i64 ((f).den).lo, .int .i64 ((f).den).hi] 38 := by simp only [HasBlk, Soft.BW.heap_if, Soft.heap_alloc_if, Soft.heap_new1]
  have b2 : HasBlk y1.w (w.heap.size + 1 + 1) #[.int .i64 0] 3 := by simp only [HasBlk, Soft.BW.heap_if, Soft.heap_alloc_if, Soft.heap_new2]
  have b3 : HasBlk y1.w (w.heap.size + 1 + 1 + 1) #[.int .i64 0] 3 := by simp only [HasBlk, Soft.BW.heap_if, Soft.heap_new3]
  have hB0 : Below w.heap.size w (((y1.w.setCell ⟨w.heap.size + 1 + 1 + 1, 0, none⟩ (.int .i64 (-1))).alloc (.cells #[.slice (h.mom).p (h.mom).n (h.mom).c] 33)).alloc (.cells #[.int .i64 (f.ull).lo, .int .i64 (f.ull).hi] 30)) := by (repeat (first | with_reducible exact bel_refl _ | with_reducible refine bel_alloc ?_ _ | with_reducible refine bel_bw _ ?_ | with_reducible refine bel_drew ?_ | with_reducible refine bel_drewN _ ?_ | ((with_reducible refine bel_set ?_ ?_ _); rotate_left; focus (first | (simp; done) | omega | (simp; omega))) | refine bel_step ?_ (by with_reducible assumption)))
  have hsz : (((y1.w.setCell ⟨w.heap.size + 1 + 1 + 1, 0, none⟩ (.int .i64 (-1))).alloc (.cells #[.slice (h.mom).p (h.mom).n (h.mom).c] 33)).alloc (.cells #[.int .i64 (f.ull).lo, .int .i64 (f.ull).hi] 30)).heap.size = y1.w.heap.size + 1 + 1 := by simp
  have c0 : HasBlk (((y1.w.setCell ⟨w.heap.size + 1 + 1 + 1, 0, none⟩ (.int .i64 (-1))).alloc (.cells #[.slice (h.mom).p (h.mom).n (h.mom).c] 33)).alloc (.cells #[.int .i64 (f.ull).lo, .int .i64 (f.ull).hi] 30)) w.heap.size #[.int .i64 (h).id, .int .i64 ((h).along).lo, .int .i64 ((h).along).hi, .slice ((h).vol).p ((h).vol).n ((h).vol).c, .slice ((h).mom).p ((h).mom).n ((h).mom).c, .slice ((h).hei).p ((h).hei).n ((h).hei).c, .int .i64 ((h).tri).lo, .int .i64 ((h).tri).hi, .int .i64 ((h).unt).lo, .int .i64 ((h).unt).hi, .int .i64 ((h).v0).lo, .int .i64 ((h).v0).hi, .int .i64 ((h).h0).lo, .int .i64 ((h).h0).hi] 35 := ((b0.set_other (by dsimp only; omega) _).below (bel_alloc (bel_refl _) _)).below (bel_alloc (bel_refl _) _)
  have c1 : HasBlk (((y1.w.setCell ⟨w.heap.size + 1 + 1 + 1, 0, none⟩ (.int .i64 (-1))).alloc (.cells #[.slice (h.mom).p (h.mom).n (h.mom).c] 33)).alloc (.cells #[.int .i64 (f.ull).lo, .int .i64 (f.ull).hi] 30)) (w.heap.size + 1) #[.int .i64 (f).hold, .int .i64 (f).state, .int .i64 ((f).ull).lo, .int .i64 ((f).ull).hi, .int .i64 ((f).den).lo, .int .i64 ((f).den).hi] 38 := ((b1.set_other (by dsimp only; omega) _).below (bel_alloc (bel_refl _) _)).below (bel_alloc (bel_refl _) _)
  have c2 : HasBlk (((y1.w.setCell ⟨w.heap.size + 1 + 1 + 1, 0, none⟩ (.int .i64 (-1))).alloc (.cells #[.slice (h.mom).p (h.mom).n (h.mom).c] 33)).alloc (.cells #[.int .i64 (f.ull).lo, .int .i64 (f.ull).hi] 30)) (w.heap.size + 1 + 1) #[.int .i64 0] 3 := ((b2.set_other (by dsimp only; omega) _).below (bel_alloc (bel_refl _) _)).below (bel_alloc (bel_refl _) _)
  have c3 : HasBlk (((y1.w.setCell ⟨w.heap.size + 1 + 1 + 1, 0, none⟩ (.int .i64 (-1))).alloc (.cells #[.slice (h.mom).p (h.mom).n (h.mom).c] 33)).alloc (.cells #[.int .i64 (f.ull).lo, .int .i64 (f.ull).hi] 30)) (w.heap.size + 1 + 1 + 1) #[.int .i64 (-1)] 3 := ((b3.put 0 _).below (bel_alloc (bel_refl _) _)).below (bel_alloc (bel_refl _) _)
  have c4 : HasBlk (((y1.w.setCell ⟨w.heap.size + 1 + 1 + 1, 0, none⟩ (.int .i64 (-1))).alloc (.cells #[.slice (h.mom).p (h.mom).n (h.mom).c] 33)).alloc (.cells #[.int .i64 (f.ull).lo, .int .i64 (f.ull).hi] 30)) y1.w.heap.size #[.slice (h.mom).p (h.mom).n (h.mom).c] 33 := HasBlk.below (by have := Soft.heap_new (y1.w.setCell ⟨w.heap.size + 1 + 1 + 1, 0, none⟩ (.int .i64 (-1))) (.cells #[.slice (h.mom).p (h.mom).n (h.mom).c] 33); rwa [show (y1.w.setCell ⟨w.heap.size + 1 + 1 + 1, 0, none⟩ (.int .i64 (-1))).heap.size = y1.w.heap.size by simp] at this) (bel_alloc (bel_refl _) _)
  have c5 : HasBlk (((y1.w.setCell ⟨w.heap.size + 1 + 1 + 1, 0, none⟩ (.int .i64 (-1))).alloc (.cells #[.slice (h.mom).p (h.mom).n (h.mom).c] 33)).alloc (.cells #[.int .i64 (f.ull).lo, .int .i64 (f.ull).hi] 30)) (y1.w.heap.size + 1) #[.int .i64 (f.ull).lo, .int .i64 (f.ull).hi] 30 := by have := Soft.heap_new ((y1.w.setCell ⟨w.heap.size + 1 + 1 + 1, 0, none⟩ (.int .i64 (-1))).alloc (.cells #[.slice (h.mom).p (h.mom).n (h.mom).c] 33)) (.cells #[.int .i64 (f.ull).lo, .int .i64 (f.ull).hi] 30); rwa [show ((y1.w.setCell ⟨w.heap.size + 1 + 1 + 1, 0, none⟩ (.int .i64 (-1))).alloc (.cells #[.slice (h.mom).p (h.mom).n (h.mom).c] 33)).heap.size = y1.w.heap.size + 1 by simp] at this
  generalize ((y1.w.setCell ⟨w.heap.size + 1 + 1 + 1, 0, none⟩ (.int .i64 (-1))).alloc (.cells #[.slice (h.mom).p (h.mom).n (h.mom).c] 33)).alloc (.cells #[.int .i64 (f.ull).lo, .int .i64 (f.ull).hi] 30) = W0 at *
  have ht0 := hm.same hB0
  have hmw := hvb.out
  refine wpIn_rangeFunc_ownH (F := Fence.wide) (n := 6) rfl (by decide) (gf := 123) (lb := #[.pointer (some ⟨y1.w.heap.size + 1, 0, none⟩), .pointer (some ⟨y1.w.heap.size, 0, none⟩)]) rfl (hT _) (enters_of Try.func123 (by kernel_rfl) rfl)
    (cands_stops Fence.wide 5 (hT _) rfl (by decide) y1.w.heap.size (y1.w.heap.size + 1) (y1.w.heap.size + 1 + 1) (BelowX (y1.w.heap.size + 1 + 1) (w.heap.size + 1 + 1) (w.heap.size + 1 + 1 + 1)) (fun _ _ => BelowX.of) (fun _ _ _ => BelowX.trans) (fun _ _ h => h.size) h.mom f.ull W0 ht0 H0.out.tabs.2.1.1.ok (by omega) (by omega) (by omega) (fun b o e => by have := hmw b o e; omega)
      (fun A B hk p hp => World.cell?_of_block (w := A) (by
        rcases hp with e | e | ⟨o, e⟩
        · rw [e]; exact hk.block _ (by omega) (by omega) (by omega)
        · rw [e]; exact hk.block _ (by omega) (by omega) (by omega)
        · have := hmw _ _ e; exact hk.block _ (by omega) (by omega) (by omega)))
      (c4.cell 0) (c5.cell 0) (c5.cell 1))
    (fun a b => BelowX.trans a b) (fun W l o o' hl ho hc hw => BelowX.putObj (by omega)) (Below.refl _ _) (fun _ => rfl)
    (fun pre W => (HasBlk W (w.heap.size + 1 + 1) #[.int .i64 (wFold h.mom.ps pre).1] 3 ∧ HasBlk W (w.heap.size + 1 + 1 + 1) #[.int .i64 (wFold h.mom.ps pre).2] 3) ∧ Below (w.heap.size + 1 + 1) W0 W)
    (fun c pre W => False)
    ?hI ?hIx
    ⟨⟨c2, c3⟩, Below.refl _ _⟩
    (fun x a' W => a' = { tmps := #[.agg #[.int .i64 (h).id, .int .i64 ((h).along).lo, .int .i64 ((h).along).hi, .slice ((h).vol).p ((h).vol).n ((h).vol).c, .slice ((h).mom).p ((h).mom).n ((h).mom).c, .slice ((h).hei).p ((h).hei).n ((h).hei).c, .int .i64 ((h).tri).lo, .int .i64 ((h).tri).hi, .int .i64 ((h).unt).lo, .int .i64 ((h).unt).hi, .int .i64 ((h).v0).lo, .int .i64 ((h).v0).hi, .int .i64 ((h).h0).lo, .int .i64 ((h).h0).hi], .agg #[.int .i64 (f).hold, .int .i64 (f).state, .int .i64 ((f).ull).lo, .int .i64 ((f).ull).hi, .int .i64 ((f).den).lo, .int .i64 ((f).den).hi], .pointer (some ⟨w.heap.size, 0, none⟩), .pointer (some ⟨w.heap.size + 1, 0, none⟩), .pointer (some ⟨w.heap.size + 1 + 1, 0, none⟩), .pointer (some ⟨w.heap.size + 1 + 1 + 1, 0, none⟩), .int .i64 0, .int .i64 0, .int .i64 x, undef, undef, .agg #[.int .i64 (h).id, .int .i64 ((h).along).lo, .int .i64 ((h).along).hi, .slice ((h).vol).p ((h).vol).n ((h).vol).c, .slice ((h).mom).p ((h).mom).n ((h).mom).c, .slice ((h).hei).p ((h).hei).n ((h).hei).c, .int .i64 ((h).tri).lo, .int .i64 ((h).tri).hi, .int .i64 ((h).unt).lo, .int .i64 ((h).unt).hi, .int .i64 ((h).v0).lo, .int .i64 ((h).v0).hi, .int .i64 ((h).h0).lo, .int .i64 ((h).h0).hi], .agg #[.int .i64 (f).hold, .int .i64 (f).state, .int .i64 ((f).ull).lo, .int .i64 ((f).ull).hi, .int .i64 ((f).den).lo, .int .i64 ((f).den).hi], .int .i64 0, .int .i64 0, .bool false, undef, .pointer (some ⟨w.heap.size + 1, 1, none⟩), .int .i64 f.state, .bool false, undef, undef, undef, undef, .pointer (some ⟨w.heap.size, 4, none⟩), .agg #[.slice (h.mom).p (h.mom).n (h.mom).c], .pointer (some ⟨w.heap.size + 1, 2, none⟩), .agg #[.int .i64 (f.ull).lo, .int .i64 (f.ull).hi], .func (.func 123) #[] #[.pointer (some ⟨y1.w.heap.size + 1, 0, none⟩), .pointer (some ⟨y1.w.heap.size, 0, none⟩)], .int .i64 x, undef, undef, undef, undef, undef, undef, undef, undef, undef, undef, undef, undef, undef, undef, undef, undef, undef, undef, undef, undef, undef, undef, undef, undef], defers := [] })
    (fun x a' _ X Z row hs hg hr => hs)
    ?assign ?body ?done ?stop
  case hI => exact OwnFrom.and (OwnFrom.and (fun s A B row hs hg hr => Own.from (hasBlk_own _ #[.int .i64 (wFold h.mom.ps s).1] _) _ s A B row hs hg hr) (fun s A B row hs hg hr => Own.from (hasBlk_own _ #[.int .i64 (wFold h.mom.ps s).2] _) _ s A B row hs hg hr)) (ownFrom_below (by omega) (by omega))
  case hIx => exact fun c => ownFrom_pure _ _
  case assign =>
    rintro l pre x W K hI hK
    simp only [encI]
    gi_wp2
    exact hK _ _ (keeps_of_below (Below.refl _ _) _) (BelowX.of (Below.refl _ _)) hI rfl
  case body =>
    rintro l pre x a' W hl ⟨r, hr⟩ ⟨⟨q2, q3⟩, hB1⟩ rfl hlt
    have hsW := hB1.size
    have e0 := (hB1.cell (p := ⟨w.heap.size, 4, none⟩) (by dsimp only; omega)).trans (c0.cell 4)
    have e1 := q2.cell 0
    have e2 := q3.cell 0
    have g1 := q2.frozen 0
    have g2 := q3.frozen 0
    simp at e0 e1 e2
    have htW := ht0.belowAt hB1 (fun b o e => by have := hmw b o e; omega)
    have l0 := Soft.LtH.mk (b := w.heap.size) (w := W) (by omega)
    have l2 := Soft.LtH.mk (b := w.heap.size + 1 + 1) (w := W) q2.lt
    have l3 := Soft.LtH.mk (b := w.heap.size + 1 + 1 + 1) (w := W) q3.lt
    have HQ2 := Lib.hid q2; have HQ3 := Lib.hid q3; have HB1 := Lib.hid hB1
    have HW := Lib.hid (wFold_snoc h.mom.ps pre x)
    have HHE : Hid (hiE h.mom.ps x = (atE h.mom.ps x).1.hi) := Lib.hid rfl
    clear q2 q3 hB1 c0 c1 c2 c3 c4 c5 b0 b1 b2 b3 hr hlt
    by_cases hc : (wFold h.mom.ps pre).2 < (atE h.mom.ps x).1.hi
    · have HS := Lib.hid (show wStep h.mom.ps (wFold h.mom.ps pre) x = (x, hiE h.mom.ps x) from if_pos hc)
      gi_wp2_with (gi_at_call 86; refine (CallsIn.inRound l (callsIn_wide.2 (fix_At h.mom x _ (by repeat (first | exact htW | refine Tb.At.alloc ?_ _ | refine Tb.At.bw ?_ _))))).mono ?_; rintro e w_ ⟨rfl, hb_⟩; obtain ⟨y2, rfl⟩ := Soft.BW.mk hb_; clear hb_)
      have z1 := y2.below.size
      have z2 : ¬(w.heap.size + 1 + 1 = y2.w.heap.size) := by omega
      have z3 : ¬(y2.w.heap.size = w.heap.size + 1 + 1) := by omega
      gi_region
      all_goals
        gi_wp2
        have hA : Below W.heap.size W (y2.w.alloc (.cells #[.int .i64 (atE h.mom.ps x).1.lo, .int .i64 (atE h.mom.ps x).1.hi] 30)) := by (repeat (first | with_reducible exact bel_refl _ | with_reducible refine bel_alloc ?_ _ | with_reducible refine bel_bw _ ?_ | with_reducible refine bel_drew ?_ | with_reducible refine bel_drewN _ ?_ | ((with_reducible refine bel_set ?_ ?_ _); rotate_left; focus (first | (simp; done) | omega | (simp; omega))) | refine bel_step ?_ (by with_reducible assumption)))
        refine ⟨((keeps_of_below hA _).trans (((KeepsOthers.setCell _ _ _).from _).trans ((KeepsOthers.setCell _ _ _).from _))).trans (keeps_of_below (Below.refl _ _).drew _), ((BelowX.of (hA.mono (by omega))).trans ((BelowX.set (B4 := w.heap.size + 1 + 1) (B5 := w.heap.size + 1 + 1 + 1) (p := ⟨w.heap.size + 1 + 1, 0, none⟩) (.inl rfl) _).trans (BelowX.set (p := ⟨w.heap.size + 1 + 1 + 1, 0, none⟩) (.inr rfl) _))).drew, ⟨?_, ?_⟩, (((HB1.out.trans (hA.mono (by omega))).setCell (p := ⟨w.heap.size + 1 + 1, 0, none⟩) (by dsimp only; omega) _).setCell (p := ⟨w.heap.size + 1 + 1 + 1, 0, none⟩) (by dsimp only; omega) _).drew⟩
        · rw [HW.out, HS.out]
          exact HasBlk.set_other ((HQ2.out.below hA).put 0 _) (by dsimp only; omega) _
        · rw [HW.out, HS.out]
          exact HasBlk.put (HasBlk.set_other (HQ3.out.below hA) (by dsimp only; omega) _) 0 _
    · have HS := Lib.hid (show wStep h.mom.ps (wFold h.mom.ps pre) x = wFold h.mom.ps pre from if_neg hc)
      gi_wp2_with (gi_at_call 86; refine (CallsIn.inRound l (callsIn_wide.2 (fix_At h.mom x _ (by repeat (first | exact htW | refine Tb.At.alloc ?_ _ | refine Tb.At.bw ?_ _))))).mono ?_; rintro e w_ ⟨rfl, hb_⟩; obtain ⟨y2, rfl⟩ := Soft.BW.mk hb_; clear hb_)
      have hA : Below W.heap.size W (y2.w.alloc (.cells #[.int .i64 (atE h.mom.ps x).1.lo, .int .i64 (atE h.mom.ps x).1.hi] 30)) := by (repeat (first | with_reducible exact bel_refl _ | with_reducible refine bel_alloc ?_ _ | with_reducible refine bel_bw _ ?_ | with_reducible refine bel_drew ?_ | with_reducible refine bel_drewN _ ?_ | ((with_reducible refine bel_set ?_ ?_ _); rotate_left; focus (first | (simp; done) | omega | (simp; omega))) | refine bel_step ?_ (by with_reducible assumption)))
      refine ⟨keeps_of_below hA _, BelowX.of (hA.mono (by omega)), ⟨?_, ?_⟩, HB1.out.trans (hA.mono (by omega))⟩
      · rw [HW.out, HS.out]
        exact HQ2.out.below hA
      · rw [HW.out, HS.out]
        exact HQ3.out.below hA
  case stop => exact fun D c pre W hD _ hf => hf.elim
  case done =>
    rintro D ys W hD rfl ⟨⟨q2, q3⟩, hB1⟩ hK
    have hsW := hB1.size
    have e0 := (hB1.cell (p := ⟨w.heap.size, 4, none⟩) (by dsimp only; omega)).trans (c0.cell 4)
    have e5 := (hB1.cell (p := ⟨w.heap.size + 1, 2, none⟩) (by dsimp only; omega)).trans (c1.cell 2)
    have e1 := q2.cell 0
    have e2 := q3.cell 0
    have g1 := q2.frozen 0
    have g2 := q3.frozen 0
    simp at e0 e1 e2 e5
    have htW := ht0.belowAt hB1 (fun b o e => by have := hmw b o e; omega)
    have l0 := Soft.LtH.mk (b := w.heap.size) (w := W) (by omega)
    have l1 := Soft.LtH.mk (b := w.heap.size + 1) (w := W) (by omega)
    have l2 := Soft.LtH.mk (b := w.heap.size + 1 + 1) (w := W) q2.lt
    have l3 := Soft.LtH.mk (b := w.heap.size + 1 + 1 + 1) (w := W) q3.lt
    have HQ2 := Lib.hid q2; have HQ3 := Lib.hid q3; have HB1 := Lib.hid hB1
    have hwm := worst_mono H0.out.tabs.2.1.1 hdm.2.1 hdm.1 hdm.2.2 rfl rfl
    have hwd := H0.out.tabs.2.1.1.ok.ends
    obtain ⟨⟨p1, p2, p3, p4⟩, p5, p6, p7, p8, _⟩ := hwm
    have P8 := Lib.hid p8
    have HWV : Hid (worS h.mom.ps f.ull = (earlS h.mom.ps f.ull.lo (wFold h.mom.ps (candS h.mom.ps f.ull)).1 (wFold h.mom.ps (candS h.mom.ps f.ull)).2, (wFold h.mom.ps (candS h.mom.ps f.ull)).2)) := Lib.hid rfl
    clear q2 q3 hB1 c0 c1 c2 c3 c4 c5 b0 b1 b2 b3 p3 p7 p8
    generalize wFold h.mom.ps (candS h.mom.ps f.ull) = ws at *
    gi_wp2_with (gi_at_call 87; refine (callsIn_wide.2 (hold_earliest h.mom f.ull.lo ws.1 ws.2 _ (by repeat (first | exact htW | refine Tb.At.alloc ?_ _ | refine Tb.At.bw ?_ _)) H0.out.tabs.2.1.1.ok (by omega) (by omega) p6 P8.out)).mono ?_; rintro e w_ ⟨rfl, hb_⟩; obtain ⟨y2, rfl⟩ := Soft.BW.mk hb_; clear hb_)
    gi_region
    gi_wp2
    have fin2 : HasBlk (((y2.w.setCell ⟨w.heap.size + 1 + 1, 0, none⟩ (.int .i64 (earlS h.mom.ps f.ull.lo ws.1 ws.2))).setCell ⟨w.heap.size + 1 + 1, 0, none⟩ (.int .i64 (earlS h.mom.ps f.ull.lo ws.1 ws.2))).setCell ⟨w.heap.size + 1 + 1 + 1, 0, none⟩ (.int .i64 ws.2)).drew (w.heap.size + 1 + 1) #[.int .i64 (earlS h.mom.ps f.ull.lo ws.1 ws.2)] 3 :=
      HasBlk.set_other (((HQ2.out.below y2.below).put 0 (.int .i64 (earlS h.mom.ps f.ull.lo ws.1 ws.2))).put 0 (.int .i64 (earlS h.mom.ps f.ull.lo ws.1 ws.2))) (by dsimp only; omega) _
    have fin3 : HasBlk (((y2.w.setCell ⟨w.heap.size + 1 + 1, 0, none⟩ (.int .i64 (earlS h.mom.ps f.ull.lo ws.1 ws.2))).setCell ⟨w.heap.size + 1 + 1, 0, none⟩ (.int .i64 (earlS h.mom.ps f.ull.lo ws.1 ws.2))).setCell ⟨w.heap.size + 1 + 1 + 1, 0, none⟩ (.int .i64 ws.2)).drew (w.heap.size + 1 + 1 + 1) #[.int .i64 ws.2] 3 :=
      HasBlk.put (HasBlk.set_other (HasBlk.set_other (HQ3.out.below y2.below) (by dsimp only; omega) _) (by dsimp only; omega) _) 0 (.int .i64 ws.2)
    have hDW : D < W.heap.size := (Array.getElem?_eq_some_iff.1 hK).1
    have hK' : (((y2.w.setCell ⟨w.heap.size + 1 + 1, 0, none⟩ (.int .i64 (earlS h.mom.ps f.ull.lo ws.1 ws.2))).setCell ⟨w.heap.size + 1 + 1, 0, none⟩ (.int .i64 (earlS h.mom.ps f.ull.lo ws.1 ws.2))).setCell ⟨w.heap.size + 1 + 1 + 1, 0, none⟩ (.int .i64 ws.2)).drew.heap[D]? = some (.deferred (some [])) :=
      (Below.heap_setCell _ _ _ D (by dsimp only; omega)).trans ((Below.heap_setCell _ _ _ D (by dsimp only; omega)).trans ((Below.heap_setCell _ _ _ D (by dsimp only; omega)).trans ((y2.below.block D hDW).trans hK)))
    have hfb : Below w.heap.size w (((y2.w.setCell ⟨w.heap.size + 1 + 1, 0, none⟩ (.int .i64 (earlS h.mom.ps f.ull.lo ws.1 ws.2))).setCell ⟨w.heap.size + 1 + 1, 0, none⟩ (.int .i64 (earlS h.mom.ps f.ull.lo ws.1 ws.2))).setCell ⟨w.heap.size + 1 + 1 + 1, 0, none⟩ (.int .i64 ws.2)).drew :=
      (((((hB0.trans (HB1.out.mono (by omega))).trans (y2.below.mono (by omega))).setCell (p := ⟨w.heap.size + 1 + 1, 0, none⟩) (by dsimp only; omega) _).setCell (p := ⟨w.heap.size + 1 + 1, 0, none⟩) (by dsimp only; omega) _).setCell (p := ⟨w.heap.size + 1 + 1 + 1, 0, none⟩) (by dsimp only; omega) _).drew
    generalize (((y2.w.setCell ⟨w.heap.size + 1 + 1, 0, none⟩ (.int .i64 (earlS h.mom.ps f.ull.lo ws.1 ws.2))).setCell ⟨w.heap.size + 1 + 1, 0, none⟩ (.int .i64 (earlS h.mom.ps f.ull.lo ws.1 ws.2))).setCell ⟨w.heap.size + 1 + 1 + 1, 0, none⟩ (.int .i64 ws.2)).drew = Wf at *
    have r2 := cell_kept (fin2.cell 0) (grownBy_putObj' _ D (.deferred none)) (fun r e => by cases e; exact ⟨_, hK', rfl⟩)
    have r3 := cell_kept (fin3.cell 0) (grownBy_putObj' _ D (.deferred none)) (fun r e => by cases e; exact ⟨_, hK', rfl⟩)
    refine ⟨by simp, .inl ⟨_, _, rfl, run_takeDeferred hK', ?_⟩⟩
    rw [HWV.out]
    refine ⟨.tuple #[.int .i64 (earlS h.mom.ps f.ull.lo ws.1 ws.2), .int .i64 ws.2, .int .i64 0], ?_, rfl, hfb.trans (belowK_b (w := w) (Nat.le_refl _) Wf D _ _ (by omega) hK' rfl rfl)⟩
    simp [results, Try.f40, go_sem, r2, r3]

end Go.Proofs.Ytbjdgaeikihjbaa
