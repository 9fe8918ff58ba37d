/-
  The parts of a ship, as the tops have them; valid.
  The parts of a ship as an argument, opened; two ranges; numbers.
  A store of several cells into the midst of a block that is known whole.
  What truth makes of parts: words; the arrays that grow side by side in it.
  What a load without fault says of its parts; where the tails of truth begin.
  Conditions: each theorem's own premises.
-/
import Derived.Test.YteagdcgmmdiakaaGreatP12
import Derived.Test.YteagdcgmmdiakaaGreatP13
import Derived.Test.YteagdcgmmdiakaaGreatP09
import Derived.Test.YteagdcgmmdiakaaGreatP02
namespace Go.Proofs.YteagdcgmmdiakaaGreat
set_option linter.unusedSimpArgs false
set_option linter.unusedVariables false
open Go.RowKit
set_option maxRecDepth 100000
set_option maxHeartbeats 4000000
attribute [local go_sem] Instr.field asAgg Soft.upon Soft.upon0 Soft.stepC Soft.BW.cell_if Soft.BW.frozen_if Soft.cell_alloc_if Soft.frozen_alloc_if

/-- A ship's parts. -/
structure Pa where
  ship : Sh
  holds : Sl Ho
  fills : Sl Fi
  tanks : Sl Tk
  levels : Sl Lv
  most : Int

structure Pa.At (w : World) (P : Pa) : Prop where
  ship : P.ship.At w
  holds : HsAt w P.holds
  fills : FsAt w P.fills
  tanks : TsAt w P.tanks
  levels : LsAt w P.levels
theorem Pa.At.same {w w' : World} {P : Pa} (h : P.At w) (hb : Below w.heap.size w w') : P.At w' :=
  ⟨h.ship.same hb, h.holds.same hb, h.fills.same hb, h.tanks.same hb, h.levels.same hb⟩

/-- What valid asks. -/
structure PartsOk (P : Pa) : Prop where
  ship : ShipOk P.ship
  load : (loadE P.holds.xs P.fills.xs P.tanks.xs P.levels.xs).1 = 0
  most0 : 0 ≤ P.most
  most1 : P.most ≤ 900

theorem Top_valid (P : Pa) (w : World) (hP : P.At w) (v : Bool) (hv : v = true ↔ PartsOk P) :
    Calls Tryz.prog 6 #[.agg #[.int .i64 ((P).ship).len, .slice (((P).ship).dra).p (((P).ship).dra).n (((P).ship).dra).c, .slice (((P).ship).hei).p (((P).ship).hei).n (((P).ship).hei).c, .slice (((P).ship).cen).p (((P).ship).cen).n (((P).ship).cen).c, .slice (((P).ship).tri).p (((P).ship).tri).n (((P).ship).tri).c, .slice (((P).ship).flo).p (((P).ship).flo).n (((P).ship).flo).c, .slice (((P).ship).cross).p (((P).ship).cross).n (((P).ship).cross).c, .slice (((P).ship).sin).p (((P).ship).sin).n (((P).ship).sin).c, .slice (((P).ship).shi).p (((P).ship).shi).n (((P).ship).shi).c, .int .i64 ((((P).ship).light).mass).lo, .int .i64 ((((P).ship).light).mass).hi, .int .i64 ((((P).ship).light).along).lo, .int .i64 ((((P).ship).light).along).hi, .int .i64 ((((P).ship).light).high).lo, .int .i64 ((((P).ship).light).high).hi, .slice ((P).holds).p ((P).holds).n ((P).holds).c, .slice ((P).fills).p ((P).fills).n ((P).fills).c, .slice ((P).tanks).p ((P).tanks).n ((P).tanks).c, .slice ((P).levels).p ((P).levels).n ((P).levels).c, .int .i64 (P).most]] w fun e w' => e = .returned (.bool v) ∧ Below w.heap.size w w' := by
  have CL := Lib.hid (fun W (hW : P.At W) => hold_Load P.holds P.fills P.tanks P.levels W hW.holds hW.fills hW.tanks hW.levels)
  have CS := Lib.hid (fun W (hW : P.At W) => cond_CheckShip P.ship W hW.ship)
  have HP := Lib.hid hP
  have hne : ¬PartsOk P → v = false := fun h => by cases hh : v with | false => rfl | true => exact absurd (hv.1 hh) h
  have hyes : PartsOk P → v = true := hv.2
  clear hv hP
  generalize hE : loadE P.holds.xs P.fills.xs P.tanks.xs P.levels.xs = E at *
  have hE1 : PartsOk P → E.1 = 0 := fun h => by rw [← hE]; exact h.load
  by_cases c1 : shipErr P.ship = 0
  · have c1' := shipErr_zero c1
    by_cases c2 : E.1 = 0
    · by_cases c3 : 0 ≤ P.most
      · have hv : v = decide (P.most ≤ 900) := by
          by_cases c4 : P.most ≤ 900
          · rw [hyes ⟨c1', by rw [hE]; exact c2, c3, c4⟩, decide_eq_true c4]
          · rw [hne (fun h => c4 h.most1), decide_eq_false c4]
        clear hne hyes hE1 hE c1'
        subst hv
        have d2 : (E.1 == 0) = true := by rw [c2]; rfl
        go_enter Tryz.func6, Tryz.ntmps6
        go_wp2_with (first | (go_at_call 13; (with_reducible refine (CL.out _ (HP.out.same (by (repeat (first | with_reducible exact bel_refl _ | with_reducible refine bel_alloc ?_ _ | with_reducible refine bel_bw _ ?_ | with_reducible refine bel_drew ?_ | with_reducible refine bel_drewN _ ?_ | ((with_reducible refine bel_set ?_ ?_ _); rotate_left; focus (first | (simp; done) | omega | (simp; omega))) | refine bel_step ?_ (by with_reducible assumption)))))).mono ?_); rintro e w_ ⟨p, cc, rfl, hws, hb_, hpc⟩; obtain ⟨y1, rfl⟩ := Soft.BW.mk hb_; clear hb_ hws hpc) | (go_at_call 14; (with_reducible refine (CS.out _ (HP.out.same (by (repeat (first | with_reducible exact bel_refl _ | with_reducible refine bel_alloc ?_ _ | with_reducible refine bel_bw _ ?_ | with_reducible refine bel_drew ?_ | with_reducible refine bel_drewN _ ?_ | ((with_reducible refine bel_set ?_ ?_ _); rotate_left; focus (first | (simp; done) | omega | (simp; omega))) | refine bel_step ?_ (by with_reducible assumption)))))).mono ?_); rintro e w_ ⟨rfl, hb_⟩; obtain ⟨y2, rfl⟩ := Soft.BW.mk hb_; clear hb_))
        all_goals
          go_ret
          refine ⟨ret_bool (by simp; try omega), ?_⟩
          (repeat (first | with_reducible exact bel_refl _ | with_reducible refine bel_alloc ?_ _ | with_reducible refine bel_bw _ ?_ | with_reducible refine bel_drew ?_ | with_reducible refine bel_drewN _ ?_ | ((with_reducible refine bel_set ?_ ?_ _); rotate_left; focus (first | (simp; done) | omega | (simp; omega))) | refine bel_step ?_ (by with_reducible assumption)))
      · have hv : v = false := hne (fun h => c3 h.most0)
        clear hne hyes hE1 hE c1'
        subst hv
        have d2 : (E.1 == 0) = true := by rw [c2]; rfl
        go_enter Tryz.func6, Tryz.ntmps6
        go_wp2_with (first | (go_at_call 13; (with_reducible refine (CL.out _ (HP.out.same (by (repeat (first | with_reducible exact bel_refl _ | with_reducible refine bel_alloc ?_ _ | with_reducible refine bel_bw _ ?_ | with_reducible refine bel_drew ?_ | with_reducible refine bel_drewN _ ?_ | ((with_reducible refine bel_set ?_ ?_ _); rotate_left; focus (first | (simp; done) | omega | (simp; omega))) | refine bel_step ?_ (by with_reducible assumption)))))).mono ?_); rintro e w_ ⟨p, cc, rfl, hws, hb_, hpc⟩; obtain ⟨y1, rfl⟩ := Soft.BW.mk hb_; clear hb_ hws hpc) | (go_at_call 14; (with_reducible refine (CS.out _ (HP.out.same (by (repeat (first | with_reducible exact bel_refl _ | with_reducible refine bel_alloc ?_ _ | with_reducible refine bel_bw _ ?_ | with_reducible refine bel_drew ?_ | with_reducible refine bel_drewN _ ?_ | ((with_reducible refine bel_set ?_ ?_ _); rotate_left; focus (first | (simp; done) | omega | (simp; omega))) | refine bel_step ?_ (by with_reducible assumption)))))).mono ?_); rintro e w_ ⟨rfl, hb_⟩; obtain ⟨y2, rfl⟩ := Soft.BW.mk hb_; clear hb_))
        all_goals
          go_ret
          refine ⟨ret_bool (by simp; try omega), ?_⟩
          (repeat (first | with_reducible exact bel_refl _ | with_reducible refine bel_alloc ?_ _ | with_reducible refine bel_bw _ ?_ | with_reducible refine bel_drew ?_ | with_reducible refine bel_drewN _ ?_ | ((with_reducible refine bel_set ?_ ?_ _); rotate_left; focus (first | (simp; done) | omega | (simp; omega))) | refine bel_step ?_ (by with_reducible assumption)))
    · have hv : v = false := hne (fun h => c2 (hE1 h))
      clear hne hyes hE1 hE c1'
      subst hv
      have d2 : (E.1 == 0) = false := beq_eq_false_iff_ne.2 c2
      go_enter Tryz.func6, Tryz.ntmps6
      go_wp2_with (first | (go_at_call 13; (with_reducible refine (CL.out _ (HP.out.same (by (repeat (first | with_reducible exact bel_refl _ | with_reducible refine bel_alloc ?_ _ | with_reducible refine bel_bw _ ?_ | with_reducible refine bel_drew ?_ | with_reducible refine bel_drewN _ ?_ | ((with_reducible refine bel_set ?_ ?_ _); rotate_left; focus (first | (simp; done) | omega | (simp; omega))) | refine bel_step ?_ (by with_reducible assumption)))))).mono ?_); rintro e w_ ⟨p, cc, rfl, hws, hb_, hpc⟩; obtain ⟨y1, rfl⟩ := Soft.BW.mk hb_; clear hb_ hws hpc) | (go_at_call 14; (with_reducible refine (CS.out _ (HP.out.same (by (repeat (first | with_reducible exact bel_refl _ | with_reducible refine bel_alloc ?_ _ | with_reducible refine bel_bw _ ?_ | with_reducible refine bel_drew ?_ | with_reducible refine bel_drewN _ ?_ | ((with_reducible refine bel_set ?_ ?_ _); rotate_left; focus (first | (simp; done) | omega | (simp; omega))) | refine bel_step ?_ (by with_reducible assumption)))))).mono ?_); rintro e w_ ⟨rfl, hb_⟩; obtain ⟨y2, rfl⟩ := Soft.BW.mk hb_; clear hb_))
      all_goals
        go_ret
        refine ⟨ret_bool (by simp; try omega), ?_⟩
        (repeat (first | with_reducible exact bel_refl _ | with_reducible refine bel_alloc ?_ _ | with_reducible refine bel_bw _ ?_ | with_reducible refine bel_drew ?_ | with_reducible refine bel_drewN _ ?_ | ((with_reducible refine bel_set ?_ ?_ _); rotate_left; focus (first | (simp; done) | omega | (simp; omega))) | refine bel_step ?_ (by with_reducible assumption)))
  · have hv : v = false := hne (fun h => c1 (shipErr_ok h.ship))
    clear hne hyes hE1 hE
    subst hv
    have d2 : (shipErr P.ship == 0) = false := beq_eq_false_iff_ne.2 c1
    go_enter Tryz.func6, Tryz.ntmps6
    go_wp2_with (first | (go_at_call 13; (with_reducible refine (CL.out _ (HP.out.same (by (repeat (first | with_reducible exact bel_refl _ | with_reducible refine bel_alloc ?_ _ | with_reducible refine bel_bw _ ?_ | with_reducible refine bel_drew ?_ | with_reducible refine bel_drewN _ ?_ | ((with_reducible refine bel_set ?_ ?_ _); rotate_left; focus (first | (simp; done) | omega | (simp; omega))) | refine bel_step ?_ (by with_reducible assumption)))))).mono ?_); rintro e w_ ⟨p, cc, rfl, hws, hb_, hpc⟩; obtain ⟨y1, rfl⟩ := Soft.BW.mk hb_; clear hb_ hws hpc) | (go_at_call 14; (with_reducible refine (CS.out _ (HP.out.same (by (repeat (first | with_reducible exact bel_refl _ | with_reducible refine bel_alloc ?_ _ | with_reducible refine bel_bw _ ?_ | with_reducible refine bel_drew ?_ | with_reducible refine bel_drewN _ ?_ | ((with_reducible refine bel_set ?_ ?_ _); rotate_left; focus (first | (simp; done) | omega | (simp; omega))) | refine bel_step ?_ (by with_reducible assumption)))))).mono ?_); rintro e w_ ⟨rfl, hb_⟩; obtain ⟨y2, rfl⟩ := Soft.BW.mk hb_; clear hb_))
    all_goals
      go_ret
      refine ⟨ret_bool (by simp; try omega), ?_⟩
      (repeat (first | with_reducible exact bel_refl _ | with_reducible refine bel_alloc ?_ _ | with_reducible refine bel_bw _ ?_ | with_reducible refine bel_drew ?_ | with_reducible refine bel_drewN _ ?_ | ((with_reducible refine bel_set ?_ ?_ _); rotate_left; focus (first | (simp; done) | omega | (simp; omega))) | refine bel_step ?_ (by with_reducible assumption)))

end Go.Proofs.YteagdcgmmdiakaaGreat

namespace Go.Proofs.YteagdcgmmdiakaaGreat
set_option linter.unusedSimpArgs false
set_option linter.unusedVariables false
open Go.ChangeShapes Go.WideShapes Go.ChangeAt Go.RowKit Go.Joins
set_option maxRecDepth 100000
set_option maxHeartbeats 4000000

section
variable {H : Type} {enc : TypeId × Value → H} {W : World} {base : Nat}

theorem cellsCs : Tryz.prog.cellsOf 25 = 1 := by kernel_rfl
theorem cellsWt : Tryz.prog.cellsOf 29 = 6 := by kernel_rfl
theorem cellsSh : Tryz.prog.cellsOf 31 = 15 := by kernel_rfl
theorem cellsHs : Tryz.prog.cellsOf 32 = 1 := by kernel_rfl
theorem cellsFs : Tryz.prog.cellsOf 33 = 1 := by kernel_rfl
theorem cellsTs : Tryz.prog.cellsOf 34 = 1 := by kernel_rfl
theorem cellsLs : Tryz.prog.cellsOf 35 = 1 := by kernel_rfl

theorem open_cr {fuel : Nat} {l : List Value} {x : DataW H × List MemPlace} (hf : DataW.trod enc Tryz.prog W 0 (fun _ => true) true fuel 80 l = some x) (hsz : l.length = 2)
    (hw : ∀ n ∈ x.1.weights Tryz.prog 80, n ≤ reachBytes) : ∃ q : Cr, l = crC q ∧ q.arms.At W := by
  obtain ⟨xs, n, _, hx, _, hl, hg⟩ := DataW.trod_struct Tryz.underlying80 hf
  match l, hsz with
  | [c0, c1], _ =>
    match xs, hl with
    | [y0, y1], _ =>
      subst hx
      have t0 := hg 0 _ rfl
      have t1 := hg 1 _ rfl
      simp [Value.cells, cellsInt, cellsTb] at t0 t1
      obtain ⟨i0, e0, _, _⟩ := DataW.trod_int Tryz.underlying3 t0
      obtain ⟨s1, e1, a1⟩ := open_tab t1 (fun n hn => hw n (by simp only [DataW.weights, Tryz.underlying80]; exact DataW.weights_mem_each (j := 1) rfl rfl n hn))
      simp at e0 e1
      subst e0 e1
      exact ⟨⟨i0, s1⟩, rfl, a1⟩
theorem open_cs {fuel : Nat} {cs : List Value} {x : DataW H × List MemPlace} (hf : DataW.trod enc Tryz.prog W 0 (fun _ => true) true fuel 25 cs = some x) (hw : ∀ n ∈ x.1.weights Tryz.prog 25, n ≤ reachBytes) :
    ∃ s : Sl Cr, cs = [.slice s.p s.n s.c] ∧ CsAt W s :=
  open_rows Tryz.underlying25 (by kernel_rfl : Tryz.prog.cellsOf 80 = 2) (by decide) crC (fun q => q.arms.At W) (fun n cs y h1 h2 h3 => open_cr h1 h2 h3) hf hw

theorem open_wt {fuel : Nat} {l : List Value} {x : DataW H × List MemPlace} (hf : DataW.trod enc Tryz.prog W 0 (fun _ => true) true fuel 29 l = some x) (hsz : l.length = 6) : ∃ q : Wt, l = wtC q := by
  obtain ⟨xs, n, _, hx, _, hl, hg⟩ := DataW.trod_struct Tryz.underlying29 hf
  match l, hsz with
  | [c0, c1, c2, c3, c4, c5], _ =>
    match xs, hl with
    | [y0, y1, y2], _ =>
      have t0 := hg 0 _ rfl
      have t1 := hg 1 _ rfl
      have t2 := hg 2 _ rfl
      simp [Value.cells, cellsRg] at t0 t1 t2
      obtain ⟨r0, e0⟩ := open_rng t0
      obtain ⟨r1, e1⟩ := open_rng t1
      obtain ⟨r2, e2⟩ := open_rng t2
      simp at e0 e1 e2
      obtain ⟨rfl, rfl⟩ := e0
      obtain ⟨rfl, rfl⟩ := e1
      obtain ⟨rfl, rfl⟩ := e2
      exact ⟨⟨r0, r1, r2⟩, rfl⟩

theorem open_sh {fuel : Nat} {l : List Value} {x : DataW H × List MemPlace} (hf : DataW.trod enc Tryz.prog W 0 (fun _ => true) true fuel 31 l = some x) (hsz : l.length = 15)
    (hw : ∀ n ∈ x.1.weights Tryz.prog 31, n ≤ reachBytes) : ∃ q : Sh, l = [.int .i64 (q).len, .slice ((q).dra).p ((q).dra).n ((q).dra).c, .slice ((q).hei).p ((q).hei).n ((q).hei).c, .slice ((q).cen).p ((q).cen).n ((q).cen).c, .slice ((q).tri).p ((q).tri).n ((q).tri).c, .slice ((q).flo).p ((q).flo).n ((q).flo).c, .slice ((q).cross).p ((q).cross).n ((q).cross).c, .slice ((q).sin).p ((q).sin).n ((q).sin).c, .slice ((q).shi).p ((q).shi).n ((q).shi).c, .int .i64 (((q).light).mass).lo, .int .i64 (((q).light).mass).hi, .int .i64 (((q).light).along).lo, .int .i64 (((q).light).along).hi, .int .i64 (((q).light).high).lo, .int .i64 (((q).light).high).hi] ∧ q.At W := by
  obtain ⟨xs, n, _, hx, _, hl, hg⟩ := DataW.trod_struct Tryz.underlying31 hf
  match l, hsz with
  | [c0, c1, c2, c3, c4, c5, c6, c7, c8, c9, c10, c11, c12, c13, c14], _ =>
    match xs, hl with
    | [y0, y1, y2, y3, y4, y5, y6, y7, y8, y9], _ =>
      subst hx
      have t0 := hg 0 _ rfl
      have t1 := hg 1 _ rfl
      have t2 := hg 2 _ rfl
      have t3 := hg 3 _ rfl
      have t4 := hg 4 _ rfl
      have t5 := hg 5 _ rfl
      have t6 := hg 6 _ rfl
      have t7 := hg 7 _ rfl
      have t8 := hg 8 _ rfl
      have t9 := hg 9 _ rfl
      simp [Value.cells, cellsInt, cellsTb, cellsCs, cellsWt] at t0 t1 t2 t3 t4 t5 t6 t7 t8 t9
      obtain ⟨i0, e0, _, _⟩ := DataW.trod_int Tryz.underlying3 t0
      obtain ⟨s1, e1, a1⟩ := open_tab t1 (fun n hn => hw n (by simp only [DataW.weights, Tryz.underlying31]; exact DataW.weights_mem_each (j := 1) rfl rfl n hn))
      obtain ⟨s2, e2, a2⟩ := open_tab t2 (fun n hn => hw n (by simp only [DataW.weights, Tryz.underlying31]; exact DataW.weights_mem_each (j := 2) rfl rfl n hn))
      obtain ⟨s3, e3, a3⟩ := open_tab t3 (fun n hn => hw n (by simp only [DataW.weights, Tryz.underlying31]; exact DataW.weights_mem_each (j := 3) rfl rfl n hn))
      obtain ⟨s4, e4, a4⟩ := open_tab t4 (fun n hn => hw n (by simp only [DataW.weights, Tryz.underlying31]; exact DataW.weights_mem_each (j := 4) rfl rfl n hn))
      obtain ⟨s5, e5, a5⟩ := open_tab t5 (fun n hn => hw n (by simp only [DataW.weights, Tryz.underlying31]; exact DataW.weights_mem_each (j := 5) rfl rfl n hn))
      obtain ⟨s6, e6, a6⟩ := open_cs t6 (fun n hn => hw n (by simp only [DataW.weights, Tryz.underlying31]; exact DataW.weights_mem_each (j := 6) rfl rfl n hn))
      obtain ⟨s7, e7, a7⟩ := open_tab t7 (fun n hn => hw n (by simp only [DataW.weights, Tryz.underlying31]; exact DataW.weights_mem_each (j := 7) rfl rfl n hn))
      obtain ⟨s8, e8, a8⟩ := open_tab t8 (fun n hn => hw n (by simp only [DataW.weights, Tryz.underlying31]; exact DataW.weights_mem_each (j := 8) rfl rfl n hn))
      obtain ⟨q9, e9⟩ := open_wt t9 rfl
      simp at e0 e1 e2 e3 e4 e5 e6 e7 e8
      simp [wtC] at e9
      obtain ⟨rfl, rfl, rfl, rfl, rfl, rfl⟩ := e9
      subst e0 e1 e2 e3 e4 e5 e6 e7 e8
      exact ⟨⟨i0, s1, s2, s3, s4, s5, s6, s7, s8, q9⟩, rfl, a1, a2, a3, a4, a5, a6, a7, a8⟩

theorem open_parts {v : Value} {d : DataW H} {p : List MemPlace} (hv : Value.okWide Tryz.prog W .any base 37 v) (h : DataW.Trod enc Tryz.prog W 0 (fun _ => true) true 37 v d p)
    (hw : ∀ n ∈ d.weights Tryz.prog 37, n ≤ reachBytes) : ∃ q : Pa, v = .agg #[.int .i64 ((q).ship).len, .slice (((q).ship).dra).p (((q).ship).dra).n (((q).ship).dra).c, .slice (((q).ship).hei).p (((q).ship).hei).n (((q).ship).hei).c, .slice (((q).ship).cen).p (((q).ship).cen).n (((q).ship).cen).c, .slice (((q).ship).tri).p (((q).ship).tri).n (((q).ship).tri).c, .slice (((q).ship).flo).p (((q).ship).flo).n (((q).ship).flo).c, .slice (((q).ship).cross).p (((q).ship).cross).n (((q).ship).cross).c, .slice (((q).ship).sin).p (((q).ship).sin).n (((q).ship).sin).c, .slice (((q).ship).shi).p (((q).ship).shi).n (((q).ship).shi).c, .int .i64 ((((q).ship).light).mass).lo, .int .i64 ((((q).ship).light).mass).hi, .int .i64 ((((q).ship).light).along).lo, .int .i64 ((((q).ship).light).along).hi, .int .i64 ((((q).ship).light).high).lo, .int .i64 ((((q).ship).light).high).hi, .slice ((q).holds).p ((q).holds).n ((q).holds).c, .slice ((q).fills).p ((q).fills).n ((q).fills).c, .slice ((q).tanks).p ((q).tanks).n ((q).tanks).c, .slice ((q).levels).p ((q).levels).n ((q).levels).c, .int .i64 (q).most] ∧ q.At W := by
  obtain ⟨cs, rfl, hsz⟩ := okWide_struct Tryz.underlying37 hv
  obtain ⟨fuel, hf⟩ := h
  obtain ⟨xs, n, _, hx, _, hl, hg⟩ := DataW.trod_struct Tryz.underlying37 hf
  rw [show Tryz.prog.cellsOf 37 = 20 by kernel_rfl] at hsz
  obtain ⟨l⟩ := cs
  match l, hsz with
  | [c0, c1, c2, c3, c4, c5, c6, c7, c8, c9, c10, c11, c12, c13, c14, c15, c16, c17, c18, c19], _ =>
    match xs, hl with
    | [y0, y1, y2, y3, y4, y5], _ =>
      simp only [Prod.mk.injEq] at hx
      obtain ⟨rfl, _⟩ := hx
      have t0 := hg 0 _ rfl
      have t1 := hg 1 _ rfl
      have t2 := hg 2 _ rfl
      have t3 := hg 3 _ rfl
      have t4 := hg 4 _ rfl
      have t5 := hg 5 _ rfl
      simp [Value.cells, cellsInt, cellsSh, cellsHs, cellsFs, cellsTs, cellsLs] at t0 t1 t2 t3 t4 t5
      obtain ⟨S, e0, a0⟩ := open_sh t0 rfl (fun n hn => hw n (by simp only [DataW.weights, Tryz.underlying37]; exact DataW.weights_mem_each (j := 0) rfl rfl n hn))
      obtain ⟨s1, e1, a1⟩ := open_hs t1 (fun n hn => hw n (by simp only [DataW.weights, Tryz.underlying37]; exact DataW.weights_mem_each (j := 1) rfl rfl n hn))
      obtain ⟨s2, e2, a2⟩ := open_fs t2 (fun n hn => hw n (by simp only [DataW.weights, Tryz.underlying37]; exact DataW.weights_mem_each (j := 2) rfl rfl n hn))
      obtain ⟨s3, e3, a3⟩ := open_ts t3 (fun n hn => hw n (by simp only [DataW.weights, Tryz.underlying37]; exact DataW.weights_mem_each (j := 3) rfl rfl n hn))
      obtain ⟨s4, e4, a4⟩ := open_ls t4 (fun n hn => hw n (by simp only [DataW.weights, Tryz.underlying37]; exact DataW.weights_mem_each (j := 4) rfl rfl n hn))
      obtain ⟨i5, e5, _, _⟩ := DataW.trod_int Tryz.underlying3 t5
      simp at e1 e2 e3 e4 e5
      simp only [List.cons.injEq, and_true] at e0
      obtain ⟨rfl, rfl, rfl, rfl, rfl, rfl, rfl, rfl, rfl, rfl, rfl, rfl, rfl, rfl, rfl⟩ := e0
      subst e1 e2 e3 e4 e5
      exact ⟨⟨S, s1, s2, s3, s4, i5⟩, rfl, a0, a1, a2, a3, a4⟩

theorem open_rg2 {v : Value} {d : DataW H} {p : List MemPlace} (hv : Value.okWide Tryz.prog W .any base 38 v) (h : DataW.Trod enc Tryz.prog W 0 (fun _ => true) true 38 v d p) :
    ∃ a b : Rg, v = .agg #[.int .i64 (a).lo, .int .i64 (a).hi, .int .i64 (b).lo, .int .i64 (b).hi] := by
  simp only [Value.okWide, Tryz.underlying38] at hv
  obtain ⟨cs, rfl, hsz, _⟩ := hv
  obtain ⟨fuel, hf⟩ := h
  obtain ⟨xs, m, rfl, _, hl, hn, hx⟩ := DataW.trod_array Tryz.underlying38 hf
  rw [show Tryz.prog.cellsOf 38 = 4 by kernel_rfl] at hsz
  obtain ⟨l⟩ := cs
  match l, hsz with
  | [c0, c1, c2, c3], _ =>
    match xs, hn with
    | [u0, u1], _ =>
      have s0 := hx 0 (by omega)
      have s1 := hx 1 (by omega)
      simp [Value.cells, cellsRg] at s0 s1
      obtain ⟨a, e0⟩ := open_rng s0
      obtain ⟨b, e1⟩ := open_rng s1
      simp at e0 e1
      obtain ⟨rfl, rfl⟩ := e0
      obtain ⟨rfl, rfl⟩ := e1
      exact ⟨a, b, rfl⟩

theorem open_ints1 {v : Value} {d : DataW H} {p : List MemPlace} (hv : Value.okWide Tryz.prog W .any base 39 v) (h : DataW.Trod enc Tryz.prog W 0 (fun _ => true) true 39 v d p)
    (hw : ∀ n ∈ d.weights Tryz.prog 39, n ≤ reachBytes) : ∃ s : Is, v = .slice s.p s.n s.c ∧ s.At W := by
  obtain ⟨a0, len, cap, rfl⟩ := okWide_slice Tryz.underlying39 hv
  obtain ⟨fuel, hf⟩ := h
  obtain ⟨s, e, hs⟩ := open_is hf hw
  simp only [Value.cells, List.cons.injEq, and_true] at e
  exact ⟨s, e, hs⟩

end

end Go.Proofs.YteagdcgmmdiakaaGreat

namespace Go.Proofs.YteagdcgmmdiakaaGreat
set_option linter.unusedSimpArgs false
set_option linter.unusedVariables false
open Go.RowKit

section
variable {P : Program}

theorem run_storeCells_part (g off : Nat) (t : TypeId) : ∀ (vs : List Value) (i : Nat) (cur : Array Value) (w : World), w.heap[g]? = some (.cells cur t (0, 0)) → off + i + vs.length ≤ cur.size → (∀ v ∈ vs, v.oneCell' = true) →
    (storeCells ⟨g, off, none⟩ vs i).run P w = .ok () (w.setRow g (cur.toList.take (off + i) ++ (vs ++ cur.toList.drop (off + i + vs.length))).toArray)
  | [], i, cur, w, hg, hl, _ => by
    have hlt : g < w.heap.size := (Array.getElem?_eq_some_iff.1 hg).1
    have hv : w.heap[g] = .cells cur t (0, 0) := (Array.getElem?_eq_some_iff.1 hg).2
    simp only [storeCells, List.nil_append, List.length_nil, Nat.add_zero, List.take_append_drop, Array.toArray_toList]
    show Result.ok () w = _
    congr 1
    unfold World.setRow
    cases w with
    | mk heap tape drawn os output =>
      congr 1
      apply Array.ext
      · simp
      · intro k h1 h2
        simp only [Array.getElem_modify]
        split
        · rename_i hk; subst hk; simp at hv; simp [hv]
        · rfl
  | v :: rest, i, cur, w, hg, hl, h1 => by
    simp only [List.length_cons] at hl
    have hi : off + i < cur.size := by omega
    have hadd : (⟨g, off, none⟩ : Addr).add i = ⟨g, off + i, none⟩ := by unfold Addr.add; split <;> simp_all
    have hcell : w.cell? ⟨g, off + i, none⟩ = some cur[off + i] := by simp [World.cell?, hg, hi]
    have hfro : w.frozen? ⟨g, off + i, none⟩ = false := by simp [World.frozen?, hg]
    have hst : (store ((⟨g, off, none⟩ : Addr).add i) v).run P w = .ok () (w.setRow g (cur.setIfInBounds (off + i) v)) := by
      rw [hadd, run_store P w _ v _ (h1 v (by simp)), hcell]
      simp [hfro, setCell_eq_setRow w g (off + i) cur t (0, 0) v hg]
    have ih := run_storeCells_part g off t rest (i + 1) (cur.setIfInBounds (off + i) v) (w.setRow g (cur.setIfInBounds (off + i) v)) (setRow_heap w g cur _ t _ hg) (by simp; omega) (fun x hx => h1 x (by simp [hx]))
    simp only [storeCells, Sem.run_bind, hst, Result.andThen_ok, ih, setRow_setRow]
    congr 3
    apply List.ext_getElem?
    intro k
    simp only [Array.toList_setIfInBounds, List.getElem?_append, List.getElem?_take, List.length_take, List.length_set, Array.length_toList, List.length_cons, List.getElem?_cons, List.getElem?_drop, List.getElem?_set]
    rw [show min (off + (i + 1)) cur.size = off + i + 1 by omega, show min (off + i) cur.size = off + i by omega]
    by_cases hk : k < off + i
    · simp [hk, show k < off + i + 1 by omega, show ¬(off + i = k) by omega, show k < off + (i + 1) by omega]
    · by_cases hk2 : k = off + i
      · subst hk2
        simp [show off + i < off + (i + 1) by omega, hi]
      · rw [if_neg (by omega), if_neg hk]
        by_cases hk3 : k - (off + i + 1) < rest.length
        · rw [if_pos hk3, if_pos (by omega), if_neg (by omega)]
          congr 1; try omega
        · rw [if_neg hk3, if_neg (by omega), if_neg (by omega)]
          congr 1; try omega

/-- A struct into the midst of a block. -/
theorem wpList_store_part {ops : Array Oper} {rest : List Oper} {o : Oper} {a : Act} {w : World} {Q : Exit → Act → World → Prop} (hgd : o.guard = none) (ty : TypeId) (x y : Operand) (ho : o.op = .store ty x y)
    (g off : Nat) (cells : Array Value) (hx : a.eval x = .pointer (some ⟨g, off, none⟩)) (hy : a.eval y = .agg cells)
    (t : TypeId) (old new : Array Value) (hg : w.heap[g]? = some (.cells old t (0, 0))) (hi : (P.info? ty).map (·.size) = some cells.size)
    (hsz : off + cells.size ≤ old.size) (h1 : cells.all (·.oneCell') = true) (hnew : (old.toList.take off ++ (cells.toList ++ old.toList.drop (off + cells.size))).toArray = new)
    (h : wpList P ops Q rest (a.put o.dst undef) (w.setRow g new)) : wpList P ops Q (o :: rest) a w :=
  wpList_plain hgd fun _ hK => by
    have := run_storeCells_part (P := P) g off t cells.toList 0 old w hg (by simpa using hsz) (fun v hv => (Array.all_eq_true_iff_forall_mem.1 h1) v (by simpa using hv))
    simp only [Nat.add_zero, Array.length_toList, hnew] at this
    have hst : (storeVar ty ⟨g, off, none⟩ (.agg cells)).run P w = .ok () (w.setRow g new) := by
      cases hq : P.info? ty with
      | none => simp [hq] at hi
      | some i =>
        have hs : cells.size = i.size := by simp [hq] at hi; omega
        simp [storeVar, sizeOf, typeInfo, hq, Value.cells, hs, this]
    unfold Oper.wp execOp
    simp only [ho, hx, hy, Instr.storeAt, Instr.sureAddr, Sem.run_bind, Sem.run_pure, Result.andThen_ok, hst]
    exact hK _ _ h

/-- Into a block laid last. -/
theorem wpList_store_new {ops : Array Oper} {rest : List Oper} {o : Oper} {a : Act} {W : World} {Q : Exit → Act → World → Prop} {old : Array Value} {t : TypeId} (hgd : o.guard = none) (ty : TypeId) (x y : Operand) (ho : o.op = .store ty x y)
    (g : Nat) (hg : g = W.heap.size) (cells : Array Value) (hx : a.eval x = .pointer (some ⟨g, 0, none⟩)) (hy : a.eval y = .agg cells) (hi : (P.info? ty).map (·.size) = some cells.size)
    (hold : old.size = cells.size) (h1 : cells.all (·.oneCell') = true)
    (h : wpList P ops Q rest (a.put o.dst undef) (W.alloc (.cells cells t))) : wpList P ops Q (o :: rest) a (W.alloc (.cells old t)) := by
  subst hg
  have hg : (W.alloc (.cells old t)).heap[W.heap.size]? = some (.cells old t (0, 0)) := by show (W.heap.push _)[W.heap.size]? = _; simp
  refine wpList_store_row hgd ty x y ho W.heap.size cells hx hy t old hg hi hold h1 ?_
  have e : (W.alloc (.cells old t)).setRow W.heap.size cells = W.alloc (.cells cells t) := by
    unfold World.setRow World.alloc
    congr 1
    apply Array.ext
    · simp
    · intro k h1 h2
      simp only [Array.getElem_modify]
      by_cases hk : W.heap.size = k
      · subst hk; simp
      · rw [if_neg hk]
        simp only [Array.size_push] at h2
        rw [Array.getElem_push_lt (by omega), Array.getElem_push_lt (by omega)]
  rw [e]
  exact h

/-- A struct out of the midst of a block. -/
theorem wpList_load_part {ops : Array Oper} {rest : List Oper} {o : Oper} {a : Act} {w : World} {Q : Exit → Act → World → Prop} (hgd : o.guard = none) (ty : TypeId) (x : Operand) (ho : o.op = .load ty x)
    (g off : Nat) (hx : a.eval x = .pointer (some ⟨g, off, none⟩)) (t : TypeId) (old cs : Array Value) (d : TypeDesc) (hg : w.heap[g]? = some (.cells old t (0, 0)))
    (hu : P.underlying ty = some d) (hd : (match d with | .struct _ | .array _ _ => true | _ => false) = true) (hi : (P.info? ty).map (·.size) = some cs.size)
    (hcs : (old.toList.drop off).take cs.size = cs.toList)
    (h : wpList P ops Q rest (a.put o.dst (.agg cs)) w) : wpList P ops Q (o :: rest) a w :=
  wpList_plain hgd fun _ hK => by
    have hl : (loadCells ⟨g, off, none⟩ cs.toList.length).run P w = .ok cs.toList.toArray w :=
      run_loadCells_list (P := P) w ⟨g, off, none⟩ cs.toList (fun j v hv => by
        have hadd : (⟨g, off, none⟩ : Addr).add j = ⟨g, off + j, none⟩ := by unfold Addr.add; split <;> simp_all
        rw [hadd]
        rw [← hcs, List.getElem?_take] at hv
        split at hv
        · rw [List.getElem?_drop] at hv
          simpa [World.cell?, hg] using hv
        · cases hv)
    have hld : (loadVar ty ⟨g, off, none⟩).run P w = .ok (.agg cs) w := by
      cases hq : P.info? ty with
      | none => simp [hq] at hi
      | some i =>
        have hs : i.size = cs.size := by simpa [hq] using hi
        have hagg : (isAgg ty).run P w = .ok true w := by
          unfold isAgg
          rw [Sem.run_bind, run_underlying hu w]
          cases d <;> simp_all
        simp only [Array.length_toList, Array.toArray_toList] at hl
        simp [loadVar, Sem.run_bind, hagg, sizeOf, typeInfo, hq, hs, hl]
    unfold Oper.wp execOp
    simp only [ho, hx, Instr.loadAt, Instr.sureAddr, Sem.run_bind, Sem.run_pure, Result.andThen_ok, hld]
    exact hK _ _ h
end

end Go.Proofs.YteagdcgmmdiakaaGreat

namespace Go.Proofs.YteagdcgmmdiakaaGreat
set_option linter.unusedSimpArgs false
set_option linter.unusedVariables false
open Go.RowKit
set_option maxRecDepth 100000
set_option maxHeartbeats 4000000

def upB (xs : List Int) (i : Nat) : Bool := decide (pickN xs i 2 = 1)
/-- A cross curve; a hold; a fill; a tank; a level of the truth. -/
def CrT (xs : List Int) (c : Cr) (i : Nat) (c' : Cr) : Prop := c'.tonnes = c.tonnes ∧ c'.arms.ps = curveP c.arms.ps xs (7 + i)
structure HoT (xs : List Int) (h : Ho) (i : Nat) (h' : Ho) : Prop where
  id : h'.id = h.id
  along : h'.along = oneR h.along xs i
  vol : h'.vol.ps = sideP h.vol.ps (upB xs (11 + i))
  mom : h'.mom.ps = curveP h.mom.ps xs i
  hei : h'.hei.ps = sideP h.hei.ps (upB xs (11 + i))
  tri : h'.tri = oneR h.tri xs i
  unt : h'.unt = oneR h.unt xs i
  v0 : h'.v0 = oneR h.v0 xs i
  h0 : h'.h0 = oneR h.h0 xs i
def fiT (xs : List Int) (f : Fi) (i : Nat) : Fi := ⟨f.hold, f.state, oneR f.ull xs (12 + i), oneR f.den xs (13 + i)⟩
structure TkT (xs : List Int) (t : Tk) (i : Nat) (t' : Tk) : Prop where
  id : t'.id = t.id
  along : t'.along = oneR t.along xs i
  vol : t'.vol.ps = sideP t.vol.ps (upB xs (14 + i))
  sur : t'.sur.ps = curveP t.sur.ps xs i
  hei : t'.hei.ps = sideP t.hei.ps (upB xs (14 + i))
def lvT (xs : List Int) (l : Lv) (i : Nat) : Lv := ⟨l.tank, l.pressed, oneR l.snd xs (15 + i), oneR l.den xs (16 + i)⟩
def wtT (xs : List Int) (x : Wt) : Wt := ⟨oneR x.mass xs 8, oneR x.along xs 9, oneR x.high xs 10⟩
/-- The ship's tables over the displacement and the angle. -/
structure ShT (xs : List Int) (S S' : Sh) : Prop where
  len : S'.len = S.len
  dra : S'.dra.ps = curveP S.dra.ps xs 0
  hei : S'.hei.ps = curveP S.hei.ps xs 1
  cen : S'.cen.ps = curveP S.cen.ps xs 2
  tri : S'.tri.ps = curveP S.tri.ps xs 3
  flo : S'.flo.ps = curveP S.flo.ps xs 4
  sin : S'.sin.ps = curveP S.sin.ps xs 5
  shi : S'.shi.ps = curveP S.shi.ps xs 6
  light : S'.light = wtT xs S.light
  ncross : S'.cross.xs.length = S.cross.xs.length
  cross : ∀ i, i < S.cross.xs.length → CrT xs (crv S.cross.xs i) i (crv S'.cross.xs i)
/-- The parts that truth makes. -/
structure PaT (xs : List Int) (P P' : Pa) : Prop where
  ship : ShT xs P.ship P'.ship
  most : P'.most = P.most
  nh : P'.holds.xs.length = P.holds.xs.length
  nf : P'.fills.xs.length = P.holds.xs.length
  nt : P'.tanks.xs.length = P.tanks.xs.length
  nl : P'.levels.xs.length = P.tanks.xs.length
  holds : ∀ i, i < P.holds.xs.length → HoT xs (hv P.holds.xs i) i (hv P'.holds.xs i)
  fills : ∀ i, i < P.holds.xs.length → fiv P'.fills.xs i = fiT xs (fiv P.fills.xs i) i
  tanks : ∀ i, i < P.tanks.xs.length → TkT xs (tv P.tanks.xs i) i (tv P'.tanks.xs i)
  levels : ∀ i, i < P.tanks.xs.length → lv P'.levels.xs i = lvT xs (lv P.levels.xs i) i

theorem flatMap_snoc' {α : Type} (C : α → List Value) (l : List α) (x : α) : (l ++ [x]).flatMap C = l.flatMap C ++ C x := by simp
theorem get_snoc' {α : Type} [Inhabited α] (l : List α) (x : α) (i : Nat) : ((l ++ [x])[i]?).getD default = if i < l.length then (l[i]?).getD default else if i = l.length then x else default := by
  by_cases h : i < l.length
  · rw [if_pos h, List.getElem?_append_left h]
  · rw [if_neg h, List.getElem?_append_right (by omega)]
    by_cases e : i = l.length
    · rw [if_pos e]; subst e; simp
    · rw [if_neg e, List.getElem?_eq_none (by simp; omega)]; rfl

def zeroPa : Array Value := #[.int .i64 0, .slice none 0 0, .slice none 0 0, .slice none 0 0, .slice none 0 0, .slice none 0 0, .slice none 0 0, .slice none 0 0, .slice none 0 0, .int .i64 0, .int .i64 0, .int .i64 0, .int .i64 0, .int .i64 0, .int .i64 0, .slice none 0 0, .slice none 0 0, .slice none 0 0, .slice none 0 0, .int .i64 0]

/-- What truth carries: its own four blocks, the arrays that grow, and the tables that were made. -/
structure Tru (w wr : World) (PC SC oc : Array Value) (rows : List Row) (tabs : List Tb) : Prop where
  out : HasBlk wr (w.heap.size + 3) oc 37
  heap : Heap wr (w.heap.size + 4) rows tabs
  p0 : HasBlk wr w.heap.size PC 37
  p1 : HasBlk wr (w.heap.size + 1) zeroPa 37
  p2 : HasBlk wr (w.heap.size + 2) SC 31
  bel : Below w.heap.size w wr
theorem Tru.call {w wr W : World} {PC SC oc : Array Value} {rows : List Row} {tabs : List Tb} (h : Tru w wr PC SC oc rows tabs) (hb : Below wr.heap.size wr W) : Tru w W PC SC oc rows tabs :=
  ⟨h.out.below hb, h.heap.same hb, h.p0.below hb, h.p1.below hb, h.p2.below hb, bel_step h.bel hb⟩
theorem Tru.lt {w wr : World} {PC SC oc : Array Value} {rows : List Row} {tabs : List Tb} (h : Tru w wr PC SC oc rows tabs) : w.heap.size + 4 ≤ wr.heap.size := h.out.lt

/-- More tables; then one of the arrays grows, and its slice is laid into the parts. -/
theorem Tru.add {w W Y w3 : World} {PC SC oc : Array Value} {rows : List Row} {tabs : List Tb} (h : Tru w W PC SC oc rows tabs) (hY : Below W.heap.size W Y) {more : List Tb} (hm : ∀ t ∈ more, t.At Y ∧ ∀ b o, t.p = some ⟨b, o, none⟩ → W.heap.size ≤ b)
    (i : Nat) {r r' : Row} (hi : rows[i]? = some r) {g : Nat} (ho : r'.own w3 (w.heap.size + 4)) (hb : Below (w.heap.size + 4) Y w3) (hg : Y.grownBy w3 r.v.ownBlock) (hl : r.v.ownBlock = some g ∨ g = Y.heap.size) (hv : r'.v.ownBlock = some g) (idx : Nat) (u : Value) :
    Tru w (w3.setCell ⟨w.heap.size + 3, idx, none⟩ u) PC SC (oc.setIfInBounds idx u) (rows.set i r') (tabs ++ more) := by
  have hlt := h.lt
  have k1 := h.heap.addTabs (W := Y) hY hlt (more := more) (fun t ht => ⟨(hm t ht).1, fun _ b o e => (hm t ht).2 b o e⟩)
  have k2 := k1.grow i (r := r) (r' := r') (g := g) hi ho hg hl hv
  have k3 := k2.set (p := ⟨w.heap.size + 3, idx, none⟩) (by dsimp only; omega) u
  have bl : ∀ {X : Nat} {c : Array Value} {t : TypeId}, HasBlk W X c t → X < w.heap.size + 4 → HasBlk w3 X c t := fun hx hX => (hb.block _ hX).trans (HasBlk.below hx hY)
  exact ⟨HasBlk.put (bl h.out (by omega)) idx u, k3, HasBlk.set_other (bl h.p0 (by omega)) (by dsimp only; omega) _, HasBlk.set_other (bl h.p1 (by omega)) (by dsimp only; omega) _, HasBlk.set_other (bl h.p2 (by omega)) (by dsimp only; omega) _, ((bel_step h.bel hY).trans (hb.mono (by omega))).setCell (by dsimp only; omega) _⟩

def rows5 (vc vh vf vt vl : Value) (C : List Cr) (H : List Ho) (F : List Fi) (T : List Tk) (L : List Lv) : List Row :=
  [⟨80, 2, C.flatMap crC, C.length, vc⟩, ⟨49, 14, H.flatMap hoC, H.length, vh⟩, ⟨44, 6, F.flatMap fiC, F.length, vf⟩, ⟨83, 6, T.flatMap tkC, T.length, vt⟩, ⟨85, 6, L.flatMap lvC, L.length, vl⟩]
theorem rows5_C {vc vh vf vt vl : Value} {C : List Cr} {H : List Ho} {F : List Fi} {T : List Tk} {L : List Lv} {v' : Value} {q : Cr} : (rows5 vc vh vf vt vl C H F T L).set 0 ⟨80, 2, C.flatMap crC ++ crC q, C.length + 1, v'⟩ = rows5 v' vh vf vt vl (C ++ [q]) H F T L := by
  unfold rows5
  rw [flatMap_snoc', List.length_append]
  rfl
theorem rows5_H {vc vh vf vt vl : Value} {C : List Cr} {H : List Ho} {F : List Fi} {T : List Tk} {L : List Lv} {v' : Value} {q : Ho} : (rows5 vc vh vf vt vl C H F T L).set 1 ⟨49, 14, H.flatMap hoC ++ hoC q, H.length + 1, v'⟩ = rows5 vc v' vf vt vl C (H ++ [q]) F T L := by
  unfold rows5
  rw [flatMap_snoc', List.length_append]
  rfl
theorem rows5_F {vc vh vf vt vl : Value} {C : List Cr} {H : List Ho} {F : List Fi} {T : List Tk} {L : List Lv} {v' : Value} {q : Fi} : (rows5 vc vh vf vt vl C H F T L).set 2 ⟨44, 6, F.flatMap fiC ++ fiC q, F.length + 1, v'⟩ = rows5 vc vh v' vt vl C H (F ++ [q]) T L := by
  unfold rows5
  rw [flatMap_snoc', List.length_append]
  rfl
theorem rows5_T {vc vh vf vt vl : Value} {C : List Cr} {H : List Ho} {F : List Fi} {T : List Tk} {L : List Lv} {v' : Value} {q : Tk} : (rows5 vc vh vf vt vl C H F T L).set 3 ⟨83, 6, T.flatMap tkC ++ tkC q, T.length + 1, v'⟩ = rows5 vc vh vf v' vl C H F (T ++ [q]) L := by
  unfold rows5
  rw [flatMap_snoc', List.length_append]
  rfl
theorem rows5_L {vc vh vf vt vl : Value} {C : List Cr} {H : List Ho} {F : List Fi} {T : List Tk} {L : List Lv} {v' : Value} {q : Lv} : (rows5 vc vh vf vt vl C H F T L).set 4 ⟨85, 6, L.flatMap lvC ++ lvC q, L.length + 1, v'⟩ = rows5 vc vh vf vt v' C H F T (L ++ [q]) := by
  unfold rows5
  rw [flatMap_snoc', List.length_append]
  rfl

theorem rt5_cross : RowTy 25 80 2 := by
  have h : (Tryz.prog.info? 80).map (fun i => (i.zero, i.size, i.bytes)) = some (some (.agg #[.int .i64 0, .slice none 0 0]), 2, 32) := by kernel_rfl
  obtain ⟨i, h1, h2, h3, h4⟩ := infos h
  exact ⟨Tryz.underlying25, ⟨i, _, h1, h2, h3, by omega, rfl⟩, by decide⟩
theorem rt5_hold : RowTy 32 49 14 := by
  have h : (Tryz.prog.info? 49).map (fun i => (i.zero, i.size, i.bytes)) = some (some (.agg #[.int .i64 0, .int .i64 0, .int .i64 0, .slice none 0 0, .slice none 0 0, .slice none 0 0, .int .i64 0, .int .i64 0, .int .i64 0, .int .i64 0, .int .i64 0, .int .i64 0, .int .i64 0, .int .i64 0]), 14, 160) := by kernel_rfl
  obtain ⟨i, h1, h2, h3, h4⟩ := infos h
  exact ⟨Tryz.underlying32, ⟨i, _, h1, h2, h3, by omega, rfl⟩, by decide⟩
theorem rt5_fill : RowTy 33 44 6 := by
  have h : (Tryz.prog.info? 44).map (fun i => (i.zero, i.size, i.bytes)) = some (some (.agg #[.int .i64 0, .int .i64 0, .int .i64 0, .int .i64 0, .int .i64 0, .int .i64 0]), 6, 48) := by kernel_rfl
  obtain ⟨i, h1, h2, h3, h4⟩ := infos h
  exact ⟨Tryz.underlying33, ⟨i, _, h1, h2, h3, by omega, rfl⟩, by decide⟩
theorem rt5_tank : RowTy 34 83 6 := by
  have h : (Tryz.prog.info? 83).map (fun i => (i.zero, i.size, i.bytes)) = some (some (.agg #[.int .i64 0, .int .i64 0, .int .i64 0, .slice none 0 0, .slice none 0 0, .slice none 0 0]), 6, 96) := by kernel_rfl
  obtain ⟨i, h1, h2, h3, h4⟩ := infos h
  exact ⟨Tryz.underlying34, ⟨i, _, h1, h2, h3, by omega, rfl⟩, by decide⟩
theorem rt5_level : RowTy 35 85 6 := by
  have h : (Tryz.prog.info? 85).map (fun i => (i.zero, i.size, i.bytes)) = some (some (.agg #[.int .i64 0, .bool false, .int .i64 0, .int .i64 0, .int .i64 0, .int .i64 0]), 6, 48) := by kernel_rfl
  obtain ⟨i, h1, h2, h3, h4⟩ := infos h
  exact ⟨Tryz.underlying35, ⟨i, _, h1, h2, h3, by omega, rfl⟩, by decide⟩

end Go.Proofs.YteagdcgmmdiakaaGreat

namespace Go.Proofs.YteagdcgmmdiakaaGreat
set_option linter.unusedSimpArgs false
set_option linter.unusedVariables false
open Go.RowKit
set_option maxRecDepth 100000
set_option maxHeartbeats 4000000

/-- A load without fault. -/
structure LoadOk (hs : List Ho) (fs : List Fi) (ts : List Tk) (ls : List Lv) : Prop where
  nh : hs.length ≤ 9
  nt : ts.length ≤ 9
  nf : fs.length = hs.length
  nl : ls.length = ts.length
  h : ∀ k, k < hs.length → fillErr (hv hs k) (fiv fs k) = 0
  t : ∀ k, k < ts.length → levelErr (tv ts k) (lv ls k) = 0
theorem loadOk_of {hs : List Ho} {fs : List Fi} {ts : List Tk} {ls : List Lv} (h : (loadE hs fs ts ls).1 = 0) : LoadOk hs fs ts ls := by
  by_cases c1 : 9 < hs.length ∨ 9 < ts.length
  · unfold loadE at h; rw [if_pos c1] at h; cases h
  by_cases c2 : hs.length ≠ fs.length ∨ ts.length ≠ ls.length
  · unfold loadE at h; rw [if_neg c1, if_pos c2] at h; cases h
  have a1 : hs.length ≤ 9 := by omega
  have a2 : ts.length ≤ 9 := by omega
  have a3 : hs.length = fs.length := by omega
  have a4 : ts.length = ls.length := by omega
  have hz : ∀ k, k ≤ hs.length → (hRun hs fs k).1 = 0 := fun k hk => by
    match k, hk with
    | 0, _ => rfl
    | k + 1, hk =>
      apply Classical.byContradiction
      intro e
      rw [loadE_h a1 a2 a3 a4 (show k < hs.length by omega) e] at h
      exact e h
  have tz : ∀ k, k ≤ ts.length → (tRun ts ls (hRun hs fs hs.length) k).1 = 0 := fun k hk => by
    match k, hk with
    | 0, _ => exact hz _ (Nat.le_refl _)
    | k + 1, hk =>
      apply Classical.byContradiction
      intro e
      rw [loadE_t a1 a2 a3 a4 (show k < ts.length by omega) e] at h
      exact e h
  refine ⟨a1, a2, a3.symm, a4.symm, fun k hk => ?_, fun k hk => ?_⟩
  · have h1 := hz (k + 1) (by omega)
    have h0 := hz k (by omega)
    by_cases hd : dupH hs k = true
    · rw [hRun_dup h0 hd] at h1; cases h1
    · apply Classical.byContradiction
      intro e
      rw [hRun_bad h0 (by simpa using hd) e] at h1
      exact e h1
  · have h1 := tz (k + 1) (by omega)
    have h0 := tz k (by omega)
    by_cases hd : dupT ts k = true
    · rw [tRun_dup h0 hd] at h1; cases h1
    · apply Classical.byContradiction
      intro e
      rw [tRun_bad h0 (by simpa using hd) e] at h1
      exact e h1

theorem tbSane_of {w : World} {t : Tb} (ht : t.At w) (hok : TabOk t.ps) : TbSane t := by
  have hn := ht.1
  have hl := hok.le
  refine ⟨by omega, fun k hk => ?_⟩
  obtain ⟨_, _, a, b, c, _⟩ := hok.all k (by omega)
  unfold RgOk
  dsimp only
  omega
theorem rgOk_part {r : Rg} {lo hi : Int} (h : isPart r lo hi) (h1 : -2000000000000000 ≤ lo) (h2 : hi ≤ 2000000000000000) : RgOk r := by
  obtain ⟨a, b, c⟩ := h
  unfold RgOk
  omega
theorem kept_blk {Y w3 : World} {row : Option Nat} {B : Nat} {c : Array Value} {t : TypeId} (h : HasBlk Y B c t) (hg : Y.grownBy w3 row) (hr : row ≠ some B) : HasBlk w3 B c t := (hg.block B h.lt (fun e => hr e.symm)).trans h

theorem Tru.row {w wr : World} {PC SC oc : Array Value} {rows : List Row} {tabs : List Tb} (h : Tru w wr PC SC oc rows tabs) (oc' : Array Value) : Tru w (wr.setRow (w.heap.size + 3) oc') PC SC oc' rows tabs :=
  ⟨setRow_heap _ _ _ _ _ _ h.out, h.heap.row (by omega) _, HasBlk.rowx h.p0 (by omega) _, HasBlk.rowx h.p1 (by omega) _, HasBlk.rowx h.p2 (by omega) _, below_setRow h.bel (by omega) _⟩

def ucutSeq : Nat → Code → Code
  | 0, c => c
  | n + 1, .seq _ b => ucutSeq n b
  | _ + 1, c => c
/-- What follows the ship in truth; the tanks. -/
noncomputable def truH : Code := ucutSeq 6 (Tryz.f7.body.getD .skip)
noncomputable def truT : Code := ucutSeq 7 (Tryz.f7.body.getD .skip)

end Go.Proofs.YteagdcgmmdiakaaGreat
