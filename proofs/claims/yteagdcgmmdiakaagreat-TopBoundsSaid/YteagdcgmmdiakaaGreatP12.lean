/-
  The parts of a ship, as the tops have them; valid.
  The parts of a ship as an argument, opened; two ranges; numbers.
  Conditions: each theorem's own premises.
-/
import Derived.Test.YteagdcgmmdiakaaGreatP10
import Derived.Test.YteagdcgmmdiakaaGreatP11
import Derived.Test.YteagdcgmmdiakaaGreatP08
namespace Go.Proofs.YteagdcgmmdiakaaGreat
set_option linter.unusedSimpArgs false
set_option linter.unusedVariables false
open Go.RowKit
set_option maxRecDepth 100000
set_option maxHeartbeats 4000000
attribute [local go_sem] Instr.field asAgg Soft.upon Soft.upon0 Soft.stepC Soft.BW.cell_if Soft.BW.frozen_if Soft.cell_alloc_if Soft.frozen_alloc_if

/-- A ship's parts. -/
structure Pa where
  ship : Sh
  holds : Sl Ho
  fills : Sl Fi
  tanks : Sl Tk
  levels : Sl Lv
  most : Int

structure Pa.At (w : World) (P : Pa) : Prop where
  ship : P.ship.At w
  holds : HsAt w P.holds
  fills : FsAt w P.fills
  tanks : TsAt w P.tanks
  levels : LsAt w P.levels
theorem Pa.At.same {w w' : World} {P : Pa} (h : P.At w) (hb : Below w.heap.size w w') : P.At w' :=
  ⟨h.ship.same hb, h.holds.same hb, h.fills.same hb, h.tanks.same hb, h.levels.same hb⟩

/-- What valid asks. -/
structure PartsOk (P : Pa) : Prop where
  ship : ShipOk P.ship
  load : (loadE P.holds.xs P.fills.xs P.tanks.xs P.levels.xs).1 = 0
  most0 : 0 ≤ P.most
  most1 : P.most ≤ 900

theorem Top_valid (P : Pa) (w : World) (hP : P.At w) (v : Bool) (hv : v = true ↔ PartsOk P) :
    Calls Tryz.prog 6 #[.agg #[.int .i64 ((P).ship).len, .slice (((P).ship).dra).p (((P).ship).dra).n (((P).ship).dra).c, .slice (((P).ship).hei).p (((P).ship).hei).n (((P).ship).hei).c, .slice (((P).ship).cen).p (((P).ship).cen).n (((P).ship).cen).c, .slice (((P).ship).tri).p (((P).ship).tri).n (((P).ship).tri).c, .slice (((P).ship).flo).p (((P).ship).flo).n (((P).ship).flo).c, .slice (((P).ship).cross).p (((P).ship).cross).n (((P).ship).cross).c, .slice (((P).ship).sin).p (((P).ship).sin).n (((P).ship).sin).c, .slice (((P).ship).shi).p (((P).ship).shi).n (((P).ship).shi).c, .int .i64 ((((P).ship).light).mass).lo, .int .i64 ((((P).ship).light).mass).hi, .int .i64 ((((P).ship).light).along).lo, .int .i64 ((((P).ship).light).along).hi, .int .i64 ((((P).ship).light).high).lo, .int .i64 ((((P).ship).light).high).hi, .slice ((P).holds).p ((P).holds).n ((P).holds).c, .slice ((P).fills).p ((P).fills).n ((P).fills).c, .slice ((P).tanks).p ((P).tanks).n ((P).tanks).c, .slice ((P).levels).p ((P).levels).n ((P).levels).c, .int .i64 (P).most]] w fun e w' => e = .returned (.bool v) ∧ Below w.heap.size w w' := by
  have CL := Lib.hid (fun W (hW : P.At W) => hold_Load P.holds P.fills P.tanks P.levels W hW.holds hW.fills hW.tanks hW.levels)
  have CS := Lib.hid (fun W (hW : P.At W) => cond_CheckShip P.ship W hW.ship)
  have HP := Lib.hid hP
  have hne : ¬PartsOk P → v = false := fun h => by cases hh : v with | false => rfl | true => exact absurd (hv.1 hh) h
  have hyes : PartsOk P → v = true := hv.2
  clear hv hP
  generalize hE : loadE P.holds.xs P.fills.xs P.tanks.xs P.levels.xs = E at *
  have hE1 : PartsOk P → E.1 = 0 := fun h => by rw [← hE]; exact h.load
  by_cases c1 : shipErr P.ship = 0
  · have c1' := shipErr_zero c1
    by_cases c2 : E.1 = 0
    · by_cases c3 : 0 ≤ P.most
      · have hv : v = decide (P.most ≤ 900) := by
          by_cases c4 : P.most ≤ 900
          · rw [hyes ⟨c1', by rw [hE]; exact c2, c3, c4⟩, decide_eq_true c4]
          · rw [hne (fun h => c4 h.most1), decide_eq_false c4]
        clear hne hyes hE1 hE c1'
        subst hv
        have d2 : (E.1 == 0) = true := by rw [c2]; rfl
        go_enter Tryz.func6, Tryz.ntmps6
        go_wp2_with (first | (go_at_call 13; (with_reducible refine (CL.out _ (HP.out.same (by (with_reducible repeat (first | exact blr _ | refine bla ?_ _ | refine blw _ ?_ | refine bld ?_ | refine bln _ ?_ | refine bls ?_ _ | refine blt ?_))))).mono ?_); rintro e w_ ⟨p, cc, rfl, hws, hb_, hpc⟩; obtain ⟨y1, rfl⟩ := Soft.BW.mk hb_; clear hb_ hws hpc) | (go_at_call 14; (with_reducible refine (CS.out _ (HP.out.same (by (with_reducible repeat (first | exact blr _ | refine bla ?_ _ | refine blw _ ?_ | refine bld ?_ | refine bln _ ?_ | refine bls ?_ _ | refine blt ?_))))).mono ?_); rintro e w_ ⟨rfl, hb_⟩; obtain ⟨y2, rfl⟩ := Soft.BW.mk hb_; clear hb_))
        all_goals
          go_ret
          refine ⟨ret_bool (by simp; try omega), ?_⟩
          (with_reducible repeat (first | exact blr _ | refine bla ?_ _ | refine blw _ ?_ | refine bld ?_ | refine bln _ ?_ | refine bls ?_ _ | refine blt ?_))
      · have hv : v = false := hne (fun h => c3 h.most0)
        clear hne hyes hE1 hE c1'
        subst hv
        have d2 : (E.1 == 0) = true := by rw [c2]; rfl
        go_enter Tryz.func6, Tryz.ntmps6
        go_wp2_with (first | (go_at_call 13; (with_reducible refine (CL.out _ (HP.out.same (by (with_reducible repeat (first | exact blr _ | refine bla ?_ _ | refine blw _ ?_ | refine bld ?_ | refine bln _ ?_ | refine bls ?_ _ | refine blt ?_))))).mono ?_); rintro e w_ ⟨p, cc, rfl, hws, hb_, hpc⟩; obtain ⟨y1, rfl⟩ := Soft.BW.mk hb_; clear hb_ hws hpc) | (go_at_call 14; (with_reducible refine (CS.out _ (HP.out.same (by (with_reducible repeat (first | exact blr _ | refine bla ?_ _ | refine blw _ ?_ | refine bld ?_ | refine bln _ ?_ | refine bls ?_ _ | refine blt ?_))))).mono ?_); rintro e w_ ⟨rfl, hb_⟩; obtain ⟨y2, rfl⟩ := Soft.BW.mk hb_; clear hb_))
        all_goals
          go_ret
          refine ⟨ret_bool (by simp; try omega), ?_⟩
          (with_reducible repeat (first | exact blr _ | refine bla ?_ _ | refine blw _ ?_ | refine bld ?_ | refine bln _ ?_ | refine bls ?_ _ | refine blt ?_))
    · have hv : v = false := hne (fun h => c2 (hE1 h))
      clear hne hyes hE1 hE c1'
      subst hv
      have d2 : (E.1 == 0) = false := beq_eq_false_iff_ne.2 c2
      go_enter Tryz.func6, Tryz.ntmps6
      go_wp2_with (first | (go_at_call 13; (with_reducible refine (CL.out _ (HP.out.same (by (with_reducible repeat (first | exact blr _ | refine bla ?_ _ | refine blw _ ?_ | refine bld ?_ | refine bln _ ?_ | refine bls ?_ _ | refine blt ?_))))).mono ?_); rintro e w_ ⟨p, cc, rfl, hws, hb_, hpc⟩; obtain ⟨y1, rfl⟩ := Soft.BW.mk hb_; clear hb_ hws hpc) | (go_at_call 14; (with_reducible refine (CS.out _ (HP.out.same (by (with_reducible repeat (first | exact blr _ | refine bla ?_ _ | refine blw _ ?_ | refine bld ?_ | refine bln _ ?_ | refine bls ?_ _ | refine blt ?_))))).mono ?_); rintro e w_ ⟨rfl, hb_⟩; obtain ⟨y2, rfl⟩ := Soft.BW.mk hb_; clear hb_))
      all_goals
        go_ret
        refine ⟨ret_bool (by simp; try omega), ?_⟩
        (with_reducible repeat (first | exact blr _ | refine bla ?_ _ | refine blw _ ?_ | refine bld ?_ | refine bln _ ?_ | refine bls ?_ _ | refine blt ?_))
  · have hv : v = false := hne (fun h => c1 (shipErr_ok h.ship))
    clear hne hyes hE1 hE
    subst hv
    have d2 : (shipErr P.ship == 0) = false := beq_eq_false_iff_ne.2 c1
    go_enter Tryz.func6, Tryz.ntmps6
    go_wp2_with (first | (go_at_call 13; (with_reducible refine (CL.out _ (HP.out.same (by (with_reducible repeat (first | exact blr _ | refine bla ?_ _ | refine blw _ ?_ | refine bld ?_ | refine bln _ ?_ | refine bls ?_ _ | refine blt ?_))))).mono ?_); rintro e w_ ⟨p, cc, rfl, hws, hb_, hpc⟩; obtain ⟨y1, rfl⟩ := Soft.BW.mk hb_; clear hb_ hws hpc) | (go_at_call 14; (with_reducible refine (CS.out _ (HP.out.same (by (with_reducible repeat (first | exact blr _ | refine bla ?_ _ | refine blw _ ?_ | refine bld ?_ | refine bln _ ?_ | refine bls ?_ _ | refine blt ?_))))).mono ?_); rintro e w_ ⟨rfl, hb_⟩; obtain ⟨y2, rfl⟩ := Soft.BW.mk hb_; clear hb_))
    all_goals
      go_ret
      refine ⟨ret_bool (by simp; try omega), ?_⟩
      (with_reducible repeat (first | exact blr _ | refine bla ?_ _ | refine blw _ ?_ | refine bld ?_ | refine bln _ ?_ | refine bls ?_ _ | refine blt ?_))

end Go.Proofs.YteagdcgmmdiakaaGreat

namespace Go.Proofs.YteagdcgmmdiakaaGreat
set_option linter.unusedSimpArgs false
set_option linter.unusedVariables false
open Go.ChangeShapes Go.WideShapes Go.ChangeAt Go.RowKit Go.Joins
set_option maxRecDepth 100000
set_option maxHeartbeats 4000000

section
variable {H : Type} {enc : TypeId × Value → H} {W : World} {base : Nat}

theorem cellsCs : Tryz.prog.cellsOf 25 = 1 := by kernel_rfl
theorem cellsWt : Tryz.prog.cellsOf 29 = 6 := by kernel_rfl
theorem cellsSh : Tryz.prog.cellsOf 31 = 15 := by kernel_rfl
theorem cellsHs : Tryz.prog.cellsOf 32 = 1 := by kernel_rfl
theorem cellsFs : Tryz.prog.cellsOf 33 = 1 := by kernel_rfl
theorem cellsTs : Tryz.prog.cellsOf 34 = 1 := by kernel_rfl
theorem cellsLs : Tryz.prog.cellsOf 35 = 1 := by kernel_rfl

theorem open_cr {fuel : Nat} {l : List Value} {x : DataW H × List MemPlace} (hf : DataW.trod enc Tryz.prog W 0 (fun _ => true) true fuel 80 l = some x) (hsz : l.length = 2)
    (hw : ∀ n ∈ x.1.weights Tryz.prog 80, n ≤ reachBytes) : ∃ q : Cr, l = crC q ∧ q.arms.At W := by
  obtain ⟨xs, n, _, hx, _, hl, hg⟩ := DataW.trod_struct Tryz.underlying80 hf
  match l, hsz with
  | [c0, c1], _ =>
    match xs, hl with
    | [y0, y1], _ =>
      subst hx
      have t0 := hg 0 _ rfl
      have t1 := hg 1 _ rfl
      simp [Value.cells, cellsInt, cellsTb] at t0 t1
      obtain ⟨i0, e0, _, _⟩ := DataW.trod_int Tryz.underlying3 t0
      obtain ⟨s1, e1, a1⟩ := open_tab t1 (fun n hn => hw n (by simp only [DataW.weights, Tryz.underlying80]; exact DataW.weights_mem_each (j := 1) rfl rfl n hn))
      simp at e0 e1
      subst e0 e1
      exact ⟨⟨i0, s1⟩, rfl, a1⟩
theorem open_cs {fuel : Nat} {cs : List Value} {x : DataW H × List MemPlace} (hf : DataW.trod enc Tryz.prog W 0 (fun _ => true) true fuel 25 cs = some x) (hw : ∀ n ∈ x.1.weights Tryz.prog 25, n ≤ reachBytes) :
    ∃ s : Sl Cr, cs = [.slice s.p s.n s.c] ∧ CsAt W s :=
  open_rows Tryz.underlying25 (by kernel_rfl : Tryz.prog.cellsOf 80 = 2) (by decide) crC (fun q => q.arms.At W) (fun n cs y h1 h2 h3 => open_cr h1 h2 h3) hf hw

theorem open_wt {fuel : Nat} {l : List Value} {x : DataW H × List MemPlace} (hf : DataW.trod enc Tryz.prog W 0 (fun _ => true) true fuel 29 l = some x) (hsz : l.length = 6) : ∃ q : Wt, l = wtC q := by
  obtain ⟨xs, n, _, hx, _, hl, hg⟩ := DataW.trod_struct Tryz.underlying29 hf
  match l, hsz with
  | [c0, c1, c2, c3, c4, c5], _ =>
    match xs, hl with
    | [y0, y1, y2], _ =>
      have t0 := hg 0 _ rfl
      have t1 := hg 1 _ rfl
      have t2 := hg 2 _ rfl
      simp [Value.cells, cellsRg] at t0 t1 t2
      obtain ⟨r0, e0⟩ := open_rng t0
      obtain ⟨r1, e1⟩ := open_rng t1
      obtain ⟨r2, e2⟩ := open_rng t2
      simp at e0 e1 e2
      obtain ⟨rfl, rfl⟩ := e0
      obtain ⟨rfl, rfl⟩ := e1
      obtain ⟨rfl, rfl⟩ := e2
      exact ⟨⟨r0, r1, r2⟩, rfl⟩

theorem open_sh {fuel : Nat} {l : List Value} {x : DataW H × List MemPlace} (hf : DataW.trod enc Tryz.prog W 0 (fun _ => true) true fuel 31 l = some x) (hsz : l.length = 15)
    (hw : ∀ n ∈ x.1.weights Tryz.prog 31, n ≤ reachBytes) : ∃ q : Sh, l = [.int .i64 (q).len, .slice ((q).dra).p ((q).dra).n ((q).dra).c, .slice ((q).hei).p ((q).hei).n ((q).hei).c, .slice ((q).cen).p ((q).cen).n ((q).cen).c, .slice ((q).tri).p ((q).tri).n ((q).tri).c, .slice ((q).flo).p ((q).flo).n ((q).flo).c, .slice ((q).cross).p ((q).cross).n ((q).cross).c, .slice ((q).sin).p ((q).sin).n ((q).sin).c, .slice ((q).shi).p ((q).shi).n ((q).shi).c, .int .i64 (((q).light).mass).lo, .int .i64 (((q).light).mass).hi, .int .i64 (((q).light).along).lo, .int .i64 (((q).light).along).hi, .int .i64 (((q).light).high).lo, .int .i64 (((q).light).high).hi] ∧ q.At W := by
  obtain ⟨xs, n, _, hx, _, hl, hg⟩ := DataW.trod_struct Tryz.underlying31 hf
  match l, hsz with
  | [c0, c1, c2, c3, c4, c5, c6, c7, c8, c9, c10, c11, c12, c13, c14], _ =>
    match xs, hl with
    | [y0, y1, y2, y3, y4, y5, y6, y7, y8, y9], _ =>
      subst hx
      have t0 := hg 0 _ rfl
      have t1 := hg 1 _ rfl
      have t2 := hg 2 _ rfl
      have t3 := hg 3 _ rfl
      have t4 := hg 4 _ rfl
      have t5 := hg 5 _ rfl
      have t6 := hg 6 _ rfl
      have t7 := hg 7 _ rfl
      have t8 := hg 8 _ rfl
      have t9 := hg 9 _ rfl
      simp [Value.cells, cellsInt, cellsTb, cellsCs, cellsWt] at t0 t1 t2 t3 t4 t5 t6 t7 t8 t9
      obtain ⟨i0, e0, _, _⟩ := DataW.trod_int Tryz.underlying3 t0
      obtain ⟨s1, e1, a1⟩ := open_tab t1 (fun n hn => hw n (by simp only [DataW.weights, Tryz.underlying31]; exact DataW.weights_mem_each (j := 1) rfl rfl n hn))
      obtain ⟨s2, e2, a2⟩ := open_tab t2 (fun n hn => hw n (by simp only [DataW.weights, Tryz.underlying31]; exact DataW.weights_mem_each (j := 2) rfl rfl n hn))
      obtain ⟨s3, e3, a3⟩ := open_tab t3 (fun n hn => hw n (by simp only [DataW.weights, Tryz.underlying31]; exact DataW.weights_mem_each (j := 3) rfl rfl n hn))
      obtain ⟨s4, e4, a4⟩ := open_tab t4 (fun n hn => hw n (by simp only [DataW.weights, Tryz.underlying31]; exact DataW.weights_mem_each (j := 4) rfl rfl n hn))
      obtain ⟨s5, e5, a5⟩ := open_tab t5 (fun n hn => hw n (by simp only [DataW.weights, Tryz.underlying31]; exact DataW.weights_mem_each (j := 5) rfl rfl n hn))
      obtain ⟨s6, e6, a6⟩ := open_cs t6 (fun n hn => hw n (by simp only [DataW.weights, Tryz.underlying31]; exact DataW.weights_mem_each (j := 6) rfl rfl n hn))
      obtain ⟨s7, e7, a7⟩ := open_tab t7 (fun n hn => hw n (by simp only [DataW.weights, Tryz.underlying31]; exact DataW.weights_mem_each (j := 7) rfl rfl n hn))
      obtain ⟨s8, e8, a8⟩ := open_tab t8 (fun n hn => hw n (by simp only [DataW.weights, Tryz.underlying31]; exact DataW.weights_mem_each (j := 8) rfl rfl n hn))
      obtain ⟨q9, e9⟩ := open_wt t9 rfl
      simp at e0 e1 e2 e3 e4 e5 e6 e7 e8
      simp [wtC] at e9
      obtain ⟨rfl, rfl, rfl, rfl, rfl, rfl⟩ := e9
      subst e0 e1 e2 e3 e4 e5 e6 e7 e8
      exact ⟨⟨i0, s1, s2, s3, s4, s5, s6, s7, s8, q9⟩, rfl, a1, a2, a3, a4, a5, a6, a7, a8⟩

theorem open_parts {v : Value} {d : DataW H} {p : List MemPlace} (hv : Value.okWide Tryz.prog W .any base 37 v) (h : DataW.Trod enc Tryz.prog W 0 (fun _ => true) true 37 v d p)
    (hw : ∀ n ∈ d.weights Tryz.prog 37, n ≤ reachBytes) : ∃ q : Pa, v = .agg #[.int .i64 ((q).ship).len, .slice (((q).ship).dra).p (((q).ship).dra).n (((q).ship).dra).c, .slice (((q).ship).hei).p (((q).ship).hei).n (((q).ship).hei).c, .slice (((q).ship).cen).p (((q).ship).cen).n (((q).ship).cen).c, .slice (((q).ship).tri).p (((q).ship).tri).n (((q).ship).tri).c, .slice (((q).ship).flo).p (((q).ship).flo).n (((q).ship).flo).c, .slice (((q).ship).cross).p (((q).ship).cross).n (((q).ship).cross).c, .slice (((q).ship).sin).p (((q).ship).sin).n (((q).ship).sin).c, .slice (((q).ship).shi).p (((q).ship).shi).n (((q).ship).shi).c, .int .i64 ((((q).ship).light).mass).lo, .int .i64 ((((q).ship).light).mass).hi, .int .i64 ((((q).ship).light).along).lo, .int .i64 ((((q).ship).light).along).hi, .int .i64 ((((q).ship).light).high).lo, .int .i64 ((((q).ship).light).high).hi, .slice ((q).holds).p ((q).holds).n ((q).holds).c, .slice ((q).fills).p ((q).fills).n ((q).fills).c, .slice ((q).tanks).p ((q).tanks).n ((q).tanks).c, .slice ((q).levels).p ((q).levels).n ((q).levels).c, .int .i64 (q).most] ∧ q.At W := by
  obtain ⟨cs, rfl, hsz⟩ := okWide_struct Tryz.underlying37 hv
  obtain ⟨fuel, hf⟩ := h
  obtain ⟨xs, n, _, hx, _, hl, hg⟩ := DataW.trod_struct Tryz.underlying37 hf
  rw [show Tryz.prog.cellsOf 37 = 20 by kernel_rfl] at hsz
  obtain ⟨l⟩ := cs
  match l, hsz with
  | [c0, c1, c2, c3, c4, c5, c6, c7, c8, c9, c10, c11, c12, c13, c14, c15, c16, c17, c18, c19], _ =>
    match xs, hl with
    | [y0, y1, y2, y3, y4, y5], _ =>
      simp only [Prod.mk.injEq] at hx
      obtain ⟨rfl, _⟩ := hx
      have t0 := hg 0 _ rfl
      have t1 := hg 1 _ rfl
      have t2 := hg 2 _ rfl
      have t3 := hg 3 _ rfl
      have t4 := hg 4 _ rfl
      have t5 := hg 5 _ rfl
      simp [Value.cells, cellsInt, cellsSh, cellsHs, cellsFs, cellsTs, cellsLs] at t0 t1 t2 t3 t4 t5
      obtain ⟨S, e0, a0⟩ := open_sh t0 rfl (fun n hn => hw n (by simp only [DataW.weights, Tryz.underlying37]; exact DataW.weights_mem_each (j := 0) rfl rfl n hn))
      obtain ⟨s1, e1, a1⟩ := open_hs t1 (fun n hn => hw n (by simp only [DataW.weights, Tryz.underlying37]; exact DataW.weights_mem_each (j := 1) rfl rfl n hn))
      obtain ⟨s2, e2, a2⟩ := open_fs t2 (fun n hn => hw n (by simp only [DataW.weights, Tryz.underlying37]; exact DataW.weights_mem_each (j := 2) rfl rfl n hn))
      obtain ⟨s3, e3, a3⟩ := open_ts t3 (fun n hn => hw n (by simp only [DataW.weights, Tryz.underlying37]; exact DataW.weights_mem_each (j := 3) rfl rfl n hn))
      obtain ⟨s4, e4, a4⟩ := open_ls t4 (fun n hn => hw n (by simp only [DataW.weights, Tryz.underlying37]; exact DataW.weights_mem_each (j := 4) rfl rfl n hn))
      obtain ⟨i5, e5, _, _⟩ := DataW.trod_int Tryz.underlying3 t5
      simp at e1 e2 e3 e4 e5
      simp only [List.cons.injEq, and_true] at e0
      obtain ⟨rfl, rfl, rfl, rfl, rfl, rfl, rfl, rfl, rfl, rfl, rfl, rfl, rfl, rfl, rfl⟩ := e0
      subst e1 e2 e3 e4 e5
      exact ⟨⟨S, s1, s2, s3, s4, i5⟩, rfl, a0, a1, a2, a3, a4⟩

theorem open_ints1 {v : Value} {d : DataW H} {p : List MemPlace} (hv : Value.okWide Tryz.prog W .any base 39 v) (h : DataW.Trod enc Tryz.prog W 0 (fun _ => true) true 39 v d p)
    (hw : ∀ n ∈ d.weights Tryz.prog 39, n ≤ reachBytes) : ∃ s : Is, v = .slice s.p s.n s.c ∧ s.At W := by
  obtain ⟨a0, len, cap, rfl⟩ := okWide_slice Tryz.underlying39 hv
  obtain ⟨fuel, hf⟩ := h
  obtain ⟨s, e, hs⟩ := open_is hf hw
  simp only [Value.cells, List.cons.injEq, and_true] at e
  exact ⟨s, e, hs⟩

end

end Go.Proofs.YteagdcgmmdiakaaGreat
