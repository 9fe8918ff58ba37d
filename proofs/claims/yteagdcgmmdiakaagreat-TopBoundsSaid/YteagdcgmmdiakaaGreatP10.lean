/-
  cond: CheckShip.
  Conditions: each theorem's own premises.
-/
import Derived.Test.YteagdcgmmdiakaaGreatP09
namespace Go.Proofs.YteagdcgmmdiakaaGreat
set_option linter.unusedSimpArgs false
set_option linter.unusedVariables false
open Go.RowKit
set_option maxRecDepth 100000
set_option maxHeartbeats 4000000
attribute [local go_sem] Instr.field asAgg Soft.upon Soft.upon0 Soft.stepC Soft.BW.cell_if Soft.BW.frozen_if Soft.cell_alloc_if Soft.frozen_alloc_if
attribute [local irreducible] Soft.wpSoft Soft.wpMix

theorem vessel_drafts (S : Sh) (w : World) :
    Calls Tryz.prog 89 #[.agg #[.int .i64 (S).len, .slice ((S).dra).p ((S).dra).n ((S).dra).c, .slice ((S).hei).p ((S).hei).n ((S).hei).c, .slice ((S).cen).p ((S).cen).n ((S).cen).c, .slice ((S).tri).p ((S).tri).n ((S).tri).c, .slice ((S).flo).p ((S).flo).n ((S).flo).c, .slice ((S).cross).p ((S).cross).n ((S).cross).c, .slice ((S).sin).p ((S).sin).n ((S).sin).c, .slice ((S).shi).p ((S).shi).n ((S).shi).c, .int .i64 (((S).light).mass).lo, .int .i64 (((S).light).mass).hi, .int .i64 (((S).light).along).lo, .int .i64 (((S).light).along).hi, .int .i64 (((S).light).high).lo, .int .i64 (((S).light).high).hi]] w fun e w' => e = .returned (.agg #[.slice (S.dra).p (S.dra).n (S.dra).c]) ∧ Below w.heap.size w w' := by
  go_enter Tryz.func89, Tryz.ntmps89
  go_wp2
  refine bodyPost_ret (v := .agg #[.slice (S.dra).p (S.dra).n (S.dra).c]) (by simp [results, Tryz.results89, go_sem]) rfl ?_
  refine ⟨rfl, ?_⟩
  (with_reducible repeat (first | exact blr _ | refine bla ?_ _ | refine blw _ ?_ | refine bld ?_ | refine bln _ ?_ | refine bls ?_ _ | refine blt ?_))
theorem vessel_heights (S : Sh) (w : World) :
    Calls Tryz.prog 90 #[.agg #[.int .i64 (S).len, .slice ((S).dra).p ((S).dra).n ((S).dra).c, .slice ((S).hei).p ((S).hei).n ((S).hei).c, .slice ((S).cen).p ((S).cen).n ((S).cen).c, .slice ((S).tri).p ((S).tri).n ((S).tri).c, .slice ((S).flo).p ((S).flo).n ((S).flo).c, .slice ((S).cross).p ((S).cross).n ((S).cross).c, .slice ((S).sin).p ((S).sin).n ((S).sin).c, .slice ((S).shi).p ((S).shi).n ((S).shi).c, .int .i64 (((S).light).mass).lo, .int .i64 (((S).light).mass).hi, .int .i64 (((S).light).along).lo, .int .i64 (((S).light).along).hi, .int .i64 (((S).light).high).lo, .int .i64 (((S).light).high).hi]] w fun e w' => e = .returned (.agg #[.slice (S.hei).p (S.hei).n (S.hei).c]) ∧ Below w.heap.size w w' := by
  go_enter Tryz.func90, Tryz.ntmps90
  go_wp2
  refine bodyPost_ret (v := .agg #[.slice (S.hei).p (S.hei).n (S.hei).c]) (by simp [results, Tryz.results90, go_sem]) rfl ?_
  refine ⟨rfl, ?_⟩
  (with_reducible repeat (first | exact blr _ | refine bla ?_ _ | refine blw _ ?_ | refine bld ?_ | refine bln _ ?_ | refine bls ?_ _ | refine blt ?_))
theorem vessel_centres (S : Sh) (w : World) :
    Calls Tryz.prog 91 #[.agg #[.int .i64 (S).len, .slice ((S).dra).p ((S).dra).n ((S).dra).c, .slice ((S).hei).p ((S).hei).n ((S).hei).c, .slice ((S).cen).p ((S).cen).n ((S).cen).c, .slice ((S).tri).p ((S).tri).n ((S).tri).c, .slice ((S).flo).p ((S).flo).n ((S).flo).c, .slice ((S).cross).p ((S).cross).n ((S).cross).c, .slice ((S).sin).p ((S).sin).n ((S).sin).c, .slice ((S).shi).p ((S).shi).n ((S).shi).c, .int .i64 (((S).light).mass).lo, .int .i64 (((S).light).mass).hi, .int .i64 (((S).light).along).lo, .int .i64 (((S).light).along).hi, .int .i64 (((S).light).high).lo, .int .i64 (((S).light).high).hi]] w fun e w' => e = .returned (.agg #[.slice (S.cen).p (S.cen).n (S.cen).c]) ∧ Below w.heap.size w w' := by
  go_enter Tryz.func91, Tryz.ntmps91
  go_wp2
  refine bodyPost_ret (v := .agg #[.slice (S.cen).p (S.cen).n (S.cen).c]) (by simp [results, Tryz.results91, go_sem]) rfl ?_
  refine ⟨rfl, ?_⟩
  (with_reducible repeat (first | exact blr _ | refine bla ?_ _ | refine blw _ ?_ | refine bld ?_ | refine bln _ ?_ | refine bls ?_ _ | refine blt ?_))
theorem vessel_trims (S : Sh) (w : World) :
    Calls Tryz.prog 92 #[.agg #[.int .i64 (S).len, .slice ((S).dra).p ((S).dra).n ((S).dra).c, .slice ((S).hei).p ((S).hei).n ((S).hei).c, .slice ((S).cen).p ((S).cen).n ((S).cen).c, .slice ((S).tri).p ((S).tri).n ((S).tri).c, .slice ((S).flo).p ((S).flo).n ((S).flo).c, .slice ((S).cross).p ((S).cross).n ((S).cross).c, .slice ((S).sin).p ((S).sin).n ((S).sin).c, .slice ((S).shi).p ((S).shi).n ((S).shi).c, .int .i64 (((S).light).mass).lo, .int .i64 (((S).light).mass).hi, .int .i64 (((S).light).along).lo, .int .i64 (((S).light).along).hi, .int .i64 (((S).light).high).lo, .int .i64 (((S).light).high).hi]] w fun e w' => e = .returned (.agg #[.slice (S.tri).p (S.tri).n (S.tri).c]) ∧ Below w.heap.size w w' := by
  go_enter Tryz.func92, Tryz.ntmps92
  go_wp2
  refine bodyPost_ret (v := .agg #[.slice (S.tri).p (S.tri).n (S.tri).c]) (by simp [results, Tryz.results92, go_sem]) rfl ?_
  refine ⟨rfl, ?_⟩
  (with_reducible repeat (first | exact blr _ | refine bla ?_ _ | refine blw _ ?_ | refine bld ?_ | refine bln _ ?_ | refine bls ?_ _ | refine blt ?_))
theorem vessel_flood (S : Sh) (w : World) :
    Calls Tryz.prog 93 #[.agg #[.int .i64 (S).len, .slice ((S).dra).p ((S).dra).n ((S).dra).c, .slice ((S).hei).p ((S).hei).n ((S).hei).c, .slice ((S).cen).p ((S).cen).n ((S).cen).c, .slice ((S).tri).p ((S).tri).n ((S).tri).c, .slice ((S).flo).p ((S).flo).n ((S).flo).c, .slice ((S).cross).p ((S).cross).n ((S).cross).c, .slice ((S).sin).p ((S).sin).n ((S).sin).c, .slice ((S).shi).p ((S).shi).n ((S).shi).c, .int .i64 (((S).light).mass).lo, .int .i64 (((S).light).mass).hi, .int .i64 (((S).light).along).lo, .int .i64 (((S).light).along).hi, .int .i64 (((S).light).high).lo, .int .i64 (((S).light).high).hi]] w fun e w' => e = .returned (.agg #[.slice (S.flo).p (S.flo).n (S.flo).c]) ∧ Below w.heap.size w w' := by
  go_enter Tryz.func93, Tryz.ntmps93
  go_wp2
  refine bodyPost_ret (v := .agg #[.slice (S.flo).p (S.flo).n (S.flo).c]) (by simp [results, Tryz.results93, go_sem]) rfl ?_
  refine ⟨rfl, ?_⟩
  (with_reducible repeat (first | exact blr _ | refine bla ?_ _ | refine blw _ ?_ | refine bld ?_ | refine bln _ ?_ | refine bls ?_ _ | refine blt ?_))

theorem cond_curves (w : World) : Calls Tryz.prog 41 #[] w fun e w' => e = .returned (.agg #[.func (.func 89) #[] #[], .int .i64 (-1000000000), .int .i64 1000000000, .func (.func 90) #[] #[], .int .i64 0, .int .i64 1000000, .func (.func 91) #[] #[], .int .i64 (-1000000), .int .i64 1000000, .func (.func 92) #[] #[], .int .i64 1, .int .i64 1000000000, .func (.func 93) #[] #[], .int .i64 0, .int .i64 1000000000]) ∧ Below w.heap.size w w' := by
  go_enter Tryz.func41, Tryz.ntmps41
  go_wp2
  refine bodyPost_ret (v := .agg #[.func (.func 89) #[] #[], .int .i64 (-1000000000), .int .i64 1000000000, .func (.func 90) #[] #[], .int .i64 0, .int .i64 1000000, .func (.func 91) #[] #[], .int .i64 (-1000000), .int .i64 1000000, .func (.func 92) #[] #[], .int .i64 1, .int .i64 1000000000, .func (.func 93) #[] #[], .int .i64 0, .int .i64 1000000000]) (by simp [results, Tryz.results41, go_sem]) rfl ?_
  refine ⟨rfl, ?_⟩
  (with_reducible repeat (first | exact blr _ | refine bla ?_ _ | refine blw _ ?_ | refine bld ?_ | refine bln _ ?_ | refine bls ?_ _ | refine blt ?_))

/-- Where a cross curve's displacement begins. -/
def prevT (l : List Cr) (k : Nat) : Int := if k = 0 then -1 else (crv l (k - 1)).tonnes
/-- A valid ship. -/
structure ShipOk (S : Sh) : Prop where
  len : 1 ≤ S.len ∧ S.len ≤ 1000000
  n : 1 ≤ S.cross.xs.length ∧ S.cross.xs.length ≤ 12
  light : isWt S.light
  mass : 1000 ≤ S.light.mass.lo
  dra : isTab S.dra.ps (-1000000000) 1000000000 1000000
  hei : isTab S.hei.ps 0 1000000 1000000
  cen : isTab S.cen.ps (-1000000) 1000000 1000000
  tri : isTab S.tri.ps 1 1000000000 1000000
  flo : isTab S.flo.ps 0 1000000000 1000000
  cross : ∀ k, k < S.cross.xs.length → (prevT S.cross.xs k + 1 ≤ (crv S.cross.xs k).tonnes ∧ (crv S.cross.xs k).tonnes ≤ 1000000) ∧ isTab (crv S.cross.xs k).arms.ps (-1000000) 1000000 900
  sin : isTab S.sin.ps 0 1000000 900
  shi : isTab S.shi.ps 0 10000 900
  ang : angLo S ≤ angHi S
open Classical in
noncomputable def shipErr (S : Sh) : Int := if ShipOk S then 0 else 30
theorem shipErr_ok {S : Sh} (h : ShipOk S) : shipErr S = 0 := if_pos h
theorem shipErr_bad {S : Sh} (h : ¬ShipOk S) : shipErr S = 30 := if_neg h
theorem shipErr_zero {S : Sh} (h : shipErr S = 0) : ShipOk S := by
  apply Classical.byContradiction
  intro hc
  rw [shipErr_bad hc] at h
  cases h

theorem upr_ok {S : Sh} (h1 : TabOk S.sin.ps) (h2 : TabOk S.shi.ps) (h3 : ∀ k, k < S.cross.xs.length → TabOk (crv S.cross.xs k).arms.ps) : UprOk S := fun i hi => by
  unfold uprT uprK tbv
  match i with
  | 0 => exact h1
  | 1 => exact h2
  | j + 2 =>
    have hj : j < S.cross.xs.length := by omega
    have e : (([S.sin, S.shi] ++ upto (fun j => (crv S.cross.xs j).arms) S.cross.xs.length)[j + 2]?).getD default = (crv S.cross.xs j).arms := by
      simp [upto, List.getElem?_append_right, List.getElem?_range hj, hj]
    rw [e]
    exact h3 j hj

/-- The tables over the displacement, with their limits. -/
def cvP (S : Sh) (k : Nat) : Prop :=
  if k = 0 then isTab S.dra.ps (-1000000000) 1000000000 1000000 else if k = 1 then isTab S.hei.ps 0 1000000 1000000 else if k = 2 then isTab S.cen.ps (-1000000) 1000000 1000000 else if k = 3 then isTab S.tri.ps 1 1000000000 1000000 else isTab S.flo.ps 0 1000000000 1000000
def crP (S : Sh) (k : Nat) : Prop := (prevT S.cross.xs k + 1 ≤ (crv S.cross.xs k).tonnes ∧ (crv S.cross.xs k).tonnes ≤ 1000000) ∧ isTab (crv S.cross.xs k).arms.ps (-1000000) 1000000 900
theorem prevT_succ (l : List Cr) (k : Nat) : prevT l (k + 1) = (crv l k).tonnes := by unfold prevT; rw [if_neg (by omega)]; rfl

theorem cf_enter {P : Program} {f : FuncId} {fn : Func} {c : Code} (hf : P.funcs[f]? = some fn) (hname : (fn.name == "runtime.NumGoroutine") = false) (hb : fn.body = some c) (args : Array Value) (w : World) :
    Sem.run P (callFunc f args) w = .ok (.enter f args) w := by
  have h1 : fn.name ≠ "runtime.NumGoroutine" := by simpa using hname
  simp [callFunc, hf, h1, hb]

/-- A ship's cells. -/
def shipA (S : Sh) : Array Value := #[.int .i64 (S).len, .slice ((S).dra).p ((S).dra).n ((S).dra).c, .slice ((S).hei).p ((S).hei).n ((S).hei).c, .slice ((S).cen).p ((S).cen).n ((S).cen).c, .slice ((S).tri).p ((S).tri).n ((S).tri).c, .slice ((S).flo).p ((S).flo).n ((S).flo).c, .slice ((S).cross).p ((S).cross).n ((S).cross).c, .slice ((S).sin).p ((S).sin).n ((S).sin).c, .slice ((S).shi).p ((S).shi).n ((S).shi).c, .int .i64 (((S).light).mass).lo, .int .i64 (((S).light).mass).hi, .int .i64 (((S).light).along).lo, .int .i64 (((S).light).along).hi, .int .i64 (((S).light).high).lo, .int .i64 (((S).light).high).hi]

/-- What the loop over the tables over the displacement takes up in a round. -/
theorem cv_round (S : Sh) (k : Nat) (hk : k < 5) : ∃ (f : FuncId) (t : Tb) (lo hi : Int), (∀ args W, Sem.run Tryz.prog (callFunc f args) W = .ok (.enter f args) W) ∧ (∀ W : World, (Instr.index 106 (.agg #[.func (.func 89) #[] #[], .int .i64 (-1000000000), .int .i64 1000000000, .func (.func 90) #[] #[], .int .i64 0, .int .i64 1000000, .func (.func 91) #[] #[], .int .i64 (-1000000), .int .i64 1000000, .func (.func 92) #[] #[], .int .i64 1, .int .i64 1000000000, .func (.func 93) #[] #[], .int .i64 0, .int .i64 1000000000]) (.int .i64 k)).run Tryz.prog W = .ok (.agg #[.func (.func f) #[] #[], .int .i64 lo, .int .i64 hi]) W) ∧
    (∀ W : World, Calls Tryz.prog f #[.agg (shipA S)] W fun e w' => e = .returned (.agg #[.slice (t).p (t).n (t).c]) ∧ Below W.heap.size W w') ∧ (∀ W : World, S.At W → t.At W) ∧ (cvP S k ↔ isTab t.ps lo hi 1000000) := by
  match k, hk with
  | 0, _ => exact ⟨89, S.dra, _, _, cf_enter Tryz.func89 (by kernel_rfl) rfl, fun _ => by kernel_rfl, vessel_drafts S, fun W h => h.dra, Iff.rfl⟩
  | 1, _ => exact ⟨90, S.hei, _, _, cf_enter Tryz.func90 (by kernel_rfl) rfl, fun _ => by kernel_rfl, vessel_heights S, fun W h => h.hei, Iff.rfl⟩
  | 2, _ => exact ⟨91, S.cen, _, _, cf_enter Tryz.func91 (by kernel_rfl) rfl, fun _ => by kernel_rfl, vessel_centres S, fun W h => h.cen, Iff.rfl⟩
  | 3, _ => exact ⟨92, S.tri, _, _, cf_enter Tryz.func92 (by kernel_rfl) rfl, fun _ => by kernel_rfl, vessel_trims S, fun W h => h.tri, Iff.rfl⟩
  | 4, _ => exact ⟨93, S.flo, _, _, cf_enter Tryz.func93 (by kernel_rfl) rfl, fun _ => by kernel_rfl, vessel_flood S, fun W h => h.flo, Iff.rfl⟩
theorem ShipOk.cv {S : Sh} (h : ShipOk S) (k : Nat) : cvP S k := by
  unfold cvP
  split
  · exact h.dra
  · split
    · exact h.hei
    · split
      · exact h.cen
      · split
        · exact h.tri
        · exact h.flo

theorem prevT_in {S : Sh} : ∀ k, (∀ j, j < k → crP S j) → -1 ≤ prevT S.cross.xs k ∧ prevT S.cross.xs k ≤ 1000000
  | 0, _ => ⟨Int.le_refl _, by show (-1 : Int) ≤ 1000000; decide⟩
  | k + 1, h => by
    have ih := prevT_in k (fun j hj => h j (by omega))
    have := (h k (by omega)).1
    rw [prevT_succ]
    omega

theorem cond_CheckShip (S : Sh) (w : World) (hS : S.At w) :
    Calls Tryz.prog 14 #[.agg #[.int .i64 (S).len, .slice ((S).dra).p ((S).dra).n ((S).dra).c, .slice ((S).hei).p ((S).hei).n ((S).hei).c, .slice ((S).cen).p ((S).cen).n ((S).cen).c, .slice ((S).tri).p ((S).tri).n ((S).tri).c, .slice ((S).flo).p ((S).flo).n ((S).flo).c, .slice ((S).cross).p ((S).cross).n ((S).cross).c, .slice ((S).sin).p ((S).sin).n ((S).sin).c, .slice ((S).shi).p ((S).shi).n ((S).shi).c, .int .i64 (((S).light).mass).lo, .int .i64 (((S).light).mass).hi, .int .i64 (((S).light).along).lo, .int .i64 (((S).light).along).hi, .int .i64 (((S).light).high).lo, .int .i64 (((S).light).high).hi]] w fun e w' => e = .returned (.int .i64 (shipErr S)) ∧ Below w.heap.size w w' := by
  have hn : S.cross.xs.length = S.cross.n := hS.cross.1
  have HS := Lib.hid hS
  by_cases c1 : 1 ≤ S.len ∧ S.len ≤ 1000000
  rotate_left
  · have HE := Lib.hid (shipErr_bad (S := S) (fun h => c1 h.len))
    have C1 := Lib.hid c1; clear c1 hS
    go_enter Tryz.func14, Tryz.ntmps14
    go_wp2_with (go_at_call 39; (with_reducible refine (cond_isWithin _ _ _ _ false (decide_eq_false C1.out).symm).mono ?_); rintro e w_ ⟨rfl, hw_⟩; subst w_)
    go_ret
    refine ⟨ret_int HE.out.symm, ?_⟩
    (with_reducible repeat (first | exact blr _ | refine bla ?_ _ | refine blw _ ?_ | refine bld ?_ | refine bln _ ?_ | refine bls ?_ _ | refine blt ?_))
  by_cases c2 : (1 : Int) ≤ S.cross.n ∧ (S.cross.n : Int) ≤ 12
  rotate_left
  · have HE := Lib.hid (shipErr_bad (S := S) (fun h => c2 (by have := h.n; omega)))
    have C1 := Lib.hid c1; have C2 := Lib.hid c2; clear c1 c2 hS
    go_enter Tryz.func14, Tryz.ntmps14
    go_wp2_with (first | (go_at_call 39; (with_reducible refine (cond_isWithin S.len _ _ _ true (decide_eq_true C1.out).symm).mono ?_); rintro e w_ ⟨rfl, hw_⟩; subst w_) | (go_at_call 39; (with_reducible refine (cond_isWithin S.cross.n _ _ _ false (decide_eq_false C2.out).symm).mono ?_); rintro e w_ ⟨rfl, hw_⟩; subst w_))
    go_ret
    refine ⟨ret_int HE.out.symm, ?_⟩
    (with_reducible repeat (first | exact blr _ | refine bla ?_ _ | refine blw _ ?_ | refine bld ?_ | refine bln _ ?_ | refine bls ?_ _ | refine blt ?_))
  by_cases c3 : isWt S.light
  rotate_left
  · have HE := Lib.hid (shipErr_bad (S := S) (fun h => c3 h.light))
    have C1 := Lib.hid c1; have C2 := Lib.hid c2; have C3 := Lib.hid c3; clear c1 c2 c3 hS
    go_enter Tryz.func14, Tryz.ntmps14
    go_wp2_with (first | (go_at_call 39; (with_reducible refine (cond_isWithin S.len _ _ _ true (decide_eq_true C1.out).symm).mono ?_); rintro e w_ ⟨rfl, hw_⟩; subst w_) | (go_at_call 39; (with_reducible refine (cond_isWithin S.cross.n _ _ _ true (decide_eq_true C2.out).symm).mono ?_); rintro e w_ ⟨rfl, hw_⟩; subst w_) | (go_at_call 40; (with_reducible refine (cond_isWeight S.light _ false (decide_eq_false C3.out).symm).mono ?_); rintro e w_ ⟨rfl, hb_⟩; obtain ⟨y1, rfl⟩ := Soft.BW.mk hb_; clear hb_))
    go_ret
    refine ⟨ret_int HE.out.symm, ?_⟩
    (with_reducible repeat (first | exact blr _ | refine bla ?_ _ | refine blw _ ?_ | refine bld ?_ | refine bln _ ?_ | refine bls ?_ _ | refine blt ?_))
  by_cases c4 : S.light.mass.lo < 1000
  · have HE := Lib.hid (shipErr_bad (S := S) (fun h => by have := h.mass; omega))
    have C1 := Lib.hid c1; have C2 := Lib.hid c2; have C3 := Lib.hid c3; clear c1 c2 c3 hS
    go_enter Tryz.func14, Tryz.ntmps14
    go_wp2_with (first | (go_at_call 39; (with_reducible refine (cond_isWithin S.len _ _ _ true (decide_eq_true C1.out).symm).mono ?_); rintro e w_ ⟨rfl, hw_⟩; subst w_) | (go_at_call 39; (with_reducible refine (cond_isWithin S.cross.n _ _ _ true (decide_eq_true C2.out).symm).mono ?_); rintro e w_ ⟨rfl, hw_⟩; subst w_) | (go_at_call 40; (with_reducible refine (cond_isWeight S.light _ true (decide_eq_true C3.out).symm).mono ?_); rintro e w_ ⟨rfl, hb_⟩; obtain ⟨y1, rfl⟩ := Soft.BW.mk hb_; clear hb_))
    go_ret
    refine ⟨ret_int HE.out.symm, ?_⟩
    (with_reducible repeat (first | exact blr _ | refine bla ?_ _ | refine blw _ ?_ | refine bld ?_ | refine bln _ ?_ | refine bls ?_ _ | refine blt ?_))
  have C1 := Lib.hid c1; have C2 := Lib.hid c2; have C3 := Lib.hid c3; have C4 := Lib.hid c4
  clear c1 c2 c3 hS
  obtain ⟨b, o, hp, hb0, _⟩ := HS.out.cross.cells (by have := C2.out; omega)
  have HP := Lib.hid hp
  have GEN := Lib.hid (show shipA S = #[.int .i64 S.len, .slice (S.dra).p (S.dra).n (S.dra).c, .slice (S.hei).p (S.hei).n (S.hei).c, .slice (S.cen).p (S.cen).n (S.cen).c, .slice (S.tri).p (S.tri).n (S.tri).c, .slice (S.flo).p (S.flo).n (S.flo).c, .slice (some ⟨b, o, none⟩) S.cross.n S.cross.c, .slice (S.sin).p (S.sin).n (S.sin).c, .slice (S.shi).p (S.shi).n (S.shi).c, .int .i64 (S.light.mass).lo, .int .i64 (S.light.mass).hi, .int .i64 (S.light.along).lo, .int .i64 (S.light.along).hi, .int .i64 (S.light.high).lo, .int .i64 (S.light.high).hi] by unfold shipA; rw [hp])
  have CSI := Lib.hid (fun W (hW : S.At W) v hv => cond_isTable S.sin 0 1000000 900 W hW.sin v hv)
  have CSH := Lib.hid (fun W (hW : S.At W) v hv => cond_isTable S.shi 0 10000 900 W hW.shi v hv)
  have CAN := Lib.hid (fun W (hW : S.At W) h12 hok => (show Calls Tryz.prog 43 #[.agg (shipA S)] W fun e w' => e = .returned (.tuple #[.int .i64 (angLo S), .int .i64 (angHi S)]) ∧ Below W.heap.size W w' from cond_angles S W hW h12 hok))
  rw [hp]
  clear hp
  go_enter Tryz.func14, Tryz.ntmps14
  generalize Value.slice S.dra.p S.dra.n S.dra.c = v1 at GEN ⊢
  generalize Value.slice S.hei.p S.hei.n S.hei.c = v2 at GEN ⊢
  generalize Value.slice S.cen.p S.cen.n S.cen.c = v3 at GEN ⊢
  generalize Value.slice S.tri.p S.tri.n S.tri.c = v4 at GEN ⊢
  generalize Value.slice S.flo.p S.flo.n S.flo.c = v5 at GEN ⊢
  generalize Value.slice S.sin.p S.sin.n S.sin.c = v6 at GEN CSI ⊢
  generalize Value.slice S.shi.p S.shi.n S.shi.c = v7 at GEN CSH ⊢
  rw [GEN.out] at CAN
  go_wp2_with (first | (go_at_call 39; (with_reducible refine (cond_isWithin S.len _ _ _ true (decide_eq_true C1.out).symm).mono ?_); rintro e w_ ⟨rfl, hw_⟩; subst w_) | (go_at_call 39; (with_reducible refine (cond_isWithin S.cross.n _ _ _ true (decide_eq_true C2.out).symm).mono ?_); rintro e w_ ⟨rfl, hw_⟩; subst w_) | (go_at_call 40; (with_reducible refine (cond_isWeight S.light _ true (decide_eq_true C3.out).symm).mono ?_); rintro e w_ ⟨rfl, hb_⟩; obtain ⟨y1, rfl⟩ := Soft.BW.mk hb_; clear hb_) | (go_at_call 41; (with_reducible refine (cond_curves _).mono ?_); rintro e w_ ⟨rfl, hb_⟩; obtain ⟨y2, rfl⟩ := Soft.BW.mk hb_; clear hb_))
  have hblk : HasBlk y2.w w.heap.size #[.int .i64 S.len, v1, v2, v3, v4, v5, .slice (some ⟨b, o, none⟩) S.cross.n S.cross.c, v6, v7, .int .i64 (S.light.mass).lo, .int .i64 (S.light.mass).hi, .int .i64 (S.light.along).lo, .int .i64 (S.light.along).hi, .int .i64 (S.light.high).lo, .int .i64 (S.light.high).hi] 31 := HasBlk.below (HasBlk.below (Soft.heap_new w _) y1.below) y2.below
  have hbel : Below w.heap.size w y2.w := by (with_reducible repeat (first | exact blr _ | refine bla ?_ _ | refine blw _ ?_ | refine bld ?_ | refine bln _ ?_ | refine bls ?_ _ | refine blt ?_))
  clear c4
  generalize y2.w = W0 at *
  go_loopw [35] (fun i wr => ∃ k : Nat, k ≤ 5 ∧ i = .int .i64 k ∧ (∀ j, j < k → cvP S j) ∧ HasBlk wr w.heap.size #[.int .i64 S.len, v1, v2, v3, v4, v5, .slice (some ⟨b, o, none⟩) S.cross.n S.cross.c, v6, v7, .int .i64 (S.light.mass).lo, .int .i64 (S.light.mass).hi, .int .i64 (S.light.along).lo, .int .i64 (S.light.along).hi, .int .i64 (S.light.high).lo, .int .i64 (S.light.high).hi] 31 ∧ Below w.heap.size w wr) (fun i _ => 5 - (intOf i).toNat)
  case atStart => exact ⟨0, by omega, rfl, fun j hj => by omega, hblk, hbel⟩
  case round =>
    obtain ⟨k, hk, rfl, hall, hblk, hbel⟩ := hrel
    have HALL := Lib.hid hall; clear hall
    have x0 := (hblk).cell 0
    have x1 := (hblk).cell 1
    have x2 := (hblk).cell 2
    have x3 := (hblk).cell 3
    have x4 := (hblk).cell 4
    have x5 := (hblk).cell 5
    have x6 := (hblk).cell 6
    have x7 := (hblk).cell 7
    have x8 := (hblk).cell 8
    have x9 := (hblk).cell 9
    have x10 := (hblk).cell 10
    have x11 := (hblk).cell 11
    have x12 := (hblk).cell 12
    have x13 := (hblk).cell 13
    have x14 := (hblk).cell 14
    simp at x0 x1 x2 x3 x4 x5 x6 x7 x8 x9 x10 x11 x12 x13 x14
    have lx := Soft.LtH.mk (b := w.heap.size) (w := wr) (hblk).lt
    have HBLK := Lib.hid hblk; have HBEL := Lib.hid hbel; clear hblk hbel
    by_cases hlt : k < 5
    · obtain ⟨f, t, lo, hi, hcf, ix, hcv, hta, hiff⟩ := cv_round S k hlt
      have hk2 : (k : Int) < 5 := by omega
      rw [GEN.out] at hcv
      have CV := Lib.hid hcv; have HTA := Lib.hid hta
      clear hcv hta
      by_cases ct : isTab t.ps lo hi 1000000
      · have CT := Lib.hid (fun W (hW : t.At W) => cond_isTable t lo hi 1000000 W hW true (decide_eq_true ct).symm)
        have HNX := Lib.hid (show ∀ j, j < k + 1 → cvP S j from fun j hj => by
          by_cases e : j = k
          · subst e; exact hiff.2 ct
          · exact HALL.out j (by omega))
        clear ct HALL hiff
        go_wp2_with fail
        ((refine Soft.region_mix [(true, 0), (true, 1), (true, 2), (true, 4), (true, 5), (true, 6), (true, 7), (false, 3), (false, 8), (true, 9)] [] (by kernel_rfl) (by kernel_rfl) (by kernel_rfl) (by kernel_rfl) ?_; change Soft.wpMix _ _ _ _ [(true, _), (true, _), (true, _), (true, _), (true, _), (true, _), (true, _), (false, _), (false, _), (true, _)] _ _); (refine Soft.mix_q (fun K hK => ?_); go_simp; (try go_bits); first | (refine hK _ ?_; clear hK K) | (apply Exists.intro; refine ⟨fun x => ?_, hK _ ?_⟩; fail)); (refine Soft.mix_q (fun K hK => ?_); go_simp; (try go_bits); first | (refine hK _ ?_; clear hK K) | (apply Exists.intro; refine ⟨fun x => ?_, hK _ ?_⟩; fail)); (refine Soft.mix_q (fun K hK => ?_); go_simp; (try go_bits); first | (refine hK _ ?_; clear hK K) | (apply Exists.intro; refine ⟨fun x => ?_, hK _ ?_⟩; fail)); (refine Soft.mix_q (fun K hK => ?_); go_simp; (try go_bits); first | (refine hK _ ?_; clear hK K) | (apply Exists.intro; refine ⟨fun x => ?_, hK _ ?_⟩; fail)); (refine Soft.mix_q (fun K hK => ?_); go_simp; (try go_bits); first | (refine hK _ ?_; clear hK K) | (apply Exists.intro; refine ⟨fun x => ?_, hK _ ?_⟩; fail)); (refine Soft.mix_q (fun K hK => ?_); go_simp; (try go_bits); first | (refine hK _ ?_; clear hK K) | (apply Exists.intro; refine ⟨fun x => ?_, hK _ ?_⟩; fail)); (refine Soft.mix_q (fun K hK => ?_); go_simp; (try go_bits); first | (refine hK _ ?_; clear hK K) | (apply Exists.intro; refine ⟨fun x => ?_, hK _ ?_⟩; fail)); (refine Soft.mix_c (fun K hK => ?_); go_simp; (try go_bits); ((with_reducible refine (CV.out _).mono ?_); rintro e w_ ⟨rfl, hb_⟩; obtain ⟨y1, rfl⟩ := Soft.BW.mk hb_; clear hb_; refine ⟨_, rfl, (by first | with_reducible exact Soft.BW.below y1 | simpa using Soft.BW.below y1), hK _ _ ?_⟩); clear hK K); (refine Soft.mix_c (fun K hK => ?_); go_simp; (try go_bits); (go_at_call 42; (with_reducible refine (CT.out _ (HTA.out _ (HS.out.same (bel_step HBEL.out (show Below wr.heap.size wr _ by (with_reducible repeat (first | exact blr _ | refine bla ?_ _ | refine blw _ ?_ | refine bld ?_ | refine bln _ ?_ | refine bls ?_ _ | refine blt ?_))))))).mono ?_); rintro e w_ ⟨rfl, hb_⟩; obtain ⟨y2, rfl⟩ := Soft.BW.mk hb_; clear hb_; refine ⟨_, rfl, (by first | with_reducible exact Soft.BW.below y2 | simpa using Soft.BW.below y2), hK _ _ ?_⟩); clear hK K); (refine Soft.mix_q (fun K hK => ?_); go_simp; (try go_bits); first | (refine hK _ ?_; clear hK K) | (apply Exists.intro; refine ⟨fun x => ?_, hK _ ?_⟩; fail)); (refine Soft.mix_nil ?_; intro hbx; change wpList _ _ _ [] _ _))
        go_wp2_with fail
        go_roundw
        case rel => exact ⟨k + 1, by omega, by simp, HNX.out, HBLK.out.below (show Below wr.heap.size wr _ by (with_reducible repeat (first | exact blr _ | refine bla ?_ _ | refine blw _ ?_ | refine bld ?_ | refine bln _ ?_ | refine bls ?_ _ | refine blt ?_))), bel_step HBEL.out (show Below wr.heap.size wr _ by (with_reducible repeat (first | exact blr _ | refine bla ?_ _ | refine blw _ ?_ | refine bld ?_ | refine bln _ ?_ | refine bls ?_ _ | refine blt ?_)))⟩
        case measure => simp [intOf]; omega
      · have CT := Lib.hid (fun W (hW : t.At W) => cond_isTable t lo hi 1000000 W hW false (decide_eq_false ct).symm)
        have HE := Lib.hid (shipErr_bad (S := S) (fun h => ct (hiff.1 (h.cv k))))
        clear ct HALL hiff
        go_wp2_with fail
        ((refine Soft.region_mix [(true, 0), (true, 1), (true, 2), (true, 4), (true, 5), (true, 6), (true, 7), (false, 3), (false, 8), (true, 9)] [] (by kernel_rfl) (by kernel_rfl) (by kernel_rfl) (by kernel_rfl) ?_; change Soft.wpMix _ _ _ _ [(true, _), (true, _), (true, _), (true, _), (true, _), (true, _), (true, _), (false, _), (false, _), (true, _)] _ _); (refine Soft.mix_q (fun K hK => ?_); go_simp; (try go_bits); first | (refine hK _ ?_; clear hK K) | (apply Exists.intro; refine ⟨fun x => ?_, hK _ ?_⟩; fail)); (refine Soft.mix_q (fun K hK => ?_); go_simp; (try go_bits); first | (refine hK _ ?_; clear hK K) | (apply Exists.intro; refine ⟨fun x => ?_, hK _ ?_⟩; fail)); (refine Soft.mix_q (fun K hK => ?_); go_simp; (try go_bits); first | (refine hK _ ?_; clear hK K) | (apply Exists.intro; refine ⟨fun x => ?_, hK _ ?_⟩; fail)); (refine Soft.mix_q (fun K hK => ?_); go_simp; (try go_bits); first | (refine hK _ ?_; clear hK K) | (apply Exists.intro; refine ⟨fun x => ?_, hK _ ?_⟩; fail)); (refine Soft.mix_q (fun K hK => ?_); go_simp; (try go_bits); first | (refine hK _ ?_; clear hK K) | (apply Exists.intro; refine ⟨fun x => ?_, hK _ ?_⟩; fail)); (refine Soft.mix_q (fun K hK => ?_); go_simp; (try go_bits); first | (refine hK _ ?_; clear hK K) | (apply Exists.intro; refine ⟨fun x => ?_, hK _ ?_⟩; fail)); (refine Soft.mix_q (fun K hK => ?_); go_simp; (try go_bits); first | (refine hK _ ?_; clear hK K) | (apply Exists.intro; refine ⟨fun x => ?_, hK _ ?_⟩; fail)); (refine Soft.mix_c (fun K hK => ?_); go_simp; (try go_bits); ((with_reducible refine (CV.out _).mono ?_); rintro e w_ ⟨rfl, hb_⟩; obtain ⟨y1, rfl⟩ := Soft.BW.mk hb_; clear hb_; refine ⟨_, rfl, (by first | with_reducible exact Soft.BW.below y1 | simpa using Soft.BW.below y1), hK _ _ ?_⟩); clear hK K); (refine Soft.mix_c (fun K hK => ?_); go_simp; (try go_bits); (go_at_call 42; (with_reducible refine (CT.out _ (HTA.out _ (HS.out.same (bel_step HBEL.out (show Below wr.heap.size wr _ by (with_reducible repeat (first | exact blr _ | refine bla ?_ _ | refine blw _ ?_ | refine bld ?_ | refine bln _ ?_ | refine bls ?_ _ | refine blt ?_))))))).mono ?_); rintro e w_ ⟨rfl, hb_⟩; obtain ⟨y2, rfl⟩ := Soft.BW.mk hb_; clear hb_; refine ⟨_, rfl, (by first | with_reducible exact Soft.BW.below y2 | simpa using Soft.BW.below y2), hK _ _ ?_⟩); clear hK K); (refine Soft.mix_q (fun K hK => ?_); go_simp; (try go_bits); first | (refine hK _ ?_; clear hK K) | (apply Exists.intro; refine ⟨fun x => ?_, hK _ ?_⟩; fail)); (refine Soft.mix_nil ?_; intro hbx; change wpList _ _ _ [] _ _))
        go_wp2_with fail
        go_ret
        exact ⟨ret_int HE.out.symm, bel_step HBEL.out (show Below wr.heap.size wr _ by (with_reducible repeat (first | exact blr _ | refine bla ?_ _ | refine blw _ ?_ | refine bld ?_ | refine bln _ ?_ | refine bls ?_ _ | refine blt ?_)))⟩
    · have e5 : ((k : Nat) : Int) = 5 := by omega
      rw [e5]
      obtain rfl : k = 5 := by omega
      clear e5
      clear x0 x1 x2 x3 x4 x5 x7 x8 x9 x10 x11 x12 x13 x14
      go_wp2_with fail
      clear lx x6
      rename World => W1
      go_loopw [5, 52] (fun la i wr => ∃ k : Nat, la = .int .i64 (prevT S.cross.xs k) ∧ i = .int .i64 k ∧ k ≤ S.cross.n ∧ (∀ j, j < k → crP S j) ∧ HasBlk wr w.heap.size #[.int .i64 S.len, v1, v2, v3, v4, v5, .slice (some ⟨b, o, none⟩) S.cross.n S.cross.c, v6, v7, .int .i64 (S.light.mass).lo, .int .i64 (S.light.mass).hi, .int .i64 (S.light.along).lo, .int .i64 (S.light.along).hi, .int .i64 (S.light.high).lo, .int .i64 (S.light.high).hi] 31 ∧ Below w.heap.size w wr) (fun _ i _ => S.cross.n - (intOf i).toNat)
      case atStart => exact ⟨0, rfl, rfl, by omega, fun j hj => by omega, HBLK.out, HBEL.out⟩
      case round =>
        clear HBLK HBEL
        obtain ⟨k, rfl, rfl, hk, hall, hblk, hbel⟩ := hrel
        have HCR := Lib.hid hall; clear hall
        have HBLK := Lib.hid hblk; have HBEL := Lib.hid hbel
        have lx := Soft.LtH.mk (b := w.heap.size) (w := wr) hblk.lt
        have n12 := C2.out.2
        by_cases hlt : k < S.cross.n
        · have hk2 : (k : Int) < S.cross.n := by omega
          have hcs := (HS.out.same hbel).cross
          obtain ⟨b', o', hp', hb, hc⟩ := hcs.cells (by omega)
          rw [HP.out] at hp'
          cases hp'
          obtain ⟨c0, c1⟩ := hc k hlt
          have hat := hcs.2.2 k hlt
          have lb := Soft.LtH.mk (b := b) (w := wr) hb
          obtain ⟨hpt1, hpt2⟩ := prevT_in k HCR.out
          have HBAD := Lib.hid (fun (h : ¬crP S k) => shipErr_bad (S := S) (fun hs => h (hs.cross k (by rw [hn]; exact hlt))))
          have HNX := Lib.hid (show crP S k → ∀ j, j < k + 1 → crP S j from fun h j hj => by
            by_cases e : j = k
            · subst e; exact h
            · exact HCR.out j (by omega))
          have HPS := Lib.hid (prevT_succ S.cross.xs k)
          unfold crP at HBAD HNX
          clear HCR hc hcs hblk hbel
          generalize prevT S.cross.xs k = pk at *
          generalize crv S.cross.xs k = q at *
          have HAT := Lib.hid hat; clear hat
          by_cases ca : pk + 1 ≤ q.tonnes ∧ q.tonnes ≤ 1000000
          · by_cases cb : isTab q.arms.ps (-1000000) 1000000 900
            · have CA := Lib.hid ca; have CB := Lib.hid cb
              have HNX2 := Lib.hid (HNX.out ⟨ca, cb⟩)
              clear ca cb HNX HBAD
              go_wp2_with (first | (go_at_call 39; (with_reducible refine (cond_isWithin q.tonnes _ _ _ true (decide_eq_true CA.out).symm).mono ?_); rintro e w_ ⟨rfl, hw_⟩; subst w_) | (go_at_call 42; (with_reducible refine (cond_isTable q.arms _ _ _ _ (HAT.out.same (by (with_reducible repeat (first | exact blr _ | refine bla ?_ _ | refine blw _ ?_ | refine bld ?_ | refine bln _ ?_ | refine bls ?_ _ | refine blt ?_)))) true (decide_eq_true CB.out).symm).mono ?_); rintro e w_ ⟨rfl, hb_⟩; obtain ⟨z1, rfl⟩ := Soft.BW.mk hb_; clear hb_))
              go_roundw
              case rel => exact ⟨k + 1, by rw [HPS.out], by simp, by omega, HNX2.out, HBLK.out.below (show Below wr.heap.size wr _ by (with_reducible repeat (first | exact blr _ | refine bla ?_ _ | refine blw _ ?_ | refine bld ?_ | refine bln _ ?_ | refine bls ?_ _ | refine blt ?_))), bel_step HBEL.out (show Below wr.heap.size wr _ by (with_reducible repeat (first | exact blr _ | refine bla ?_ _ | refine blw _ ?_ | refine bld ?_ | refine bln _ ?_ | refine bls ?_ _ | refine blt ?_)))⟩
              case measure => simp [intOf]; omega
            · have HE := Lib.hid (HBAD.out (fun h => cb h.2))
              have CA := Lib.hid ca; have CB := Lib.hid cb
              clear ca cb HNX HBAD
              go_wp2_with (first | (go_at_call 39; (with_reducible refine (cond_isWithin q.tonnes _ _ _ true (decide_eq_true CA.out).symm).mono ?_); rintro e w_ ⟨rfl, hw_⟩; subst w_) | (go_at_call 42; (with_reducible refine (cond_isTable q.arms _ _ _ _ (HAT.out.same (by (with_reducible repeat (first | exact blr _ | refine bla ?_ _ | refine blw _ ?_ | refine bld ?_ | refine bln _ ?_ | refine bls ?_ _ | refine blt ?_)))) false (decide_eq_false CB.out).symm).mono ?_); rintro e w_ ⟨rfl, hb_⟩; obtain ⟨z1, rfl⟩ := Soft.BW.mk hb_; clear hb_))
              go_ret
              exact ⟨ret_int HE.out.symm, bel_step HBEL.out (show Below wr.heap.size wr _ by (with_reducible repeat (first | exact blr _ | refine bla ?_ _ | refine blw _ ?_ | refine bld ?_ | refine bln _ ?_ | refine bls ?_ _ | refine blt ?_)))⟩
          · have HE := Lib.hid (HBAD.out (fun h => ca h.1))
            have CA := Lib.hid ca
            clear ca HNX HBAD
            go_wp2_with (first | (go_at_call 39; (with_reducible refine (cond_isWithin q.tonnes _ _ _ false (decide_eq_false CA.out).symm).mono ?_); rintro e w_ ⟨rfl, hw_⟩; subst w_))
            go_ret
            exact ⟨ret_int HE.out.symm, bel_step HBEL.out (show Below wr.heap.size wr _ by (with_reducible repeat (first | exact blr _ | refine bla ?_ _ | refine blw _ ?_ | refine bld ?_ | refine bln _ ?_ | refine bls ?_ _ | refine blt ?_)))⟩
        · obtain rfl : k = S.cross.n := by omega
          have hsr := HS.out.same hbel
          have x0 := (hblk).cell 0
          have x1 := (hblk).cell 1
          have x2 := (hblk).cell 2
          have x3 := (hblk).cell 3
          have x4 := (hblk).cell 4
          have x5 := (hblk).cell 5
          have x6 := (hblk).cell 6
          have x7 := (hblk).cell 7
          have x8 := (hblk).cell 8
          have x9 := (hblk).cell 9
          have x10 := (hblk).cell 10
          have x11 := (hblk).cell 11
          have x12 := (hblk).cell 12
          have x13 := (hblk).cell 13
          have x14 := (hblk).cell 14
          simp at x0 x1 x2 x3 x4 x5 x6 x7 x8 x9 x10 x11 x12 x13 x14
          have lx := Soft.LtH.mk (b := w.heap.size) (w := wr) (hblk).lt
          clear hblk hbel
          have HSR := Lib.hid hsr; clear hsr
          by_cases cs : isTab S.sin.ps 0 1000000 900
          rotate_left
          · have HE := Lib.hid (shipErr_bad (S := S) (fun h => cs h.sin))
            have C5 := Lib.hid cs
            clear cs
            go_wp2_with (first | (go_at_call 42; (with_reducible refine (CSI.out _ (HSR.out.same (by (with_reducible repeat (first | exact blr _ | refine bla ?_ _ | refine blw _ ?_ | refine bld ?_ | refine bln _ ?_ | refine bls ?_ _ | refine blt ?_)))) false (decide_eq_false C5.out).symm).mono ?_); rintro e w_ ⟨rfl, hb_⟩; obtain ⟨z1, rfl⟩ := Soft.BW.mk hb_; clear hb_))
            go_ret
            exact ⟨ret_int HE.out.symm, bel_step HBEL.out (show Below wr.heap.size wr _ by (with_reducible repeat (first | exact blr _ | refine bla ?_ _ | refine blw _ ?_ | refine bld ?_ | refine bln _ ?_ | refine bls ?_ _ | refine blt ?_)))⟩
          by_cases ch : isTab S.shi.ps 0 10000 900
          rotate_left
          · have HE := Lib.hid (shipErr_bad (S := S) (fun h => ch h.shi))
            have C5 := Lib.hid cs; have C6 := Lib.hid ch
            clear cs ch
            go_wp2_with (first | (go_at_call 42; (with_reducible refine (CSI.out _ (HSR.out.same (by (with_reducible repeat (first | exact blr _ | refine bla ?_ _ | refine blw _ ?_ | refine bld ?_ | refine bln _ ?_ | refine bls ?_ _ | refine blt ?_)))) true (decide_eq_true C5.out).symm).mono ?_); rintro e w_ ⟨rfl, hb_⟩; obtain ⟨z1, rfl⟩ := Soft.BW.mk hb_; clear hb_) | (go_at_call 42; (with_reducible refine (CSH.out _ (HSR.out.same (by (with_reducible repeat (first | exact blr _ | refine bla ?_ _ | refine blw _ ?_ | refine bld ?_ | refine bln _ ?_ | refine bls ?_ _ | refine blt ?_)))) false (decide_eq_false C6.out).symm).mono ?_); rintro e w_ ⟨rfl, hb_⟩; obtain ⟨z2, rfl⟩ := Soft.BW.mk hb_; clear hb_))
            go_ret
            exact ⟨ret_int HE.out.symm, bel_step HBEL.out (show Below wr.heap.size wr _ by (with_reducible repeat (first | exact blr _ | refine bla ?_ _ | refine blw _ ?_ | refine bld ?_ | refine bln _ ?_ | refine bls ?_ _ | refine blt ?_)))⟩
          have hup := upr_ok (S := S) cs.1 ch.1 (fun j hj => (HCR.out j (by omega)).2.1)
          have CAN2 := Lib.hid (fun W hW => CAN.out W hW (by have := C2.out; omega) hup)
          have hok : angLo S ≤ angHi S → ShipOk S := fun h => ⟨C1.out, by have := C2.out; omega, C3.out, by have := C4.out; omega, HALL.out 0 (by omega), HALL.out 1 (by omega), HALL.out 2 (by omega), HALL.out 3 (by omega), HALL.out 4 (by omega), fun j hj => HCR.out j (by omega), cs, ch, h⟩
          have C5 := Lib.hid cs; have C6 := Lib.hid ch
          have HOK := Lib.hid hok
          clear cs ch hup hok CAN
          by_cases cc : angLo S ≤ angHi S
          · have HE := Lib.hid (shipErr_ok (HOK.out cc))
            have C7 : ¬(angHi S < angLo S) := by omega
            clear cc
            go_wp2_with (first | (go_at_call 42; (with_reducible refine (CSI.out _ (HSR.out.same (by (with_reducible repeat (first | exact blr _ | refine bla ?_ _ | refine blw _ ?_ | refine bld ?_ | refine bln _ ?_ | refine bls ?_ _ | refine blt ?_)))) true (decide_eq_true C5.out).symm).mono ?_); rintro e w_ ⟨rfl, hb_⟩; obtain ⟨z1, rfl⟩ := Soft.BW.mk hb_; clear hb_) | (go_at_call 42; (with_reducible refine (CSH.out _ (HSR.out.same (by (with_reducible repeat (first | exact blr _ | refine bla ?_ _ | refine blw _ ?_ | refine bld ?_ | refine bln _ ?_ | refine bls ?_ _ | refine blt ?_)))) true (decide_eq_true C6.out).symm).mono ?_); rintro e w_ ⟨rfl, hb_⟩; obtain ⟨z2, rfl⟩ := Soft.BW.mk hb_; clear hb_) | (go_at_call 43; (with_reducible refine (CAN2.out _ (HSR.out.same (by (with_reducible repeat (first | exact blr _ | refine bla ?_ _ | refine blw _ ?_ | refine bld ?_ | refine bln _ ?_ | refine bls ?_ _ | refine blt ?_))))).mono ?_); rintro e w_ ⟨rfl, hb_⟩; obtain ⟨z3, rfl⟩ := Soft.BW.mk hb_; clear hb_))
            go_ret
            exact ⟨ret_int HE.out.symm, bel_step HBEL.out (show Below wr.heap.size wr _ by (with_reducible repeat (first | exact blr _ | refine bla ?_ _ | refine blw _ ?_ | refine bld ?_ | refine bln _ ?_ | refine bls ?_ _ | refine blt ?_)))⟩
          · have HE := Lib.hid (shipErr_bad (S := S) (fun h => cc h.ang))
            have C7 : angHi S < angLo S := by omega
            clear cc
            go_wp2_with (first | (go_at_call 42; (with_reducible refine (CSI.out _ (HSR.out.same (by (with_reducible repeat (first | exact blr _ | refine bla ?_ _ | refine blw _ ?_ | refine bld ?_ | refine bln _ ?_ | refine bls ?_ _ | refine blt ?_)))) true (decide_eq_true C5.out).symm).mono ?_); rintro e w_ ⟨rfl, hb_⟩; obtain ⟨z1, rfl⟩ := Soft.BW.mk hb_; clear hb_) | (go_at_call 42; (with_reducible refine (CSH.out _ (HSR.out.same (by (with_reducible repeat (first | exact blr _ | refine bla ?_ _ | refine blw _ ?_ | refine bld ?_ | refine bln _ ?_ | refine bls ?_ _ | refine blt ?_)))) true (decide_eq_true C6.out).symm).mono ?_); rintro e w_ ⟨rfl, hb_⟩; obtain ⟨z2, rfl⟩ := Soft.BW.mk hb_; clear hb_) | (go_at_call 43; (with_reducible refine (CAN2.out _ (HSR.out.same (by (with_reducible repeat (first | exact blr _ | refine bla ?_ _ | refine blw _ ?_ | refine bld ?_ | refine bln _ ?_ | refine bls ?_ _ | refine blt ?_))))).mono ?_); rintro e w_ ⟨rfl, hb_⟩; obtain ⟨z3, rfl⟩ := Soft.BW.mk hb_; clear hb_))
            go_ret
            exact ⟨ret_int HE.out.symm, bel_step HBEL.out (show Below wr.heap.size wr _ by (with_reducible repeat (first | exact blr _ | refine bla ?_ _ | refine blw _ ?_ | refine bld ?_ | refine bln _ ?_ | refine bls ?_ _ | refine blt ?_)))⟩

end Go.Proofs.YteagdcgmmdiakaaGreat
