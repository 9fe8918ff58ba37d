/-
  Holds, tanks, fills and amounts as arguments, opened.
  Conditions: each theorem's own premises; the reach of the slices.
-/
import Derived.Test.YtbjdgaeikihjbaaOpen
import Derived.ProofKit
import Derived.OpenShut
import Derived.SizedLaws
import Derived.Deep.Slices
import Derived.Deep.Strs
import Derived.Lib.SmallJoins
namespace Go.Proofs.Ytbjdgaeikihjbaa
set_option linter.unusedSimpArgs false
set_option linter.unusedVariables false
open Go.ChangeShapes Go.WideShapes Go.ChangeAt Go.RowKit Go.Joins
set_option maxRecDepth 100000
set_option maxHeartbeats 1000000

section
variable {H : Type} {enc : TypeId × Value → H} {W : World} {base : Nat}

theorem cellsPt : Try.prog.cellsOf 114 = 3 := by kernel_rfl
theorem bytesPt : Try.prog.bytesOf 114 = 24 := by kernel_rfl
theorem cellsPts : Try.prog.cellsOf 31 = 1 := by kernel_rfl
theorem cellsTb : Try.prog.cellsOf 33 = 1 := by kernel_rfl
theorem cellsRg : Try.prog.cellsOf 30 = 2 := by kernel_rfl

theorem open_pt {fuel : Nat} {cs : List Value} {x : DataW H × List MemPlace} (hf : DataW.trod enc Try.prog W 0 (fun _ => true) true fuel 114 cs = some x) :
    ∃ q : Pt, cs = [.int .i64 q.x, .int .i64 q.lo, .int .i64 q.hi] := by
  obtain ⟨y0, y1, y2, n, rfl, hl, t0, t1, t2⟩ := Go.Deep.trod_struct3 Try.underlying114 hf
  rw [cellsPt] at hl
  match cs, hl with
  | [c0, c1, c2], _ =>
    simp only [cellsInt] at t0 t1 t2
    obtain ⟨i0, e0, _, _⟩ := DataW.trod_int Try.underlying3 t0
    obtain ⟨i1, e1, _, _⟩ := DataW.trod_int Try.underlying3 t1
    obtain ⟨i2, e2, _, _⟩ := DataW.trod_int Try.underlying3 t2
    simp at e0 e1 e2
    subst e0 e1 e2
    exact ⟨⟨i0, i1, i2⟩, rfl⟩

theorem open_pts {fuel : Nat} {cs : List Value} {x : DataW H × List MemPlace} (hf : DataW.trod enc Try.prog W 0 (fun _ => true) true fuel 31 cs = some x)
    (hw : ∀ n ∈ x.1.weights Try.prog 31, n ≤ reachBytes) : ∃ t : Tb, cs = [.slice t.p t.n t.c] ∧ t.At W := by
  rcases Go.Deep.open_slice Try.underlying31 hf with ⟨hcs, _⟩ | ⟨a, len, cap, m, n, D, Pl, hcs, _, hl, hm, hz, hx, hcell⟩
  · exact ⟨⟨none, 0, 0, []⟩, hcs, rfl, by decide, by decide, by decide, fun h => absurd rfl h⟩
  · simp only [if_true] at hz
    subst hz
    subst hx
    have h0 := hw ((len + (m - len)) * 24) (by simp [DataW.weights, Try.underlying31, bytesPt])
    simp [reachBytes] at h0
    have hq : ∀ i, i < m → ∃ q : Pt, W.cell? (a.add (i * 3)) = some (.int .i64 q.x) ∧ W.cell? (a.add (i * 3 + 1)) = some (.int .i64 q.lo) ∧ W.cell? (a.add (i * 3 + 2)) = some (.int .i64 q.hi) := by
      intro i hi
      obtain ⟨cs', h1, h2⟩ := hcell i hi
      obtain ⟨q, rfl⟩ := open_pt h2
      rw [cellsPt] at h1
      obtain ⟨_, _, hc⟩ := World.cells?_some h1
      have e0 := hc 0 (by omega)
      have e1 := hc 1 (by omega)
      have e2 := hc 2 (by omega)
      rw [Go.Deep.add_add] at e0 e1 e2
      exact ⟨q, by simpa using e0, by simpa using e1, by simpa using e2⟩
    obtain ⟨q, hq⟩ := Go.Deep.choose_lt hq
    refine ⟨⟨some a, len, m, (List.range len).map q⟩, hcs, by simp, by dsimp only; omega, hl, by have : maxLen = 9223372036854775807 := rfl; dsimp only; omega, fun hn => ?_⟩
    dsimp only at hn
    obtain ⟨b, off, spot⟩ := a
    have hspot : spot = none := by simpa [Addr.add] using World.cell?_spot (hq 0 (by omega)).1
    subst hspot
    have ea : ∀ j, (⟨b, off, none⟩ : Addr).add j = ⟨b, off + j, none⟩ := by
      intro j
      unfold Addr.add
      split
      · next h => subst h; rfl
      · rfl
    refine ⟨b, off, rfl, World.block_lt_of_cell? _ _ (hq 0 (by omega)).1, fun i hi => ?_⟩
    dsimp only at hi ⊢
    obtain ⟨e0, e1, e2⟩ := hq i (by omega)
    rw [ea] at e0 e1 e2
    have ep : pt ((List.range len).map q) i = q i := by simp [pt, hi, List.getD]
    rw [ep, e0, Nat.add_assoc, Nat.add_assoc, e1, e2]
    exact ⟨rfl, rfl, rfl⟩

theorem open_tab {fuel : Nat} {cs : List Value} {x : DataW H × List MemPlace} (hf : DataW.trod enc Try.prog W 0 (fun _ => true) true fuel 33 cs = some x)
    (hw : ∀ n ∈ x.1.weights Try.prog 33, n ≤ reachBytes) : ∃ t : Tb, cs = [.slice t.p t.n t.c] ∧ t.At W := by
  obtain ⟨y0, n, rfl, hl, t0⟩ := Go.ChangeShapes.trod_struct1 Try.underlying33 hf
  rw [cellsTb] at hl
  match cs, hl with
  | [c0], _ =>
    simp only [cellsPts] at t0
    obtain ⟨t, e, a⟩ := open_pts t0 (fun n hn => hw n (by simp only [DataW.weights, Try.underlying33]; exact DataW.weights_mem_each (j := 0) rfl rfl n hn))
    exact ⟨t, by simpa using e, a⟩

theorem open_rng {fuel : Nat} {cs : List Value} {x : DataW H × List MemPlace} (hf : DataW.trod enc Try.prog W 0 (fun _ => true) true fuel 30 cs = some x) :
    ∃ r : Rg, cs = [.int .i64 r.lo, .int .i64 r.hi] := by
  obtain ⟨y0, y1, n, rfl, hl, t0, t1⟩ := Go.ChangeShapes.trod_struct2 Try.underlying30 hf
  rw [cellsRg] at hl
  match cs, hl with
  | [c0, c1], _ =>
    simp only [cellsInt] at t0 t1
    obtain ⟨i0, e0, _, _⟩ := DataW.trod_int Try.underlying3 t0
    obtain ⟨i1, e1, _, _⟩ := DataW.trod_int Try.underlying3 t1
    simp at e0 e1
    subst e0 e1
    exact ⟨⟨i0, i1⟩, rfl⟩

theorem open_hold {v : Value} {d : DataW H} {p : List MemPlace} (hv : Value.okWide Try.prog W .any base 35 v) (h : DataW.Trod enc Try.prog W 0 (fun _ => true) true 35 v d p)
    (hw : ∀ n ∈ d.weights Try.prog 35, n ≤ reachBytes) : ∃ q : Ho, v = .agg #[.int .i64 (q).id, .int .i64 ((q).along).lo, .int .i64 ((q).along).hi, .slice ((q).vol).p ((q).vol).n ((q).vol).c, .slice ((q).mom).p ((q).mom).n ((q).mom).c, .slice ((q).hei).p ((q).hei).n ((q).hei).c, .int .i64 ((q).tri).lo, .int .i64 ((q).tri).hi, .int .i64 ((q).unt).lo, .int .i64 ((q).unt).hi, .int .i64 ((q).v0).lo, .int .i64 ((q).v0).hi, .int .i64 ((q).h0).lo, .int .i64 ((q).h0).hi] ∧ q.At W := by
  obtain ⟨cs, rfl, hsz⟩ := okWide_struct Try.underlying35 hv
  obtain ⟨fuel, hf⟩ := h
  obtain ⟨xs, n, _, hx, _, hl, hg⟩ := DataW.trod_struct Try.underlying35 hf
  rw [show Try.prog.cellsOf 35 = 14 by kernel_rfl] at hsz
  obtain ⟨l⟩ := cs
  match l, hsz with
  | [c0, c1, c2, c3, c4, c5, c6, c7, c8, c9, c10, c11, c12, c13], _ =>
    match xs, hl with
    | [y0, y1, y2, y3, y4, y5, y6, y7, y8], _ =>
      simp only [Prod.mk.injEq] at hx
      obtain ⟨rfl, _⟩ := hx
      have t0 := hg 0 _ rfl
      have t1 := hg 1 _ rfl
      have t2 := hg 2 _ rfl
      have t3 := hg 3 _ rfl
      have t4 := hg 4 _ rfl
      have t5 := hg 5 _ rfl
      have t6 := hg 6 _ rfl
      have t7 := hg 7 _ rfl
      have t8 := hg 8 _ rfl
      simp [Value.cells, cellsInt, cellsRg, cellsTb] at t0 t1 t2 t3 t4 t5 t6 t7 t8
      obtain ⟨i0, e0, _, _⟩ := DataW.trod_int Try.underlying3 t0
      obtain ⟨r1, e1⟩ := open_rng t1
      obtain ⟨s2, e2, a2⟩ := open_tab t2 (fun n hn => hw n (by simp only [DataW.weights, Try.underlying35]; exact DataW.weights_mem_each (j := 2) rfl rfl n hn))
      obtain ⟨s3, e3, a3⟩ := open_tab t3 (fun n hn => hw n (by simp only [DataW.weights, Try.underlying35]; exact DataW.weights_mem_each (j := 3) rfl rfl n hn))
      obtain ⟨s4, e4, a4⟩ := open_tab t4 (fun n hn => hw n (by simp only [DataW.weights, Try.underlying35]; exact DataW.weights_mem_each (j := 4) rfl rfl n hn))
      obtain ⟨r5, e5⟩ := open_rng t5
      obtain ⟨r6, e6⟩ := open_rng t6
      obtain ⟨r7, e7⟩ := open_rng t7
      obtain ⟨r8, e8⟩ := open_rng t8
      simp at e0 e1 e2 e3 e4 e5 e6 e7 e8
      obtain ⟨rfl, rfl⟩ := e1
      obtain ⟨rfl, rfl⟩ := e5
      obtain ⟨rfl, rfl⟩ := e6
      obtain ⟨rfl, rfl⟩ := e7
      obtain ⟨rfl, rfl⟩ := e8
      subst e0 e2 e3 e4
      exact ⟨⟨i0, r1, s2, s3, s4, r5, r6, r7, r8⟩, rfl, a2, a3, a4⟩

theorem open_tank {v : Value} {d : DataW H} {p : List MemPlace} (hv : Value.okWide Try.prog W .any base 62 v) (h : DataW.Trod enc Try.prog W 0 (fun _ => true) true 62 v d p)
    (hw : ∀ n ∈ d.weights Try.prog 62, n ≤ reachBytes) : ∃ q : Tk, v = .agg #[.int .i64 (q).id, .int .i64 ((q).along).lo, .int .i64 ((q).along).hi, .slice ((q).vol).p ((q).vol).n ((q).vol).c, .slice ((q).sur).p ((q).sur).n ((q).sur).c, .slice ((q).hei).p ((q).hei).n ((q).hei).c] ∧ q.At W := by
  obtain ⟨cs, rfl, hsz⟩ := okWide_struct Try.underlying62 hv
  obtain ⟨fuel, hf⟩ := h
  obtain ⟨xs, n, _, hx, _, hl, hg⟩ := DataW.trod_struct Try.underlying62 hf
  rw [show Try.prog.cellsOf 62 = 6 by kernel_rfl] at hsz
  obtain ⟨l⟩ := cs
  match l, hsz with
  | [c0, c1, c2, c3, c4, c5], _ =>
    match xs, hl with
    | [y0, y1, y2, y3, y4], _ =>
      simp only [Prod.mk.injEq] at hx
      obtain ⟨rfl, _⟩ := hx
      have t0 := hg 0 _ rfl
      have t1 := hg 1 _ rfl
      have t2 := hg 2 _ rfl
      have t3 := hg 3 _ rfl
      have t4 := hg 4 _ rfl
      simp [Value.cells, cellsInt, cellsRg, cellsTb] at t0 t1 t2 t3 t4
      obtain ⟨i0, e0, _, _⟩ := DataW.trod_int Try.underlying3 t0
      obtain ⟨r1, e1⟩ := open_rng t1
      obtain ⟨s2, e2, a2⟩ := open_tab t2 (fun n hn => hw n (by simp only [DataW.weights, Try.underlying62]; exact DataW.weights_mem_each (j := 2) rfl rfl n hn))
      obtain ⟨s3, e3, a3⟩ := open_tab t3 (fun n hn => hw n (by simp only [DataW.weights, Try.underlying62]; exact DataW.weights_mem_each (j := 3) rfl rfl n hn))
      obtain ⟨s4, e4, a4⟩ := open_tab t4 (fun n hn => hw n (by simp only [DataW.weights, Try.underlying62]; exact DataW.weights_mem_each (j := 4) rfl rfl n hn))
      simp at e0 e1 e2 e3 e4
      obtain ⟨rfl, rfl⟩ := e1
      subst e0 e2 e3 e4
      exact ⟨⟨i0, r1, s2, s3, s4⟩, rfl, a2, a3, a4⟩

theorem open_amt {v : Value} {d : DataW H} {p : List MemPlace} (hv : Value.okWide Try.prog W .any base 72 v) (h : DataW.Trod enc Try.prog W 0 (fun _ => true) true 72 v d p) :
    ∃ m d : Rg, v = .agg #[.int .i64 m.lo, .int .i64 m.hi, .int .i64 d.lo, .int .i64 d.hi] := by
  obtain ⟨cs, rfl, hsz⟩ := okWide_struct Try.underlying72 hv
  obtain ⟨fuel, hf⟩ := h
  obtain ⟨xs, n, _, hx, _, hl, hg⟩ := DataW.trod_struct Try.underlying72 hf
  rw [show Try.prog.cellsOf 72 = 4 by kernel_rfl] at hsz
  obtain ⟨l⟩ := cs
  match l, hsz with
  | [c0, c1, c2, c3], _ =>
    match xs, hl with
    | [y0, y1], _ =>
      have t0 := hg 0 _ rfl
      have t1 := hg 1 _ rfl
      simp [Value.cells, cellsInt, cellsRg, cellsTb] at t0 t1
      obtain ⟨r0, e0⟩ := open_rng t0
      obtain ⟨r1, e1⟩ := open_rng t1
      simp at e0 e1
      obtain ⟨rfl, rfl⟩ := e0
      obtain ⟨rfl, rfl⟩ := e1
      exact ⟨r0, r1, rfl⟩

theorem open_fill {v : Value} {d : DataW H} {p : List MemPlace} (hv : Value.okWide Try.prog W .any base 38 v) (h : DataW.Trod enc Try.prog W 0 (fun _ => true) true 38 v d p) :
    ∃ q : Fi, v = .agg #[.int .i64 (q).hold, .int .i64 (q).state, .int .i64 ((q).ull).lo, .int .i64 ((q).ull).hi, .int .i64 ((q).den).lo, .int .i64 ((q).den).hi] := by
  obtain ⟨cs, rfl, hsz⟩ := okWide_struct Try.underlying38 hv
  obtain ⟨fuel, hf⟩ := h
  obtain ⟨xs, n, _, hx, _, hl, hg⟩ := DataW.trod_struct Try.underlying38 hf
  rw [show Try.prog.cellsOf 38 = 6 by kernel_rfl] at hsz
  obtain ⟨l⟩ := cs
  match l, hsz with
  | [c0, c1, c2, c3, c4, c5], _ =>
    match xs, hl with
    | [y0, y1, y2, y3], _ =>
      have t0 := hg 0 _ rfl
      have t1 := hg 1 _ rfl
      have t2 := hg 2 _ rfl
      have t3 := hg 3 _ rfl
      simp [Value.cells, cellsInt, cellsRg, cellsTb] at t0 t1 t2 t3
      obtain ⟨i0, e0, _, _⟩ := DataW.trod_int Try.underlying3 t0
      obtain ⟨i1, e1, _, _⟩ := DataW.trod_int Try.underlying3 t1
      obtain ⟨r2, e2⟩ := open_rng t2
      obtain ⟨r3, e3⟩ := open_rng t3
      simp at e0 e1 e2 e3
      obtain ⟨rfl, rfl⟩ := e2
      obtain ⟨rfl, rfl⟩ := e3
      subst e0 e1
      exact ⟨⟨i0, i1, r2, r3⟩, rfl⟩

end

end Go.Proofs.Ytbjdgaeikihjbaa
