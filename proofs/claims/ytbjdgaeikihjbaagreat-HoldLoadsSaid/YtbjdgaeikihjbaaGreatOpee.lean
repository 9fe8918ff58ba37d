/-
  The arguments of the laws of compartments, opened: what describes a compartment, five numbers, the numbers that choose curves.
  Arrays of two and of eight numbers as arguments, opened.
  Two arrays of five numbers as an argument, opened.
  Holds, tanks, fills and amounts as arguments, opened.
  Conditions: each theorem's own premises.
-/
import Derived.Test.YtbjdgaeikihjbaaGreatNorm
import Derived.Test.YtbjdgaeikihjbaaGreatApp3
import Derived.ProofKit
import Derived.OpenShut
import Derived.SizedLaws
import Derived.Lib.SmallJoins
import Derived.Deep.Slices
import Derived.Deep.Strs
namespace Go.Proofs.YtbjdgaeikihjbaaGreat
set_option linter.unusedSimpArgs false
set_option linter.unusedVariables false
open Go.ChangeShapes Go.WideShapes Go.ChangeAt Go.RowKit Go.Joins
set_option maxRecDepth 100000
set_option maxHeartbeats 1000000

theorem own_ : ownKnob Tryz.prog.godebug = none := by kernel_rfl
theorem laid_ : laidOutB Tryz.prog = true := by kernel_rfl
theorem cellsInt : Tryz.prog.cellsOf 3 = 1 := by kernel_rfl
theorem bytesInt : Tryz.prog.bytesOf 3 = 8 := by kernel_rfl
theorem cellsIs : Tryz.prog.cellsOf 137 = 1 := by kernel_rfl


section
variable {H : Type} {enc : TypeId × Value → H} {W : World} {base : Nat}

theorem wf_i64 {n : Int} (h : (Lit.int .i64 n).wf = true) : I64 n := by
  simp [Lit.wf, IntKind.min, IntKind.max, IntKind.signed, IntKind.bits] at h
  exact ⟨by omega, by omega⟩

theorem open_is {fuel : Nat} {cs : List Value} {x : DataW H × List MemPlace} (hf : DataW.trod enc Tryz.prog W 0 (fun _ => true) true fuel 137 cs = some x)
    (hw : ∀ n ∈ x.1.weights Tryz.prog 137, n ≤ reachBytes) : ∃ s : Is, cs = [.slice s.p s.n s.c] ∧ s.At W := by
  rcases open_ints Tryz.underlying137 Tryz.underlying3 cellsInt hf with ⟨hcs, _⟩ | ⟨a, len, cap, zs, hcs, _, hl, hm, hz, hx, hcell, hwz⟩
  · exact ⟨⟨none, 0, 0, []⟩, hcs, rfl, by decide, by decide, by decide, fun i => by simp [iv, I64], fun h => absurd rfl h⟩
  · simp only [if_true] at hz
    subst hx
    have h0 := hw ((len + (cap - len)) * 8) (by simp [DataW.weights, Tryz.underlying137, lits, bytesInt, hz]; left; omega)
    simp [reachBytes] at h0
    refine ⟨⟨some a, len, cap, zs.take len⟩, hcs, by simp; omega, by dsimp only; omega, hl, by have : maxLen = 9223372036854775807 := rfl; dsimp only; omega, fun i => ?_, fun hn => ?_⟩
    · dsimp only [iv]
      cases e : (zs.take len)[i]? with
      | none => simp [I64]
      | some v => exact wf_i64 (hwz v (List.mem_of_mem_take (List.mem_of_getElem? e)))
    · dsimp only at hn
      obtain ⟨b, off, spot⟩ := a
      have hspot : spot = none := by simpa [Addr.add] using World.cell?_spot (hcell 0 (by omega))
      subst hspot
      refine ⟨b, off, rfl, World.block_lt_of_cell? _ _ (hcell 0 (by omega)), fun i hi => ?_⟩
      dsimp only at hi
      have := hcell i (by omega)
      have ea : (⟨b, off, none⟩ : Addr).add i = ⟨b, off + i, none⟩ := by
        unfold Addr.add
        split
        · next h => subst h; rfl
        · rfl
      rw [ea] at this
      rw [this]
      simp [iv, List.getElem?_take, hi, List.getD]

end

end Go.Proofs.YtbjdgaeikihjbaaGreat

namespace Go.Proofs.YtbjdgaeikihjbaaGreat
set_option linter.unusedSimpArgs false
set_option linter.unusedVariables false
open Go.ChangeShapes Go.WideShapes Go.ChangeAt Go.RowKit Go.Joins
set_option maxRecDepth 100000
set_option maxHeartbeats 1000000

section
variable {H : Type} {enc : TypeId × Value → H} {W : World} {base : Nat}

theorem cellsPt : Tryz.prog.cellsOf 113 = 3 := by kernel_rfl
theorem bytesPt : Tryz.prog.bytesOf 113 = 24 := by kernel_rfl
theorem cellsPts : Tryz.prog.cellsOf 24 = 1 := by kernel_rfl
theorem cellsTb : Tryz.prog.cellsOf 26 = 1 := by kernel_rfl
theorem cellsRg : Tryz.prog.cellsOf 23 = 2 := by kernel_rfl

theorem open_pt {fuel : Nat} {cs : List Value} {x : DataW H × List MemPlace} (hf : DataW.trod enc Tryz.prog W 0 (fun _ => true) true fuel 113 cs = some x) :
    ∃ q : Pt, cs = [.int .i64 q.x, .int .i64 q.lo, .int .i64 q.hi] := by
  obtain ⟨y0, y1, y2, n, rfl, hl, t0, t1, t2⟩ := Go.Deep.trod_struct3 Tryz.underlying113 hf
  rw [cellsPt] at hl
  match cs, hl with
  | [c0, c1, c2], _ =>
    simp only [cellsInt] at t0 t1 t2
    obtain ⟨i0, e0, _, _⟩ := DataW.trod_int Tryz.underlying3 t0
    obtain ⟨i1, e1, _, _⟩ := DataW.trod_int Tryz.underlying3 t1
    obtain ⟨i2, e2, _, _⟩ := DataW.trod_int Tryz.underlying3 t2
    simp at e0 e1 e2
    subst e0 e1 e2
    exact ⟨⟨i0, i1, i2⟩, rfl⟩

theorem open_pts {fuel : Nat} {cs : List Value} {x : DataW H × List MemPlace} (hf : DataW.trod enc Tryz.prog W 0 (fun _ => true) true fuel 24 cs = some x)
    (hw : ∀ n ∈ x.1.weights Tryz.prog 24, n ≤ reachBytes) : ∃ t : Tb, cs = [.slice t.p t.n t.c] ∧ t.At W := by
  rcases Go.Deep.open_slice Tryz.underlying24 hf with ⟨hcs, _⟩ | ⟨a, len, cap, m, n, D, Pl, hcs, _, hl, hm, hz, hx, hcell⟩
  · exact ⟨⟨none, 0, 0, []⟩, hcs, rfl, by decide, by decide, by decide, fun h => absurd rfl h⟩
  · simp only [if_true] at hz
    subst hz
    subst hx
    have h0 := hw ((len + (m - len)) * 24) (by simp [DataW.weights, Tryz.underlying24, bytesPt])
    simp [reachBytes] at h0
    have hq : ∀ i, i < m → ∃ q : Pt, W.cell? (a.add (i * 3)) = some (.int .i64 q.x) ∧ W.cell? (a.add (i * 3 + 1)) = some (.int .i64 q.lo) ∧ W.cell? (a.add (i * 3 + 2)) = some (.int .i64 q.hi) := by
      intro i hi
      obtain ⟨cs', h1, h2⟩ := hcell i hi
      obtain ⟨q, rfl⟩ := open_pt h2
      rw [cellsPt] at h1
      obtain ⟨_, _, hc⟩ := World.cells?_some h1
      have e0 := hc 0 (by omega)
      have e1 := hc 1 (by omega)
      have e2 := hc 2 (by omega)
      rw [Go.Deep.add_add] at e0 e1 e2
      exact ⟨q, by simpa using e0, by simpa using e1, by simpa using e2⟩
    obtain ⟨q, hq⟩ := Go.Deep.choose_lt hq
    refine ⟨⟨some a, len, m, (List.range len).map q⟩, hcs, by simp, by dsimp only; omega, hl, by have : maxLen = 9223372036854775807 := rfl; dsimp only; omega, fun hn => ?_⟩
    dsimp only at hn
    obtain ⟨b, off, spot⟩ := a
    have hspot : spot = none := by simpa [Addr.add] using World.cell?_spot (hq 0 (by omega)).1
    subst hspot
    have ea : ∀ j, (⟨b, off, none⟩ : Addr).add j = ⟨b, off + j, none⟩ := by
      intro j
      unfold Addr.add
      split
      · next h => subst h; rfl
      · rfl
    refine ⟨b, off, rfl, World.block_lt_of_cell? _ _ (hq 0 (by omega)).1, fun i hi => ?_⟩
    dsimp only at hi ⊢
    obtain ⟨e0, e1, e2⟩ := hq i (by omega)
    rw [ea] at e0 e1 e2
    have ep : pt ((List.range len).map q) i = q i := by simp [pt, hi, List.getD]
    rw [ep, e0, Nat.add_assoc, Nat.add_assoc, e1, e2]
    exact ⟨rfl, rfl, rfl⟩

theorem open_tab {fuel : Nat} {cs : List Value} {x : DataW H × List MemPlace} (hf : DataW.trod enc Tryz.prog W 0 (fun _ => true) true fuel 26 cs = some x)
    (hw : ∀ n ∈ x.1.weights Tryz.prog 26, n ≤ reachBytes) : ∃ t : Tb, cs = [.slice t.p t.n t.c] ∧ t.At W := by
  obtain ⟨y0, n, rfl, hl, t0⟩ := Go.ChangeShapes.trod_struct1 Tryz.underlying26 hf
  rw [cellsTb] at hl
  match cs, hl with
  | [c0], _ =>
    simp only [cellsPts] at t0
    obtain ⟨t, e, a⟩ := open_pts t0 (fun n hn => hw n (by simp only [DataW.weights, Tryz.underlying26]; exact DataW.weights_mem_each (j := 0) rfl rfl n hn))
    exact ⟨t, by simpa using e, a⟩

theorem open_rng {fuel : Nat} {cs : List Value} {x : DataW H × List MemPlace} (hf : DataW.trod enc Tryz.prog W 0 (fun _ => true) true fuel 23 cs = some x) :
    ∃ r : Rg, cs = [.int .i64 r.lo, .int .i64 r.hi] := by
  obtain ⟨y0, y1, n, rfl, hl, t0, t1⟩ := Go.ChangeShapes.trod_struct2 Tryz.underlying23 hf
  rw [cellsRg] at hl
  match cs, hl with
  | [c0, c1], _ =>
    simp only [cellsInt] at t0 t1
    obtain ⟨i0, e0, _, _⟩ := DataW.trod_int Tryz.underlying3 t0
    obtain ⟨i1, e1, _, _⟩ := DataW.trod_int Tryz.underlying3 t1
    simp at e0 e1
    subst e0 e1
    exact ⟨⟨i0, i1⟩, rfl⟩

theorem open_hold {v : Value} {d : DataW H} {p : List MemPlace} (hv : Value.okWide Tryz.prog W .any base 28 v) (h : DataW.Trod enc Tryz.prog W 0 (fun _ => true) true 28 v d p)
    (hw : ∀ n ∈ d.weights Tryz.prog 28, n ≤ reachBytes) : ∃ q : Ho, v = .agg #[.int .i64 (q).id, .int .i64 ((q).along).lo, .int .i64 ((q).along).hi, .slice ((q).vol).p ((q).vol).n ((q).vol).c, .slice ((q).mom).p ((q).mom).n ((q).mom).c, .slice ((q).hei).p ((q).hei).n ((q).hei).c, .int .i64 ((q).tri).lo, .int .i64 ((q).tri).hi, .int .i64 ((q).unt).lo, .int .i64 ((q).unt).hi, .int .i64 ((q).v0).lo, .int .i64 ((q).v0).hi, .int .i64 ((q).h0).lo, .int .i64 ((q).h0).hi] ∧ q.At W := by
  obtain ⟨cs, rfl, hsz⟩ := okWide_struct Tryz.underlying28 hv
  obtain ⟨fuel, hf⟩ := h
  obtain ⟨xs, n, _, hx, _, hl, hg⟩ := DataW.trod_struct Tryz.underlying28 hf
  rw [show Tryz.prog.cellsOf 28 = 14 by kernel_rfl] at hsz
  obtain ⟨l⟩ := cs
  match l, hsz with
  | [c0, c1, c2, c3, c4, c5, c6, c7, c8, c9, c10, c11, c12, c13], _ =>
    match xs, hl with
    | [y0, y1, y2, y3, y4, y5, y6, y7, y8], _ =>
      simp only [Prod.mk.injEq] at hx
      obtain ⟨rfl, _⟩ := hx
      have t0 := hg 0 _ rfl
      have t1 := hg 1 _ rfl
      have t2 := hg 2 _ rfl
      have t3 := hg 3 _ rfl
      have t4 := hg 4 _ rfl
      have t5 := hg 5 _ rfl
      have t6 := hg 6 _ rfl
      have t7 := hg 7 _ rfl
      have t8 := hg 8 _ rfl
      simp [Value.cells, cellsInt, cellsRg, cellsTb] at t0 t1 t2 t3 t4 t5 t6 t7 t8
      obtain ⟨i0, e0, _, _⟩ := DataW.trod_int Tryz.underlying3 t0
      obtain ⟨r1, e1⟩ := open_rng t1
      obtain ⟨s2, e2, a2⟩ := open_tab t2 (fun n hn => hw n (by simp only [DataW.weights, Tryz.underlying28]; exact DataW.weights_mem_each (j := 2) rfl rfl n hn))
      obtain ⟨s3, e3, a3⟩ := open_tab t3 (fun n hn => hw n (by simp only [DataW.weights, Tryz.underlying28]; exact DataW.weights_mem_each (j := 3) rfl rfl n hn))
      obtain ⟨s4, e4, a4⟩ := open_tab t4 (fun n hn => hw n (by simp only [DataW.weights, Tryz.underlying28]; exact DataW.weights_mem_each (j := 4) rfl rfl n hn))
      obtain ⟨r5, e5⟩ := open_rng t5
      obtain ⟨r6, e6⟩ := open_rng t6
      obtain ⟨r7, e7⟩ := open_rng t7
      obtain ⟨r8, e8⟩ := open_rng t8
      simp at e0 e1 e2 e3 e4 e5 e6 e7 e8
      obtain ⟨rfl, rfl⟩ := e1
      obtain ⟨rfl, rfl⟩ := e5
      obtain ⟨rfl, rfl⟩ := e6
      obtain ⟨rfl, rfl⟩ := e7
      obtain ⟨rfl, rfl⟩ := e8
      subst e0 e2 e3 e4
      exact ⟨⟨i0, r1, s2, s3, s4, r5, r6, r7, r8⟩, rfl, a2, a3, a4⟩

theorem open_tank {v : Value} {d : DataW H} {p : List MemPlace} (hv : Value.okWide Tryz.prog W .any base 49 v) (h : DataW.Trod enc Tryz.prog W 0 (fun _ => true) true 49 v d p)
    (hw : ∀ n ∈ d.weights Tryz.prog 49, n ≤ reachBytes) : ∃ q : Tk, v = .agg #[.int .i64 (q).id, .int .i64 ((q).along).lo, .int .i64 ((q).along).hi, .slice ((q).vol).p ((q).vol).n ((q).vol).c, .slice ((q).sur).p ((q).sur).n ((q).sur).c, .slice ((q).hei).p ((q).hei).n ((q).hei).c] ∧ q.At W := by
  obtain ⟨cs, rfl, hsz⟩ := okWide_struct Tryz.underlying49 hv
  obtain ⟨fuel, hf⟩ := h
  obtain ⟨xs, n, _, hx, _, hl, hg⟩ := DataW.trod_struct Tryz.underlying49 hf
  rw [show Tryz.prog.cellsOf 49 = 6 by kernel_rfl] at hsz
  obtain ⟨l⟩ := cs
  match l, hsz with
  | [c0, c1, c2, c3, c4, c5], _ =>
    match xs, hl with
    | [y0, y1, y2, y3, y4], _ =>
      simp only [Prod.mk.injEq] at hx
      obtain ⟨rfl, _⟩ := hx
      have t0 := hg 0 _ rfl
      have t1 := hg 1 _ rfl
      have t2 := hg 2 _ rfl
      have t3 := hg 3 _ rfl
      have t4 := hg 4 _ rfl
      simp [Value.cells, cellsInt, cellsRg, cellsTb] at t0 t1 t2 t3 t4
      obtain ⟨i0, e0, _, _⟩ := DataW.trod_int Tryz.underlying3 t0
      obtain ⟨r1, e1⟩ := open_rng t1
      obtain ⟨s2, e2, a2⟩ := open_tab t2 (fun n hn => hw n (by simp only [DataW.weights, Tryz.underlying49]; exact DataW.weights_mem_each (j := 2) rfl rfl n hn))
      obtain ⟨s3, e3, a3⟩ := open_tab t3 (fun n hn => hw n (by simp only [DataW.weights, Tryz.underlying49]; exact DataW.weights_mem_each (j := 3) rfl rfl n hn))
      obtain ⟨s4, e4, a4⟩ := open_tab t4 (fun n hn => hw n (by simp only [DataW.weights, Tryz.underlying49]; exact DataW.weights_mem_each (j := 4) rfl rfl n hn))
      simp at e0 e1 e2 e3 e4
      obtain ⟨rfl, rfl⟩ := e1
      subst e0 e2 e3 e4
      exact ⟨⟨i0, r1, s2, s3, s4⟩, rfl, a2, a3, a4⟩

theorem open_amt {v : Value} {d : DataW H} {p : List MemPlace} (hv : Value.okWide Tryz.prog W .any base 43 v) (h : DataW.Trod enc Tryz.prog W 0 (fun _ => true) true 43 v d p) :
    ∃ m d : Rg, v = .agg #[.int .i64 m.lo, .int .i64 m.hi, .int .i64 d.lo, .int .i64 d.hi] := by
  obtain ⟨cs, rfl, hsz⟩ := okWide_struct Tryz.underlying43 hv
  obtain ⟨fuel, hf⟩ := h
  obtain ⟨xs, n, _, hx, _, hl, hg⟩ := DataW.trod_struct Tryz.underlying43 hf
  rw [show Tryz.prog.cellsOf 43 = 4 by kernel_rfl] at hsz
  obtain ⟨l⟩ := cs
  match l, hsz with
  | [c0, c1, c2, c3], _ =>
    match xs, hl with
    | [y0, y1], _ =>
      have t0 := hg 0 _ rfl
      have t1 := hg 1 _ rfl
      simp [Value.cells, cellsInt, cellsRg, cellsTb] at t0 t1
      obtain ⟨r0, e0⟩ := open_rng t0
      obtain ⟨r1, e1⟩ := open_rng t1
      simp at e0 e1
      obtain ⟨rfl, rfl⟩ := e0
      obtain ⟨rfl, rfl⟩ := e1
      exact ⟨r0, r1, rfl⟩

theorem open_fill {v : Value} {d : DataW H} {p : List MemPlace} (hv : Value.okWide Tryz.prog W .any base 30 v) (h : DataW.Trod enc Tryz.prog W 0 (fun _ => true) true 30 v d p) :
    ∃ q : Fi, v = .agg #[.int .i64 (q).hold, .int .i64 (q).state, .int .i64 ((q).ull).lo, .int .i64 ((q).ull).hi, .int .i64 ((q).den).lo, .int .i64 ((q).den).hi] := by
  obtain ⟨cs, rfl, hsz⟩ := okWide_struct Tryz.underlying30 hv
  obtain ⟨fuel, hf⟩ := h
  obtain ⟨xs, n, _, hx, _, hl, hg⟩ := DataW.trod_struct Tryz.underlying30 hf
  rw [show Tryz.prog.cellsOf 30 = 6 by kernel_rfl] at hsz
  obtain ⟨l⟩ := cs
  match l, hsz with
  | [c0, c1, c2, c3, c4, c5], _ =>
    match xs, hl with
    | [y0, y1, y2, y3], _ =>
      have t0 := hg 0 _ rfl
      have t1 := hg 1 _ rfl
      have t2 := hg 2 _ rfl
      have t3 := hg 3 _ rfl
      simp [Value.cells, cellsInt, cellsRg, cellsTb] at t0 t1 t2 t3
      obtain ⟨i0, e0, _, _⟩ := DataW.trod_int Tryz.underlying3 t0
      obtain ⟨i1, e1, _, _⟩ := DataW.trod_int Tryz.underlying3 t1
      obtain ⟨r2, e2⟩ := open_rng t2
      obtain ⟨r3, e3⟩ := open_rng t3
      simp at e0 e1 e2 e3
      obtain ⟨rfl, rfl⟩ := e2
      obtain ⟨rfl, rfl⟩ := e3
      subst e0 e1
      exact ⟨⟨i0, i1, r2, r3⟩, rfl⟩

end

end Go.Proofs.YtbjdgaeikihjbaaGreat
