/-
  The arguments of the laws of compartments, opened: what describes a compartment, five numbers, the numbers that choose curves.
  Arrays of two and of eight numbers as arguments, opened.
  Two arrays of five numbers as an argument, opened.
  Holds, tanks, fills and amounts as arguments, opened.
  Conditions: each theorem's own premises.
-/
import Derived.Test.YtbjdgaeikihjbaaTrut
import Derived.ProofKit
import Derived.OpenShut
import Derived.SizedLaws
import Derived.Lib.SmallJoins
import Derived.Deep.Slices
import Derived.Deep.Strs
namespace Go.Proofs.Ytbjdgaeikihjbaa
set_option linter.unusedSimpArgs false
set_option linter.unusedVariables false
open Go.ChangeShapes Go.WideShapes Go.ChangeAt Go.RowKit Go.Joins
set_option maxRecDepth 100000
set_option maxHeartbeats 1000000

theorem own_ : ownKnob Try.prog.godebug = none := by kernel_rfl
theorem laid_ : laidOutB Try.prog = true := by kernel_rfl
theorem cellsInt : Try.prog.cellsOf 3 = 1 := by kernel_rfl
theorem bytesInt : Try.prog.bytesOf 3 = 8 := by kernel_rfl
theorem cellsIs : Try.prog.cellsOf 22 = 1 := by kernel_rfl
theorem cellsRaw : Try.prog.cellsOf 24 = 4 := by kernel_rfl
theorem cellsFive : Try.prog.cellsOf 25 = 5 := by kernel_rfl
theorem cellsCur : Try.prog.cellsOf 26 = 3 := by kernel_rfl
theorem cellsTru : Try.prog.cellsOf 28 = 5 := by kernel_rfl


section
variable {H : Type} {enc : TypeId × Value → H} {W : World} {base : Nat}

theorem wf_i64 {n : Int} (h : (Lit.int .i64 n).wf = true) : I64 n := by
  simp [Lit.wf, IntKind.min, IntKind.max, IntKind.signed, IntKind.bits] at h
  exact ⟨by omega, by omega⟩

theorem open_is {fuel : Nat} {cs : List Value} {x : DataW H × List MemPlace} (hf : DataW.trod enc Try.prog W 0 (fun _ => true) true fuel 22 cs = some x)
    (hw : ∀ n ∈ x.1.weights Try.prog 22, n ≤ reachBytes) : ∃ s : Is, cs = [.slice s.p s.n s.c] ∧ s.At W := by
  rcases open_ints Try.underlying22 Try.underlying3 cellsInt hf with ⟨hcs, _⟩ | ⟨a, len, cap, zs, hcs, _, hl, hm, hz, hx, hcell, hwz⟩
  · exact ⟨⟨none, 0, 0, []⟩, hcs, rfl, by decide, by decide, by decide, fun i => by simp [iv, I64], fun h => absurd rfl h⟩
  · simp only [if_true] at hz
    subst hx
    have h0 := hw ((len + (cap - len)) * 8) (by simp [DataW.weights, Try.underlying22, lits, bytesInt, hz]; left; omega)
    simp [reachBytes] at h0
    refine ⟨⟨some a, len, cap, zs.take len⟩, hcs, by simp; omega, by dsimp only; omega, hl, by have : maxLen = 9223372036854775807 := rfl; dsimp only; omega, fun i => ?_, fun hn => ?_⟩
    · dsimp only [iv]
      cases e : (zs.take len)[i]? with
      | none => simp [I64]
      | some v => exact wf_i64 (hwz v (List.mem_of_mem_take (List.mem_of_getElem? e)))
    · dsimp only at hn
      obtain ⟨b, off, spot⟩ := a
      have hspot : spot = none := by simpa [Addr.add] using World.cell?_spot (hcell 0 (by omega))
      subst hspot
      refine ⟨b, off, rfl, World.block_lt_of_cell? _ _ (hcell 0 (by omega)), fun i hi => ?_⟩
      dsimp only at hi
      have := hcell i (by omega)
      have ea : (⟨b, off, none⟩ : Addr).add i = ⟨b, off + i, none⟩ := by
        unfold Addr.add
        split
        · next h => subst h; rfl
        · rfl
      rw [ea] at this
      rw [this]
      simp [iv, List.getElem?_take, hi, List.getD]

theorem open_raw {v : Value} {d : DataW H} {p : List MemPlace} (hv : Value.okWide Try.prog W .any base 24 v) (h : DataW.Trod enc Try.prog W 0 (fun _ => true) true 24 v d p)
    (hw : ∀ n ∈ d.weights Try.prog 24, n ≤ reachBytes) : ∃ r : Rw, v = .agg #[.int .i64 (r).id, .int .i64 (r).first, .slice (r).steps.p (r).steps.n (r).steps.c, .slice (r).vals.p (r).vals.n (r).vals.c] ∧ r.At W := by
  obtain ⟨c0, c1, c2, c3, y0, y1, y2, y3, m, rfl, rfl, rfl, t0, t1, t2, t3⟩ := open_agg4 Try.underlying24 (by kernel_rfl) cellsRaw hv h
  obtain ⟨i0, e0, _, w0⟩ := DataW.trod_int Try.underlying3 t0
  obtain ⟨i1, e1, _, w1⟩ := DataW.trod_int Try.underlying3 t1
  obtain ⟨s2, e2, a2⟩ := open_is t2 (fun n hn => hw n (by simp only [DataW.weights, Try.underlying24]; exact DataW.weights_mem_each (j := 2) rfl rfl n hn))
  obtain ⟨s3, e3, a3⟩ := open_is t3 (fun n hn => hw n (by simp only [DataW.weights, Try.underlying24]; exact DataW.weights_mem_each (j := 3) rfl rfl n hn))
  simp only [List.cons.injEq, and_true] at e0 e1 e2 e3
  subst e0 e1 e2 e3
  exact ⟨⟨i0, i1, s2, s3⟩, rfl, wf_i64 w0, wf_i64 w1, a2, a3⟩

theorem open_five {v : Value} {d : DataW H} {p : List MemPlace} (hv : Value.okWide Try.prog W .any base 25 v) (h : DataW.Trod enc Try.prog W 0 (fun _ => true) true 25 v d p) :
    ∃ x0 x1 x2 x3 x4 : Int, v = .agg #[.int .i64 x0, .int .i64 x1, .int .i64 x2, .int .i64 x3, .int .i64 x4] ∧ I64 x0 ∧ I64 x1 ∧ I64 x2 ∧ I64 x3 ∧ I64 x4 := by
  simp only [Value.okWide, Try.underlying25] at hv
  obtain ⟨cs, rfl, hsz, _⟩ := hv
  obtain ⟨fuel, hf⟩ := h
  obtain ⟨xs, m, rfl, _, hl, hn, hx⟩ := DataW.trod_array Try.underlying25 hf
  have hget : ∀ i, i < 5 → ∃ y, xs[i]? = some y := fun i hi => ⟨xs[i], by rw [List.getElem?_eq_getElem]⟩
  rw [cellsFive] at hsz
  obtain ⟨l⟩ := cs
  match l, hsz with
  | [c0, c1, c2, c3, c4], _ =>
    have one : ∀ (i : Nat) (c : Value), i < 5 → ([c0, c1, c2, c3, c4].drop i).take 1 = [c] → ∃ n, c = .int .i64 n ∧ I64 n := by
      intro i c hi e
      obtain ⟨y, hy⟩ := hget i hi
      have h1 := hx i hi
      rw [cellsInt, hy, Nat.mul_one] at h1
      simp only [Value.cells] at h1
      rw [e] at h1
      obtain ⟨n, e0, _, w0⟩ := DataW.trod_int Try.underlying3 h1
      simp only [List.cons.injEq, and_true] at e0
      exact ⟨n, e0, wf_i64 w0⟩
    obtain ⟨x0, rfl, w0⟩ := one 0 c0 (by omega) rfl
    obtain ⟨x1, rfl, w1⟩ := one 1 c1 (by omega) rfl
    obtain ⟨x2, rfl, w2⟩ := one 2 c2 (by omega) rfl
    obtain ⟨x3, rfl, w3⟩ := one 3 c3 (by omega) rfl
    obtain ⟨x4, rfl, w4⟩ := one 4 c4 (by omega) rfl
    exact ⟨x0, x1, x2, x3, x4, rfl, w0, w1, w2, w3, w4⟩

theorem open_tru {v : Value} {d : DataW H} {p : List MemPlace} (hv : Value.okWide Try.prog W .any base 28 v) (h : DataW.Trod enc Try.prog W 0 (fun _ => true) true 28 v d p)
    (hw : ∀ n ∈ d.weights Try.prog 28, n ≤ reachBytes) : ∃ y : Tr, v = .agg #[.slice (y).c0.p (y).c0.n (y).c0.c, .slice (y).c1.p (y).c1.n (y).c1.c, .slice (y).c2.p (y).c2.n (y).c2.c, .int .i64 (y).place, .int .i64 (y).dense] ∧ y.At W := by
  obtain ⟨cs, rfl, hsz⟩ := okWide_struct Try.underlying28 hv
  obtain ⟨fuel, hf⟩ := h
  obtain ⟨z0, z1, z2, m, hx, _, t0, t1, t2⟩ := Go.Deep.trod_struct3 Try.underlying28 hf
  rw [cellsTru] at hsz
  obtain ⟨l⟩ := cs
  match l, hsz with
  | [c0, c1, c2, c3, c4], _ =>
    simp only [Prod.mk.injEq] at hx
    obtain ⟨rfl, rfl⟩ := hx
    simp only [Value.cells, cellsCur, cellsInt] at t0 t1 t2
    obtain ⟨xs, k, rfl, rfl, hl, hn, hxs⟩ := DataW.trod_array Try.underlying26 t0
    obtain ⟨i1, e1, _, w1⟩ := DataW.trod_int Try.underlying3 t1
    obtain ⟨i2, e2, _, w2⟩ := DataW.trod_int Try.underlying3 t2
    match xs, hn with
    | [u0, u1, u2], _ =>
      have s0 := hxs 0 (by omega)
      have s1 := hxs 1 (by omega)
      have s2 := hxs 2 (by omega)
      simp [cellsIs] at s0 s1 s2 e1 e2
      have hwc : ∀ u ∈ [u0, u1, u2], ∀ n ∈ u.1.weights Try.prog 22, n ≤ reachBytes := by
        intro u hu n hn
        refine hw n ?_
        simp only [DataW.weights, Try.underlying28]
        refine DataW.weights_mem_each (j := 0) rfl rfl n ?_
        simp only [DataW.weights, Try.underlying26, List.map, DataW.weightsAll]
        simp at hu
        rcases hu with rfl | rfl | rfl <;> simp [hn]
      obtain ⟨q0, f0, a0⟩ := open_is s0 (hwc _ (by simp))
      obtain ⟨q1, f1, a1⟩ := open_is s1 (hwc _ (by simp))
      obtain ⟨q2, f2, a2⟩ := open_is s2 (hwc _ (by simp))
      simp only [List.cons.injEq, and_true] at f0 f1 f2
      subst f0 f1 f2 e1 e2
      exact ⟨⟨q0, q1, q2, i1, i2⟩, rfl, a0, a1, a2, wf_i64 w1, wf_i64 w2⟩
end

end Go.Proofs.Ytbjdgaeikihjbaa

namespace Go.Proofs.Ytbjdgaeikihjbaa
set_option linter.unusedSimpArgs false
set_option linter.unusedVariables false
open Go.ChangeShapes Go.WideShapes Go.ChangeAt Go.RowKit Go.Joins
set_option maxRecDepth 100000
set_option maxHeartbeats 1000000

section
variable {H : Type} {enc : TypeId × Value → H} {W : World} {base : Nat}

theorem open_arr2 {v : Value} {d : DataW H} {p : List MemPlace} (hv : Value.okWide Try.prog W .any base 60 v) (h : DataW.Trod enc Try.prog W 0 (fun _ => true) true 60 v d p) :
    ∃ x0 x1 : Int, v = .agg #[.int .i64 x0, .int .i64 x1] ∧ I64 x0 ∧ I64 x1 := by
  simp only [Value.okWide, Try.underlying60] at hv
  obtain ⟨cs, rfl, hsz, _⟩ := hv
  obtain ⟨fuel, hf⟩ := h
  obtain ⟨xs, m, rfl, _, hl, hn, hx⟩ := DataW.trod_array Try.underlying60 hf
  have hget : ∀ i, i < 2 → ∃ y, xs[i]? = some y := fun i hi => ⟨xs[i], by rw [List.getElem?_eq_getElem]⟩
  rw [show Try.prog.cellsOf 60 = 2 by kernel_rfl] at hsz
  obtain ⟨l⟩ := cs
  match l, hsz with
  | [c0, c1], _ =>
    have one : ∀ (i : Nat) (c : Value), i < 2 → ([c0, c1].drop i).take 1 = [c] → ∃ n, c = .int .i64 n ∧ I64 n := by
      intro i c hi e
      obtain ⟨y, hy⟩ := hget i hi
      have h1 := hx i hi
      rw [cellsInt, hy, Nat.mul_one] at h1
      simp only [Value.cells] at h1
      rw [e] at h1
      obtain ⟨n, e0, _, w0⟩ := DataW.trod_int Try.underlying3 h1
      simp only [List.cons.injEq, and_true] at e0
      exact ⟨n, e0, wf_i64 w0⟩
    obtain ⟨x0, rfl, w0⟩ := one 0 c0 (by omega) rfl
    obtain ⟨x1, rfl, w1⟩ := one 1 c1 (by omega) rfl
    exact ⟨x0, x1, rfl, w0, w1⟩

theorem open_arr3 {v : Value} {d : DataW H} {p : List MemPlace} (hv : Value.okWide Try.prog W .any base 84 v) (h : DataW.Trod enc Try.prog W 0 (fun _ => true) true 84 v d p) :
    ∃ x0 x1 x2 : Int, v = .agg #[.int .i64 x0, .int .i64 x1, .int .i64 x2] ∧ I64 x0 ∧ I64 x1 ∧ I64 x2 := by
  simp only [Value.okWide, Try.underlying84] at hv
  obtain ⟨cs, rfl, hsz, _⟩ := hv
  obtain ⟨fuel, hf⟩ := h
  obtain ⟨xs, m, rfl, _, hl, hn, hx⟩ := DataW.trod_array Try.underlying84 hf
  have hget : ∀ i, i < 3 → ∃ y, xs[i]? = some y := fun i hi => ⟨xs[i], by rw [List.getElem?_eq_getElem]⟩
  rw [show Try.prog.cellsOf 84 = 3 by kernel_rfl] at hsz
  obtain ⟨l⟩ := cs
  match l, hsz with
  | [c0, c1, c2], _ =>
    have one : ∀ (i : Nat) (c : Value), i < 3 → ([c0, c1, c2].drop i).take 1 = [c] → ∃ n, c = .int .i64 n ∧ I64 n := by
      intro i c hi e
      obtain ⟨y, hy⟩ := hget i hi
      have h1 := hx i hi
      rw [cellsInt, hy, Nat.mul_one] at h1
      simp only [Value.cells] at h1
      rw [e] at h1
      obtain ⟨n, e0, _, w0⟩ := DataW.trod_int Try.underlying3 h1
      simp only [List.cons.injEq, and_true] at e0
      exact ⟨n, e0, wf_i64 w0⟩
    obtain ⟨x0, rfl, w0⟩ := one 0 c0 (by omega) rfl
    obtain ⟨x1, rfl, w1⟩ := one 1 c1 (by omega) rfl
    obtain ⟨x2, rfl, w2⟩ := one 2 c2 (by omega) rfl
    exact ⟨x0, x1, x2, rfl, w0, w1, w2⟩

theorem open_arr8 {v : Value} {d : DataW H} {p : List MemPlace} (hv : Value.okWide Try.prog W .any base 87 v) (h : DataW.Trod enc Try.prog W 0 (fun _ => true) true 87 v d p) :
    ∃ x0 x1 x2 x3 x4 x5 x6 x7 : Int, v = .agg #[.int .i64 x0, .int .i64 x1, .int .i64 x2, .int .i64 x3, .int .i64 x4, .int .i64 x5, .int .i64 x6, .int .i64 x7] ∧ I64 x0 ∧ I64 x1 ∧ I64 x2 ∧ I64 x3 ∧ I64 x4 ∧ I64 x5 ∧ I64 x6 ∧ I64 x7 := by
  simp only [Value.okWide, Try.underlying87] at hv
  obtain ⟨cs, rfl, hsz, _⟩ := hv
  obtain ⟨fuel, hf⟩ := h
  obtain ⟨xs, m, rfl, _, hl, hn, hx⟩ := DataW.trod_array Try.underlying87 hf
  have hget : ∀ i, i < 8 → ∃ y, xs[i]? = some y := fun i hi => ⟨xs[i], by rw [List.getElem?_eq_getElem]⟩
  rw [show Try.prog.cellsOf 87 = 8 by kernel_rfl] at hsz
  obtain ⟨l⟩ := cs
  match l, hsz with
  | [c0, c1, c2, c3, c4, c5, c6, c7], _ =>
    have one : ∀ (i : Nat) (c : Value), i < 8 → ([c0, c1, c2, c3, c4, c5, c6, c7].drop i).take 1 = [c] → ∃ n, c = .int .i64 n ∧ I64 n := by
      intro i c hi e
      obtain ⟨y, hy⟩ := hget i hi
      have h1 := hx i hi
      rw [cellsInt, hy, Nat.mul_one] at h1
      simp only [Value.cells] at h1
      rw [e] at h1
      obtain ⟨n, e0, _, w0⟩ := DataW.trod_int Try.underlying3 h1
      simp only [List.cons.injEq, and_true] at e0
      exact ⟨n, e0, wf_i64 w0⟩
    obtain ⟨x0, rfl, w0⟩ := one 0 c0 (by omega) rfl
    obtain ⟨x1, rfl, w1⟩ := one 1 c1 (by omega) rfl
    obtain ⟨x2, rfl, w2⟩ := one 2 c2 (by omega) rfl
    obtain ⟨x3, rfl, w3⟩ := one 3 c3 (by omega) rfl
    obtain ⟨x4, rfl, w4⟩ := one 4 c4 (by omega) rfl
    obtain ⟨x5, rfl, w5⟩ := one 5 c5 (by omega) rfl
    obtain ⟨x6, rfl, w6⟩ := one 6 c6 (by omega) rfl
    obtain ⟨x7, rfl, w7⟩ := one 7 c7 (by omega) rfl
    exact ⟨x0, x1, x2, x3, x4, x5, x6, x7, rfl, w0, w1, w2, w3, w4, w5, w6, w7⟩

end

end Go.Proofs.Ytbjdgaeikihjbaa

namespace Go.Proofs.Ytbjdgaeikihjbaa
set_option linter.unusedSimpArgs false
set_option linter.unusedVariables false
open Go.ChangeShapes Go.WideShapes Go.ChangeAt Go.RowKit Go.Joins
set_option maxRecDepth 100000
set_option maxHeartbeats 1000000

section
variable {H : Type} {enc : TypeId × Value → H} {W : World} {base : Nat}

theorem open_arr25 {v : Value} {d : DataW H} {p : List MemPlace} (hv : Value.okWide Try.prog W .any base 81 v) (h : DataW.Trod enc Try.prog W 0 (fun _ => true) true 81 v d p) :
    ∃ a0 a1 a2 a3 a4 b0 b1 b2 b3 b4 : Int, v = .agg #[.int .i64 a0, .int .i64 a1, .int .i64 a2, .int .i64 a3, .int .i64 a4, .int .i64 b0, .int .i64 b1, .int .i64 b2, .int .i64 b3, .int .i64 b4] := by
  simp only [Value.okWide, Try.underlying81] at hv
  obtain ⟨cs, rfl, hsz, _⟩ := hv
  obtain ⟨fuel, hf⟩ := h
  obtain ⟨xs, m, rfl, _, hl, hn, hx⟩ := DataW.trod_array Try.underlying81 hf
  have hget : ∀ i, i < 2 → ∃ y, xs[i]? = some y := fun i hi => ⟨xs[i], by rw [List.getElem?_eq_getElem]⟩
  rw [show Try.prog.cellsOf 81 = 10 by kernel_rfl] at hsz
  obtain ⟨l⟩ := cs
  match l, hsz with
  | [c0, c1, c2, c3, c4, c5, c6, c7, c8, c9], _ =>
    have one : ∀ (i j : Nat) (c : Value), i < 2 → j < 5 → (((([c0, c1, c2, c3, c4, c5, c6, c7, c8, c9].drop (i * 5)).take 5).drop j).take 1 = [c]) → ∃ n, c = .int .i64 n := by
      intro i j c hi hj e
      obtain ⟨y, hy⟩ := hget i hi
      have h1 := hx i hi
      rw [cellsFive, hy] at h1
      simp only [Value.cells] at h1
      obtain ⟨xs2, m2, _, _, _, hn2, hx2⟩ := DataW.trod_array Try.underlying25 h1
      have h2 := hx2 j hj
      rw [cellsInt, Nat.mul_one, List.getElem?_eq_getElem (by omega)] at h2
      rw [e] at h2
      obtain ⟨n, e0, _, w0⟩ := DataW.trod_int Try.underlying3 h2
      simp only [List.cons.injEq, and_true] at e0
      exact ⟨n, e0⟩
    obtain ⟨x0, rfl⟩ := one 0 0 c0 (by omega) (by omega) rfl
    obtain ⟨x1, rfl⟩ := one 0 1 c1 (by omega) (by omega) rfl
    obtain ⟨x2, rfl⟩ := one 0 2 c2 (by omega) (by omega) rfl
    obtain ⟨x3, rfl⟩ := one 0 3 c3 (by omega) (by omega) rfl
    obtain ⟨x4, rfl⟩ := one 0 4 c4 (by omega) (by omega) rfl
    obtain ⟨x5, rfl⟩ := one 1 0 c5 (by omega) (by omega) rfl
    obtain ⟨x6, rfl⟩ := one 1 1 c6 (by omega) (by omega) rfl
    obtain ⟨x7, rfl⟩ := one 1 2 c7 (by omega) (by omega) rfl
    obtain ⟨x8, rfl⟩ := one 1 3 c8 (by omega) (by omega) rfl
    obtain ⟨x9, rfl⟩ := one 1 4 c9 (by omega) (by omega) rfl
    exact ⟨x0, x1, x2, x3, x4, x5, x6, x7, x8, x9, rfl⟩

end

end Go.Proofs.Ytbjdgaeikihjbaa

namespace Go.Proofs.Ytbjdgaeikihjbaa
set_option linter.unusedSimpArgs false
set_option linter.unusedVariables false
open Go.ChangeShapes Go.WideShapes Go.ChangeAt Go.RowKit Go.Joins
set_option maxRecDepth 100000
set_option maxHeartbeats 1000000

section
variable {H : Type} {enc : TypeId × Value → H} {W : World} {base : Nat}

theorem cellsPt : Try.prog.cellsOf 114 = 3 := by kernel_rfl
theorem bytesPt : Try.prog.bytesOf 114 = 24 := by kernel_rfl
theorem cellsPts : Try.prog.cellsOf 31 = 1 := by kernel_rfl
theorem cellsTb : Try.prog.cellsOf 33 = 1 := by kernel_rfl
theorem cellsRg : Try.prog.cellsOf 30 = 2 := by kernel_rfl

theorem open_pt {fuel : Nat} {cs : List Value} {x : DataW H × List MemPlace} (hf : DataW.trod enc Try.prog W 0 (fun _ => true) true fuel 114 cs = some x) :
    ∃ q : Pt, cs = [.int .i64 q.x, .int .i64 q.lo, .int .i64 q.hi] := by
  obtain ⟨y0, y1, y2, n, rfl, hl, t0, t1, t2⟩ := Go.Deep.trod_struct3 Try.underlying114 hf
  rw [cellsPt] at hl
  match cs, hl with
  | [c0, c1, c2], _ =>
    simp only [cellsInt] at t0 t1 t2
    obtain ⟨i0, e0, _, _⟩ := DataW.trod_int Try.underlying3 t0
    obtain ⟨i1, e1, _, _⟩ := DataW.trod_int Try.underlying3 t1
    obtain ⟨i2, e2, _, _⟩ := DataW.trod_int Try.underlying3 t2
    simp at e0 e1 e2
    subst e0 e1 e2
    exact ⟨⟨i0, i1, i2⟩, rfl⟩

theorem open_pts {fuel : Nat} {cs : List Value} {x : DataW H × List MemPlace} (hf : DataW.trod enc Try.prog W 0 (fun _ => true) true fuel 31 cs = some x)
    (hw : ∀ n ∈ x.1.weights Try.prog 31, n ≤ reachBytes) : ∃ t : Tb, cs = [.slice t.p t.n t.c] ∧ t.At W := by
  rcases Go.Deep.open_slice Try.underlying31 hf with ⟨hcs, _⟩ | ⟨a, len, cap, m, n, D, Pl, hcs, _, hl, hm, hz, hx, hcell⟩
  · exact ⟨⟨none, 0, 0, []⟩, hcs, rfl, by decide, by decide, by decide, fun h => absurd rfl h⟩
  · simp only [if_true] at hz
    subst hz
    subst hx
    have h0 := hw ((len + (m - len)) * 24) (by simp [DataW.weights, Try.underlying31, bytesPt])
    simp [reachBytes] at h0
    have hq : ∀ i, i < m → ∃ q : Pt, W.cell? (a.add (i * 3)) = some (.int .i64 q.x) ∧ W.cell? (a.add (i * 3 + 1)) = some (.int .i64 q.lo) ∧ W.cell? (a.add (i * 3 + 2)) = some (.int .i64 q.hi) := by
      intro i hi
      obtain ⟨cs', h1, h2⟩ := hcell i hi
      obtain ⟨q, rfl⟩ := open_pt h2
      rw [cellsPt] at h1
      obtain ⟨_, _, hc⟩ := World.cells?_some h1
      have e0 := hc 0 (by omega)
      have e1 := hc 1 (by omega)
      have e2 := hc 2 (by omega)
      rw [Go.Deep.add_add] at e0 e1 e2
      exact ⟨q, by simpa using e0, by simpa using e1, by simpa using e2⟩
    obtain ⟨q, hq⟩ := Go.Deep.choose_lt hq
    refine ⟨⟨some a, len, m, (List.range len).map q⟩, hcs, by simp, by dsimp only; omega, hl, by have : maxLen = 9223372036854775807 := rfl; dsimp only; omega, fun hn => ?_⟩
    dsimp only at hn
    obtain ⟨b, off, spot⟩ := a
    have hspot : spot = none := by simpa [Addr.add] using World.cell?_spot (hq 0 (by omega)).1
    subst hspot
    have ea : ∀ j, (⟨b, off, none⟩ : Addr).add j = ⟨b, off + j, none⟩ := by
      intro j
      unfold Addr.add
      split
      · next h => subst h; rfl
      · rfl
    refine ⟨b, off, rfl, World.block_lt_of_cell? _ _ (hq 0 (by omega)).1, fun i hi => ?_⟩
    dsimp only at hi ⊢
    obtain ⟨e0, e1, e2⟩ := hq i (by omega)
    rw [ea] at e0 e1 e2
    have ep : pt ((List.range len).map q) i = q i := by simp [pt, hi, List.getD]
    rw [ep, e0, Nat.add_assoc, Nat.add_assoc, e1, e2]
    exact ⟨rfl, rfl, rfl⟩

theorem open_tab {fuel : Nat} {cs : List Value} {x : DataW H × List MemPlace} (hf : DataW.trod enc Try.prog W 0 (fun _ => true) true fuel 33 cs = some x)
    (hw : ∀ n ∈ x.1.weights Try.prog 33, n ≤ reachBytes) : ∃ t : Tb, cs = [.slice t.p t.n t.c] ∧ t.At W := by
  obtain ⟨y0, n, rfl, hl, t0⟩ := Go.ChangeShapes.trod_struct1 Try.underlying33 hf
  rw [cellsTb] at hl
  match cs, hl with
  | [c0], _ =>
    simp only [cellsPts] at t0
    obtain ⟨t, e, a⟩ := open_pts t0 (fun n hn => hw n (by simp only [DataW.weights, Try.underlying33]; exact DataW.weights_mem_each (j := 0) rfl rfl n hn))
    exact ⟨t, by simpa using e, a⟩

theorem open_rng {fuel : Nat} {cs : List Value} {x : DataW H × List MemPlace} (hf : DataW.trod enc Try.prog W 0 (fun _ => true) true fuel 30 cs = some x) :
    ∃ r : Rg, cs = [.int .i64 r.lo, .int .i64 r.hi] := by
  obtain ⟨y0, y1, n, rfl, hl, t0, t1⟩ := Go.ChangeShapes.trod_struct2 Try.underlying30 hf
  rw [cellsRg] at hl
  match cs, hl with
  | [c0, c1], _ =>
    simp only [cellsInt] at t0 t1
    obtain ⟨i0, e0, _, _⟩ := DataW.trod_int Try.underlying3 t0
    obtain ⟨i1, e1, _, _⟩ := DataW.trod_int Try.underlying3 t1
    simp at e0 e1
    subst e0 e1
    exact ⟨⟨i0, i1⟩, rfl⟩

theorem open_hold {v : Value} {d : DataW H} {p : List MemPlace} (hv : Value.okWide Try.prog W .any base 35 v) (h : DataW.Trod enc Try.prog W 0 (fun _ => true) true 35 v d p)
    (hw : ∀ n ∈ d.weights Try.prog 35, n ≤ reachBytes) : ∃ q : Ho, v = .agg #[.int .i64 (q).id, .int .i64 ((q).along).lo, .int .i64 ((q).along).hi, .slice ((q).vol).p ((q).vol).n ((q).vol).c, .slice ((q).mom).p ((q).mom).n ((q).mom).c, .slice ((q).hei).p ((q).hei).n ((q).hei).c, .int .i64 ((q).tri).lo, .int .i64 ((q).tri).hi, .int .i64 ((q).unt).lo, .int .i64 ((q).unt).hi, .int .i64 ((q).v0).lo, .int .i64 ((q).v0).hi, .int .i64 ((q).h0).lo, .int .i64 ((q).h0).hi] ∧ q.At W := by
  obtain ⟨cs, rfl, hsz⟩ := okWide_struct Try.underlying35 hv
  obtain ⟨fuel, hf⟩ := h
  obtain ⟨xs, n, _, hx, _, hl, hg⟩ := DataW.trod_struct Try.underlying35 hf
  rw [show Try.prog.cellsOf 35 = 14 by kernel_rfl] at hsz
  obtain ⟨l⟩ := cs
  match l, hsz with
  | [c0, c1, c2, c3, c4, c5, c6, c7, c8, c9, c10, c11, c12, c13], _ =>
    match xs, hl with
    | [y0, y1, y2, y3, y4, y5, y6, y7, y8], _ =>
      simp only [Prod.mk.injEq] at hx
      obtain ⟨rfl, _⟩ := hx
      have t0 := hg 0 _ rfl
      have t1 := hg 1 _ rfl
      have t2 := hg 2 _ rfl
      have t3 := hg 3 _ rfl
      have t4 := hg 4 _ rfl
      have t5 := hg 5 _ rfl
      have t6 := hg 6 _ rfl
      have t7 := hg 7 _ rfl
      have t8 := hg 8 _ rfl
      simp [Value.cells, cellsInt, cellsRg, cellsTb] at t0 t1 t2 t3 t4 t5 t6 t7 t8
      obtain ⟨i0, e0, _, _⟩ := DataW.trod_int Try.underlying3 t0
      obtain ⟨r1, e1⟩ := open_rng t1
      obtain ⟨s2, e2, a2⟩ := open_tab t2 (fun n hn => hw n (by simp only [DataW.weights, Try.underlying35]; exact DataW.weights_mem_each (j := 2) rfl rfl n hn))
      obtain ⟨s3, e3, a3⟩ := open_tab t3 (fun n hn => hw n (by simp only [DataW.weights, Try.underlying35]; exact DataW.weights_mem_each (j := 3) rfl rfl n hn))
      obtain ⟨s4, e4, a4⟩ := open_tab t4 (fun n hn => hw n (by simp only [DataW.weights, Try.underlying35]; exact DataW.weights_mem_each (j := 4) rfl rfl n hn))
      obtain ⟨r5, e5⟩ := open_rng t5
      obtain ⟨r6, e6⟩ := open_rng t6
      obtain ⟨r7, e7⟩ := open_rng t7
      obtain ⟨r8, e8⟩ := open_rng t8
      simp at e0 e1 e2 e3 e4 e5 e6 e7 e8
      obtain ⟨rfl, rfl⟩ := e1
      obtain ⟨rfl, rfl⟩ := e5
      obtain ⟨rfl, rfl⟩ := e6
      obtain ⟨rfl, rfl⟩ := e7
      obtain ⟨rfl, rfl⟩ := e8
      subst e0 e2 e3 e4
      exact ⟨⟨i0, r1, s2, s3, s4, r5, r6, r7, r8⟩, rfl, a2, a3, a4⟩

theorem open_tank {v : Value} {d : DataW H} {p : List MemPlace} (hv : Value.okWide Try.prog W .any base 62 v) (h : DataW.Trod enc Try.prog W 0 (fun _ => true) true 62 v d p)
    (hw : ∀ n ∈ d.weights Try.prog 62, n ≤ reachBytes) : ∃ q : Tk, v = .agg #[.int .i64 (q).id, .int .i64 ((q).along).lo, .int .i64 ((q).along).hi, .slice ((q).vol).p ((q).vol).n ((q).vol).c, .slice ((q).sur).p ((q).sur).n ((q).sur).c, .slice ((q).hei).p ((q).hei).n ((q).hei).c] ∧ q.At W := by
  obtain ⟨cs, rfl, hsz⟩ := okWide_struct Try.underlying62 hv
  obtain ⟨fuel, hf⟩ := h
  obtain ⟨xs, n, _, hx, _, hl, hg⟩ := DataW.trod_struct Try.underlying62 hf
  rw [show Try.prog.cellsOf 62 = 6 by kernel_rfl] at hsz
  obtain ⟨l⟩ := cs
  match l, hsz with
  | [c0, c1, c2, c3, c4, c5], _ =>
    match xs, hl with
    | [y0, y1, y2, y3, y4], _ =>
      simp only [Prod.mk.injEq] at hx
      obtain ⟨rfl, _⟩ := hx
      have t0 := hg 0 _ rfl
      have t1 := hg 1 _ rfl
      have t2 := hg 2 _ rfl
      have t3 := hg 3 _ rfl
      have t4 := hg 4 _ rfl
      simp [Value.cells, cellsInt, cellsRg, cellsTb] at t0 t1 t2 t3 t4
      obtain ⟨i0, e0, _, _⟩ := DataW.trod_int Try.underlying3 t0
      obtain ⟨r1, e1⟩ := open_rng t1
      obtain ⟨s2, e2, a2⟩ := open_tab t2 (fun n hn => hw n (by simp only [DataW.weights, Try.underlying62]; exact DataW.weights_mem_each (j := 2) rfl rfl n hn))
      obtain ⟨s3, e3, a3⟩ := open_tab t3 (fun n hn => hw n (by simp only [DataW.weights, Try.underlying62]; exact DataW.weights_mem_each (j := 3) rfl rfl n hn))
      obtain ⟨s4, e4, a4⟩ := open_tab t4 (fun n hn => hw n (by simp only [DataW.weights, Try.underlying62]; exact DataW.weights_mem_each (j := 4) rfl rfl n hn))
      simp at e0 e1 e2 e3 e4
      obtain ⟨rfl, rfl⟩ := e1
      subst e0 e2 e3 e4
      exact ⟨⟨i0, r1, s2, s3, s4⟩, rfl, a2, a3, a4⟩

theorem open_amt {v : Value} {d : DataW H} {p : List MemPlace} (hv : Value.okWide Try.prog W .any base 72 v) (h : DataW.Trod enc Try.prog W 0 (fun _ => true) true 72 v d p) :
    ∃ m d : Rg, v = .agg #[.int .i64 m.lo, .int .i64 m.hi, .int .i64 d.lo, .int .i64 d.hi] := by
  obtain ⟨cs, rfl, hsz⟩ := okWide_struct Try.underlying72 hv
  obtain ⟨fuel, hf⟩ := h
  obtain ⟨xs, n, _, hx, _, hl, hg⟩ := DataW.trod_struct Try.underlying72 hf
  rw [show Try.prog.cellsOf 72 = 4 by kernel_rfl] at hsz
  obtain ⟨l⟩ := cs
  match l, hsz with
  | [c0, c1, c2, c3], _ =>
    match xs, hl with
    | [y0, y1], _ =>
      have t0 := hg 0 _ rfl
      have t1 := hg 1 _ rfl
      simp [Value.cells, cellsInt, cellsRg, cellsTb] at t0 t1
      obtain ⟨r0, e0⟩ := open_rng t0
      obtain ⟨r1, e1⟩ := open_rng t1
      simp at e0 e1
      obtain ⟨rfl, rfl⟩ := e0
      obtain ⟨rfl, rfl⟩ := e1
      exact ⟨r0, r1, rfl⟩

theorem open_fill {v : Value} {d : DataW H} {p : List MemPlace} (hv : Value.okWide Try.prog W .any base 38 v) (h : DataW.Trod enc Try.prog W 0 (fun _ => true) true 38 v d p) :
    ∃ q : Fi, v = .agg #[.int .i64 (q).hold, .int .i64 (q).state, .int .i64 ((q).ull).lo, .int .i64 ((q).ull).hi, .int .i64 ((q).den).lo, .int .i64 ((q).den).hi] := by
  obtain ⟨cs, rfl, hsz⟩ := okWide_struct Try.underlying38 hv
  obtain ⟨fuel, hf⟩ := h
  obtain ⟨xs, n, _, hx, _, hl, hg⟩ := DataW.trod_struct Try.underlying38 hf
  rw [show Try.prog.cellsOf 38 = 6 by kernel_rfl] at hsz
  obtain ⟨l⟩ := cs
  match l, hsz with
  | [c0, c1, c2, c3, c4, c5], _ =>
    match xs, hl with
    | [y0, y1, y2, y3], _ =>
      have t0 := hg 0 _ rfl
      have t1 := hg 1 _ rfl
      have t2 := hg 2 _ rfl
      have t3 := hg 3 _ rfl
      simp [Value.cells, cellsInt, cellsRg, cellsTb] at t0 t1 t2 t3
      obtain ⟨i0, e0, _, _⟩ := DataW.trod_int Try.underlying3 t0
      obtain ⟨i1, e1, _, _⟩ := DataW.trod_int Try.underlying3 t1
      obtain ⟨r2, e2⟩ := open_rng t2
      obtain ⟨r3, e3⟩ := open_rng t3
      simp at e0 e1 e2 e3
      obtain ⟨rfl, rfl⟩ := e2
      obtain ⟨rfl, rfl⟩ := e3
      subst e0 e1
      exact ⟨⟨i0, i1, r2, r3⟩, rfl⟩

end

end Go.Proofs.Ytbjdgaeikihjbaa
