/-
  Arrays of two and of eight numbers as arguments, opened.
  Conditions: each theorem's own premises; the reach of the slices.
-/
import Derived.Test.YtbjdgaeikihjbaaOpen
import Derived.ProofKit
import Derived.OpenShut
import Derived.SizedLaws
import Derived.Lib.SmallJoins
namespace Go.Proofs.Ytbjdgaeikihjbaa
set_option linter.unusedSimpArgs false
set_option linter.unusedVariables false
open Go.ChangeShapes Go.WideShapes Go.ChangeAt Go.RowKit Go.Joins
set_option maxRecDepth 100000
set_option maxHeartbeats 1000000

section
variable {H : Type} {enc : TypeId × Value → H} {W : World} {base : Nat}

theorem open_arr2 {v : Value} {d : DataW H} {p : List MemPlace} (hv : Value.okWide Try.prog W .any base 60 v) (h : DataW.Trod enc Try.prog W 0 (fun _ => true) true 60 v d p) :
    ∃ x0 x1 : Int, v = .agg #[.int .i64 x0, .int .i64 x1] ∧ I64 x0 ∧ I64 x1 := by
  simp only [Value.okWide, Try.underlying60] at hv
  obtain ⟨cs, rfl, hsz, _⟩ := hv
  obtain ⟨fuel, hf⟩ := h
  obtain ⟨xs, m, rfl, _, hl, hn, hx⟩ := DataW.trod_array Try.underlying60 hf
  have hget : ∀ i, i < 2 → ∃ y, xs[i]? = some y := fun i hi => ⟨xs[i], by rw [List.getElem?_eq_getElem]⟩
  rw [show Try.prog.cellsOf 60 = 2 by kernel_rfl] at hsz
  obtain ⟨l⟩ := cs
  match l, hsz with
  | [c0, c1], _ =>
    have one : ∀ (i : Nat) (c : Value), i < 2 → ([c0, c1].drop i).take 1 = [c] → ∃ n, c = .int .i64 n ∧ I64 n := by
      intro i c hi e
      obtain ⟨y, hy⟩ := hget i hi
      have h1 := hx i hi
      rw [cellsInt, hy, Nat.mul_one] at h1
      simp only [Value.cells] at h1
      rw [e] at h1
      obtain ⟨n, e0, _, w0⟩ := DataW.trod_int Try.underlying3 h1
      simp only [List.cons.injEq, and_true] at e0
      exact ⟨n, e0, wf_i64 w0⟩
    obtain ⟨x0, rfl, w0⟩ := one 0 c0 (by omega) rfl
    obtain ⟨x1, rfl, w1⟩ := one 1 c1 (by omega) rfl
    exact ⟨x0, x1, rfl, w0, w1⟩

theorem open_arr3 {v : Value} {d : DataW H} {p : List MemPlace} (hv : Value.okWide Try.prog W .any base 84 v) (h : DataW.Trod enc Try.prog W 0 (fun _ => true) true 84 v d p) :
    ∃ x0 x1 x2 : Int, v = .agg #[.int .i64 x0, .int .i64 x1, .int .i64 x2] ∧ I64 x0 ∧ I64 x1 ∧ I64 x2 := by
  simp only [Value.okWide, Try.underlying84] at hv
  obtain ⟨cs, rfl, hsz, _⟩ := hv
  obtain ⟨fuel, hf⟩ := h
  obtain ⟨xs, m, rfl, _, hl, hn, hx⟩ := DataW.trod_array Try.underlying84 hf
  have hget : ∀ i, i < 3 → ∃ y, xs[i]? = some y := fun i hi => ⟨xs[i], by rw [List.getElem?_eq_getElem]⟩
  rw [show Try.prog.cellsOf 84 = 3 by kernel_rfl] at hsz
  obtain ⟨l⟩ := cs
  match l, hsz with
  | [c0, c1, c2], _ =>
    have one : ∀ (i : Nat) (c : Value), i < 3 → ([c0, c1, c2].drop i).take 1 = [c] → ∃ n, c = .int .i64 n ∧ I64 n := by
      intro i c hi e
      obtain ⟨y, hy⟩ := hget i hi
      have h1 := hx i hi
      rw [cellsInt, hy, Nat.mul_one] at h1
      simp only [Value.cells] at h1
      rw [e] at h1
      obtain ⟨n, e0, _, w0⟩ := DataW.trod_int Try.underlying3 h1
      simp only [List.cons.injEq, and_true] at e0
      exact ⟨n, e0, wf_i64 w0⟩
    obtain ⟨x0, rfl, w0⟩ := one 0 c0 (by omega) rfl
    obtain ⟨x1, rfl, w1⟩ := one 1 c1 (by omega) rfl
    obtain ⟨x2, rfl, w2⟩ := one 2 c2 (by omega) rfl
    exact ⟨x0, x1, x2, rfl, w0, w1, w2⟩

theorem open_arr8 {v : Value} {d : DataW H} {p : List MemPlace} (hv : Value.okWide Try.prog W .any base 87 v) (h : DataW.Trod enc Try.prog W 0 (fun _ => true) true 87 v d p) :
    ∃ x0 x1 x2 x3 x4 x5 x6 x7 : Int, v = .agg #[.int .i64 x0, .int .i64 x1, .int .i64 x2, .int .i64 x3, .int .i64 x4, .int .i64 x5, .int .i64 x6, .int .i64 x7] ∧ I64 x0 ∧ I64 x1 ∧ I64 x2 ∧ I64 x3 ∧ I64 x4 ∧ I64 x5 ∧ I64 x6 ∧ I64 x7 := by
  simp only [Value.okWide, Try.underlying87] at hv
  obtain ⟨cs, rfl, hsz, _⟩ := hv
  obtain ⟨fuel, hf⟩ := h
  obtain ⟨xs, m, rfl, _, hl, hn, hx⟩ := DataW.trod_array Try.underlying87 hf
  have hget : ∀ i, i < 8 → ∃ y, xs[i]? = some y := fun i hi => ⟨xs[i], by rw [List.getElem?_eq_getElem]⟩
  rw [show Try.prog.cellsOf 87 = 8 by kernel_rfl] at hsz
  obtain ⟨l⟩ := cs
  match l, hsz with
  | [c0, c1, c2, c3, c4, c5, c6, c7], _ =>
    have one : ∀ (i : Nat) (c : Value), i < 8 → ([c0, c1, c2, c3, c4, c5, c6, c7].drop i).take 1 = [c] → ∃ n, c = .int .i64 n ∧ I64 n := by
      intro i c hi e
      obtain ⟨y, hy⟩ := hget i hi
      have h1 := hx i hi
      rw [cellsInt, hy, Nat.mul_one] at h1
      simp only [Value.cells] at h1
      rw [e] at h1
      obtain ⟨n, e0, _, w0⟩ := DataW.trod_int Try.underlying3 h1
      simp only [List.cons.injEq, and_true] at e0
      exact ⟨n, e0, wf_i64 w0⟩
    obtain ⟨x0, rfl, w0⟩ := one 0 c0 (by omega) rfl
    obtain ⟨x1, rfl, w1⟩ := one 1 c1 (by omega) rfl
    obtain ⟨x2, rfl, w2⟩ := one 2 c2 (by omega) rfl
    obtain ⟨x3, rfl, w3⟩ := one 3 c3 (by omega) rfl
    obtain ⟨x4, rfl, w4⟩ := one 4 c4 (by omega) rfl
    obtain ⟨x5, rfl, w5⟩ := one 5 c5 (by omega) rfl
    obtain ⟨x6, rfl, w6⟩ := one 6 c6 (by omega) rfl
    obtain ⟨x7, rfl, w7⟩ := one 7 c7 (by omega) rfl
    exact ⟨x0, x1, x2, x3, x4, x5, x6, x7, rfl, w0, w1, w2, w3, w4, w5, w6, w7⟩

end

end Go.Proofs.Ytbjdgaeikihjbaa
