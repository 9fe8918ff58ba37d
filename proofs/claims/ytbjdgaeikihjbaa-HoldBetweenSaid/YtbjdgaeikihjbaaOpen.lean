/-
  The arguments of the laws of compartments, opened: what describes a compartment, five numbers, the numbers that choose curves.
  Conditions: each theorem's own premises; the reach of the slices.
-/
import Derived.Test.YtbjdgaeikihjbaaTrut
import Derived.ProofKit
import Derived.OpenShut
import Derived.SizedLaws
import Derived.Lib.SmallJoins
namespace Go.Proofs.Ytbjdgaeikihjbaa
set_option linter.unusedSimpArgs false
set_option linter.unusedVariables false
open Go.ChangeShapes Go.WideShapes Go.ChangeAt Go.RowKit Go.Joins
set_option maxRecDepth 100000
set_option maxHeartbeats 1000000

theorem own_ : ownKnob Try.prog.godebug = none := by kernel_rfl
theorem laid_ : laidOutB Try.prog = true := by kernel_rfl
theorem cellsInt : Try.prog.cellsOf 3 = 1 := by kernel_rfl
theorem bytesInt : Try.prog.bytesOf 3 = 8 := by kernel_rfl
theorem cellsIs : Try.prog.cellsOf 22 = 1 := by kernel_rfl
theorem cellsRaw : Try.prog.cellsOf 24 = 4 := by kernel_rfl
theorem cellsFive : Try.prog.cellsOf 25 = 5 := by kernel_rfl
theorem cellsCur : Try.prog.cellsOf 26 = 3 := by kernel_rfl
theorem cellsTru : Try.prog.cellsOf 28 = 5 := by kernel_rfl


section
variable {H : Type} {enc : TypeId × Value → H} {W : World} {base : Nat}

theorem wf_i64 {n : Int} (h : (Lit.int .i64 n).wf = true) : I64 n := by
  simp [Lit.wf, IntKind.min, IntKind.max, IntKind.signed, IntKind.bits] at h
  exact ⟨by omega, by omega⟩

theorem open_is {fuel : Nat} {cs : List Value} {x : DataW H × List MemPlace} (hf : DataW.trod enc Try.prog W 0 (fun _ => true) true fuel 22 cs = some x)
    (hw : ∀ n ∈ x.1.weights Try.prog 22, n ≤ reachBytes) : ∃ s : Is, cs = [.slice s.p s.n s.c] ∧ s.At W := by
  rcases open_ints Try.underlying22 Try.underlying3 cellsInt hf with ⟨hcs, _⟩ | ⟨a, len, cap, zs, hcs, _, hl, hm, hz, hx, hcell, hwz⟩
  · exact ⟨⟨none, 0, 0, []⟩, hcs, rfl, by decide, by decide, by decide, fun i => by simp [iv, I64], fun h => absurd rfl h⟩
  · simp only [if_true] at hz
    subst hx
    have h0 := hw ((len + (cap - len)) * 8) (by simp [DataW.weights, Try.underlying22, lits, bytesInt, hz]; left; omega)
    simp [reachBytes] at h0
    refine ⟨⟨some a, len, cap, zs.take len⟩, hcs, by simp; omega, by dsimp only; omega, hl, by have : maxLen = 9223372036854775807 := rfl; dsimp only; omega, fun i => ?_, fun hn => ?_⟩
    · dsimp only [iv]
      cases e : (zs.take len)[i]? with
      | none => simp [I64]
      | some v => exact wf_i64 (hwz v (List.mem_of_mem_take (List.mem_of_getElem? e)))
    · dsimp only at hn
      obtain ⟨b, off, spot⟩ := a
      have hspot : spot = none := by simpa [Addr.add] using World.cell?_spot (hcell 0 (by omega))
      subst hspot
      refine ⟨b, off, rfl, World.block_lt_of_cell? _ _ (hcell 0 (by omega)), fun i hi => ?_⟩
      dsimp only at hi
      have := hcell i (by omega)
      have ea : (⟨b, off, none⟩ : Addr).add i = ⟨b, off + i, none⟩ := by
        unfold Addr.add
        split
        · next h => subst h; rfl
        · rfl
      rw [ea] at this
      rw [this]
      simp [iv, List.getElem?_take, hi, List.getD]

theorem open_raw {v : Value} {d : DataW H} {p : List MemPlace} (hv : Value.okWide Try.prog W .any base 24 v) (h : DataW.Trod enc Try.prog W 0 (fun _ => true) true 24 v d p)
    (hw : ∀ n ∈ d.weights Try.prog 24, n ≤ reachBytes) : ∃ r : Rw, v = .agg #[.int .i64 (r).id, .int .i64 (r).first, .slice (r).steps.p (r).steps.n (r).steps.c, .slice (r).vals.p (r).vals.n (r).vals.c] ∧ r.At W := by
  obtain ⟨c0, c1, c2, c3, y0, y1, y2, y3, m, rfl, rfl, rfl, t0, t1, t2, t3⟩ := open_agg4 Try.underlying24 (by kernel_rfl) cellsRaw hv h
  obtain ⟨i0, e0, _, w0⟩ := DataW.trod_int Try.underlying3 t0
  obtain ⟨i1, e1, _, w1⟩ := DataW.trod_int Try.underlying3 t1
  obtain ⟨s2, e2, a2⟩ := open_is t2 (fun n hn => hw n (by simp only [DataW.weights, Try.underlying24]; exact DataW.weights_mem_each (j := 2) rfl rfl n hn))
  obtain ⟨s3, e3, a3⟩ := open_is t3 (fun n hn => hw n (by simp only [DataW.weights, Try.underlying24]; exact DataW.weights_mem_each (j := 3) rfl rfl n hn))
  simp only [List.cons.injEq, and_true] at e0 e1 e2 e3
  subst e0 e1 e2 e3
  exact ⟨⟨i0, i1, s2, s3⟩, rfl, wf_i64 w0, wf_i64 w1, a2, a3⟩

theorem open_five {v : Value} {d : DataW H} {p : List MemPlace} (hv : Value.okWide Try.prog W .any base 25 v) (h : DataW.Trod enc Try.prog W 0 (fun _ => true) true 25 v d p) :
    ∃ x0 x1 x2 x3 x4 : Int, v = .agg #[.int .i64 x0, .int .i64 x1, .int .i64 x2, .int .i64 x3, .int .i64 x4] ∧ I64 x0 ∧ I64 x1 ∧ I64 x2 ∧ I64 x3 ∧ I64 x4 := by
  simp only [Value.okWide, Try.underlying25] at hv
  obtain ⟨cs, rfl, hsz, _⟩ := hv
  obtain ⟨fuel, hf⟩ := h
  obtain ⟨xs, m, rfl, _, hl, hn, hx⟩ := DataW.trod_array Try.underlying25 hf
  have hget : ∀ i, i < 5 → ∃ y, xs[i]? = some y := fun i hi => ⟨xs[i], by rw [List.getElem?_eq_getElem]⟩
  rw [cellsFive] at hsz
  obtain ⟨l⟩ := cs
  match l, hsz with
  | [c0, c1, c2, c3, c4], _ =>
    have one : ∀ (i : Nat) (c : Value), i < 5 → ([c0, c1, c2, c3, c4].drop i).take 1 = [c] → ∃ n, c = .int .i64 n ∧ I64 n := by
      intro i c hi e
      obtain ⟨y, hy⟩ := hget i hi
      have h1 := hx i hi
      rw [cellsInt, hy, Nat.mul_one] at h1
      simp only [Value.cells] at h1
      rw [e] at h1
      obtain ⟨n, e0, _, w0⟩ := DataW.trod_int Try.underlying3 h1
      simp only [List.cons.injEq, and_true] at e0
      exact ⟨n, e0, wf_i64 w0⟩
    obtain ⟨x0, rfl, w0⟩ := one 0 c0 (by omega) rfl
    obtain ⟨x1, rfl, w1⟩ := one 1 c1 (by omega) rfl
    obtain ⟨x2, rfl, w2⟩ := one 2 c2 (by omega) rfl
    obtain ⟨x3, rfl, w3⟩ := one 3 c3 (by omega) rfl
    obtain ⟨x4, rfl, w4⟩ := one 4 c4 (by omega) rfl
    exact ⟨x0, x1, x2, x3, x4, rfl, w0, w1, w2, w3, w4⟩

theorem open_tru {v : Value} {d : DataW H} {p : List MemPlace} (hv : Value.okWide Try.prog W .any base 28 v) (h : DataW.Trod enc Try.prog W 0 (fun _ => true) true 28 v d p)
    (hw : ∀ n ∈ d.weights Try.prog 28, n ≤ reachBytes) : ∃ y : Tr, v = .agg #[.slice (y).c0.p (y).c0.n (y).c0.c, .slice (y).c1.p (y).c1.n (y).c1.c, .slice (y).c2.p (y).c2.n (y).c2.c, .int .i64 (y).place, .int .i64 (y).dense] ∧ y.At W := by
  obtain ⟨cs, rfl, hsz⟩ := okWide_struct Try.underlying28 hv
  obtain ⟨fuel, hf⟩ := h
  obtain ⟨z0, z1, z2, m, hx, _, t0, t1, t2⟩ := Go.Deep.trod_struct3 Try.underlying28 hf
  rw [cellsTru] at hsz
  obtain ⟨l⟩ := cs
  match l, hsz with
  | [c0, c1, c2, c3, c4], _ =>
    simp only [Prod.mk.injEq] at hx
    obtain ⟨rfl, rfl⟩ := hx
    simp only [Value.cells, cellsCur, cellsInt] at t0 t1 t2
    obtain ⟨xs, k, rfl, rfl, hl, hn, hxs⟩ := DataW.trod_array Try.underlying26 t0
    obtain ⟨i1, e1, _, w1⟩ := DataW.trod_int Try.underlying3 t1
    obtain ⟨i2, e2, _, w2⟩ := DataW.trod_int Try.underlying3 t2
    match xs, hn with
    | [u0, u1, u2], _ =>
      have s0 := hxs 0 (by omega)
      have s1 := hxs 1 (by omega)
      have s2 := hxs 2 (by omega)
      simp [cellsIs] at s0 s1 s2 e1 e2
      have hwc : ∀ u ∈ [u0, u1, u2], ∀ n ∈ u.1.weights Try.prog 22, n ≤ reachBytes := by
        intro u hu n hn
        refine hw n ?_
        simp only [DataW.weights, Try.underlying28]
        refine DataW.weights_mem_each (j := 0) rfl rfl n ?_
        simp only [DataW.weights, Try.underlying26, List.map, DataW.weightsAll]
        simp at hu
        rcases hu with rfl | rfl | rfl <;> simp [hn]
      obtain ⟨q0, f0, a0⟩ := open_is s0 (hwc _ (by simp))
      obtain ⟨q1, f1, a1⟩ := open_is s1 (hwc _ (by simp))
      obtain ⟨q2, f2, a2⟩ := open_is s2 (hwc _ (by simp))
      simp only [List.cons.injEq, and_true] at f0 f1 f2
      subst f0 f1 f2 e1 e2
      exact ⟨⟨q0, q1, q2, i1, i2⟩, rfl, a0, a1, a2, wf_i64 w1, wf_i64 w2⟩
end

end Go.Proofs.Ytbjdgaeikihjbaa
