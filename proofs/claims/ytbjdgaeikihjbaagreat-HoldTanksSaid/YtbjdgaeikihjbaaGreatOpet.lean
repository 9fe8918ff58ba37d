/-
  Levels and ranges as arguments, opened.
  Conditions: each theorem's own premises.
-/
import Derived.Test.YtbjdgaeikihjbaaGreatOpee
namespace Go.Proofs.YtbjdgaeikihjbaaGreat
set_option linter.unusedSimpArgs false
set_option linter.unusedVariables false
open Go.ChangeShapes Go.WideShapes Go.ChangeAt Go.RowKit Go.Joins
set_option maxRecDepth 100000
set_option maxHeartbeats 1000000

section
variable {H : Type} {enc : TypeId × Value → H} {W : World} {base : Nat}

theorem cellsBool : Tryz.prog.cellsOf 4 = 1 := by kernel_rfl

theorem open_lev {fuel : Nat} {cs : List Value} {x : DataW H × List MemPlace} (hf : DataW.trod enc Tryz.prog W 0 (fun _ => true) true fuel 51 cs = some x) (hl : cs.length = 6) :
    ∃ q : Lv, cs = [.int .i64 (q).tank, .bool (q).pressed, .int .i64 ((q).snd).lo, .int .i64 ((q).snd).hi, .int .i64 ((q).den).lo, .int .i64 ((q).den).hi] := by
  obtain ⟨xs, n, _, hx, _, hlen, hg⟩ := DataW.trod_struct Tryz.underlying51 hf
  match cs, hl with
  | [c0, c1, c2, c3, c4, c5], _ =>
    match xs, hlen with
    | [y0, y1, y2, y3], _ =>
      have t0 := hg 0 _ rfl
      have t1 := hg 1 _ rfl
      have t2 := hg 2 _ rfl
      have t3 := hg 3 _ rfl
      simp [Value.cells, cellsInt, cellsRg, cellsTb, cellsBool] at t0 t1 t2 t3
      obtain ⟨i0, e0, _, _⟩ := DataW.trod_int Tryz.underlying3 t0
      obtain ⟨i1, e1, _⟩ := DataW.trod_bool Tryz.underlying4 t1
      obtain ⟨r2, e2⟩ := open_rng t2
      obtain ⟨r3, e3⟩ := open_rng t3
      simp at e0 e1 e2 e3
      obtain ⟨rfl, rfl⟩ := e2
      obtain ⟨rfl, rfl⟩ := e3
      subst e0 e1
      exact ⟨⟨i0, i1, r2, r3⟩, rfl⟩

theorem open_level {v : Value} {d : DataW H} {p : List MemPlace} (hv : Value.okWide Tryz.prog W .any base 51 v) (h : DataW.Trod enc Tryz.prog W 0 (fun _ => true) true 51 v d p) :
    ∃ q : Lv, v = .agg #[.int .i64 (q).tank, .bool (q).pressed, .int .i64 ((q).snd).lo, .int .i64 ((q).snd).hi, .int .i64 ((q).den).lo, .int .i64 ((q).den).hi] := by
  obtain ⟨cs, rfl, hsz⟩ := okWide_struct Tryz.underlying51 hv
  obtain ⟨fuel, hf⟩ := h
  rw [show Tryz.prog.cellsOf 51 = 6 by kernel_rfl] at hsz
  obtain ⟨l⟩ := cs
  obtain ⟨q, e⟩ := open_lev hf (by simpa [Value.cells] using hsz)
  exact ⟨q, by simp only [Value.cells] at e; rw [e]⟩

theorem open_range {v : Value} {d : DataW H} {p : List MemPlace} (hv : Value.okWide Tryz.prog W .any base 23 v) (h : DataW.Trod enc Tryz.prog W 0 (fun _ => true) true 23 v d p) :
    ∃ q : Rg, v = .agg #[.int .i64 (q).lo, .int .i64 (q).hi] := by
  obtain ⟨cs, rfl, hsz⟩ := okWide_struct Tryz.underlying23 hv
  obtain ⟨fuel, hf⟩ := h
  obtain ⟨l⟩ := cs
  obtain ⟨q, e⟩ := open_rng hf
  exact ⟨q, by simp only [Value.cells] at e; rw [e]⟩

end

end Go.Proofs.YtbjdgaeikihjbaaGreat
