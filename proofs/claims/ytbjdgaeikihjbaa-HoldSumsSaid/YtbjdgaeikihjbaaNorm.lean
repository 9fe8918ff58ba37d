/-
  hold: Pour.
  Worlds in their normal form: what a region has laid lies between two callees' worlds, and a store into it changes what was laid.
  Conditions: each theorem's own premises.
-/
import Derived.Test.YtbjdgaeikihjbaaPour
import Derived.Laws.CopyOwn
namespace Go.Proofs.Ytbjdgaeikihjbaa
set_option linter.unusedSimpArgs false
set_option linter.unusedVariables false
open Go.RowKit
set_option maxRecDepth 100000
set_option maxHeartbeats 4000000
attribute [local go_sem] Instr.field asAgg Soft.upon Soft.BW.cell_if Soft.BW.frozen_if Soft.cell_alloc_if Soft.frozen_alloc_if

def zeroF : Fi := ⟨0, 0, ⟨0, 0⟩, ⟨0, 0⟩⟩
/-- What is asked of the inverse when more is poured. -/
def pourV (h : Ho) (f : Fi) (m d : Rg) : Rg := plusS (volS h f) (litS m d)
def pourU (h : Ho) (f : Fi) (m d : Rg) : Rg × Bool := invDown h.vol.ps (pourV h f m d)
/-- The fill behind pouring, and the error. -/
def pourE (h : Ho) (f : Fi) (m d : Rg) : Fi × Int :=
  if fillErr h f ≠ 0 then (zeroF, fillErr h f) else if massErr m d ≠ 0 then (zeroF, massErr m d) else if m.lo < 0 then (zeroF, 1)
  else if f.state = 4 ∨ f.state = 5 then (zeroF, 22) else if f.state = 1 ∨ f.state = 2 then (zeroF, 24)
  else if (pourU h f m d).2 = false ∨ (f.state = 3 ∧ f.ull.hi < (pourU h f m d).1.lo) then (zeroF, 24)
  else if f.state = 3 then (⟨f.hold, 3, ⟨(pourU h f m d).1.lo, min (pourU h f m d).1.hi f.ull.hi⟩, hullS d f.den⟩, 0)
  else (⟨f.hold, 3, (pourU h f m d).1, d⟩, 0)

theorem lit_in {m d : Rg} (hm : rangeErr m = 0) (hd : isDen d) : -10000000000000000 ≤ (litS m d).lo ∧ (litS m d).lo ≤ 10000000000000000 ∧ -10000000000000000 ≤ (litS m d).hi ∧ (litS m d).hi ≤ 10000000000000000 := by
  obtain ⟨b1, b2, b3⟩ := hd
  have key : ∀ a e : Int, -1000000000000000 ≤ a → a ≤ 1000000000000000 → 100 ≤ e → -10000000000000000 ≤ 1000 * a / e ∧ 1000 * a / e ≤ 10000000000000000 := fun a e h1 h2 h3 => by
    refine ⟨Int.le_ediv_of_mul_le (by omega) (by omega), ?_⟩
    have := Int.ediv_mul_le (1000 * a) (show e ≠ 0 by omega)
    apply Classical.byContradiction
    intro hc
    have h4 : 10000000000000001 * 100 ≤ 1000 * a / e * e := Int.mul_le_mul (by omega) h3 (by omega) (by omega)
    omega
  obtain ⟨_, m1, m2, m3⟩ | ⟨hne, _⟩ := rangeErr_cases m
  · unfold litS litLo litHi
    dsimp only
    have k1 := key m.lo (if m.lo < 0 then d.lo else d.hi) (by omega) (by omega) (by split <;> omega)
    have k2 := key (-m.hi) (if m.hi < 0 then d.hi else d.lo) (by omega) (by omega) (by split <;> omega)
    rw [show 1000 * -m.hi = -(1000 * m.hi) by omega] at k2
    omega
  · omega

theorem HasBlk.rowx {W : World} {B : Nat} {c : Array Value} {t : TypeId} (h : HasBlk W B c t) {g : Nat} (hg : B ≠ g) (cs : Array Value) : HasBlk (W.setRow g cs) B c t := (setRow_other W g B cs hg).trans h
theorem Tb.At.rowx {w : World} {t : Tb} (h : t.At w) {g : Nat} (hg : ∀ b o, t.p = some ⟨b, o, none⟩ → b ≠ g) (cs : Array Value) : t.At (w.setRow g cs) := by
  obtain ⟨h1, h2, h3, h4, h5⟩ := h
  refine ⟨h1, h2, h3, h4, fun hn => ?_⟩
  obtain ⟨b, o, e, hlt, hc⟩ := h5 hn
  have key : ∀ i, (w.setRow g cs).cell? ⟨b, i, none⟩ = w.cell? ⟨b, i, none⟩ := fun i => World.cell?_of_block (w := w) (setRow_other w g b cs (hg b o e))
  refine ⟨b, o, e, by simpa [World.setRow] using hlt, fun i hi => ?_⟩
  rw [key, key, key]
  exact hc i hi

end Go.Proofs.Ytbjdgaeikihjbaa

namespace Go.Proofs.Ytbjdgaeikihjbaa
set_option linter.unusedSimpArgs false
set_option linter.unusedVariables false
open Go.RowKit

/-- A world with fewer blocks. -/
def World.cut (x : World) (k : Nat) : World := { x with heap := x.heap.extract 0 k }
theorem World.cut_size (x : World) (k : Nat) (h : k ≤ x.heap.size) : (World.cut x k).heap.size = k := by
  simp [World.cut]; omega
theorem World.cut_get (x : World) (k i : Nat) (h : i < k) : (World.cut x k).heap[i]? = x.heap[i]? := by
  simp [World.cut, Array.getElem?_extract]; omega

theorem newSplit {w : World} {k : Nat} {obj : Obj} {x : Soft.BW w} (h : Soft.New w k obj x.w) : ∃ (N : Soft.BW w) (x' : Soft.BW (N.w.alloc obj)), k = N.w.heap.size ∧ x.w = x'.w := by
  have hk := h.le
  have hlt := h.lt
  have hb := x.below
  have hN : Below w.heap.size w (World.cut x.w k) := ⟨hb.os, hb.tape, hb.output, by rw [World.cut_size _ _ (by omega)]; exact hk, fun i hi => by rw [World.cut_get _ _ _ (by omega)]; exact hb.block i hi⟩
  have hs := World.cut_size x.w k (by omega)
  refine ⟨⟨World.cut x.w k, hN⟩, ⟨x.w, ?_⟩, hs.symm, rfl⟩
  show Below ((World.cut x.w k).alloc obj).heap.size ((World.cut x.w k).alloc obj) x.w
  refine ⟨rfl, rfl, rfl, by simp [hs]; omega, fun i hi => ?_⟩
  simp [hs] at hi
  by_cases e : i < k
  · rw [show ((World.cut x.w k).alloc obj).heap[i]? = (World.cut x.w k).heap[i]? from Below.heap_alloc _ _ _ (by omega), World.cut_get _ _ _ e]
  · obtain rfl : i = k := by omega
    rw [show ((World.cut x.w i).alloc obj).heap[i]? = some obj by have := Soft.heap_new (World.cut x.w i) obj; rwa [hs] at this]
    exact h.at_

/-- A store of a whole block that was laid before the callees. -/
theorem bwStore {N : World} {c : Array Value} {t : TypeId} (x : Soft.BW (N.alloc (.cells c t))) (cs : Array Value) : ∃ x' : Soft.BW (N.alloc (.cells cs t)), x.w.setRow N.heap.size cs = x'.w ∧ x'.w.heap.size = x.w.heap.size := by
  have hb := x.below
  have hsz := hb.size
  simp at hsz
  have h0 : x.w.heap[N.heap.size]? = some (.cells c t) := (hb.block N.heap.size (by simp)).trans (Soft.heap_new N _)
  refine ⟨⟨x.w.setRow N.heap.size cs, ⟨hb.os, hb.tape, hb.output, by simp [World.setRow]; omega, fun i hi => ?_⟩⟩, rfl, by simp [Soft.BW.w, World.setRow]⟩
  simp at hi
  by_cases e : i < N.heap.size
  · rw [setRow_other _ _ _ _ (by omega), hb.block i (by simp; omega)]
    rw [Below.heap_alloc _ _ _ e, Below.heap_alloc _ _ _ e]
  · obtain rfl : i = N.heap.size := by omega
    rw [setRow_heap _ _ _ _ _ _ h0, Soft.heap_new]

/-- A store of one cell of a block that was laid before the callees. -/
theorem bwPut {N : World} {c : Array Value} {t : TypeId} (x : Soft.BW (N.alloc (.cells c t))) (i : Nat) (v : Value) (b : Nat) (hb0 : b = N.heap.size) : ∃ x' : Soft.BW (N.alloc (.cells (c.setIfInBounds i v) t)), x.w.setCell ⟨b, i, none⟩ v = x'.w ∧ x'.w.heap.size = x.w.heap.size := by
  subst hb0
  have hb := x.below
  have h0 : HasBlk x.w N.heap.size c t := (hb.block N.heap.size (by simp)).trans (Soft.heap_new N _)
  refine ⟨⟨x.w.setCell ⟨N.heap.size, i, none⟩ v, ⟨hb.os, hb.tape, hb.output, by have := hb.size; simpa using this, fun j hj => ?_⟩⟩, rfl, by simp [Soft.BW.w]⟩
  simp at hj
  by_cases e : j < N.heap.size
  · rw [Below.heap_setCell _ _ _ _ (by dsimp only; omega), hb.block j (by simp; omega)]
    rw [Below.heap_alloc _ _ _ e, Below.heap_alloc _ _ _ e]
  · obtain rfl : j = N.heap.size := by omega
    rw [Soft.heap_new]
    exact h0.put i v

end Go.Proofs.Ytbjdgaeikihjbaa
