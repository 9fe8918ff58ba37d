/-
  Worlds in their normal form: what a region has laid lies between two callees' worlds, and a store into it changes what was laid.
  Conditions: each theorem's own premises.
-/
import Derived.Test.YtbjdgaeikihjbaaPoua
namespace Go.Proofs.Ytbjdgaeikihjbaa
set_option linter.unusedSimpArgs false
set_option linter.unusedVariables false
open Go.RowKit

/-- A world with fewer blocks. -/
def World.cut (x : World) (k : Nat) : World := { x with heap := x.heap.extract 0 k }
theorem World.cut_size (x : World) (k : Nat) (h : k ≤ x.heap.size) : (World.cut x k).heap.size = k := by
  simp [World.cut]; omega
theorem World.cut_get (x : World) (k i : Nat) (h : i < k) : (World.cut x k).heap[i]? = x.heap[i]? := by
  simp [World.cut, Array.getElem?_extract]; omega

theorem newSplit {w : World} {k : Nat} {obj : Obj} {x : Soft.BW w} (h : Soft.New w k obj x.w) : ∃ (N : Soft.BW w) (x' : Soft.BW (N.w.alloc obj)), k = N.w.heap.size ∧ x.w = x'.w := by
  have hk := h.le
  have hlt := h.lt
  have hb := x.below
  have hN : Below w.heap.size w (World.cut x.w k) := ⟨hb.os, hb.tape, hb.output, by rw [World.cut_size _ _ (by omega)]; exact hk, fun i hi => by rw [World.cut_get _ _ _ (by omega)]; exact hb.block i hi⟩
  have hs := World.cut_size x.w k (by omega)
  refine ⟨⟨World.cut x.w k, hN⟩, ⟨x.w, ?_⟩, hs.symm, rfl⟩
  show Below ((World.cut x.w k).alloc obj).heap.size ((World.cut x.w k).alloc obj) x.w
  refine ⟨rfl, rfl, rfl, by simp [hs]; omega, fun i hi => ?_⟩
  simp [hs] at hi
  by_cases e : i < k
  · rw [show ((World.cut x.w k).alloc obj).heap[i]? = (World.cut x.w k).heap[i]? from Below.heap_alloc _ _ _ (by omega), World.cut_get _ _ _ e]
  · obtain rfl : i = k := by omega
    rw [show ((World.cut x.w i).alloc obj).heap[i]? = some obj by have := Soft.heap_new (World.cut x.w i) obj; rwa [hs] at this]
    exact h.at_

/-- A store of a whole block that was laid before the callees. -/
theorem bwStore {N : World} {c : Array Value} {t : TypeId} (x : Soft.BW (N.alloc (.cells c t))) (cs : Array Value) : ∃ x' : Soft.BW (N.alloc (.cells cs t)), x.w.setRow N.heap.size cs = x'.w ∧ x'.w.heap.size = x.w.heap.size := by
  have hb := x.below
  have hsz := hb.size
  simp at hsz
  have h0 : x.w.heap[N.heap.size]? = some (.cells c t) := (hb.block N.heap.size (by simp)).trans (Soft.heap_new N _)
  refine ⟨⟨x.w.setRow N.heap.size cs, ⟨hb.os, hb.tape, hb.output, by simp [World.setRow]; omega, fun i hi => ?_⟩⟩, rfl, by simp [Soft.BW.w, World.setRow]⟩
  simp at hi
  by_cases e : i < N.heap.size
  · rw [setRow_other _ _ _ _ (by omega), hb.block i (by simp; omega)]
    rw [Below.heap_alloc _ _ _ e, Below.heap_alloc _ _ _ e]
  · obtain rfl : i = N.heap.size := by omega
    rw [setRow_heap _ _ _ _ _ _ h0, Soft.heap_new]

/-- A store of one cell of a block that was laid before the callees. -/
theorem bwPut {N : World} {c : Array Value} {t : TypeId} (x : Soft.BW (N.alloc (.cells c t))) (i : Nat) (v : Value) (b : Nat) (hb0 : b = N.heap.size) : ∃ x' : Soft.BW (N.alloc (.cells (c.setIfInBounds i v) t)), x.w.setCell ⟨b, i, none⟩ v = x'.w ∧ x'.w.heap.size = x.w.heap.size := by
  subst hb0
  have hb := x.below
  have h0 : HasBlk x.w N.heap.size c t := (hb.block N.heap.size (by simp)).trans (Soft.heap_new N _)
  refine ⟨⟨x.w.setCell ⟨N.heap.size, i, none⟩ v, ⟨hb.os, hb.tape, hb.output, by have := hb.size; simpa using this, fun j hj => ?_⟩⟩, rfl, by simp [Soft.BW.w]⟩
  simp at hj
  by_cases e : j < N.heap.size
  · rw [Below.heap_setCell _ _ _ _ (by dsimp only; omega), hb.block j (by simp; omega)]
    rw [Below.heap_alloc _ _ _ e, Below.heap_alloc _ _ _ e]
  · obtain rfl : j = N.heap.size := by omega
    rw [Soft.heap_new]
    exact h0.put i v

end Go.Proofs.Ytbjdgaeikihjbaa
