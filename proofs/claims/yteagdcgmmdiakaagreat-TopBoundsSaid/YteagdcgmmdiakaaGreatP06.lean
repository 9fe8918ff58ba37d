/-
  The reference's maker of compartments out of numbers, first part: Mod, Pick, xs.
  An append of one number, or of one point, to a slice that the call has laid.
  Three arrays of their own that grow side by side.
  The arguments of the laws of compartments, opened: what describes a compartment, five numbers, the numbers that choose curves.
  Arrays of two and of eight numbers as arguments, opened.
  Two arrays of five numbers as an argument, opened.
  Holds, tanks, fills and amounts as arguments, opened.
  hold: moment, mass, heel, weight, told and what is told.
  hold: weight, told and what is told.
  Conditions: each theorem's own premises.
-/
import Derived.Test.YteagdcgmmdiakaaGreatP02
import Derived.OwnWalk
import Derived.Laws.OwnMore
import Derived.Deep.AppendLies
import Derived.Test.YteagdcgmmdiakaaGreatP05
import Derived.ProofKit
import Derived.OpenShut
import Derived.SizedLaws
import Derived.Lib.SmallJoins
import Derived.Deep.Slices
import Derived.Deep.Strs
namespace Go.Proofs.YteagdcgmmdiakaaGreat
set_option linter.unusedSimpArgs false
set_option linter.unusedVariables false
open Go.RowKit
set_option maxRecDepth 100000
set_option maxHeartbeats 1000000
attribute [local go_sem] Instr.field asAgg Soft.upon Soft.BW.cell_if Soft.BW.frozen_if Soft.cell_alloc_if Soft.frozen_alloc_if

/-- A number of a list, by its place. -/
abbrev iv (xs : List Int) (i : Nat) : Int := xs[i]?.getD 0

/-- A slice of numbers as it lies in memory. -/
structure Is where
  p : Option Addr
  n : Nat
  c : Nat
  xs : List Int

def Is.At (w : World) (s : Is) : Prop :=
  s.xs.length = s.n ∧ s.n ≤ 6000000000000000 ∧ s.n ≤ s.c ∧ s.c ≤ 9223372036854775807 ∧ (∀ i, I64 (iv s.xs i)) ∧ (s.n ≠ 0 → ∃ b o, s.p = some ⟨b, o, none⟩ ∧ b < w.heap.size ∧
    ∀ i, i < s.n → w.cell? ⟨b, o + i, none⟩ = some (.int .i64 (iv s.xs i)))

theorem Is.At.below {w w' : World} {s : Is} (h : s.At w) (hb : Below w.heap.size w w') : s.At w' := by
  obtain ⟨h1, h2, h3, h4, h6, h5⟩ := h
  refine ⟨h1, h2, h3, h4, h6, fun hn => ?_⟩
  obtain ⟨b, o, e, hlt, hc⟩ := h5 hn
  exact ⟨b, o, e, Nat.lt_of_lt_of_le hlt hb.size, fun i hi => (hb.cell (p := ⟨b, _, none⟩) hlt).trans (hc i hi)⟩
theorem Is.At.alloc {w : World} {s : Is} (h : s.At w) (o : Obj) : s.At (w.alloc o) := h.below ((Below.refl _ _).alloc (Nat.le_refl _) o)
theorem Is.At.bw {w : World} {s : Is} (h : s.At w) (x : Soft.BW w) : s.At x.w := h.below x.below

/-- What describes a compartment. -/
structure Rw where
  id : Int
  first : Int
  steps : Is
  vals : Is
structure Rw.At (w : World) (r : Rw) : Prop where
  id : I64 r.id
  first : I64 r.first
  steps : r.steps.At w
  vals : r.vals.At w
theorem Rw.At.below {w w' : World} {r : Rw} (h : r.At w) (hb : Below w.heap.size w w') : r.At w' := ⟨h.id, h.first, h.steps.below hb, h.vals.below hb⟩
theorem Rw.At.alloc {w : World} {r : Rw} (h : r.At w) (o : Obj) : r.At (w.alloc o) := h.below ((Below.refl _ _).alloc (Nat.le_refl _) o)
theorem Rw.At.bw {w : World} {r : Rw} (h : r.At w) (x : Soft.BW w) : r.At x.w := h.below x.below

end Go.Proofs.YteagdcgmmdiakaaGreat

namespace Go.Proofs.YteagdcgmmdiakaaGreat
set_option linter.unusedSimpArgs false
set_option linter.unusedVariables false
open Go.RowKit
set_option maxRecDepth 100000

theorem info_int : (Tryz.prog.info? 3).map (fun i => (i.zero, i.size, i.bytes)) = some (some (.int .i64 0), 1, 8) := by kernel_rfl
theorem info_pt : (Tryz.prog.info? 69).map (fun i => (i.zero, i.size, i.bytes)) = some (some (.agg #[.int .i64 0, .int .i64 0, .int .i64 0]), 3, 24) := by kernel_rfl
theorem infos {P : Program} {e : TypeId} {z : Value} {s b : Nat} (h : (P.info? e).map (fun i => (i.zero, i.size, i.bytes)) = some (some z, s, b)) : ∃ i, P.info? e = some i ∧ i.zero = some z ∧ i.size = s ∧ i.bytes = b := by
  cases hi : P.info? e with
  | none => rw [hi] at h; cases h
  | some i =>
    rw [hi] at h
    simp at h
    exact ⟨i, rfl, h.1, h.2.1, h.2.2⟩

abbrev ints (l : List Int) : List Value := l.map (Value.int .i64)
def ptCells (p : Pt) : List Value := [.int .i64 p.x, .int .i64 p.lo, .int .i64 p.hi]
def pts : List Pt → List Value
  | [] => []
  | p :: l => ptCells p ++ pts l
theorem pts_append (a b : List Pt) : pts (a ++ b) = pts a ++ pts b := by
  induction a with
  | nil => rfl
  | cons p l ih => simp [pts, ih]
/-- A slice of numbers, of points, that the call has laid in a block from B on. -/
def OwnI (w : World) (B : Nat) (v : Value) (l : List Int) : Prop := w.ownsRow B 3 1 v l.length (ints l)
def OwnP (w : World) (B : Nat) (v : Value) (l : List Pt) : Prop := w.ownsRow B 69 3 v l.length (pts l)

theorem below_of_grown {w w' : World} {B : Nat} {v : Value} (hg : w.grownBy w' v.ownBlock) (hB : B ≤ w.heap.size) (hv : ∀ k, v.ownBlock = some k → B ≤ k) : Below B w w' :=
  (Below.refl B w).grown hg hB hv

theorem app_pt {w : World} {ops : Array Oper} {rest : List Oper} {o : Oper} {a : Act} {Q : Exit → Act → World → Prop} (hgd : o.guard = none) (s x : Operand)
    (ho : o.op = .call { callee := .builtin .append, args := #[s, x], argTypes := #[22, 22] }) (B : Nat) (v : Value) (l : List Pt) (hs : a.eval s = v) (hown : OwnP w B v l)
    (b : Nat) (y : Pt) (hx : a.eval x = .slice (some ⟨b, 0, none⟩) 1 1) (h0 : w.cell? ⟨b, 0, none⟩ = some (.int .i64 y.x)) (h1 : w.cell? ⟨b, 1, none⟩ = some (.int .i64 y.lo)) (h2 : w.cell? ⟨b, 2, none⟩ = some (.int .i64 y.hi)) (hn : l.length ≤ 1000) (hB : B ≤ w.heap.size)
    (h : ∀ v' w', OwnP w' B v' (l ++ [y]) → Below B w w' → w.grownBy w' v.ownBlock → wpList Tryz.prog ops Q rest (a.put o.dst v') w') : wpList Tryz.prog ops Q (o :: rest) a w := by
  obtain ⟨i0, hi, hz0, hz1, hz2⟩ := infos info_pt
  refine wpList_append_own w hgd s x 22 ho B 69 i0 _ 3 24 Tryz.underlying22 hi hz0 hz1 hz2 rfl (by decide) v l.length (pts l) hs hown ⟨b, 0, none⟩ 1 1 (ptCells y) hx rfl ?_ (fun u hu => by simp [ptCells] at hu; rcases hu with rfl | rfl | rfl <;> rfl) (by unfold maxLen; omega) (by omega) hB ?_
  · intro j u hu
    match j, hu with
    | 0, hu => cases hu; exact h0
    | 1, hu => cases hu; exact h1
    | 2, hu => cases hu; exact h2
  · intro v' w' h1 h2 _
    refine h v' w' ?_ (below_of_grown h2 hB fun k hk => (hown.lt k hk).1) h2
    unfold OwnP
    rw [List.length_append, pts_append]
    simpa [pts] using h1

theorem OwnI.bel {w w' : World} {B B' : Nat} {v : Value} {l : List Int} (h : OwnI w B v l) (hb : Below B' w w') (hv : ∀ k, v.ownBlock = some k → k < B') : OwnI w' B v l := by
  refine ⟨h.1, ?_⟩
  rcases h.2 with hn | ⟨g, cap, cur, rfl, hb', hgg, rest⟩
  · exact .inl hn
  · exact .inr ⟨g, cap, cur, rfl, hb', (hb.block g (hv g rfl)).trans hgg, rest⟩
theorem OwnP.bel {w w' : World} {B B' : Nat} {v : Value} {l : List Pt} (h : OwnP w B v l) (hb : Below B' w w') (hv : ∀ k, v.ownBlock = some k → k < B') : OwnP w' B v l := by
  refine ⟨h.1, ?_⟩
  rcases h.2 with hn | ⟨g, cap, cur, rfl, hb', hgg, rest⟩
  · exact .inl hn
  · exact .inr ⟨g, cap, cur, rfl, hb', (hb.block g (hv g rfl)).trans hgg, rest⟩
theorem OwnI.same {w w' : World} {B : Nat} {v : Value} {l : List Int} (h : OwnI w B v l) (hb : Below w.heap.size w w') : OwnI w' B v l := h.bel hb fun k hk => (World.ownsRow.lt h k hk).2
theorem OwnP.same {w w' : World} {B : Nat} {v : Value} {l : List Pt} (h : OwnP w B v l) (hb : Below w.heap.size w w') : OwnP w' B v l := h.bel hb fun k hk => (World.ownsRow.lt h k hk).2
theorem OwnI.alloc {w : World} {B : Nat} {v : Value} {l : List Int} (h : OwnI w B v l) (o : Obj) : OwnI (w.alloc o) B v l := World.ownsRow.alloc h o
theorem OwnP.alloc {w : World} {B : Nat} {v : Value} {l : List Pt} (h : OwnP w B v l) (o : Obj) : OwnP (w.alloc o) B v l := World.ownsRow.alloc h o
theorem OwnI.bw {w : World} {B : Nat} {v : Value} {l : List Int} (h : OwnI w B v l) (x : Soft.BW w) : OwnI x.w B v l := h.same x.below
theorem OwnP.bw {w : World} {B : Nat} {v : Value} {l : List Pt} (h : OwnP w B v l) (x : Soft.BW w) : OwnP x.w B v l := h.same x.below

theorem OwnI.set {w : World} {B : Nat} {v : Value} {l : List Int} (h : OwnI w B v l) {p : Addr} (hp : p.block < B) (u : Value) : OwnI (w.setCell p u) B v l := by
  refine ⟨h.1, ?_⟩
  rcases h.2 with hn | ⟨g, cap, cur, rfl, hb', hgg, rest⟩
  · exact .inl hn
  · exact .inr ⟨g, cap, cur, rfl, hb', (Below.heap_setCell w p u g (by omega)).trans hgg, rest⟩
theorem OwnP.set {w : World} {B : Nat} {v : Value} {l : List Pt} (h : OwnP w B v l) {p : Addr} (hp : p.block < B) (u : Value) : OwnP (w.setCell p u) B v l := by
  refine ⟨h.1, ?_⟩
  rcases h.2 with hn | ⟨g, cap, cur, rfl, hb', hgg, rest⟩
  · exact .inl hn
  · exact .inr ⟨g, cap, cur, rfl, hb', (Below.heap_setCell w p u g (by omega)).trans hgg, rest⟩

theorem OwnI.shape {w : World} {B : Nat} {v : Value} {l : List Int} (h : OwnI w B v l) (hn : l ≠ []) : ∃ g c, v = .slice (some ⟨g, 0, none⟩) l.length c ∧ B ≤ g ∧ g < w.heap.size ∧ l.length ≤ c ∧ c ≤ 9223372036854775807 := by
  rcases h.2 with ⟨_, h'⟩ | ⟨g, c, cur, h', hb, hg, h1, h2, _⟩
  · exact absurd (List.eq_nil_of_length_eq_zero h') hn
  · exact ⟨g, c, h', hb, (Array.getElem?_eq_some_iff.1 hg).1, h1, h2⟩
theorem OwnP.shape {w : World} {B : Nat} {v : Value} {l : List Pt} (h : OwnP w B v l) (hn : l ≠ []) : ∃ g c, v = .slice (some ⟨g, 0, none⟩) l.length c ∧ B ≤ g ∧ g < w.heap.size ∧ l.length ≤ c ∧ c ≤ 9223372036854775807 := by
  rcases h.2 with ⟨_, h'⟩ | ⟨g, c, cur, h', hb, hg, h1, h2, _⟩
  · exact absurd (List.eq_nil_of_length_eq_zero h') hn
  · exact ⟨g, c, h', hb, (Array.getElem?_eq_some_iff.1 hg).1, h1, h2⟩

/-- The block of an array of its own, whole. -/
theorem OwnP.blk {w : World} {B g n c : Nat} {l : List Pt} (h : OwnP w B (.slice (some ⟨g, 0, none⟩) n c) l) (hn : l ≠ []) : ∃ cur, w.heap[g]? = some (.cells cur 69) := by
  rcases h.2 with ⟨hh, _⟩ | ⟨g', cap, cur, hh, hb', hgg, rest⟩
  · cases hh
  · cases hh; exact ⟨cur, hgg⟩

theorem OwnI.cell {w : World} {B g n c : Nat} {l : List Int} (h : OwnI w B (.slice (some ⟨g, 0, none⟩) n c) l) (i : Nat) (hi : i < l.length) : w.cell? ⟨g, i, none⟩ = some (.int .i64 (iv l i)) := by
  have h' := h
  unfold OwnI at h
  obtain rfl : n = l.length := by
    rcases h.2 with ⟨hh, _⟩ | ⟨_, _, _, hh, _⟩
    · cases hh
    · cases hh; rfl
  rw [h.cellAt i (by omega)]
  simp [iv, hi]

theorem pts_get : ∀ (l : List Pt) (i : Nat), i < l.length → (pts l)[i * 3]? = some (.int .i64 (pt l i).x) ∧ (pts l)[i * 3 + 1]? = some (.int .i64 (pt l i).lo) ∧ (pts l)[i * 3 + 2]? = some (.int .i64 (pt l i).hi)
  | p :: l, 0, _ => ⟨rfl, rfl, rfl⟩
  | p :: l, i + 1, h => by
    obtain ⟨a, b, c⟩ := pts_get l i (by simpa using h)
    have e : pt (p :: l) (i + 1) = pt l i := by simp [pt]
    rw [e]
    have k : ∀ j, (pts (p :: l))[j + 3]? = (pts l)[j]? := fun j => by
      rw [show pts (p :: l) = ptCells p ++ pts l from rfl, List.getElem?_append_right (by simp [ptCells])]
      simp [ptCells]
    rw [show (i + 1) * 3 = i * 3 + 3 by omega, show i * 3 + 3 + 1 = i * 3 + 1 + 3 by omega, show i * 3 + 3 + 2 = i * 3 + 2 + 3 by omega, k, k, k]
    exact ⟨a, b, c⟩

theorem OwnP.cell {w : World} {B g n c : Nat} {l : List Pt} (h : OwnP w B (.slice (some ⟨g, 0, none⟩) n c) l) (i : Nat) (hi : i < l.length) :
    w.cell? ⟨g, i * 3, none⟩ = some (.int .i64 (pt l i).x) ∧ w.cell? ⟨g, i * 3 + 1, none⟩ = some (.int .i64 (pt l i).lo) ∧ w.cell? ⟨g, i * 3 + 2, none⟩ = some (.int .i64 (pt l i).hi) := by
  unfold OwnP at h
  obtain rfl : n = l.length := by
    rcases h.2 with ⟨hh, _⟩ | ⟨_, _, _, hh, _⟩
    · cases hh
    · cases hh; rfl
  rw [h.cellAt (i * 3) (by omega), h.cellAt (i * 3 + 1) (by omega), h.cellAt (i * 3 + 2) (by omega)]
  exact pts_get l i hi

theorem OwnI.at {w : World} {B g n c : Nat} {l : List Int} (h : OwnI w B (.slice (some ⟨g, 0, none⟩) n c) l) (hl : ∀ i, I64 (iv l i)) (hn : l.length ≤ 1000) (h0 : l ≠ []) : Is.At w ⟨some ⟨g, 0, none⟩, n, c, l⟩ := by
  obtain ⟨g', c', e, _, h2, h3, h4⟩ := h.shape h0
  cases e
  exact ⟨rfl, by dsimp only; omega, h3, h4, hl, fun _ => ⟨g, 0, rfl, h2, fun i hi => by rw [Nat.zero_add]; exact h.cell i hi⟩⟩

theorem OwnP.at {w : World} {B g n c : Nat} {l : List Pt} (h : OwnP w B (.slice (some ⟨g, 0, none⟩) n c) l) (hn : l.length ≤ 1000) (h0 : l ≠ []) : Tb.At w ⟨some ⟨g, 0, none⟩, n, c, l⟩ := by
  obtain ⟨g', c', e, _, h2, h3, h4⟩ := h.shape h0
  cases e
  exact ⟨rfl, by dsimp only; omega, h3, h4, fun _ => ⟨g, 0, rfl, h2, fun i hi => by rw [Nat.zero_add]; exact h.cell i hi⟩⟩

end Go.Proofs.YteagdcgmmdiakaaGreat

namespace Go.Proofs.YteagdcgmmdiakaaGreat
set_option linter.unusedSimpArgs false
set_option linter.unusedVariables false
open Go.RowKit

theorem app_intx {w : World} {ops : Array Oper} {rest : List Oper} {o : Oper} {a : Act} {Q : Exit → Act → World → Prop} (hgd : o.guard = none) (s x : Operand)
    (ho : o.op = .call { callee := .builtin .append, args := #[s, x], argTypes := #[39, 39] }) (B : Nat) (v : Value) (l : List Int) (hs : a.eval s = v) (hown : OwnI w B v l)
    (b : Nat) (y : Int) (hx : a.eval x = .slice (some ⟨b, 0, none⟩) 1 1) (hb : w.cell? ⟨b, 0, none⟩ = some (.int .i64 y)) (hn : l.length ≤ 1000) (hB : B ≤ w.heap.size)
    (h : ∀ g cap w', OwnI w' B (.slice (some ⟨g, 0, none⟩) (l.length + 1) cap) (l ++ [y]) → Below B w w' → w.grownBy w' v.ownBlock → (v.ownBlock = some g ∨ g = w.heap.size) → g < w'.heap.size → wpList Tryz.prog ops Q rest (a.put o.dst (.slice (some ⟨g, 0, none⟩) (l.length + 1) cap)) w') : wpList Tryz.prog ops Q (o :: rest) a w := by
  obtain ⟨i0, hi, hz0, hz1, hz2⟩ := infos info_int
  refine wpList_append_lies w hgd s x 39 ho B 3 i0 (.int .i64 0) 1 8 Tryz.underlying39 hi hz0 hz1 hz2 rfl (by decide) v l.length (ints l) hs hown ⟨b, 0, none⟩ 1 1 [.int .i64 y] hx rfl ?_ (fun u hu => by simp at hu; subst hu; rfl) (by decide) (by unfold maxLen; omega) (by omega) hB w.heap.size rfl ?_
  · intro j u hu
    match j, hu with
    | 0, hu => cases hu; exact hb
  · intro g cap w' h1 h2 h3 h4
    refine h g cap w' ?_ (below_of_grown h2 hB fun k hk => (hown.lt k hk).1) h2 h3 h4
    unfold OwnI ints
    rw [List.length_append, List.map_append]
    exact h1

/-- Three rows of integers, each in an array of its own. -/
structure Own3 (w : World) (B : Nat) (u v z : Value) (a b c : List Int) : Prop where
  o1 : OwnI w B u a
  o2 : OwnI w B v b
  o3 : OwnI w B z c
  n12 : ∀ g, u.ownBlock = some g → v.ownBlock ≠ some g
  n13 : ∀ g, u.ownBlock = some g → z.ownBlock ≠ some g
  n23 : ∀ g, v.ownBlock = some g → z.ownBlock ≠ some g

theorem Own3.nil (w : World) (B : Nat) : Own3 w B (.slice none 0 0) (.slice none 0 0) (.slice none 0 0) [] [] [] :=
  ⟨World.ownsRow_nil _ _ _ _, World.ownsRow_nil _ _ _ _, World.ownsRow_nil _ _ _ _, fun g h => (by cases h), fun g h => (by cases h), fun g h => (by cases h)⟩
theorem Own3.alloc {w : World} {B : Nat} {u v z : Value} {a b c : List Int} (h : Own3 w B u v z a b c) (o : Obj) : Own3 (w.alloc o) B u v z a b c :=
  ⟨h.o1.alloc o, h.o2.alloc o, h.o3.alloc o, h.n12, h.n13, h.n23⟩

theorem OwnI.far {w w' : World} {B : Nat} {v u : Value} {l : List Int} (h : OwnI w B v l) (hg : w.grownBy w' u.ownBlock) (hne : ∀ g, u.ownBlock = some g → v.ownBlock ≠ some g) : OwnI w' B v l := by
  refine World.ownsRow.kept h hg ?_
  cases hv : v.ownBlock with
  | none => exact .inl rfl
  | some k => exact .inr (fun e => hne k e.symm hv)
end Go.Proofs.YteagdcgmmdiakaaGreat

namespace Go.Proofs.YteagdcgmmdiakaaGreat
set_option linter.unusedSimpArgs false
set_option linter.unusedVariables false
open Go.ChangeShapes Go.WideShapes Go.ChangeAt Go.RowKit Go.Joins
set_option maxRecDepth 100000
set_option maxHeartbeats 1000000

theorem own_ : ownKnob Tryz.prog.godebug = none := by kernel_rfl
theorem laid_ : laidOutB Tryz.prog = true := by kernel_rfl
theorem cellsInt : Tryz.prog.cellsOf 3 = 1 := by kernel_rfl
theorem bytesInt : Tryz.prog.bytesOf 3 = 8 := by kernel_rfl
section
variable {H : Type} {enc : TypeId × Value → H} {W : World} {base : Nat}

theorem wf_i64 {n : Int} (h : (Lit.int .i64 n).wf = true) : I64 n := by
  simp [Lit.wf, IntKind.min, IntKind.max, IntKind.signed, IntKind.bits] at h
  exact ⟨by omega, by omega⟩

theorem open_is {fuel : Nat} {cs : List Value} {x : DataW H × List MemPlace} (hf : DataW.trod enc Tryz.prog W 0 (fun _ => true) true fuel 39 cs = some x)
    (hw : ∀ n ∈ x.1.weights Tryz.prog 39, n ≤ reachBytes) : ∃ s : Is, cs = [.slice s.p s.n s.c] ∧ s.At W := by
  rcases open_ints Tryz.underlying39 Tryz.underlying3 cellsInt hf with ⟨hcs, _⟩ | ⟨a, len, cap, zs, hcs, _, hl, hm, hz, hx, hcell, hwz⟩
  · exact ⟨⟨none, 0, 0, []⟩, hcs, rfl, by decide, by decide, by decide, fun i => by simp [iv, I64], fun h => absurd rfl h⟩
  · simp only [if_true] at hz
    subst hx
    have h0 := hw ((len + (cap - len)) * 8) (by simp [DataW.weights, Tryz.underlying39, lits, bytesInt, hz]; left; omega)
    simp [reachBytes] at h0
    refine ⟨⟨some a, len, cap, zs.take len⟩, hcs, by simp; omega, by dsimp only; omega, hl, by have : maxLen = 9223372036854775807 := rfl; dsimp only; omega, fun i => ?_, fun hn => ?_⟩
    · dsimp only [iv]
      cases e : (zs.take len)[i]? with
      | none => simp [I64]
      | some v => exact wf_i64 (hwz v (List.mem_of_mem_take (List.mem_of_getElem? e)))
    · dsimp only at hn
      obtain ⟨b, off, spot⟩ := a
      have hspot : spot = none := by simpa [Addr.add] using World.cell?_spot (hcell 0 (by omega))
      subst hspot
      refine ⟨b, off, rfl, World.block_lt_of_cell? _ _ (hcell 0 (by omega)), fun i hi => ?_⟩
      dsimp only at hi
      have := hcell i (by omega)
      have ea : (⟨b, off, none⟩ : Addr).add i = ⟨b, off + i, none⟩ := by
        unfold Addr.add
        split
        · next h => subst h; rfl
        · rfl
      rw [ea] at this
      rw [this]
      simp [iv, List.getElem?_take, hi, List.getD]

end

end Go.Proofs.YteagdcgmmdiakaaGreat

namespace Go.Proofs.YteagdcgmmdiakaaGreat
set_option linter.unusedSimpArgs false
set_option linter.unusedVariables false
open Go.ChangeShapes Go.WideShapes Go.ChangeAt Go.RowKit Go.Joins
set_option maxRecDepth 100000
set_option maxHeartbeats 1000000

section
variable {H : Type} {enc : TypeId × Value → H} {W : World} {base : Nat}

theorem cellsPt : Tryz.prog.cellsOf 69 = 3 := by kernel_rfl
theorem bytesPt : Tryz.prog.bytesOf 69 = 24 := by kernel_rfl
theorem cellsPts : Tryz.prog.cellsOf 22 = 1 := by kernel_rfl
theorem cellsTb : Tryz.prog.cellsOf 24 = 1 := by kernel_rfl
theorem cellsRg : Tryz.prog.cellsOf 27 = 2 := by kernel_rfl

theorem open_pt {fuel : Nat} {cs : List Value} {x : DataW H × List MemPlace} (hf : DataW.trod enc Tryz.prog W 0 (fun _ => true) true fuel 69 cs = some x) :
    ∃ q : Pt, cs = [.int .i64 q.x, .int .i64 q.lo, .int .i64 q.hi] := by
  obtain ⟨y0, y1, y2, n, rfl, hl, t0, t1, t2⟩ := Go.Deep.trod_struct3 Tryz.underlying69 hf
  rw [cellsPt] at hl
  match cs, hl with
  | [c0, c1, c2], _ =>
    simp only [cellsInt] at t0 t1 t2
    obtain ⟨i0, e0, _, _⟩ := DataW.trod_int Tryz.underlying3 t0
    obtain ⟨i1, e1, _, _⟩ := DataW.trod_int Tryz.underlying3 t1
    obtain ⟨i2, e2, _, _⟩ := DataW.trod_int Tryz.underlying3 t2
    simp at e0 e1 e2
    subst e0 e1 e2
    exact ⟨⟨i0, i1, i2⟩, rfl⟩

theorem open_pts {fuel : Nat} {cs : List Value} {x : DataW H × List MemPlace} (hf : DataW.trod enc Tryz.prog W 0 (fun _ => true) true fuel 22 cs = some x)
    (hw : ∀ n ∈ x.1.weights Tryz.prog 22, n ≤ reachBytes) : ∃ t : Tb, cs = [.slice t.p t.n t.c] ∧ t.At W := by
  rcases Go.Deep.open_slice Tryz.underlying22 hf with ⟨hcs, _⟩ | ⟨a, len, cap, m, n, D, Pl, hcs, _, hl, hm, hz, hx, hcell⟩
  · exact ⟨⟨none, 0, 0, []⟩, hcs, rfl, by decide, by decide, by decide, fun h => absurd rfl h⟩
  · simp only [if_true] at hz
    subst hz
    subst hx
    have h0 := hw ((len + (m - len)) * 24) (by simp [DataW.weights, Tryz.underlying22, bytesPt])
    simp [reachBytes] at h0
    have hq : ∀ i, i < m → ∃ q : Pt, W.cell? (a.add (i * 3)) = some (.int .i64 q.x) ∧ W.cell? (a.add (i * 3 + 1)) = some (.int .i64 q.lo) ∧ W.cell? (a.add (i * 3 + 2)) = some (.int .i64 q.hi) := by
      intro i hi
      obtain ⟨cs', h1, h2⟩ := hcell i hi
      obtain ⟨q, rfl⟩ := open_pt h2
      rw [cellsPt] at h1
      obtain ⟨_, _, hc⟩ := World.cells?_some h1
      have e0 := hc 0 (by omega)
      have e1 := hc 1 (by omega)
      have e2 := hc 2 (by omega)
      rw [Go.Deep.add_add] at e0 e1 e2
      exact ⟨q, by simpa using e0, by simpa using e1, by simpa using e2⟩
    obtain ⟨q, hq⟩ := Go.Deep.choose_lt hq
    refine ⟨⟨some a, len, m, (List.range len).map q⟩, hcs, by simp, by dsimp only; omega, hl, by have : maxLen = 9223372036854775807 := rfl; dsimp only; omega, fun hn => ?_⟩
    dsimp only at hn
    obtain ⟨b, off, spot⟩ := a
    have hspot : spot = none := by simpa [Addr.add] using World.cell?_spot (hq 0 (by omega)).1
    subst hspot
    have ea : ∀ j, (⟨b, off, none⟩ : Addr).add j = ⟨b, off + j, none⟩ := by
      intro j
      unfold Addr.add
      split
      · next h => subst h; rfl
      · rfl
    refine ⟨b, off, rfl, World.block_lt_of_cell? _ _ (hq 0 (by omega)).1, fun i hi => ?_⟩
    dsimp only at hi ⊢
    obtain ⟨e0, e1, e2⟩ := hq i (by omega)
    rw [ea] at e0 e1 e2
    have ep : pt ((List.range len).map q) i = q i := by simp [pt, hi, List.getD]
    rw [ep, e0, Nat.add_assoc, Nat.add_assoc, e1, e2]
    exact ⟨rfl, rfl, rfl⟩

theorem open_tab {fuel : Nat} {cs : List Value} {x : DataW H × List MemPlace} (hf : DataW.trod enc Tryz.prog W 0 (fun _ => true) true fuel 24 cs = some x)
    (hw : ∀ n ∈ x.1.weights Tryz.prog 24, n ≤ reachBytes) : ∃ t : Tb, cs = [.slice t.p t.n t.c] ∧ t.At W := by
  obtain ⟨y0, n, rfl, hl, t0⟩ := Go.ChangeShapes.trod_struct1 Tryz.underlying24 hf
  rw [cellsTb] at hl
  match cs, hl with
  | [c0], _ =>
    simp only [cellsPts] at t0
    obtain ⟨t, e, a⟩ := open_pts t0 (fun n hn => hw n (by simp only [DataW.weights, Tryz.underlying24]; exact DataW.weights_mem_each (j := 0) rfl rfl n hn))
    exact ⟨t, by simpa using e, a⟩

theorem open_rng {fuel : Nat} {cs : List Value} {x : DataW H × List MemPlace} (hf : DataW.trod enc Tryz.prog W 0 (fun _ => true) true fuel 27 cs = some x) :
    ∃ r : Rg, cs = [.int .i64 r.lo, .int .i64 r.hi] := by
  obtain ⟨y0, y1, n, rfl, hl, t0, t1⟩ := Go.ChangeShapes.trod_struct2 Tryz.underlying27 hf
  rw [cellsRg] at hl
  match cs, hl with
  | [c0, c1], _ =>
    simp only [cellsInt] at t0 t1
    obtain ⟨i0, e0, _, _⟩ := DataW.trod_int Tryz.underlying3 t0
    obtain ⟨i1, e1, _, _⟩ := DataW.trod_int Tryz.underlying3 t1
    simp at e0 e1
    subst e0 e1
    exact ⟨⟨i0, i1⟩, rfl⟩

end

end Go.Proofs.YteagdcgmmdiakaaGreat

namespace Go.Proofs.YteagdcgmmdiakaaGreat
set_option linter.unusedSimpArgs false
set_option linter.unusedVariables false
open Go.RowKit
set_option maxRecDepth 100000
set_option maxHeartbeats 1000000
attribute [local go_sem] Instr.field asAgg Soft.upon Soft.BW.cell_if Soft.BW.frozen_if Soft.cell_alloc_if Soft.frozen_alloc_if

/-- The four functions of states, and a fill's moment. -/
theorem states1 (h : Ho) (f : Fi) (w : World) :
    Calls Tryz.prog 134 #[.agg #[.int .i64 (h).id, .int .i64 ((h).along).lo, .int .i64 ((h).along).hi, .slice ((h).vol).p ((h).vol).n ((h).vol).c, .slice ((h).mom).p ((h).mom).n ((h).mom).c, .slice ((h).hei).p ((h).hei).n ((h).hei).c, .int .i64 ((h).tri).lo, .int .i64 ((h).tri).hi, .int .i64 ((h).unt).lo, .int .i64 ((h).unt).hi, .int .i64 ((h).v0).lo, .int .i64 ((h).v0).hi, .int .i64 ((h).h0).lo, .int .i64 ((h).h0).hi], .agg #[.int .i64 (f).hold, .int .i64 (f).state, .int .i64 ((f).ull).lo, .int .i64 ((f).ull).hi, .int .i64 ((f).den).lo, .int .i64 ((f).den).hi]] w fun e w' => e = .returned (.agg #[.int .i64 ((⟨0, 0⟩ : Rg)).lo, .int .i64 ((⟨0, 0⟩ : Rg)).hi]) ∧ Below w.heap.size w w' := by
  go_enter Tryz.func134, Tryz.ntmps134
  go_wp2_with fail
  refine bodyPost_ret (v := .agg #[.int .i64 ((⟨0, 0⟩ : Rg)).lo, .int .i64 ((⟨0, 0⟩ : Rg)).hi]) (by simp [results, Tryz.results134, go_sem]) rfl ?_
  refine ⟨rfl, ?_⟩
  (with_reducible repeat (first | exact blr _ | refine bla ?_ _ | refine blw _ ?_ | refine bld ?_ | refine bln _ ?_ | refine bls ?_ _ | refine blt ?_))
theorem states2 (h : Ho) (f : Fi) (w : World) :
    Calls Tryz.prog 135 #[.agg #[.int .i64 (h).id, .int .i64 ((h).along).lo, .int .i64 ((h).along).hi, .slice ((h).vol).p ((h).vol).n ((h).vol).c, .slice ((h).mom).p ((h).mom).n ((h).mom).c, .slice ((h).hei).p ((h).hei).n ((h).hei).c, .int .i64 ((h).tri).lo, .int .i64 ((h).tri).hi, .int .i64 ((h).unt).lo, .int .i64 ((h).unt).hi, .int .i64 ((h).v0).lo, .int .i64 ((h).v0).hi, .int .i64 ((h).h0).lo, .int .i64 ((h).h0).hi], .agg #[.int .i64 (f).hold, .int .i64 (f).state, .int .i64 ((f).ull).lo, .int .i64 ((f).ull).hi, .int .i64 ((f).den).lo, .int .i64 ((f).den).hi]] w fun e w' => e = .returned (.agg #[.int .i64 (h.tri).lo, .int .i64 (h.tri).hi]) ∧ Below w.heap.size w w' := by
  go_enter Tryz.func135, Tryz.ntmps135
  go_wp2_with fail
  refine bodyPost_ret (v := .agg #[.int .i64 (h.tri).lo, .int .i64 (h.tri).hi]) (by simp [results, Tryz.results135, go_sem]) rfl ?_
  refine ⟨rfl, ?_⟩
  (with_reducible repeat (first | exact blr _ | refine bla ?_ _ | refine blw _ ?_ | refine bld ?_ | refine bln _ ?_ | refine bls ?_ _ | refine blt ?_))
theorem states3 (h : Ho) (f : Fi) (w : World) :
    Calls Tryz.prog 136 #[.agg #[.int .i64 (h).id, .int .i64 ((h).along).lo, .int .i64 ((h).along).hi, .slice ((h).vol).p ((h).vol).n ((h).vol).c, .slice ((h).mom).p ((h).mom).n ((h).mom).c, .slice ((h).hei).p ((h).hei).n ((h).hei).c, .int .i64 ((h).tri).lo, .int .i64 ((h).tri).hi, .int .i64 ((h).unt).lo, .int .i64 ((h).unt).hi, .int .i64 ((h).v0).lo, .int .i64 ((h).v0).hi, .int .i64 ((h).h0).lo, .int .i64 ((h).h0).hi], .agg #[.int .i64 (f).hold, .int .i64 (f).state, .int .i64 ((f).ull).lo, .int .i64 ((f).ull).hi, .int .i64 ((f).den).lo, .int .i64 ((f).den).hi]] w fun e w' => e = .returned (.agg #[.int .i64 (h.unt).lo, .int .i64 (h.unt).hi]) ∧ Below w.heap.size w w' := by
  go_enter Tryz.func136, Tryz.ntmps136
  go_wp2_with fail
  refine bodyPost_ret (v := .agg #[.int .i64 (h.unt).lo, .int .i64 (h.unt).hi]) (by simp [results, Tryz.results136, go_sem]) rfl ?_
  refine ⟨rfl, ?_⟩
  (with_reducible repeat (first | exact blr _ | refine bla ?_ _ | refine blw _ ?_ | refine bld ?_ | refine bln _ ?_ | refine bls ?_ _ | refine blt ?_))
theorem states4 (h : Ho) (f : Fi) (w : World) (hm : h.mom.At w) :
    Calls Tryz.prog 137 #[.agg #[.int .i64 (h).id, .int .i64 ((h).along).lo, .int .i64 ((h).along).hi, .slice ((h).vol).p ((h).vol).n ((h).vol).c, .slice ((h).mom).p ((h).mom).n ((h).mom).c, .slice ((h).hei).p ((h).hei).n ((h).hei).c, .int .i64 ((h).tri).lo, .int .i64 ((h).tri).hi, .int .i64 ((h).unt).lo, .int .i64 ((h).unt).hi, .int .i64 ((h).v0).lo, .int .i64 ((h).v0).hi, .int .i64 ((h).h0).lo, .int .i64 ((h).h0).hi], .agg #[.int .i64 (f).hold, .int .i64 (f).state, .int .i64 ((f).ull).lo, .int .i64 ((f).ull).hi, .int .i64 ((f).den).lo, .int .i64 ((f).den).hi]] w fun e w' => e = .returned (.agg #[.int .i64 ((overE h.mom.ps f.ull).1).lo, .int .i64 ((overE h.mom.ps f.ull).1).hi]) ∧ Below w.heap.size w w' := by
  go_enter Tryz.func137, Tryz.ntmps137
  go_wp2_with (go_at_call 85; (with_reducible refine (hold_over h.mom f.ull _ (by repeat (first | exact hm | refine Tb.At.alloc ?_ _ | refine Tb.At.bw ?_ _))).mono ?_); rintro e w_ ⟨rfl, hb_⟩; obtain ⟨y1, rfl⟩ := Soft.BW.mk hb_; clear hb_)
  refine bodyPost_ret (v := .agg #[.int .i64 ((overE h.mom.ps f.ull).1).lo, .int .i64 ((overE h.mom.ps f.ull).1).hi]) (by simp [results, Tryz.results137, go_sem]) rfl ?_
  refine ⟨rfl, ?_⟩
  (with_reducible repeat (first | exact blr _ | refine bla ?_ _ | refine blw _ ?_ | refine bld ?_ | refine bln _ ?_ | refine bls ?_ _ | refine blt ?_))

def momS (h : Ho) (f : Fi) : Rg := if f.state = 1 then h.tri else if f.state = 2 then h.unt else if f.state = 3 then (overE h.mom.ps f.ull).1 else ⟨0, 0⟩



theorem hold_moment (h : Ho) (f : Fi) (w : World) (hh : h.At w) (hs : 0 ≤ f.state ∧ f.state ≤ 5) :
    Calls Tryz.prog 83 #[.agg #[.int .i64 (h).id, .int .i64 ((h).along).lo, .int .i64 ((h).along).hi, .slice ((h).vol).p ((h).vol).n ((h).vol).c, .slice ((h).mom).p ((h).mom).n ((h).mom).c, .slice ((h).hei).p ((h).hei).n ((h).hei).c, .int .i64 ((h).tri).lo, .int .i64 ((h).tri).hi, .int .i64 ((h).unt).lo, .int .i64 ((h).unt).hi, .int .i64 ((h).v0).lo, .int .i64 ((h).v0).hi, .int .i64 ((h).h0).lo, .int .i64 ((h).h0).hi], .agg #[.int .i64 (f).hold, .int .i64 (f).state, .int .i64 ((f).ull).lo, .int .i64 ((f).ull).hi, .int .i64 ((f).den).lo, .int .i64 ((f).den).hi]] w fun e w' => e = .returned (.agg #[.int .i64 (momS h f).lo, .int .i64 (momS h f).hi]) ∧ Below w.heap.size w w' := by
  have hm := hh.2.1
  by_cases hc : f.state = 1
  · have HST := Lib.hid (show stIs f.state true true false (.func (.func 135) #[] #[]) from .inr (.inl ⟨hc, rfl, rfl, rfl, rfl⟩))
    have HV := Lib.hid (show momS h f = h.tri from if_pos hc); clear hc
    go_enter Tryz.func83, Tryz.ntmps83
    go_wp2_with fail
    (refine Soft.region0 [0, 1, 2, 3, 4, 5, 6] [7] (by kernel_rfl) (by kernel_rfl) (by kernel_rfl) (by kernel_rfl) ?_; change Soft.wpSoft _ _ _ _ _ [_, _, _, _, _, _, _] _; (repeat (refine Soft.soft_step (fun K hK => ?_); go_simp; (try go_bits); first | (refine hK _ ?_; clear hK K) | (apply Exists.intro; refine ⟨fun x => ?_, hK _ ?_⟩; (first | exact hold_stateOf f.state _ _ _ _ _ HST.out | exact states2 h f _ | exact states2 h f _ (by repeat (first | exact hm | refine Tb.At.alloc ?_ _ | refine Tb.At.bw ?_ _))); clear hK K))); refine Soft.soft_nil ?_; intro xw; change wpList _ _ _ [_] _ _)
    go_wp2_with fail
    rw [HV.out]
    refine bodyPost_ret (v := .agg #[.int .i64 (h.tri).lo, .int .i64 (h.tri).hi]) (by simp [results, Tryz.results83, go_sem]) rfl ?_
    refine ⟨rfl, ?_⟩
    (with_reducible repeat (first | exact blr _ | refine bla ?_ _ | refine blw _ ?_ | refine bld ?_ | refine bln _ ?_ | refine bls ?_ _ | refine blt ?_))
  · by_cases hc2 : f.state = 2
    · have HST := Lib.hid (show stIs f.state true true false (.func (.func 136) #[] #[]) from .inr (.inr (.inl ⟨hc2, rfl, rfl, rfl, rfl⟩)))
      have HV := Lib.hid (show momS h f = h.unt by unfold momS; rw [if_neg hc, if_pos hc2]); clear hc hc2
      go_enter Tryz.func83, Tryz.ntmps83
      go_wp2_with fail
      (refine Soft.region0 [0, 1, 2, 3, 4, 5, 6] [7] (by kernel_rfl) (by kernel_rfl) (by kernel_rfl) (by kernel_rfl) ?_; change Soft.wpSoft _ _ _ _ _ [_, _, _, _, _, _, _] _; (repeat (refine Soft.soft_step (fun K hK => ?_); go_simp; (try go_bits); first | (refine hK _ ?_; clear hK K) | (apply Exists.intro; refine ⟨fun x => ?_, hK _ ?_⟩; (first | exact hold_stateOf f.state _ _ _ _ _ HST.out | exact states3 h f _ | exact states3 h f _ (by repeat (first | exact hm | refine Tb.At.alloc ?_ _ | refine Tb.At.bw ?_ _))); clear hK K))); refine Soft.soft_nil ?_; intro xw; change wpList _ _ _ [_] _ _)
      go_wp2_with fail
      rw [HV.out]
      refine bodyPost_ret (v := .agg #[.int .i64 (h.unt).lo, .int .i64 (h.unt).hi]) (by simp [results, Tryz.results83, go_sem]) rfl ?_
      refine ⟨rfl, ?_⟩
      (with_reducible repeat (first | exact blr _ | refine bla ?_ _ | refine blw _ ?_ | refine bld ?_ | refine bln _ ?_ | refine bls ?_ _ | refine blt ?_))
    · by_cases hc3 : f.state = 3
      · have HST := Lib.hid (show stIs f.state true false true (.func (.func 137) #[] #[]) from .inr (.inr (.inr (.inl ⟨hc3, rfl, rfl, rfl, rfl⟩))))
        have HV := Lib.hid (show momS h f = (overE h.mom.ps f.ull).1 by unfold momS; rw [if_neg hc, if_neg hc2, if_pos hc3]); clear hc hc2 hc3
        go_enter Tryz.func83, Tryz.ntmps83
        go_wp2_with fail
        (refine Soft.region0 [0, 1, 2, 3, 4, 5, 6] [7] (by kernel_rfl) (by kernel_rfl) (by kernel_rfl) (by kernel_rfl) ?_; change Soft.wpSoft _ _ _ _ _ [_, _, _, _, _, _, _] _; (repeat (refine Soft.soft_step (fun K hK => ?_); go_simp; (try go_bits); first | (refine hK _ ?_; clear hK K) | (apply Exists.intro; refine ⟨fun x => ?_, hK _ ?_⟩; (first | exact hold_stateOf f.state _ _ _ _ _ HST.out | exact states4 h f _ | exact states4 h f _ (by repeat (first | exact hm | refine Tb.At.alloc ?_ _ | refine Tb.At.bw ?_ _))); clear hK K))); refine Soft.soft_nil ?_; intro xw; change wpList _ _ _ [_] _ _)
        go_wp2_with fail
        rw [HV.out]
        refine bodyPost_ret (v := .agg #[.int .i64 ((overE h.mom.ps f.ull).1).lo, .int .i64 ((overE h.mom.ps f.ull).1).hi]) (by simp [results, Tryz.results83, go_sem]) rfl ?_
        refine ⟨rfl, ?_⟩
        (with_reducible repeat (first | exact blr _ | refine bla ?_ _ | refine blw _ ?_ | refine bld ?_ | refine bln _ ?_ | refine bls ?_ _ | refine blt ?_))
      · have hst : ∃ a b, stIs f.state true a b (.func (.func 134) #[] #[]) := by
          by_cases h0 : f.state = 0
          · exact ⟨_, _, .inl ⟨h0, rfl, rfl, rfl, rfl⟩⟩
          · by_cases h4 : f.state = 4
            · exact ⟨_, _, .inr (.inr (.inr (.inr (.inl ⟨h4, rfl, rfl, rfl, rfl⟩))))⟩
            · exact ⟨_, _, .inr (.inr (.inr (.inr (.inr (.inl ⟨by omega, rfl, rfl, rfl, rfl⟩)))))⟩
        obtain ⟨a, b, hst⟩ := hst
        have HST := Lib.hid hst; clear hst
        have HV := Lib.hid (show momS h f = ⟨0, 0⟩ by unfold momS; rw [if_neg hc, if_neg hc2, if_neg hc3]); clear hc hc2 hc3
        go_enter Tryz.func83, Tryz.ntmps83
        go_wp2_with fail
        (refine Soft.region0 [0, 1, 2, 3, 4, 5, 6] [7] (by kernel_rfl) (by kernel_rfl) (by kernel_rfl) (by kernel_rfl) ?_; change Soft.wpSoft _ _ _ _ _ [_, _, _, _, _, _, _] _; (repeat (refine Soft.soft_step (fun K hK => ?_); go_simp; (try go_bits); first | (refine hK _ ?_; clear hK K) | (apply Exists.intro; refine ⟨fun x => ?_, hK _ ?_⟩; (first | exact hold_stateOf f.state _ _ _ _ _ HST.out | exact states1 h f _ | exact states1 h f _ (by repeat (first | exact hm | refine Tb.At.alloc ?_ _ | refine Tb.At.bw ?_ _))); clear hK K))); refine Soft.soft_nil ?_; intro xw; change wpList _ _ _ [_] _ _)
        go_wp2_with fail
        rw [HV.out]
        refine bodyPost_ret (v := .agg #[.int .i64 ((⟨0, 0⟩ : Rg)).lo, .int .i64 ((⟨0, 0⟩ : Rg)).hi]) (by simp [results, Tryz.results83, go_sem]) rfl ?_
        refine ⟨rfl, ?_⟩
        (with_reducible repeat (first | exact blr _ | refine bla ?_ _ | refine blw _ ?_ | refine bld ?_ | refine bln _ ?_ | refine bls ?_ _ | refine blt ?_))

/-! ### Valid holds and fills -/

theorem fill_ok {h : Ho} {f : Fi} (e : fillErr h f = 0) : HoldOk h ∧ FillIn h f := by
  unfold fillErr at e
  by_cases h0 : HoldOk h
  · rw [if_pos h0] at e
    by_cases h1 : FillIn h f
    · exact ⟨h0, h1⟩
    · rw [if_neg h1] at e; omega
  · rw [if_neg h0] at e; omega
theorem part_in {r : Rg} {a b : Int} (h : isPart r a b) : RgIn r a b := ⟨h.1, h.2.1, h.2.2⟩
theorem RgIn.mono {r : Rg} {a b c d : Int} (h : RgIn r a b) (h1 : c ≤ a) (h2 : b ≤ d) : RgIn r c d := ⟨by have := h.a; omega, h.b, by have := h.c; omega⟩
theorem zero_in {a b : Int} (h1 : a ≤ 0) (h2 : 0 ≤ b) : RgIn ⟨0, 0⟩ a b := ⟨h1, Int.le_refl _, h2⟩
theorem fillS_in {f : Fi} {filled : Rg} {ps : List Pt} (h1 : isPart filled 0 1000000000) (h2 : Tab2 ps) : RgIn (fillS f filled ps) 0 1000000000 := by
  unfold fillS
  split
  · exact part_in h1
  · split
    · exact overE_pos h2 _
    · exact zero_in (by omega) (by omega)
theorem volS_in {h : Ho} (h0 : HoldOk h) (f : Fi) : RgIn (volS h f) 0 1000000000 := fillS_in h0.v0 h0.tabs.1
theorem heightS_in {h : Ho} (h0 : HoldOk h) (f : Fi) : RgIn (heightS h f) 0 1000000000 := fillS_in h0.h0 h0.tabs.2.2.1
theorem momS_in {h : Ho} (h0 : HoldOk h) (f : Fi) : RgIn (momS h f) 0 1000000000 := by
  unfold momS
  split
  · exact part_in h0.tri
  · split
    · exact part_in h0.unt
    · split
      · exact overE_pos h0.tabs.2.1.1 _
      · exact zero_in (by omega) (by omega)
theorem den_in {h : Ho} {f : Fi} (h1 : FillIn h f) : RgIn f.den 0 2000 := by
  obtain ⟨_, ⟨_, _, e⟩ | ⟨_, _, e⟩ | ⟨_, _, e⟩⟩ := h1
  · rw [e]; exact zero_in (by omega) (by omega)
  · exact (part_in e).mono (by omega) (by omega)
  · exact (part_in e).mono (by omega) (by omega)
theorem state_in {h : Ho} {f : Fi} (h1 : FillIn h f) : 0 ≤ f.state ∧ f.state ≤ 5 := by
  obtain ⟨_, h⟩ := h1
  omega

def massS (h : Ho) (f : Fi) : Rg := weighS (volS h f) f.den
def heelS (h : Ho) (f : Fi) : Rg := weighS (momS h f) f.den
def wtS (h : Ho) (f : Fi) : Wt := ⟨massS h f, h.along, heightS h f⟩

theorem hold_mass (h : Ho) (f : Fi) (w : World) (hh : h.At w) (hok : fillErr h f = 0) :
    Calls Tryz.prog 139 #[.agg #[.int .i64 (h).id, .int .i64 ((h).along).lo, .int .i64 ((h).along).hi, .slice ((h).vol).p ((h).vol).n ((h).vol).c, .slice ((h).mom).p ((h).mom).n ((h).mom).c, .slice ((h).hei).p ((h).hei).n ((h).hei).c, .int .i64 ((h).tri).lo, .int .i64 ((h).tri).hi, .int .i64 ((h).unt).lo, .int .i64 ((h).unt).hi, .int .i64 ((h).v0).lo, .int .i64 ((h).v0).hi, .int .i64 ((h).h0).lo, .int .i64 ((h).h0).hi], .agg #[.int .i64 (f).hold, .int .i64 (f).state, .int .i64 ((f).ull).lo, .int .i64 ((f).ull).hi, .int .i64 ((f).den).lo, .int .i64 ((f).den).hi]] w fun e w' => e = .returned (.agg #[.int .i64 (massS h f).lo, .int .i64 (massS h f).hi]) ∧ Below w.heap.size w w' := by
  obtain ⟨h0, h1⟩ := fill_ok hok
  have HB := Lib.hid ((volS_in h0 f).mono (c := -1000000000) (d := 1000000000) (by omega) (by omega))
  have HD := Lib.hid (den_in h1)
  clear hok h0 h1
  go_enter Tryz.func139, Tryz.ntmps139
  go_wp2_with fail
  (refine Soft.region0 [0, 1, 2, 3, 4, 5] [6] (by kernel_rfl) (by kernel_rfl) (by kernel_rfl) (by kernel_rfl) ?_; change Soft.wpSoft _ _ _ _ _ [_, _, _, _, _, _] _; (repeat (refine Soft.soft_step (fun K hK => ?_); go_simp; (try go_bits); first | (refine hK _ ?_; clear hK K) | (apply Exists.intro; refine ⟨fun x => ?_, hK _ ?_⟩; (first | (go_at_call 27; exact hold_volume h f _ (by with_reducible repeat (first | exact hh | refine Ho.At.alloc ?_ _ | refine Ho.At.bw ?_ _ | refine Tk.At.alloc ?_ _ | refine Tk.At.bw ?_ _))) | (go_at_call 82; exact hold_weighed (volS h f) f.den _ HB.out HD.out)); clear hK K))); refine Soft.soft_nil ?_; intro xw; change wpList _ _ _ [_] _ _)
  go_wp2_with fail
  refine bodyPost_ret (v := .agg #[.int .i64 (massS h f).lo, .int .i64 (massS h f).hi]) (by simp [results, Tryz.results139, go_sem, massS]) rfl ?_
  refine ⟨rfl, ?_⟩
  (with_reducible repeat (first | exact blr _ | refine bla ?_ _ | refine blw _ ?_ | refine bld ?_ | refine bln _ ?_ | refine bls ?_ _ | refine blt ?_))

theorem hold_heel (h : Ho) (f : Fi) (w : World) (hh : h.At w) (hok : fillErr h f = 0) :
    Calls Tryz.prog 35 #[.agg #[.int .i64 (h).id, .int .i64 ((h).along).lo, .int .i64 ((h).along).hi, .slice ((h).vol).p ((h).vol).n ((h).vol).c, .slice ((h).mom).p ((h).mom).n ((h).mom).c, .slice ((h).hei).p ((h).hei).n ((h).hei).c, .int .i64 ((h).tri).lo, .int .i64 ((h).tri).hi, .int .i64 ((h).unt).lo, .int .i64 ((h).unt).hi, .int .i64 ((h).v0).lo, .int .i64 ((h).v0).hi, .int .i64 ((h).h0).lo, .int .i64 ((h).h0).hi], .agg #[.int .i64 (f).hold, .int .i64 (f).state, .int .i64 ((f).ull).lo, .int .i64 ((f).ull).hi, .int .i64 ((f).den).lo, .int .i64 ((f).den).hi]] w fun e w' => e = .returned (.agg #[.int .i64 (heelS h f).lo, .int .i64 (heelS h f).hi]) ∧ Below w.heap.size w w' := by
  obtain ⟨h0, h1⟩ := fill_ok hok
  have HB := Lib.hid ((momS_in h0 f).mono (c := -1000000000) (d := 1000000000) (by omega) (by omega))
  have HD := Lib.hid (den_in h1)
  have HS := Lib.hid (state_in h1)
  clear hok h0 h1
  go_enter Tryz.func35, Tryz.ntmps35
  go_wp2_with fail
  (refine Soft.region0 [0, 1, 2, 3, 4, 5] [6] (by kernel_rfl) (by kernel_rfl) (by kernel_rfl) (by kernel_rfl) ?_; change Soft.wpSoft _ _ _ _ _ [_, _, _, _, _, _] _; (repeat (refine Soft.soft_step (fun K hK => ?_); go_simp; (try go_bits); first | (refine hK _ ?_; clear hK K) | (apply Exists.intro; refine ⟨fun x => ?_, hK _ ?_⟩; (first | (go_at_call 83; exact hold_moment h f _ (by with_reducible repeat (first | exact hh | refine Ho.At.alloc ?_ _ | refine Ho.At.bw ?_ _ | refine Tk.At.alloc ?_ _ | refine Tk.At.bw ?_ _)) HS.out) | (go_at_call 82; exact hold_weighed (momS h f) f.den _ HB.out HD.out)); clear hK K))); refine Soft.soft_nil ?_; intro xw; change wpList _ _ _ [_] _ _)
  go_wp2_with fail
  refine bodyPost_ret (v := .agg #[.int .i64 (heelS h f).lo, .int .i64 (heelS h f).hi]) (by simp [results, Tryz.results35, go_sem, heelS]) rfl ?_
  refine ⟨rfl, ?_⟩
  (with_reducible repeat (first | exact blr _ | refine bla ?_ _ | refine blw _ ?_ | refine bld ?_ | refine bln _ ?_ | refine bls ?_ _ | refine blt ?_))

end Go.Proofs.YteagdcgmmdiakaaGreat

namespace Go.Proofs.YteagdcgmmdiakaaGreat
set_option linter.unusedSimpArgs false
set_option linter.unusedVariables false
open Go.RowKit
set_option maxRecDepth 100000
set_option maxHeartbeats 400000
attribute [local go_sem] Instr.field asAgg Soft.upon Soft.BW.cell_if Soft.BW.frozen_if Soft.cell_alloc_if Soft.frozen_alloc_if

theorem hold_weight (h : Ho) (f : Fi) (w : World) (hh : h.At w) (hok : fillErr h f = 0) :
    Calls Tryz.prog 81 #[.agg #[.int .i64 (h).id, .int .i64 ((h).along).lo, .int .i64 ((h).along).hi, .slice ((h).vol).p ((h).vol).n ((h).vol).c, .slice ((h).mom).p ((h).mom).n ((h).mom).c, .slice ((h).hei).p ((h).hei).n ((h).hei).c, .int .i64 ((h).tri).lo, .int .i64 ((h).tri).hi, .int .i64 ((h).unt).lo, .int .i64 ((h).unt).hi, .int .i64 ((h).v0).lo, .int .i64 ((h).v0).hi, .int .i64 ((h).h0).lo, .int .i64 ((h).h0).hi], .agg #[.int .i64 (f).hold, .int .i64 (f).state, .int .i64 ((f).ull).lo, .int .i64 ((f).ull).hi, .int .i64 ((f).den).lo, .int .i64 ((f).den).hi]] w fun e w' => e = .returned (.agg #[.int .i64 ((wtS h f).mass).lo, .int .i64 ((wtS h f).mass).hi, .int .i64 ((wtS h f).along).lo, .int .i64 ((wtS h f).along).hi, .int .i64 ((wtS h f).high).lo, .int .i64 ((wtS h f).high).hi]) ∧ Below w.heap.size w w' := by
  have HK := Lib.hid hok; clear hok
  go_enter Tryz.func81, Tryz.ntmps81
  go_wp2_with fail
  (refine Soft.region0 [0, 1, 2, 3, 4, 5, 6, 7, 8] [9] (by kernel_rfl) (by kernel_rfl) (by kernel_rfl) (by kernel_rfl) ?_; change Soft.wpSoft _ _ _ _ _ [_, _, _, _, _, _, _, _, _] _; (repeat (refine Soft.soft_step (fun K hK => ?_); go_simp; (try go_bits); first | (refine hK _ ?_; clear hK K) | (apply Exists.intro; refine ⟨fun x => ?_, hK _ ?_⟩; (first | (go_at_call 139; exact hold_mass h f _ (by with_reducible repeat (first | exact hh | refine Ho.At.alloc ?_ _ | refine Ho.At.bw ?_ _ | refine Tk.At.alloc ?_ _ | refine Tk.At.bw ?_ _)) HK.out) | (go_at_call 140; exact hold_height h f _ (by with_reducible repeat (first | exact hh | refine Ho.At.alloc ?_ _ | refine Ho.At.bw ?_ _ | refine Tk.At.alloc ?_ _ | refine Tk.At.bw ?_ _)))); clear hK K))); refine Soft.soft_nil ?_; intro xw; change wpList _ _ _ [_] _ _)
  go_wp2_with fail
  have e : wtS h f = ⟨massS h f, h.along, heightS h f⟩ := rfl
  rw [e]
  clear e
  generalize massS h f = a
  generalize heightS h f = b
  dsimp only
  refine bodyPost_ret (v := .agg #[.int .i64 a.lo, .int .i64 a.hi, .int .i64 h.along.lo, .int .i64 h.along.hi, .int .i64 b.lo, .int .i64 b.hi]) (by simp [results, Tryz.results81, go_sem]) rfl ?_
  refine ⟨rfl, ?_⟩
  (with_reducible repeat (first | exact blr _ | refine bla ?_ _ | refine blw _ ?_ | refine bld ?_ | refine bln _ ?_ | refine bls ?_ _ | refine blt ?_))

def heelE (h : Ho) (f : Fi) : Rg := if fillErr h f = 0 then heelS h f else ⟨0, 0⟩
def wtE (h : Ho) (f : Fi) : Wt := if fillErr h f = 0 then wtS h f else ⟨⟨0, 0⟩, ⟨0, 0⟩, ⟨0, 0⟩⟩



theorem told_weight (h : Ho) (f : Fi) (w : World) (hh : h.At w) :
    Calls Tryz.prog 80 #[.agg #[.int .i64 (h).id, .int .i64 ((h).along).lo, .int .i64 ((h).along).hi, .slice ((h).vol).p ((h).vol).n ((h).vol).c, .slice ((h).mom).p ((h).mom).n ((h).mom).c, .slice ((h).hei).p ((h).hei).n ((h).hei).c, .int .i64 ((h).tri).lo, .int .i64 ((h).tri).hi, .int .i64 ((h).unt).lo, .int .i64 ((h).unt).hi, .int .i64 ((h).v0).lo, .int .i64 ((h).v0).hi, .int .i64 ((h).h0).lo, .int .i64 ((h).h0).hi], .agg #[.int .i64 (f).hold, .int .i64 (f).state, .int .i64 ((f).ull).lo, .int .i64 ((f).ull).hi, .int .i64 ((f).den).lo, .int .i64 ((f).den).hi], .func (.func 81) #[] #[]] w fun e w' => e = .returned (.tuple #[.agg #[.int .i64 ((wtE h f).mass).lo, .int .i64 ((wtE h f).mass).hi, .int .i64 ((wtE h f).along).lo, .int .i64 ((wtE h f).along).hi, .int .i64 ((wtE h f).high).lo, .int .i64 ((wtE h f).high).hi], .int .i64 (fillErr h f)]) ∧ Below w.heap.size w w' := by
  by_cases hc : fillErr h f = 0
  · have HK := Lib.hid hc
    have HV := Lib.hid (show wtE h f = wtS h f from if_pos hc)
    have d0 : (fillErr h f != 0) = false := by rw [hc]; rfl
    clear hc
    go_enter Tryz.func80, Tryz.ntmps80
    go_wp2_with (first | (go_at_call 24; (with_reducible refine (hold_CheckFill h f _ (by with_reducible repeat (first | exact hh | refine Ho.At.alloc ?_ _ | refine Ho.At.bw ?_ _ | refine Tk.At.alloc ?_ _ | refine Tk.At.bw ?_ _))).mono ?_); rintro e w_ ⟨rfl, hb_⟩; obtain ⟨y1, rfl⟩ := Soft.BW.mk hb_; clear hb_) | (go_at_call 81; (with_reducible refine (hold_weight h f _ (by with_reducible repeat (first | exact hh | refine Ho.At.alloc ?_ _ | refine Ho.At.bw ?_ _ | refine Tk.At.alloc ?_ _ | refine Tk.At.bw ?_ _)) HK.out).mono ?_); rintro e w_ ⟨rfl, hb_⟩; obtain ⟨y2, rfl⟩ := Soft.BW.mk hb_; clear hb_))
    rw [HV.out, HK.out]
    generalize wtS h f = v
    refine bodyPost_ret (v := .tuple #[.agg #[.int .i64 ((v).mass).lo, .int .i64 ((v).mass).hi, .int .i64 ((v).along).lo, .int .i64 ((v).along).hi, .int .i64 ((v).high).lo, .int .i64 ((v).high).hi], .int .i64 0]) (by simp [results, Tryz.results80, go_sem]) rfl ?_
    refine ⟨rfl, ?_⟩
    (with_reducible repeat (first | exact blr _ | refine bla ?_ _ | refine blw _ ?_ | refine bld ?_ | refine bln _ ?_ | refine bls ?_ _ | refine blt ?_))
  · have HV := Lib.hid (show wtE h f = ⟨⟨0, 0⟩, ⟨0, 0⟩, ⟨0, 0⟩⟩ from if_neg hc)
    have d0 : (fillErr h f != 0) = true := bne_iff_ne.2 hc
    clear hc
    go_enter Tryz.func80, Tryz.ntmps80
    go_wp2_with (first | (go_at_call 24; (with_reducible refine (hold_CheckFill h f _ (by with_reducible repeat (first | exact hh | refine Ho.At.alloc ?_ _ | refine Ho.At.bw ?_ _ | refine Tk.At.alloc ?_ _ | refine Tk.At.bw ?_ _))).mono ?_); rintro e w_ ⟨rfl, hb_⟩; obtain ⟨y1, rfl⟩ := Soft.BW.mk hb_; clear hb_))
    rw [HV.out]
    refine bodyPost_ret (v := .tuple #[.agg #[.int .i64 (((⟨⟨0, 0⟩, ⟨0, 0⟩, ⟨0, 0⟩⟩ : Wt)).mass).lo, .int .i64 (((⟨⟨0, 0⟩, ⟨0, 0⟩, ⟨0, 0⟩⟩ : Wt)).mass).hi, .int .i64 (((⟨⟨0, 0⟩, ⟨0, 0⟩, ⟨0, 0⟩⟩ : Wt)).along).lo, .int .i64 (((⟨⟨0, 0⟩, ⟨0, 0⟩, ⟨0, 0⟩⟩ : Wt)).along).hi, .int .i64 (((⟨⟨0, 0⟩, ⟨0, 0⟩, ⟨0, 0⟩⟩ : Wt)).high).lo, .int .i64 (((⟨⟨0, 0⟩, ⟨0, 0⟩, ⟨0, 0⟩⟩ : Wt)).high).hi], .int .i64 (fillErr h f)]) (by simp [results, Tryz.results80, go_sem]) rfl ?_
    refine ⟨rfl, ?_⟩
    (with_reducible repeat (first | exact blr _ | refine bla ?_ _ | refine blw _ ?_ | refine bld ?_ | refine bln _ ?_ | refine bls ?_ _ | refine blt ?_))

theorem hold_Weight (h : Ho) (f : Fi) (w : World) (hh : h.At w) :
    Calls Tryz.prog 33 #[.agg #[.int .i64 (h).id, .int .i64 ((h).along).lo, .int .i64 ((h).along).hi, .slice ((h).vol).p ((h).vol).n ((h).vol).c, .slice ((h).mom).p ((h).mom).n ((h).mom).c, .slice ((h).hei).p ((h).hei).n ((h).hei).c, .int .i64 ((h).tri).lo, .int .i64 ((h).tri).hi, .int .i64 ((h).unt).lo, .int .i64 ((h).unt).hi, .int .i64 ((h).v0).lo, .int .i64 ((h).v0).hi, .int .i64 ((h).h0).lo, .int .i64 ((h).h0).hi], .agg #[.int .i64 (f).hold, .int .i64 (f).state, .int .i64 ((f).ull).lo, .int .i64 ((f).ull).hi, .int .i64 ((f).den).lo, .int .i64 ((f).den).hi]] w fun e w' => e = .returned (.tuple #[.agg #[.int .i64 ((wtE h f).mass).lo, .int .i64 ((wtE h f).mass).hi, .int .i64 ((wtE h f).along).lo, .int .i64 ((wtE h f).along).hi, .int .i64 ((wtE h f).high).lo, .int .i64 ((wtE h f).high).hi], .int .i64 (fillErr h f)]) ∧ Below w.heap.size w w' := by
  go_enter Tryz.func33, Tryz.ntmps33
  go_wp2_with (go_at_call 80; (with_reducible refine (told_weight h f _ (by with_reducible repeat (first | exact hh | refine Ho.At.alloc ?_ _ | refine Ho.At.bw ?_ _ | refine Tk.At.alloc ?_ _ | refine Tk.At.bw ?_ _))).mono ?_); rintro e w_ ⟨rfl, hb_⟩; obtain ⟨y1, rfl⟩ := Soft.BW.mk hb_; clear hb_)
  generalize wtE h f = v
  refine bodyPost_ret (v := .tuple #[.agg #[.int .i64 ((v).mass).lo, .int .i64 ((v).mass).hi, .int .i64 ((v).along).lo, .int .i64 ((v).along).hi, .int .i64 ((v).high).lo, .int .i64 ((v).high).hi], .int .i64 (fillErr h f)]) (by simp [results, Tryz.results33, go_sem]) rfl ?_
  refine ⟨rfl, ?_⟩
  (with_reducible repeat (first | exact blr _ | refine bla ?_ _ | refine blw _ ?_ | refine bld ?_ | refine bln _ ?_ | refine bls ?_ _ | refine blt ?_))

end Go.Proofs.YteagdcgmmdiakaaGreat
