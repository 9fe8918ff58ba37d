/-
  Words that all texts of this seat share: a hold's tables as lists of points, what it is for them to lie in memory, and small laws on worlds.
  Conditions: none.
-/
import Derived.Test.YtbjdgaeikihjbaaProg
import Derived.Test.YtbjdgaeikihjbaaSoft
import Derived.WalkKit
import Derived.Lib.Hide
import Derived.Deep.QuietTactic
import Derived.BigQuiet
import Derived.Deep.LoopGhost
import Derived.WalkLawsBesides
import Derived.WalkSpells
namespace Go.Proofs.Ytbjdgaeikihjbaa
set_option linter.unusedSimpArgs false
set_option linter.unusedVariables false
open Go.RowKit

/-- A range. -/
structure Rg where
  lo : Int
  hi : Int
  deriving DecidableEq

/-- A point of a table. -/
structure Pt where
  x : Int
  lo : Int
  hi : Int
  deriving DecidableEq

instance : Inhabited Pt := ⟨⟨0, 0, 0⟩⟩
instance : Inhabited Rg := ⟨⟨0, 0⟩⟩

/-- A table as it lies in memory: its slice, and its points. -/
structure Tb where
  p : Option Addr
  n : Nat
  c : Nat
  ps : List Pt

/-- A point of a list, by its number. -/
abbrev pt (ps : List Pt) (i : Nat) : Pt := ps[i]?.getD default

/-- The table lies in this world's memory. -/
def Tb.At (w : World) (t : Tb) : Prop :=
  t.ps.length = t.n ∧ t.n ≤ 6000000000000 ∧ t.n ≤ t.c ∧ t.c ≤ 9223372036854775807 ∧ (t.n ≠ 0 → ∃ b o, t.p = some ⟨b, o, none⟩ ∧ b < w.heap.size ∧
    ∀ i, i < t.n → w.cell? ⟨b, o + i * 3, none⟩ = some (.int .i64 (pt t.ps i).x) ∧ w.cell? ⟨b, o + i * 3 + 1, none⟩ = some (.int .i64 (pt t.ps i).lo) ∧ w.cell? ⟨b, o + i * 3 + 2, none⟩ = some (.int .i64 (pt t.ps i).hi))

theorem Tb.At.below {w w' : World} {t : Tb} (h : t.At w) {B : Nat} (hb : Below B w w') (hB : w.heap.size ≤ B) : t.At w' := by
  obtain ⟨h1, h2, h3, h4, h5⟩ := h
  refine ⟨h1, h2, h3, h4, fun hn => ?_⟩
  obtain ⟨b, o, e, hlt, hc⟩ := h5 hn
  refine ⟨b, o, e, Nat.lt_of_lt_of_le hlt hb.size, fun i hi => ?_⟩
  obtain ⟨a1, a2, a3⟩ := hc i hi
  have hlt' : b < B := Nat.lt_of_lt_of_le hlt hB
  exact ⟨(hb.cell (p := ⟨b, _, none⟩) hlt').trans a1, (hb.cell (p := ⟨b, _, none⟩) hlt').trans a2, (hb.cell (p := ⟨b, _, none⟩) hlt').trans a3⟩

theorem Tb.At.belowAt {w w' : World} {t : Tb} (h : t.At w) {B : Nat} (hb : Below B w w') (hlt : ∀ b o, t.p = some ⟨b, o, none⟩ → b < B) : t.At w' := by
  obtain ⟨h1, h2, h3, h4, h5⟩ := h
  refine ⟨h1, h2, h3, h4, fun hn => ?_⟩
  obtain ⟨b, o, e, hl, hc⟩ := h5 hn
  refine ⟨b, o, e, Nat.lt_of_lt_of_le hl hb.size, fun i hi => ?_⟩
  obtain ⟨a1, a2, a3⟩ := hc i hi
  have hl' := hlt b o e
  exact ⟨(hb.cell (p := ⟨b, _, none⟩) hl').trans a1, (hb.cell (p := ⟨b, _, none⟩) hl').trans a2, (hb.cell (p := ⟨b, _, none⟩) hl').trans a3⟩
theorem Tb.At.same {w w' : World} {t : Tb} (h : t.At w) (hb : Below w.heap.size w w') : t.At w' := h.below hb (Nat.le_refl _)
theorem Tb.At.alloc {w : World} {t : Tb} (h : t.At w) (o : Obj) : t.At (w.alloc o) := h.same ((Below.refl _ _).alloc (Nat.le_refl _) o)

theorem Tb.At.bw {w : World} {t : Tb} (h : t.At w) (x : Soft.BW w) : t.At x.w := h.same x.below
theorem Tb.At.setCell {w : World} {t : Tb} (h : t.At w) {a : Addr} (ha : ∀ b o, t.p = some ⟨b, o, none⟩ → b ≠ a.block) (v : Value) : t.At (w.setCell a v) := by
  obtain ⟨h1, h2, h3, h4, h5⟩ := h
  refine ⟨h1, h2, h3, h4, fun hn => ?_⟩
  obtain ⟨b, o, e, hlt, hc⟩ := h5 hn
  have hne := ha b o e
  have key : ∀ i, (w.setCell a v).cell? ⟨b, i, none⟩ = w.cell? ⟨b, i, none⟩ := fun i => World.cell?_of_block (w := w) (Below.heap_setCell w a v b hne)
  refine ⟨b, o, e, by simpa using hlt, fun i hi => ?_⟩
  rw [key, key, key]
  exact hc i hi

/-- What lay below reads as it did. -/
theorem bcell {W w1 : World} {B : Nat} (hb : Below B W w1) : (∀ b o, b < B → w1.cell? ⟨b, o, none⟩ = W.cell? ⟨b, o, none⟩) ∧ (∀ b o, b < B → w1.frozen? ⟨b, o, none⟩ = W.frozen? ⟨b, o, none⟩) :=
  ⟨fun b o h => hb.cell (p := ⟨b, o, none⟩) h, fun b o h => hb.frozen (p := ⟨b, o, none⟩) h⟩

/-- A contract of a function that leaves the world as it is, in the form of one that makes memory. -/
theorem Calls.bel {P : Program} {f : FuncId} {args : Array Value} {w : World} {v : Value} (h : Calls P f args w fun e w' => e = .returned v ∧ w' = w) : Calls P f args w fun e w' => e = .returned v ∧ Below w.heap.size w w' :=
  h.mono fun _ _ ⟨he, hw⟩ => ⟨he, hw ▸ Below.refl _ _⟩

theorem bel_refl (w : World) : Below w.heap.size w w := Below.refl _ _
theorem bel_alloc {w W : World} (h : Below w.heap.size w W) (o : Obj) : Below w.heap.size w (W.alloc o) := h.alloc h.size o
theorem bel_bw {w W : World} (x : Soft.BW W) (h : Below w.heap.size w W) : Below w.heap.size w x.w := h.trans (x.below.mono h.size)
theorem bel_drew {w W : World} (h : Below w.heap.size w W) : Below w.heap.size w W.drew := h.drew
theorem bel_drewN {w W : World} (n : Nat) (h : Below w.heap.size w W) : Below w.heap.size w (W.drewN n) := below_drewN h n
theorem bel_set {w W : World} (h : Below w.heap.size w W) {p : Addr} (hp : w.heap.size ≤ p.block) (v : Value) : Below w.heap.size w (W.setCell p v) := h.setCell hp v
theorem bel_step {w W W' : World} (h : Below w.heap.size w W) (h' : Below W.heap.size W W') : Below w.heap.size w W' := h.trans (h'.mono h.size)

theorem ret_int {k : IntKind} {a b : Int} (h : a = b) : Ending.returned (.int k a) = .returned (.int k b) := by rw [h]
theorem ret_bool {a b : Bool} (h : a = b) : Ending.returned (.bool a) = .returned (.bool b) := by rw [h]

/-- A hold. -/
structure Ho where
  id : Int
  along : Rg
  vol : Tb
  mom : Tb
  hei : Tb
  tri : Rg
  unt : Rg
  v0 : Rg
  h0 : Rg

/-- A fill. -/
structure Fi where
  hold : Int
  state : Int
  ull : Rg
  den : Rg
  deriving DecidableEq

/-- A tank. -/
structure Tk where
  id : Int
  along : Rg
  vol : Tb
  sur : Tb
  hei : Tb

/-- A level. -/
structure Lv where
  tank : Int
  pressed : Bool
  snd : Rg
  den : Rg
  deriving DecidableEq

/-- A weight. -/
structure Wt where
  mass : Rg
  along : Rg
  high : Rg
  deriving DecidableEq

instance : Inhabited Fi := ⟨⟨0, 0, default, default⟩⟩
instance : Inhabited Lv := ⟨⟨0, false, default, default⟩⟩
instance : Inhabited Wt := ⟨⟨default, default, default⟩⟩

def Ho.At (w : World) (h : Ho) : Prop := h.vol.At w ∧ h.mom.At w ∧ h.hei.At w
def Tk.At (w : World) (t : Tk) : Prop := t.vol.At w ∧ t.sur.At w ∧ t.hei.At w
theorem Ho.At.same {w w' : World} {h : Ho} (a : h.At w) (hb : Below w.heap.size w w') : h.At w' := ⟨a.1.same hb, a.2.1.same hb, a.2.2.same hb⟩
theorem Tk.At.same {w w' : World} {h : Tk} (a : h.At w) (hb : Below w.heap.size w w') : h.At w' := ⟨a.1.same hb, a.2.1.same hb, a.2.2.same hb⟩
theorem Ho.At.alloc {w : World} {h : Ho} (a : h.At w) (o : Obj) : h.At (w.alloc o) := a.same ((Below.refl _ _).alloc (Nat.le_refl _) o)
theorem Tk.At.alloc {w : World} {h : Tk} (a : h.At w) (o : Obj) : h.At (w.alloc o) := a.same ((Below.refl _ _).alloc (Nat.le_refl _) o)
theorem Ho.At.bw {w : World} {h : Ho} (a : h.At w) (x : Soft.BW w) : h.At x.w := a.same x.below
theorem Tk.At.bw {w : World} {h : Tk} (a : h.At w) (x : Soft.BW w) : h.At x.w := a.same x.below

/-- A number that an int holds. -/
abbrev I64 (n : Int) : Prop := -9223372036854775808 ≤ n ∧ n ≤ 9223372036854775807

end Go.Proofs.Ytbjdgaeikihjbaa
