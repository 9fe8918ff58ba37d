/-
  The reference's maker of compartments out of numbers, first part: Mod, Pick, xs.
  An append of one number, or of one point, to a slice that the call has laid.
  Three arrays of their own that grow side by side.
  Conditions: each theorem's own premises.
-/
import Derived.Test.YtbjdgaeikihjbaaBase
import Derived.OwnWalk
import Derived.Laws.OwnMore
import Derived.Deep.AppendLies
namespace Go.Proofs.Ytbjdgaeikihjbaa
set_option linter.unusedSimpArgs false
set_option linter.unusedVariables false
open Go.RowKit
set_option maxRecDepth 100000
set_option maxHeartbeats 1000000
attribute [local go_sem] Instr.field asAgg Soft.upon Soft.BW.cell_if Soft.BW.frozen_if Soft.cell_alloc_if Soft.frozen_alloc_if

/-- A number of a list, by its place. -/
abbrev iv (xs : List Int) (i : Nat) : Int := xs[i]?.getD 0

/-- A slice of numbers as it lies in memory. -/
structure Is where
  p : Option Addr
  n : Nat
  c : Nat
  xs : List Int

def Is.At (w : World) (s : Is) : Prop :=
  s.xs.length = s.n ∧ s.n ≤ 6000000000000000 ∧ s.n ≤ s.c ∧ s.c ≤ 9223372036854775807 ∧ (∀ i, I64 (iv s.xs i)) ∧ (s.n ≠ 0 → ∃ b o, s.p = some ⟨b, o, none⟩ ∧ b < w.heap.size ∧
    ∀ i, i < s.n → w.cell? ⟨b, o + i, none⟩ = some (.int .i64 (iv s.xs i)))

theorem Is.At.below {w w' : World} {s : Is} (h : s.At w) (hb : Below w.heap.size w w') : s.At w' := by
  obtain ⟨h1, h2, h3, h4, h6, h5⟩ := h
  refine ⟨h1, h2, h3, h4, h6, fun hn => ?_⟩
  obtain ⟨b, o, e, hlt, hc⟩ := h5 hn
  exact ⟨b, o, e, Nat.lt_of_lt_of_le hlt hb.size, fun i hi => (hb.cell (p := ⟨b, _, none⟩) hlt).trans (hc i hi)⟩
theorem Is.At.belowN {w w' : World} {s : Is} (h : s.At w) {B : Nat} (hn : w.heap.size = B) (hb : Below B w w') : s.At w' := h.below (hn ▸ hb)
theorem Is.At.alloc {w : World} {s : Is} (h : s.At w) (o : Obj) : s.At (w.alloc o) := h.below ((Below.refl _ _).alloc (Nat.le_refl _) o)
theorem Is.At.bw {w : World} {s : Is} (h : s.At w) (x : Soft.BW w) : s.At x.w := h.below x.below

/-- What describes a compartment. -/
structure Rw where
  id : Int
  first : Int
  steps : Is
  vals : Is
structure Rw.At (w : World) (r : Rw) : Prop where
  id : I64 r.id
  first : I64 r.first
  steps : r.steps.At w
  vals : r.vals.At w
theorem Rw.At.below {w w' : World} {r : Rw} (h : r.At w) (hb : Below w.heap.size w w') : r.At w' := ⟨h.id, h.first, h.steps.below hb, h.vals.below hb⟩
theorem Rw.At.belowN {w w' : World} {r : Rw} (h : r.At w) {B : Nat} (hn : w.heap.size = B) (hb : Below B w w') : r.At w' := h.below (hn ▸ hb)
theorem Rw.At.alloc {w : World} {r : Rw} (h : r.At w) (o : Obj) : r.At (w.alloc o) := h.below ((Below.refl _ _).alloc (Nat.le_refl _) o)
theorem Rw.At.bw {w : World} {r : Rw} (h : r.At w) (x : Soft.BW w) : r.At x.w := h.below x.below

theorem tmod_tmod (n m : Int) (hm : 1 ≤ m) : (n.tmod m + m).tmod m = n % m := by
  have h1 := Int.lt_tmod_of_pos n (show 0 < m by omega)
  have h2 := Int.tmod_lt_of_pos n (show 0 < m by omega)
  rw [Int.tmod_eq_emod_of_nonneg (by omega)]
  rw [Int.add_emod_right]
  rw [Int.tmod_eq_emod]
  split
  · simp
  · rw [show (m.natAbs : Int) = m by omega]
    simp

theorem R2_Mod (n m r : Int) (w : World) (hm : 1 ≤ m) (hm2 : m ≤ 4611686018427387904) (hr : r = n % m) :
    Calls Try.prog 37 #[.int .i64 n, .int .i64 m] w fun e w' => e = .returned (.int .i64 r) ∧ w' = w := by
  have HR := Lib.hid (hr.trans (tmod_tmod n m hm).symm); clear hr
  have h1 := Int.lt_tmod_of_pos n (show 0 < m by omega)
  have h2 := Int.tmod_lt_of_pos n (show 0 < m by omega)
  have d0 : (m == 0) = false := by rw [beq_eq_false_iff_ne]; omega
  go_enter Try.func37, Try.ntmps37
  go_wp2
  go_ret
  refine ⟨ret_int ?_, rfl⟩
  rw [HR.out]
  exact (Int.tmod_eq_emod_of_nonneg (by omega)).symm

/-- The number of a list with an index modulo its length. -/
def pickS (xs : List Int) (i : Int) : Int := if xs.length = 0 then 0 else iv xs (i % (xs.length : Int)).toNat

theorem R2_Pick (s : Is) (i : Int) (w : World) (hs : s.At w) :
    Calls Try.prog 62 #[.slice s.p s.n s.c, .int .i64 i] w fun e w' => e = .returned (.int .i64 (pickS s.xs i)) ∧ w' = w := by
  obtain ⟨p, n, c, xs⟩ := s
  obtain ⟨h1, h2, h3, h4, h6, h5⟩ := hs
  dsimp only at *
  by_cases hn : n = 0
  · have HV := Lib.hid (show pickS xs i = 0 from if_pos (by omega))
    subst hn
    clear h1 h5 h6
    go_enter Try.func62, Try.ntmps62
    go_wp2
    go_ret
    exact ⟨ret_int HV.out.symm, rfl⟩
  · obtain ⟨b, o, rfl, hb, hc⟩ := h5 hn
    have j1 := Int.emod_nonneg i (show (n : Int) ≠ 0 by omega)
    have j2 := Int.emod_lt_of_pos i (show 0 < (n : Int) by omega)
    obtain ⟨j, hj⟩ : ∃ j : Nat, (j : Int) = i % (n : Int) := ⟨(i % (n : Int)).toNat, by omega⟩
    have HV := Lib.hid (show pickS xs i = iv xs j by unfold pickS; rw [if_neg (by omega), h1, ← hj]; rfl)
    have HJ := Lib.hid hj
    have j3 : j < n := by omega
    have c1 := hc j j3
    have d0 : ((n : Int) == 0) = false := by rw [beq_eq_false_iff_ne]; omega
    have := Soft.LtH.mk (w := w) hb
    clear hj j1 j2 h1 hc h5 h6 hn
    generalize iv xs j = v at *
    go_enter Try.func62, Try.ntmps62
    go_wp2_with (go_at_call 37; (with_reducible refine (R2_Mod _ _ (j : Int) _ (by omega) (by omega) HJ.out).mono ?_); rintro e w_ ⟨rfl, hw_⟩; subst w_)
    go_ret
    exact ⟨ret_int HV.out.symm, rfl⟩

theorem pickS_in (s : Is) (w : World) (hs : s.At w) (i : Int) : I64 (pickS s.xs i) := by
  unfold pickS
  split
  · exact ⟨by omega, by omega⟩
  · exact hs.2.2.2.2.1 _

end Go.Proofs.Ytbjdgaeikihjbaa

namespace Go.Proofs.Ytbjdgaeikihjbaa
set_option linter.unusedSimpArgs false
set_option linter.unusedVariables false
open Go.RowKit
set_option maxRecDepth 100000

theorem info_int : (Try.prog.info? 3).map (fun i => (i.zero, i.size, i.bytes)) = some (some (.int .i64 0), 1, 8) := by kernel_rfl
theorem info_pt : (Try.prog.info? 114).map (fun i => (i.zero, i.size, i.bytes)) = some (some (.agg #[.int .i64 0, .int .i64 0, .int .i64 0]), 3, 24) := by kernel_rfl
theorem infos {P : Program} {e : TypeId} {z : Value} {s b : Nat} (h : (P.info? e).map (fun i => (i.zero, i.size, i.bytes)) = some (some z, s, b)) : ∃ i, P.info? e = some i ∧ i.zero = some z ∧ i.size = s ∧ i.bytes = b := by
  cases hi : P.info? e with
  | none => rw [hi] at h; cases h
  | some i =>
    rw [hi] at h
    simp at h
    exact ⟨i, rfl, h.1, h.2.1, h.2.2⟩

abbrev ints (l : List Int) : List Value := l.map (Value.int .i64)
def ptCells (p : Pt) : List Value := [.int .i64 p.x, .int .i64 p.lo, .int .i64 p.hi]
def pts : List Pt → List Value
  | [] => []
  | p :: l => ptCells p ++ pts l
theorem pts_append (a b : List Pt) : pts (a ++ b) = pts a ++ pts b := by
  induction a with
  | nil => rfl
  | cons p l ih => simp [pts, ih]
theorem pts_length (a : List Pt) : (pts a).length = a.length * 3 := by
  induction a with
  | nil => rfl
  | cons p l ih => simp [pts, ptCells, ih]; omega

/-- A slice of numbers, of points, that the call has laid in a block from B on. -/
def OwnI (w : World) (B : Nat) (v : Value) (l : List Int) : Prop := w.ownsRow B 3 1 v l.length (ints l)
def OwnP (w : World) (B : Nat) (v : Value) (l : List Pt) : Prop := w.ownsRow B 114 3 v l.length (pts l)

theorem below_of_grown {w w' : World} {B : Nat} {v : Value} (hg : w.grownBy w' v.ownBlock) (hB : B ≤ w.heap.size) (hv : ∀ k, v.ownBlock = some k → B ≤ k) : Below B w w' :=
  (Below.refl B w).grown hg hB hv

theorem app_int {w : World} {ops : Array Oper} {rest : List Oper} {o : Oper} {a : Act} {Q : Exit → Act → World → Prop} (hgd : o.guard = none) (s x : Operand)
    (ho : o.op = .call { callee := .builtin .append, args := #[s, x], argTypes := #[22, 22] }) (B : Nat) (v : Value) (l : List Int) (hs : a.eval s = v) (hown : OwnI w B v l)
    (b : Nat) (y : Int) (hx : a.eval x = .slice (some ⟨b, 0, none⟩) 1 1) (hb : w.cell? ⟨b, 0, none⟩ = some (.int .i64 y)) (hn : l.length ≤ 1000) (hB : B ≤ w.heap.size)
    (h : ∀ v' w', OwnI w' B v' (l ++ [y]) → Below B w w' → wpList Try.prog ops Q rest (a.put o.dst v') w') : wpList Try.prog ops Q (o :: rest) a w := by
  obtain ⟨i0, hi, hz0, hz1, hz2⟩ := infos info_int
  refine wpList_append_own w hgd s x 22 ho B 3 i0 (.int .i64 0) 1 8 Try.underlying22 hi hz0 hz1 hz2 rfl (by decide) v l.length (ints l) hs hown ⟨b, 0, none⟩ 1 1 [.int .i64 y] hx rfl ?_ (fun u hu => by simp at hu; subst hu; rfl) (by unfold maxLen; omega) (by omega) hB ?_
  · intro j u hu
    match j, hu with
    | 0, hu => cases hu; exact hb
  · intro v' w' h1 h2 _
    refine h v' w' ?_ (below_of_grown h2 hB fun k hk => (hown.lt k hk).1)
    unfold OwnI ints
    rw [List.length_append, List.map_append]
    exact h1

theorem app_pt {w : World} {ops : Array Oper} {rest : List Oper} {o : Oper} {a : Act} {Q : Exit → Act → World → Prop} (hgd : o.guard = none) (s x : Operand)
    (ho : o.op = .call { callee := .builtin .append, args := #[s, x], argTypes := #[31, 31] }) (B : Nat) (v : Value) (l : List Pt) (hs : a.eval s = v) (hown : OwnP w B v l)
    (b : Nat) (y : Pt) (hx : a.eval x = .slice (some ⟨b, 0, none⟩) 1 1) (h0 : w.cell? ⟨b, 0, none⟩ = some (.int .i64 y.x)) (h1 : w.cell? ⟨b, 1, none⟩ = some (.int .i64 y.lo)) (h2 : w.cell? ⟨b, 2, none⟩ = some (.int .i64 y.hi)) (hn : l.length ≤ 1000) (hB : B ≤ w.heap.size)
    (h : ∀ v' w', OwnP w' B v' (l ++ [y]) → Below B w w' → w.grownBy w' v.ownBlock → wpList Try.prog ops Q rest (a.put o.dst v') w') : wpList Try.prog ops Q (o :: rest) a w := by
  obtain ⟨i0, hi, hz0, hz1, hz2⟩ := infos info_pt
  refine wpList_append_own w hgd s x 31 ho B 114 i0 _ 3 24 Try.underlying31 hi hz0 hz1 hz2 rfl (by decide) v l.length (pts l) hs hown ⟨b, 0, none⟩ 1 1 (ptCells y) hx rfl ?_ (fun u hu => by simp [ptCells] at hu; rcases hu with rfl | rfl | rfl <;> rfl) (by unfold maxLen; omega) (by omega) hB ?_
  · intro j u hu
    match j, hu with
    | 0, hu => cases hu; exact h0
    | 1, hu => cases hu; exact h1
    | 2, hu => cases hu; exact h2
  · intro v' w' h1 h2 _
    refine h v' w' ?_ (below_of_grown h2 hB fun k hk => (hown.lt k hk).1) h2
    unfold OwnP
    rw [List.length_append, pts_append]
    simpa [pts] using h1

theorem OwnI.bel {w w' : World} {B B' : Nat} {v : Value} {l : List Int} (h : OwnI w B v l) (hb : Below B' w w') (hv : ∀ k, v.ownBlock = some k → k < B') : OwnI w' B v l := by
  refine ⟨h.1, ?_⟩
  rcases h.2 with hn | ⟨g, cap, cur, rfl, hb', hgg, rest⟩
  · exact .inl hn
  · exact .inr ⟨g, cap, cur, rfl, hb', (hb.block g (hv g rfl)).trans hgg, rest⟩
theorem OwnP.bel {w w' : World} {B B' : Nat} {v : Value} {l : List Pt} (h : OwnP w B v l) (hb : Below B' w w') (hv : ∀ k, v.ownBlock = some k → k < B') : OwnP w' B v l := by
  refine ⟨h.1, ?_⟩
  rcases h.2 with hn | ⟨g, cap, cur, rfl, hb', hgg, rest⟩
  · exact .inl hn
  · exact .inr ⟨g, cap, cur, rfl, hb', (hb.block g (hv g rfl)).trans hgg, rest⟩
theorem OwnI.same {w w' : World} {B : Nat} {v : Value} {l : List Int} (h : OwnI w B v l) (hb : Below w.heap.size w w') : OwnI w' B v l := h.bel hb fun k hk => (World.ownsRow.lt h k hk).2
theorem OwnP.same {w w' : World} {B : Nat} {v : Value} {l : List Pt} (h : OwnP w B v l) (hb : Below w.heap.size w w') : OwnP w' B v l := h.bel hb fun k hk => (World.ownsRow.lt h k hk).2
theorem OwnI.alloc {w : World} {B : Nat} {v : Value} {l : List Int} (h : OwnI w B v l) (o : Obj) : OwnI (w.alloc o) B v l := World.ownsRow.alloc h o
theorem OwnP.alloc {w : World} {B : Nat} {v : Value} {l : List Pt} (h : OwnP w B v l) (o : Obj) : OwnP (w.alloc o) B v l := World.ownsRow.alloc h o
theorem OwnI.bw {w : World} {B : Nat} {v : Value} {l : List Int} (h : OwnI w B v l) (x : Soft.BW w) : OwnI x.w B v l := h.same x.below
theorem OwnP.bw {w : World} {B : Nat} {v : Value} {l : List Pt} (h : OwnP w B v l) (x : Soft.BW w) : OwnP x.w B v l := h.same x.below

theorem OwnI.set {w : World} {B : Nat} {v : Value} {l : List Int} (h : OwnI w B v l) {p : Addr} (hp : p.block < B) (u : Value) : OwnI (w.setCell p u) B v l := by
  refine ⟨h.1, ?_⟩
  rcases h.2 with hn | ⟨g, cap, cur, rfl, hb', hgg, rest⟩
  · exact .inl hn
  · exact .inr ⟨g, cap, cur, rfl, hb', (Below.heap_setCell w p u g (by omega)).trans hgg, rest⟩
theorem OwnP.set {w : World} {B : Nat} {v : Value} {l : List Pt} (h : OwnP w B v l) {p : Addr} (hp : p.block < B) (u : Value) : OwnP (w.setCell p u) B v l := by
  refine ⟨h.1, ?_⟩
  rcases h.2 with hn | ⟨g, cap, cur, rfl, hb', hgg, rest⟩
  · exact .inl hn
  · exact .inr ⟨g, cap, cur, rfl, hb', (Below.heap_setCell w p u g (by omega)).trans hgg, rest⟩

theorem OwnI.shape {w : World} {B : Nat} {v : Value} {l : List Int} (h : OwnI w B v l) (hn : l ≠ []) : ∃ g c, v = .slice (some ⟨g, 0, none⟩) l.length c ∧ B ≤ g ∧ g < w.heap.size ∧ l.length ≤ c ∧ c ≤ 9223372036854775807 := by
  rcases h.2 with ⟨_, h'⟩ | ⟨g, c, cur, h', hb, hg, h1, h2, _⟩
  · exact absurd (List.eq_nil_of_length_eq_zero h') hn
  · exact ⟨g, c, h', hb, (Array.getElem?_eq_some_iff.1 hg).1, h1, h2⟩
theorem OwnP.shape {w : World} {B : Nat} {v : Value} {l : List Pt} (h : OwnP w B v l) (hn : l ≠ []) : ∃ g c, v = .slice (some ⟨g, 0, none⟩) l.length c ∧ B ≤ g ∧ g < w.heap.size ∧ l.length ≤ c ∧ c ≤ 9223372036854775807 := by
  rcases h.2 with ⟨_, h'⟩ | ⟨g, c, cur, h', hb, hg, h1, h2, _⟩
  · exact absurd (List.eq_nil_of_length_eq_zero h') hn
  · exact ⟨g, c, h', hb, (Array.getElem?_eq_some_iff.1 hg).1, h1, h2⟩

/-- The block of an array of its own, whole. -/
theorem OwnP.blk {w : World} {B g n c : Nat} {l : List Pt} (h : OwnP w B (.slice (some ⟨g, 0, none⟩) n c) l) (hn : l ≠ []) : ∃ cur, w.heap[g]? = some (.cells cur 114) := by
  rcases h.2 with ⟨hh, _⟩ | ⟨g', cap, cur, hh, hb', hgg, rest⟩
  · cases hh
  · cases hh; exact ⟨cur, hgg⟩

theorem OwnI.cell {w : World} {B g n c : Nat} {l : List Int} (h : OwnI w B (.slice (some ⟨g, 0, none⟩) n c) l) (i : Nat) (hi : i < l.length) : w.cell? ⟨g, i, none⟩ = some (.int .i64 (iv l i)) := by
  have h' := h
  unfold OwnI at h
  obtain rfl : n = l.length := by
    rcases h.2 with ⟨hh, _⟩ | ⟨_, _, _, hh, _⟩
    · cases hh
    · cases hh; rfl
  rw [h.cellAt i (by omega)]
  simp [iv, hi]

theorem pts_get : ∀ (l : List Pt) (i : Nat), i < l.length → (pts l)[i * 3]? = some (.int .i64 (pt l i).x) ∧ (pts l)[i * 3 + 1]? = some (.int .i64 (pt l i).lo) ∧ (pts l)[i * 3 + 2]? = some (.int .i64 (pt l i).hi)
  | p :: l, 0, _ => ⟨rfl, rfl, rfl⟩
  | p :: l, i + 1, h => by
    obtain ⟨a, b, c⟩ := pts_get l i (by simpa using h)
    have e : pt (p :: l) (i + 1) = pt l i := by simp [pt]
    rw [e]
    have k : ∀ j, (pts (p :: l))[j + 3]? = (pts l)[j]? := fun j => by
      rw [show pts (p :: l) = ptCells p ++ pts l from rfl, List.getElem?_append_right (by simp [ptCells])]
      simp [ptCells]
    rw [show (i + 1) * 3 = i * 3 + 3 by omega, show i * 3 + 3 + 1 = i * 3 + 1 + 3 by omega, show i * 3 + 3 + 2 = i * 3 + 2 + 3 by omega, k, k, k]
    exact ⟨a, b, c⟩

theorem OwnP.cell {w : World} {B g n c : Nat} {l : List Pt} (h : OwnP w B (.slice (some ⟨g, 0, none⟩) n c) l) (i : Nat) (hi : i < l.length) :
    w.cell? ⟨g, i * 3, none⟩ = some (.int .i64 (pt l i).x) ∧ w.cell? ⟨g, i * 3 + 1, none⟩ = some (.int .i64 (pt l i).lo) ∧ w.cell? ⟨g, i * 3 + 2, none⟩ = some (.int .i64 (pt l i).hi) := by
  unfold OwnP at h
  obtain rfl : n = l.length := by
    rcases h.2 with ⟨hh, _⟩ | ⟨_, _, _, hh, _⟩
    · cases hh
    · cases hh; rfl
  rw [h.cellAt (i * 3) (by omega), h.cellAt (i * 3 + 1) (by omega), h.cellAt (i * 3 + 2) (by omega)]
  exact pts_get l i hi

theorem OwnI.at {w : World} {B g n c : Nat} {l : List Int} (h : OwnI w B (.slice (some ⟨g, 0, none⟩) n c) l) (hl : ∀ i, I64 (iv l i)) (hn : l.length ≤ 1000) (h0 : l ≠ []) : Is.At w ⟨some ⟨g, 0, none⟩, n, c, l⟩ := by
  obtain ⟨g', c', e, _, h2, h3, h4⟩ := h.shape h0
  cases e
  exact ⟨rfl, by dsimp only; omega, h3, h4, hl, fun _ => ⟨g, 0, rfl, h2, fun i hi => by rw [Nat.zero_add]; exact h.cell i hi⟩⟩

theorem OwnP.at {w : World} {B g n c : Nat} {l : List Pt} (h : OwnP w B (.slice (some ⟨g, 0, none⟩) n c) l) (hn : l.length ≤ 1000) (h0 : l ≠ []) : Tb.At w ⟨some ⟨g, 0, none⟩, n, c, l⟩ := by
  obtain ⟨g', c', e, _, h2, h3, h4⟩ := h.shape h0
  cases e
  exact ⟨rfl, by dsimp only; omega, h3, h4, fun _ => ⟨g, 0, rfl, h2, fun i hi => by rw [Nat.zero_add]; exact h.cell i hi⟩⟩

end Go.Proofs.Ytbjdgaeikihjbaa

namespace Go.Proofs.Ytbjdgaeikihjbaa
set_option linter.unusedSimpArgs false
set_option linter.unusedVariables false
open Go.RowKit

theorem app_intx {w : World} {ops : Array Oper} {rest : List Oper} {o : Oper} {a : Act} {Q : Exit → Act → World → Prop} (hgd : o.guard = none) (s x : Operand)
    (ho : o.op = .call { callee := .builtin .append, args := #[s, x], argTypes := #[22, 22] }) (B : Nat) (v : Value) (l : List Int) (hs : a.eval s = v) (hown : OwnI w B v l)
    (b : Nat) (y : Int) (hx : a.eval x = .slice (some ⟨b, 0, none⟩) 1 1) (hb : w.cell? ⟨b, 0, none⟩ = some (.int .i64 y)) (hn : l.length ≤ 1000) (hB : B ≤ w.heap.size)
    (h : ∀ g cap w', OwnI w' B (.slice (some ⟨g, 0, none⟩) (l.length + 1) cap) (l ++ [y]) → Below B w w' → w.grownBy w' v.ownBlock → (v.ownBlock = some g ∨ g = w.heap.size) → g < w'.heap.size → wpList Try.prog ops Q rest (a.put o.dst (.slice (some ⟨g, 0, none⟩) (l.length + 1) cap)) w') : wpList Try.prog ops Q (o :: rest) a w := by
  obtain ⟨i0, hi, hz0, hz1, hz2⟩ := infos info_int
  refine wpList_append_lies w hgd s x 22 ho B 3 i0 (.int .i64 0) 1 8 Try.underlying22 hi hz0 hz1 hz2 rfl (by decide) v l.length (ints l) hs hown ⟨b, 0, none⟩ 1 1 [.int .i64 y] hx rfl ?_ (fun u hu => by simp at hu; subst hu; rfl) (by decide) (by unfold maxLen; omega) (by omega) hB w.heap.size rfl ?_
  · intro j u hu
    match j, hu with
    | 0, hu => cases hu; exact hb
  · intro g cap w' h1 h2 h3 h4
    refine h g cap w' ?_ (below_of_grown h2 hB fun k hk => (hown.lt k hk).1) h2 h3 h4
    unfold OwnI ints
    rw [List.length_append, List.map_append]
    exact h1

/-- Three rows of integers, each in an array of its own. -/
structure Own3 (w : World) (B : Nat) (u v z : Value) (a b c : List Int) : Prop where
  o1 : OwnI w B u a
  o2 : OwnI w B v b
  o3 : OwnI w B z c
  n12 : ∀ g, u.ownBlock = some g → v.ownBlock ≠ some g
  n13 : ∀ g, u.ownBlock = some g → z.ownBlock ≠ some g
  n23 : ∀ g, v.ownBlock = some g → z.ownBlock ≠ some g

theorem Own3.nil (w : World) (B : Nat) : Own3 w B (.slice none 0 0) (.slice none 0 0) (.slice none 0 0) [] [] [] :=
  ⟨World.ownsRow_nil _ _ _ _, World.ownsRow_nil _ _ _ _, World.ownsRow_nil _ _ _ _, fun g h => (by cases h), fun g h => (by cases h), fun g h => (by cases h)⟩
theorem Own3.alloc {w : World} {B : Nat} {u v z : Value} {a b c : List Int} (h : Own3 w B u v z a b c) (o : Obj) : Own3 (w.alloc o) B u v z a b c :=
  ⟨h.o1.alloc o, h.o2.alloc o, h.o3.alloc o, h.n12, h.n13, h.n23⟩

theorem OwnI.far {w w' : World} {B : Nat} {v u : Value} {l : List Int} (h : OwnI w B v l) (hg : w.grownBy w' u.ownBlock) (hne : ∀ g, u.ownBlock = some g → v.ownBlock ≠ some g) : OwnI w' B v l := by
  refine World.ownsRow.kept h hg ?_
  cases hv : v.ownBlock with
  | none => exact .inl rfl
  | some k => exact .inr (fun e => hne k e.symm hv)
theorem own_new {w : World} {B : Nat} {v : Value} {l : List Int} (h : OwnI w B v l) {u : Value} {g : Nat} (hne : ∀ k, u.ownBlock = some k → v.ownBlock ≠ some k) (hg : u.ownBlock = some g ∨ g = w.heap.size) : v.ownBlock ≠ some g := by
  rcases hg with e | e
  · exact hne g e
  · intro hv
    have := (World.ownsRow.lt h g hv).2
    omega

theorem Own3.app1 {w w' : World} {B g n cap : Nat} {u v z : Value} {a a' b c : List Int} (h : Own3 w B u v z a b c) (ho : OwnI w' B (.slice (some ⟨g, 0, none⟩) n cap) a') (hg : w.grownBy w' u.ownBlock) (hl : u.ownBlock = some g ∨ g = w.heap.size) :
    Own3 w' B (.slice (some ⟨g, 0, none⟩) n cap) v z a' b c :=
  ⟨ho, h.o2.far hg h.n12, h.o3.far hg h.n13, fun k e => by cases e; exact own_new h.o2 h.n12 hl, fun k e => by cases e; exact own_new h.o3 h.n13 hl, h.n23⟩
theorem Own3.app2 {w w' : World} {B g n cap : Nat} {u v z : Value} {a b b' c : List Int} (h : Own3 w B u v z a b c) (ho : OwnI w' B (.slice (some ⟨g, 0, none⟩) n cap) b') (hg : w.grownBy w' v.ownBlock) (hl : v.ownBlock = some g ∨ g = w.heap.size) :
    Own3 w' B u (.slice (some ⟨g, 0, none⟩) n cap) z a b' c :=
  ⟨h.o1.far hg (fun k e e2 => h.n12 k e2 e), ho, h.o3.far hg h.n23, fun k e e2 => by cases e2; exact own_new h.o1 (fun j e3 e4 => h.n12 j e4 e3) hl e, h.n13, fun k e => by cases e; exact own_new h.o3 h.n23 hl⟩
theorem Own3.app3 {w w' : World} {B g n cap : Nat} {u v z : Value} {a b c c' : List Int} (h : Own3 w B u v z a b c) (ho : OwnI w' B (.slice (some ⟨g, 0, none⟩) n cap) c') (hg : w.grownBy w' z.ownBlock) (hl : z.ownBlock = some g ∨ g = w.heap.size) :
    Own3 w' B u v (.slice (some ⟨g, 0, none⟩) n cap) a b c' :=
  ⟨h.o1.far hg (fun k e e2 => h.n13 k e2 e), h.o2.far hg (fun k e e2 => h.n23 k e2 e), ho, h.n12, fun k e e2 => by cases e2; exact own_new h.o1 (fun j e3 e4 => h.n13 j e4 e3) hl e, fun k e e2 => by cases e2; exact own_new h.o2 (fun j e3 e4 => h.n23 j e4 e3) hl e⟩

end Go.Proofs.Ytbjdgaeikihjbaa
