/-
  A table's straight pieces, as the iterator yields them; the value of a table at a place: fix.at, fix.At.
  Conditions: each theorem's own premises.
-/
import Derived.Test.YtbjdgaeikihjbaaFix
import Derived.RangeFuncNested
import Derived.RangeFuncBound
import Derived.RangeFuncCalls
import Derived.RangeFuncLeaves
import Derived.RangeFuncBox
import Derived.Shelf.Abstract
import Derived.Shelf.RegionOpen
import Derived.OwnWalkIn
import Derived.TacticsInMore
import Derived.LoopNIn
import Derived.LoopIn
import Derived.Stop.RegionWithIn
import Derived.Sort.QuietIn
namespace Go.Proofs.Ytbjdgaeikihjbaa
set_option linter.unusedSimpArgs false
set_option linter.unusedVariables false
open Go.RowKit Go.Shelf
attribute [local go_sem] Soft.upon Soft.BW.cell_if Soft.BW.frozen_if Soft.cell_alloc_if Soft.frozen_alloc_if Oper.semAt_some Soft.upon0

/-- A piece that is one point, or goes on. -/
def PieceAny (p : Pt × Pt) : Prop := PieceOk p.1 p.2 ∨ (p.1 = p.2 ∧ 0 ≤ p.1.x ∧ p.1.x ≤ 1000000 ∧ -1000000000 ≤ p.1.lo ∧ p.1.lo ≤ p.1.hi ∧ p.1.hi ≤ 1000000000)
abbrev Pc := { p : Pt × Pt // PieceAny p }
def encP (p : Pc) : Array Value := #[.agg #[.int .i64 p.1.1.x, .int .i64 p.1.1.lo, .int .i64 p.1.1.hi, .int .i64 p.1.2.x, .int .i64 p.1.2.lo, .int .i64 p.1.2.hi]]

def upto {α : Type} (f : Nat → α) (k : Nat) : List α := (List.range k).map f
theorem upto_succ {α : Type} (f : Nat → α) (k : Nat) : upto f (k + 1) = upto f k ++ [f k] := by simp [upto, List.range_succ]
theorem upto_length {α : Type} (f : Nat → α) (k : Nat) : (upto f k).length = k := by simp [upto]

set_option maxRecDepth 100000 in
set_option maxHeartbeats 2000000 in
/-- Of a table with more than one point. -/
theorem pieces1_in (F : Fence) (m : Nat) (h7 : F.fn 160) (hro : F.round = none) (hm : 1 ≤ m) (l Bs n₀ b off len cap : Nat) (ps : List Pt) (hreach : len ≤ 1000) (_hlc : len ≤ cap) (_hcap : cap ≤ 9223372036854775807) (hb : b < n₀) (f : Nat → Pc) (h2 : 2 ≤ len)
    (hf : ∀ k, k + 1 < len → (f k).1 = (pt ps k, pt ps (k + 1))) (J Jx : List Pc → World → Prop)
    (hY : ∀ pre x W, J pre W → pre.length < len - 1 → YieldAt F (m - 1) Try.prog l (encP x) W fun e W' =>
      (e = .returned (.bool true) ∧ J (pre ++ [x]) W' ∧ Below n₀ W W') ∨ (e = .returned (.bool false) ∧ Jx (pre ++ [x]) W'))
    (hJ : ∀ s A B, J s A → Below A.heap.size A B → J s B)
    (W : World) (hBs : W.cell? ⟨Bs, 0, none⟩ = some (.slice (some ⟨b, off, none⟩) len cap)) (hBn : Bs < n₀) (hn : n₀ ≤ W.heap.size)
    (hc : ∀ i, i < len → W.cell? ⟨b, off + i * 3, none⟩ = some (.int .i64 (pt ps i).x) ∧ W.cell? ⟨b, off + i * 3 + 1, none⟩ = some (.int .i64 (pt ps i).lo) ∧ W.cell? ⟨b, off + i * 3 + 2, none⟩ = some (.int .i64 (pt ps i).hi)) (h0 : J [] W) :
    CallsIn F m Try.prog 160 #[.func (.yield l) #[] #[], .pointer (some ⟨Bs, 0, none⟩)] W fun e W' => (∃ v, e = .returned v) ∧
      ((∃ ys, ys = upto f (len - 1) ∧ J ys W') ∨ (∃ pre, (∃ k, k ≤ len - 1 ∧ pre = upto f k) ∧ Jx pre W')) := by
  refine callsIn_of_wp Try.func160 rfl h7 ?_ hro
  simp only [Try.ntmps160, List.size_toArray, List.length_cons, List.length_nil, Nat.reduceAdd, Nat.reduceSub, Array.replicate_succ, Array.replicate_zero, List.push_toArray, List.append_toArray, List.nil_append, List.cons_append]
  have hl1 : ((len : Int) == 1) = false := beq_eq_false_iff_ne.2 (by omega)
  have hl2 : (1 : Int) ≤ len := by omega
  have hc1 : cap ≠ 1 := by omega
  gi_wp2
  go_outline
  gi_loopw [24] (fun i wr => ∃ k : Nat, k ≤ len - 1 ∧ i = .int .i64 k ∧ J (upto f k) wr ∧ Below n₀ W wr) (fun i _ => len - 1 - (intOf i).toNat)
  case atStart => exact ⟨0, Nat.zero_le _, rfl, h0, Below.refl _ _⟩
  case round =>
    obtain ⟨k, hk, rfl, hJs, hB⟩ := hrel
    by_cases hlt : k < len - 1
    · have e1 : ∀ i, i < len → wr.cell? ⟨b, off + i * 3, none⟩ = some (.int .i64 (pt ps i).x) ∧ wr.cell? ⟨b, off + i * 3 + 1, none⟩ = some (.int .i64 (pt ps i).lo) ∧ wr.cell? ⟨b, off + i * 3 + 2, none⟩ = some (.int .i64 (pt ps i).hi) := fun i hi => by
        obtain ⟨a1, a2, a3⟩ := hc i hi
        exact ⟨(hB.cell (p := ⟨b, _, none⟩) hb).trans a1, (hB.cell (p := ⟨b, _, none⟩) hb).trans a2, (hB.cell (p := ⟨b, _, none⟩) hb).trans a3⟩
      have hBs' := (hB.cell (p := ⟨Bs, 0, none⟩) hBn).trans hBs
      obtain ⟨a1, a2, a3⟩ := e1 k (by omega)
      obtain ⟨b1, b2, b3⟩ := e1 (k + 1) (by omega)
      rw [show off + (k + 1) * 3 = off + 3 + k * 3 by omega] at b1 b2 b3
      have i1 : k < len := by omega
      have hfk := hf k (by omega)
      generalize pt ps k = pa at *
      generalize pt ps (k + 1) = pb at *
      have HB := Lib.hid hB; clear hB
      have HF := Lib.hid hfk; clear hfk
      clear e1 hc hf
      have lb := Soft.LtH.mk (b := b) (w := wr) (World.block_lt_of_cell? _ _ a1)
      have lB := Soft.LtH.mk (b := Bs) (w := wr) (World.block_lt_of_cell? _ _ hBs')
      gi_wp2
      have hB2 : Below n₀ wr (wr.alloc (.cells #[.int .i64 pb.x, .int .i64 pb.lo, .int .i64 pb.hi] 114)) := (Below.refl _ _).alloc (Nat.le_trans hn HB.out.size) _
      have hJ2 : J (upto f k) (wr.alloc (.cells #[.int .i64 pb.x, .int .i64 pb.lo, .int .i64 pb.hi] 114)).drew := hJ _ _ _ hJs (((Below.refl _ _).alloc (Nat.le_refl _) _).drew)
      obtain ⟨fn, tmps, assign, body, hy, hR⟩ := hY _ (f k) _ hJ2 (by rw [upto_length]; exact hlt)
      simp only [encP, HF.out] at hy
      (refine Soft.region_in [0, 1, 2, 3, 4, 5, 6, 7] [8, 9] (by kernel_rfl) (by kernel_rfl) (by kernel_rfl) (by kernel_rfl) ?_; change Soft.wpSoft _ _ _ _ _ [_, _, _, _, _, _, _, _] _; (repeat (refine Soft.soft_step (fun K hK => ?_); go_simp; (try go_bits); (refine hK _ ?_; clear hK K))); refine Soft.soft_nil ?_; change wpListIn _ _ _ _ _ [_, _] _ _)
      gi_wp2
      refine hR.mono ?_
      rintro e W3 (⟨rfl, hJ3, hk3⟩ | ⟨rfl, hJx3⟩)
      · gi_wp2
        go_roundw
        case rel => exact ⟨k + 1, by omega, by simp, by rw [upto_succ]; exact hJ3, HB.out.trans ((hB2.drew).trans hk3)⟩
        case measure => simp [intOf]; omega
      · gi_wp2
        refine bodyPost_ret (results_none rfl _ _ _) rfl ?_
        exact ⟨⟨_, rfl⟩, .inr ⟨_, ⟨k + 1, by omega, (upto_succ _ _).symm⟩, hJx3⟩⟩
    · obtain rfl : k = len - 1 := by omega
      gi_wp2
      go_end0
      exact ⟨⟨_, rfl⟩, .inl ⟨_, rfl, hJs⟩⟩

set_option maxRecDepth 100000 in
set_option maxHeartbeats 2000000 in
/-- Of a table with one point. -/
theorem pieces1_one (F : Fence) (m : Nat) (h7 : F.fn 160) (hro : F.round = none) (hm : 1 ≤ m) (l Bs n₀ b off cap : Nat) (ps : List Pt) (hlc : 1 ≤ cap) (f : Nat → Pc)
    (hf : (f 0).1 = (pt ps 0, pt ps 0)) (J Jx : List Pc → World → Prop)
    (hY : ∀ pre x W, J pre W → pre.length < 1 → YieldAt F (m - 1) Try.prog l (encP x) W fun e W' =>
      (e = .returned (.bool true) ∧ J (pre ++ [x]) W' ∧ Below n₀ W W') ∨ (e = .returned (.bool false) ∧ Jx (pre ++ [x]) W'))
    (hJ : ∀ s A B, J s A → Below A.heap.size A B → J s B)
    (W : World) (hBs : W.cell? ⟨Bs, 0, none⟩ = some (.slice (some ⟨b, off, none⟩) 1 cap))
    (a1 : W.cell? ⟨b, off, none⟩ = some (.int .i64 (pt ps 0).x)) (a2 : W.cell? ⟨b, off + 1, none⟩ = some (.int .i64 (pt ps 0).lo)) (a3 : W.cell? ⟨b, off + 2, none⟩ = some (.int .i64 (pt ps 0).hi)) (h0 : J [] W) :
    CallsIn F m Try.prog 160 #[.func (.yield l) #[] #[], .pointer (some ⟨Bs, 0, none⟩)] W fun e W' => (∃ v, e = .returned v) ∧
      ((∃ ys, ys = upto f 1 ∧ J ys W') ∨ (∃ pre, (∃ k, k ≤ 1 ∧ pre = upto f k) ∧ Jx pre W')) := by
  refine callsIn_of_wp Try.func160 rfl h7 ?_ hro
  simp only [Try.ntmps160, List.size_toArray, List.length_cons, List.length_nil, Nat.reduceAdd, Nat.reduceSub, Array.replicate_succ, Array.replicate_zero, List.push_toArray, List.append_toArray, List.nil_append, List.cons_append]
  have lb := Soft.LtH.mk (b := b) (w := W) (World.block_lt_of_cell? _ _ a1)
  have lB := Soft.LtH.mk (b := Bs) (w := W) (World.block_lt_of_cell? _ _ hBs)
  have hJ2 : J [] W.drew := hJ _ _ _ h0 (Below.refl _ _).drew
  obtain ⟨fn, tmps, assign, body, hy, hR⟩ := hY [] (f 0) _ hJ2 (by simp)
  simp only [encP, hf] at hy
  have H0 := Lib.hid hf; clear hf
  generalize pt ps 0 = pa at *
  gi_wp2
  (refine Soft.region_in [0, 1, 2, 3, 4, 5, 6, 7, 8, 9] [10] (by kernel_rfl) (by kernel_rfl) (by kernel_rfl) (by kernel_rfl) ?_; change Soft.wpSoft _ _ _ _ _ [_, _, _, _, _, _, _, _, _, _] _; (repeat (refine Soft.soft_step (fun K hK => ?_); go_simp; (try go_bits); (refine hK _ ?_; clear hK K))); refine Soft.soft_nil ?_; change wpListIn _ _ _ _ _ [_] _ _)
  gi_wp2
  refine hR.mono ?_
  rintro e W3 (⟨rfl, hJ3, hk3⟩ | ⟨rfl, hJx3⟩)
  · gi_wp2
    refine bodyPost_ret (results_none rfl _ _ _) rfl ?_
    exact ⟨⟨_, rfl⟩, .inl ⟨_, rfl, hJ3⟩⟩
  · gi_wp2
    refine bodyPost_ret (results_none rfl _ _ _) rfl ?_
    exact ⟨⟨_, rfl⟩, .inr ⟨_, ⟨1, Nat.le_refl _, rfl⟩, hJx3⟩⟩

set_option maxHeartbeats 1000000 in
theorem pieces_in (F : Fence) (m : Nat) (h5 : F.fn 149) (hro : F.round = none) (a : Option Addr) (len cap : Nat) (w : World) :
    CallsIn F m Try.prog 149 #[.agg #[.slice a len cap]] w fun e w' => e = .returned (.func (.func 160) #[] #[.pointer (some ⟨w.heap.size, 0, none⟩)]) ∧ w' = w.alloc (.cells #[.slice a len cap] 33) := by
  refine callsIn_of_wp Try.func149 rfl h5 ?_ hro
  simp only [Try.ntmps149, List.size_toArray, List.length_cons, List.length_nil, Nat.reduceAdd, Nat.reduceSub, Array.replicate_succ, Array.replicate_zero, List.push_toArray, List.append_toArray, List.nil_append, List.cons_append]
  gi_wp2
  go_ret
  exact ⟨rfl, rfl⟩

/-- What is asked of a valid table's points. -/
def ptOk (ps : List Pt) (k : Nat) : Prop := 0 ≤ (pt ps k).x ∧ (pt ps k).x ≤ 1000000 ∧ (pt ps k).lo ≤ (pt ps k).hi ∧ -1000000000 ≤ (pt ps k).lo ∧ (pt ps k).hi ≤ 1000000000 ∧ (k = 0 ∨ (pt ps (k - 1)).x < (pt ps k).x)
structure TabOk (ps : List Pt) : Prop where
  pos : 1 ≤ ps.length
  le : ps.length ≤ 40
  all : ∀ k, k < ps.length → ptOk ps k

theorem TabOk.piece {ps : List Pt} (h : TabOk ps) {k : Nat} (hk : k + 1 < ps.length) : PieceOk (pt ps k) (pt ps (k + 1)) := by
  obtain ⟨a1, a2, a3, a4, a5, _⟩ := h.all k (by omega)
  obtain ⟨b1, b2, b3, b4, b5, b6⟩ := h.all (k + 1) hk
  rcases b6 with b6 | b6
  · omega
  · exact ⟨a1, b2, b6, a4, a3, a5, b4, b3, b5⟩

/-- The pieces of a valid table, by their numbers. -/
def pieceAt (ps : List Pt) (k : Nat) : Pt × Pt := if ps.length = 1 then (pt ps 0, pt ps 0) else (pt ps k, pt ps (k + 1))
def nPieces (ps : List Pt) : Nat := if ps.length = 1 then 1 else ps.length - 1

theorem TabOk.any {ps : List Pt} (h : TabOk ps) {k : Nat} (hk : k < nPieces ps) : PieceAny (pieceAt ps k) := by
  unfold nPieces at hk
  unfold pieceAt
  by_cases h1 : ps.length = 1
  · rw [if_pos h1]
    obtain ⟨a1, a2, a3, a4, a5, _⟩ := h.all 0 (by omega)
    exact .inr ⟨rfl, a1, a2, a4, a3, a5⟩
  · rw [if_neg h1] at hk ⊢
    exact .inl (h.piece (by omega))

instance : Inhabited Pc := ⟨⟨(⟨0, 0, 0⟩, ⟨0, 0, 0⟩), .inr ⟨rfl, by decide, by decide, by decide, by decide, by decide⟩⟩⟩
open Classical in
noncomputable def pcOf (ps : List Pt) (k : Nat) : Pc := if h : PieceAny (pieceAt ps k) then ⟨pieceAt ps k, h⟩ else default
theorem pcOf_val {ps : List Pt} (h : TabOk ps) {k : Nat} (hk : k < nPieces ps) : (pcOf ps k).1 = pieceAt ps k := by unfold pcOf; rw [dif_pos (h.any hk)]

theorem pieces_stops (F : Fence) (m : Nat) (h7 : F.fn 160) (hro : F.round = none) (hm : 1 ≤ m) (Bs n₀ : Nat) (t : Tb) (w : World) (ht : t.At w) (hok : TabOk t.ps) (hBs : Bs < n₀) (hn₀ : n₀ ≤ w.heap.size) (hb : ∀ b o, t.p = some ⟨b, o, none⟩ → b < n₀)
    (hc : w.cell? ⟨Bs, 0, none⟩ = some (.slice t.p t.n t.c)) :
    SeqStopsK F m Try.prog 160 #[.pointer (some ⟨Bs, 0, none⟩)] encP (Below n₀) (fun ys => ys = upto (pcOf t.ps) (nPieces t.ps)) (fun pre => ∃ k, k ≤ nPieces t.ps ∧ pre = upto (pcOf t.ps) k) (nPieces t.ps) w := fun l J Jx W hW hJ _ hY h0 => by
  have hJ' : ∀ s A B, J s A → Below A.heap.size A B → J s B := fun s A B hs hAB => hJ s A B none hs ⟨hAB.os, hAB.tape, hAB.output, hAB.size, fun k hk _ => hAB.block k hk⟩ (fun r e => by cases e)
  have hc' := (hW.cell (p := ⟨Bs, 0, none⟩) (Nat.lt_of_lt_of_le hBs hn₀)).trans hc
  have ht' := ht.same hW
  have hpos := hok.pos
  have hle := hok.le
  have hvals : ∀ k, k < nPieces t.ps → (pcOf t.ps k).1 = pieceAt t.ps k := fun k hk => pcOf_val hok hk
  obtain ⟨h1, h2, h3, h4, h5⟩ := ht'
  obtain ⟨b, o, hp, hlt, hcs⟩ := h5 (by omega)
  have hbn := hb b o hp
  rw [hp] at hc'
  by_cases hone : t.ps.length = 1
  · have hn1 : t.n = 1 := by omega
    have hnp : nPieces t.ps = 1 := if_pos hone
    rw [hn1] at hc'
    rw [hnp] at hY ⊢
    obtain ⟨c1, c2, c3⟩ := hcs 0 (by omega)
    refine pieces1_one F m h7 hro hm l Bs n₀ b o t.c t.ps (by omega) (pcOf t.ps) ((hvals 0 (by omega)).trans (if_pos hone)) J Jx hY hJ' W hc' ?_ ?_ ?_ h0
    · simpa using c1
    · simpa using c2
    · simpa using c3
  · have hnp : nPieces t.ps = t.n - 1 := by rw [← h1]; exact if_neg hone
    rw [hnp] at hY hvals ⊢
    exact pieces1_in F m h7 hro hm l Bs n₀ b o t.n t.c t.ps (by omega) h3 h4 hbn (pcOf t.ps) (by omega) (fun k hk => (hvals k (by omega)).trans (if_neg hone)) J Jx hY hJ' W hc' hBs (Nat.le_trans hn₀ hW.size) hcs h0

end Go.Proofs.Ytbjdgaeikihjbaa
