/-
  fix.At, and fix.Over: the least range of all values over some places.
  Package hold's look at ranges and tables: isWithin, isPart, isDensity, domain, areTables, isMonotone.
  hold: search, and inverse's closures.
  hold: inverse, for both ways of a table.
  Conditions: each theorem's own premises.
-/
import Derived.Test.YteagdcgmmdiakaaGreatP02
import Derived.Laws.EntriesVeiled
import Derived.Laws.Tables
namespace Go.Proofs.YteagdcgmmdiakaaGreat
set_option linter.unusedSimpArgs false
set_option linter.unusedVariables false
open Go.RowKit
attribute [local go_sem] Soft.upon Soft.BW.cell_if Soft.BW.frozen_if Soft.cell_alloc_if Soft.frozen_alloc_if

/-! ### The value at a place -/

def kOf (ps : List Pt) (x : Int) : Nat := ((List.range (nPieces ps)).find? (fun k => decide (pcHas (pieceAt ps k) x))).getD 0
def atS (ps : List Pt) (x : Int) : Rg := pcAt (pieceAt ps (kOf ps x)) x
abbrev firstX (ps : List Pt) : Int := (pt ps 0).x
abbrev lastX (ps : List Pt) : Int := (pt ps (ps.length - 1)).x

theorem piece_exists {ps : List Pt} (hok : TabOk ps) {x : Int} (h1 : firstX ps ≤ x) (h2 : x ≤ lastX ps) : ∃ k, k < nPieces ps ∧ pcHas (pieceAt ps k) x := by
  unfold nPieces pieceAt
  by_cases hl : ps.length = 1
  · simp only [hl, if_true]
    exact ⟨0, by omega, h1, by have := h2; simp only [lastX, hl] at this; exact this⟩
  · simp only [hl, if_false]
    have hpos := hok.pos
    have key : ∀ m, m + 1 < ps.length → x ≤ (pt ps (m + 1)).x → ∃ k, k ≤ m ∧ pcHas (pt ps k, pt ps (k + 1)) x := by
      intro m
      induction m with
      | zero => intro _ hx; exact ⟨0, Nat.le_refl _, h1, hx⟩
      | succ m ih =>
        intro hm hx
        by_cases hx' : x ≤ (pt ps (m + 1)).x
        · obtain ⟨k, hk, hh⟩ := ih (by omega) hx'
          exact ⟨k, by omega, hh⟩
        · exact ⟨m + 1, Nat.le_refl _, by show (pt ps (m + 1)).x ≤ x; omega, hx⟩
    obtain ⟨k, hk, hh⟩ := key (ps.length - 2) (by omega) (by rw [show ps.length - 2 + 1 = ps.length - 1 by omega]; exact h2)
    exact ⟨k, by omega, hh⟩

theorem kOf_spec {ps : List Pt} (hok : TabOk ps) {x : Int} (h1 : firstX ps ≤ x) (h2 : x ≤ lastX ps) : kOf ps x < nPieces ps ∧ (∀ j, j < kOf ps x → ¬pcHas (pieceAt ps j) x) ∧ pcHas (pieceAt ps (kOf ps x)) x := by
  obtain ⟨k, hk, hh⟩ := piece_exists hok h1 h2
  unfold kOf
  cases hf : (List.range (nPieces ps)).find? (fun k => decide (pcHas (pieceAt ps k) x)) with
  | none =>
    rw [List.find?_eq_none] at hf
    exact absurd hh (by simpa using hf k (by simpa using hk))
  | some i =>
    rw [List.find?_range_eq_some] at hf
    obtain ⟨a1, a2, a3⟩ := hf
    exact ⟨by simpa using a2, fun j hj => by simpa using a3 j hj, by simpa using a1⟩

theorem fix_at (t : Tb) (x : Int) (w : World) (ht : t.At w) (hok : TabOk t.ps) (h1 : firstX t.ps ≤ x) (h2 : x ≤ lastX t.ps) :
    Calls Tryz.prog 54 #[.agg #[.slice t.p t.n t.c], .int .i64 x] w fun e w' => e = .returned (.agg #[.int .i64 (atS t.ps x).lo, .int .i64 (atS t.ps x).hi]) ∧ Below w.heap.size w w' := by
  obtain ⟨a1, a2, a3⟩ := kOf_spec hok h1 h2
  exact at_pieces t x w ht hok (kOf t.ps x) a1 a2 a3

/-- fix.At, whatever the table and the place. -/
def atE (ps : List Pt) (x : Int) : Rg × Int := if TabOk ps then if firstX ps ≤ x ∧ x ≤ lastX ps then (atS ps x, 0) else (⟨0, 0⟩, 4) else (⟨0, 0⟩, 11)

theorem isIn_len {t : Tb} {w : World} (ht : t.At w) : t.n - 1 = t.ps.length - 1 := by rw [ht.1]

set_option maxHeartbeats 1000000 in
theorem fix_At (t : Tb) (x : Int) (w : World) (ht : t.At w) :
    Calls Tryz.prog 18 #[.agg #[.slice t.p t.n t.c], .int .i64 x] w fun e w' => e = .returned (.tuple #[.agg #[.int .i64 (atE t.ps x).1.lo, .int .i64 (atE t.ps x).1.hi], .int .i64 (atE t.ps x).2]) ∧ Below w.heap.size w w' := by
  by_cases hok : TabOk t.ps
  · have hte : tabErr t.ps = 0 := if_pos hok
    have hn : 1 ≤ t.n := by rw [← ht.1]; exact hok.pos
    by_cases hin : firstX t.ps ≤ x ∧ x ≤ lastX t.ps
    · have hr : atE t.ps x = (atS t.ps x, 0) := by unfold atE; rw [if_pos hok, if_pos hin]
      have HR := Lib.hid hr; clear hr
      have HI := Lib.hid hin; clear hin
      go_enter Tryz.func18, Tryz.ntmps18
      go_wp2_with (first | (go_at_call 52; (with_reducible refine (fix_CheckTable t _ (by repeat (first | exact ht | refine Tb.At.alloc ?_ _ | refine Tb.At.bw ?_ _))).mono ?_); rintro e w_ ⟨rfl, hb_⟩; obtain ⟨y1, rfl⟩ := Soft.BW.mk hb_; clear hb_) | (go_at_call 53; (with_reducible refine (fix_isIn t ⟨x, x⟩ _ (by repeat (first | exact ht | refine Tb.At.alloc ?_ _ | refine Tb.At.bw ?_ _)) hn true (decide_eq_true (by rw [isIn_len ht]; exact HI.out)).symm).mono ?_); rintro e w_ ⟨rfl, hb_⟩; obtain ⟨y2, rfl⟩ := Soft.BW.mk hb_; clear hb_) | (go_at_call 54; (with_reducible refine (fix_at t x _ (by repeat (first | exact ht | refine Tb.At.alloc ?_ _ | refine Tb.At.bw ?_ _)) hok HI.out.1 HI.out.2).mono ?_); rintro e w_ ⟨rfl, hb_⟩; obtain ⟨y3, rfl⟩ := Soft.BW.mk hb_; clear hb_))
      refine bodyPost_ret (v := .tuple #[.agg #[.int .i64 (atS t.ps x).lo, .int .i64 (atS t.ps x).hi], .int .i64 0]) (by simp [results, Tryz.results18, go_sem]) rfl ?_
      rw [HR.out]
      refine ⟨rfl, ?_⟩
      (with_reducible repeat (first | exact blr _ | refine bla ?_ _ | refine blw _ ?_ | refine bld ?_ | refine bln _ ?_ | refine bls ?_ _ | refine blt ?_))
    · have hr : atE t.ps x = (⟨0, 0⟩, 4) := by unfold atE; rw [if_pos hok, if_neg hin]
      have HR := Lib.hid hr; clear hr
      have HI := Lib.hid hin; clear hin
      go_enter Tryz.func18, Tryz.ntmps18
      go_wp2_with (first | (go_at_call 52; (with_reducible refine (fix_CheckTable t _ (by repeat (first | exact ht | refine Tb.At.alloc ?_ _ | refine Tb.At.bw ?_ _))).mono ?_); rintro e w_ ⟨rfl, hb_⟩; obtain ⟨y1, rfl⟩ := Soft.BW.mk hb_; clear hb_) | (go_at_call 53; (with_reducible refine (fix_isIn t ⟨x, x⟩ _ (by repeat (first | exact ht | refine Tb.At.alloc ?_ _ | refine Tb.At.bw ?_ _)) hn false (decide_eq_false (by rw [isIn_len ht]; exact HI.out)).symm).mono ?_); rintro e w_ ⟨rfl, hb_⟩; obtain ⟨y2, rfl⟩ := Soft.BW.mk hb_; clear hb_))
      refine bodyPost_ret (v := .tuple #[.agg #[.int .i64 0, .int .i64 0], .int .i64 4]) (by simp [results, Tryz.results18, go_sem]) rfl ?_
      rw [HR.out]
      refine ⟨rfl, ?_⟩
      (with_reducible repeat (first | exact blr _ | refine bla ?_ _ | refine blw _ ?_ | refine bld ?_ | refine bln _ ?_ | refine bls ?_ _ | refine blt ?_))
  · have hte : tabErr t.ps = 11 := if_neg hok
    have hr : atE t.ps x = (⟨0, 0⟩, 11) := by unfold atE; rw [if_neg hok]
    have HR := Lib.hid hr; clear hr
    go_enter Tryz.func18, Tryz.ntmps18
    go_wp2_with (go_at_call 52; (with_reducible refine (fix_CheckTable t _ (by repeat (first | exact ht | refine Tb.At.alloc ?_ _ | refine Tb.At.bw ?_ _))).mono ?_); rintro e w_ ⟨rfl, hb_⟩; obtain ⟨y1, rfl⟩ := Soft.BW.mk hb_; clear hb_)
    refine bodyPost_ret (v := .tuple #[.agg #[.int .i64 0, .int .i64 0], .int .i64 11]) (by simp [results, Tryz.results18, go_sem]) rfl ?_
    rw [HR.out]
    refine ⟨rfl, ?_⟩
    (with_reducible repeat (first | exact blr _ | refine bla ?_ _ | refine blw _ ?_ | refine bld ?_ | refine bln _ ?_ | refine bls ?_ _ | refine blt ?_))


/-! ### Over -/

/-- What a gatherer holds. -/
def gAdd (g : Option Rg) (n : Int) : Rg := match g with
  | none => ⟨n, n⟩
  | some r => ⟨min r.lo n, max r.hi n⟩
def gCells (g : Option Rg) : Array Value := match g with
  | none => #[.int .i64 0, .int .i64 0, .bool false, .bool false]
  | some r => #[.int .i64 r.lo, .int .i64 r.hi, .bool true, .bool false]

theorem HasBlk.put {W : World} {B : Nat} {c : Array Value} {t : TypeId} (h : HasBlk W B c t) (i : Nat) (u : Value) : HasBlk (W.setCell ⟨B, i, none⟩ u) B (c.setIfInBounds i u) t := by
  simp [HasBlk, World.setCell, Array.getElem?_modify, show W.heap[B]? = _ from h]

/-- Only block B may have turned. -/
abbrev But (B : Nat) (w w' : World) : Prop := w.grownBy w' (some B)
theorem but_refl (B : Nat) (w : World) : But B w w := ⟨rfl, rfl, rfl, Nat.le_refl _, fun _ _ _ => rfl⟩
theorem But.trans {B : Nat} {a b c : World} (h : But B a b) (k : But B b c) : But B a c :=
  ⟨k.os.trans h.os, k.tape.trans h.tape, k.output.trans h.output, Nat.le_trans h.size k.size, fun i hi hne => (k.block i (Nat.lt_of_lt_of_le hi h.size) hne).trans (h.block i hi hne)⟩
theorem But.set {B : Nat} {a w : World} (h : But B a w) (i : Nat) (u : Value) : But B a (w.setCell ⟨B, i, none⟩ u) :=
  h.trans ⟨rfl, rfl, rfl, by simp, fun k _ hne => Below.heap_setCell w ⟨B, i, none⟩ u k (fun e => hne (by rw [e]))⟩
theorem But.bw {B : Nat} {a w : World} (h : But B a w) (x : Soft.BW w) : But B a x.w := h.trans ⟨x.below.os, x.below.tape, x.below.output, x.below.size, fun k hk _ => x.below.block k hk⟩
theorem But.alloc {B : Nat} {a w : World} (h : But B a w) (o : Obj) : But B a (w.alloc o) := h.trans (World.grownBy_alloc w o _)
theorem But.drew {B : Nat} {a w : World} (h : But B a w) : But B a w.drew := h.trans ⟨rfl, rfl, rfl, Nat.le_refl _, fun _ _ _ => rfl⟩
theorem But.below {B : Nat} {w w' : World} (h : But B w w') (hB : B ≤ w.heap.size) : Below B w w' := ⟨h.os, h.tape, h.output, h.size, fun k hk => h.block k (by omega) (by simp; omega)⟩
theorem HasBlk.but {B X : Nat} {w w' : World} {c : Array Value} {t : TypeId} (h : HasBlk w X c t) (hb : But B w w') (hne : X ≠ B) : HasBlk w' X c t := (hb.block X h.lt (by simpa using hne)).trans h
theorem But.cell {B : Nat} {w w' : World} (h : But B w w') {b i : Nat} (hlt : b < w.heap.size) (hne : b ≠ B) : w'.cell? ⟨b, i, none⟩ = w.cell? ⟨b, i, none⟩ := World.cell?_of_block (a := ⟨b, i, none⟩) (h.block b hlt (by simpa using hne))

set_option maxHeartbeats 1000000 in
theorem gatherer_add (g : Option Rg) (B : Nat) (n : Int) (w : World) (hB : HasBlk w B (gCells g) 192) :
    Calls Tryz.prog 155 #[.pointer (some ⟨B, 0, none⟩), .int .i64 n] w fun e w' => (∃ v, e = .returned v) ∧ HasBlk w' B (gCells (some (gAdd g n))) 192 ∧ But B w w' := by
  have lB := Soft.LtH.mk (b := B) (w := w) hB.lt
  have cB := hB.cell
  have fB := hB.frozen
  cases g with
  | none =>
    simp only [gCells] at cB hB
    go_enter Tryz.func155, Tryz.ntmps155
    go_wp2
    (refine Soft.region0 [0, 1, 2, 3, 4, 5, 6, 7, 8, 9, 10, 11, 12, 13, 14, 15, 16, 17] [18] (by kernel_rfl) (by kernel_rfl) (by kernel_rfl) (by kernel_rfl) ?_; change Soft.wpSoft _ _ _ _ _ [_, _, _, _, _, _, _, _, _, _, _, _, _, _, _, _, _, _] _; (repeat (refine Soft.soft_step (fun K hK => ?_); go_simp; (try go_bits); first | (refine hK _ ?_; clear hK K) | (apply Exists.intro; refine ⟨fun x => ?_, hK _ ?_⟩; (fail); clear hK K))); refine Soft.soft_nil ?_; intro xw; change wpList _ _ _ [_] _ _)
    go_wp2
    go_end0
    refine ⟨⟨_, rfl⟩, ?_, ?_⟩
    · exact ((((((hB.put 0 (.int .i64 n)).put 1 (.int .i64 n)).put 2 (.bool true)).below xw.below).put 0 (.int .i64 n)).put 1 (.int .i64 n))
    · exact ((((((but_refl B w).set 0 _).set 1 _).set 2 _).bw xw).set 0 _).set 1 _
  | some r =>
    simp only [gCells] at cB hB
    go_enter Tryz.func155, Tryz.ntmps155
    go_wp2
    (refine Soft.region0 [0, 1, 2, 3, 4, 5, 6, 7, 8, 9, 10, 11, 12, 13, 14, 15, 16, 17] [18] (by kernel_rfl) (by kernel_rfl) (by kernel_rfl) (by kernel_rfl) ?_; change Soft.wpSoft _ _ _ _ _ [_, _, _, _, _, _, _, _, _, _, _, _, _, _, _, _, _, _] _; (repeat (refine Soft.soft_step (fun K hK => ?_); go_simp; (try go_bits); first | (refine hK _ ?_; clear hK K) | (apply Exists.intro; refine ⟨fun x => ?_, hK _ ?_⟩; (fail); clear hK K))); refine Soft.soft_nil ?_; intro xw; change wpList _ _ _ [_] _ _)
    go_wp2
    all_goals
      go_end0
      refine ⟨⟨_, rfl⟩, ?_, ?_⟩
      · have hh := ((hB.below xw.below).put 0 (.int .i64 (min r.lo n))).put 1 (.int .i64 (max r.hi n))
        first
          | (rw [show min r.lo n = r.lo by omega, show max r.hi n = r.hi by omega] at hh; show HasBlk _ B #[.int .i64 (min r.lo n), .int .i64 (max r.hi n), .bool true, .bool false] _; rw [show min r.lo n = r.lo by omega, show max r.hi n = r.hi by omega]; exact hh)
          | (rw [show min r.lo n = r.lo by omega, show max r.hi n = n by omega] at hh; show HasBlk _ B #[.int .i64 (min r.lo n), .int .i64 (max r.hi n), .bool true, .bool false] _; rw [show min r.lo n = r.lo by omega, show max r.hi n = n by omega]; exact hh)
          | (rw [show min r.lo n = n by omega, show max r.hi n = r.hi by omega] at hh; show HasBlk _ B #[.int .i64 (min r.lo n), .int .i64 (max r.hi n), .bool true, .bool false] _; rw [show min r.lo n = n by omega, show max r.hi n = r.hi by omega]; exact hh)
          | (rw [show min r.lo n = n by omega, show max r.hi n = n by omega] at hh; show HasBlk _ B #[.int .i64 (min r.lo n), .int .i64 (max r.hi n), .bool true, .bool false] _; rw [show min r.lo n = n by omega, show max r.hi n = n by omega]; exact hh)
      · exact (((but_refl B w).bw xw).set 0 _).set 1 _


def gTake (g : Option Rg) (r : Rg) : Rg := gAdd (some (gAdd g r.lo)) r.hi

set_option maxHeartbeats 1000000 in
theorem Over_take (t : Tb) (x : Int) (g : Option Rg) (S B : Nat) (w : World) (ht : t.At w) (hok : TabOk t.ps) (h1 : firstX t.ps ≤ x) (h2 : x ≤ lastX t.ps) (hS : w.cell? ⟨S, 0, none⟩ = some (.slice t.p t.n t.c)) (hB : HasBlk w B (gCells g) 192) :
    Calls Tryz.prog 154 #[.int .i64 x, .pointer (some ⟨S, 0, none⟩), .pointer (some ⟨B, 0, none⟩)] w fun e w' => (∃ v, e = .returned v) ∧ HasBlk w' B (gCells (some (gTake g (atS t.ps x)))) 192 ∧ But B w w' := by
  have lB := Soft.LtH.mk (b := B) (w := w) hB.lt
  have lS := Soft.LtH.mk (b := S) (w := w) (World.block_lt_of_cell? _ _ hS)
  go_enter Tryz.func154, Tryz.ntmps154
  go_wp2_with (go_at_call 54; (with_reducible refine (fix_at t x _ ht hok h1 h2).mono ?_); rintro e w_ ⟨rfl, hb_⟩; obtain ⟨y1, rfl⟩ := Soft.BW.mk hb_; clear hb_)
  have hB1 : HasBlk (y1.w.alloc (.cells #[.int .i64 (atS t.ps x).lo, .int .i64 (atS t.ps x).hi] 27)) B (gCells g) 192 := (hB.below y1.below).below ((Below.refl _ _).alloc (Nat.le_refl _) _)
  have lt1 := hB1.lt
  go_at_call 155
  refine (gatherer_add g B _ _ hB1).mono ?_
  rintro e w2 ⟨⟨v, rfl⟩, hB2, hb2⟩
  have hnew := World.alloc_heap_new y1.w (.cells #[.int .i64 (atS t.ps x).lo, .int .i64 (atS t.ps x).hi] 27)
  have hne : y1.w.heap.size ≠ B := by have := (hB.below y1.below).lt; omega
  have hR : HasBlk w2 y1.w.heap.size #[.int .i64 (atS t.ps x).lo, .int .i64 (atS t.ps x).hi] 27 := HasBlk.but hnew hb2 hne
  have hRc := hR.cell
  go_wp2_with fail
  go_at_call 155
  refine (gatherer_add _ B _ _ hB2).mono ?_
  rintro e w3 ⟨⟨v3, rfl⟩, hB3, hb3⟩
  go_wp2
  go_end0
  exact ⟨⟨_, rfl⟩, hB3, (((but_refl B w).bw y1).alloc _).trans (hb2.trans hb3)⟩


def overStep (ps : List Pt) (r : Rg) (g : Rg) (p : Pt) : Rg := if r.lo ≤ p.x ∧ p.x ≤ r.hi then gTake (some g) (atS ps p.x) else g
def overG (ps : List Pt) (r : Rg) (k : Nat) : Rg := (ps.take k).foldl (overStep ps r) (gTake (some (gTake none (atS ps r.lo))) (atS ps r.hi))
def overS (ps : List Pt) (r : Rg) : Rg := overG ps r ps.length
def overE (ps : List Pt) (r : Rg) : Rg × Int := if TabOk ps then if rangeErr r = 0 then if firstX ps ≤ r.lo ∧ r.hi ≤ lastX ps then (overS ps r, 0) else (⟨0, 0⟩, 4) else (⟨0, 0⟩, 10) else (⟨0, 0⟩, 11)

theorem overG_succ (ps : List Pt) (r : Rg) (k : Nat) (hk : k < ps.length) : overG ps r (k + 1) = overStep ps r (overG ps r k) (pt ps k) := by
  unfold overG
  rw [List.take_succ_eq_append_getElem hk, List.foldl_append]
  simp [pt, hk]

theorem rangeErr_cases (r : Rg) : (rangeErr r = 0 ∧ r.lo ≤ r.hi ∧ -1000000000000000 ≤ r.lo ∧ r.hi ≤ 1000000000000000) ∨ (rangeErr r = 10 ∧ ¬(r.lo ≤ r.hi ∧ -1000000000000000 ≤ r.lo ∧ r.hi ≤ 1000000000000000)) := by
  unfold rangeErr
  by_cases h : r.hi < r.lo ∨ r.lo < -1000000000000000 ∨ 1000000000000000 < r.hi
  · rw [if_pos h]; exact .inr ⟨rfl, by omega⟩
  · rw [if_neg h]; exact .inl ⟨rfl, by omega⟩

set_option maxRecDepth 100000 in
set_option maxHeartbeats 2000000 in
theorem over_in (t : Tb) (r : Rg) (w : World) (ht : t.At w) (hok : TabOk t.ps) (hr : rangeErr r = 0) (hin : firstX t.ps ≤ r.lo ∧ r.hi ≤ lastX t.ps) :
    Calls Tryz.prog 141 #[.agg #[.slice t.p t.n t.c], .agg #[.int .i64 r.lo, .int .i64 r.hi]] w fun e w' => e = .returned (.tuple #[.agg #[.int .i64 (overS t.ps r).lo, .int .i64 (overS t.ps r).hi], .int .i64 0]) ∧ Below w.heap.size w w' := by
  obtain ⟨p, n, c, ps⟩ := t
  have ht' := ht
  obtain ⟨e1, e2, e3, e4, e5⟩ := ht'
  have hpos := hok.pos
  obtain ⟨b, o, rfl, hbw, hcs⟩ := e5 (by dsimp only at *; omega)
  dsimp only at *
  have HLEN := Lib.hid e1; clear e1 e5
  have HCS := Lib.hid hcs; clear hcs hpos
  have hte : tabErr ps = 0 := if_pos hok
  have hn : 1 ≤ n := by rw [← HLEN.out]; exact hok.pos
  have hle : r.lo ≤ r.hi := by rcases rangeErr_cases r with h | h <;> omega
  have HI := Lib.hid hin; clear hin
  have HL := Lib.hid hle; clear hle
  go_enter Tryz.func141, Tryz.ntmps141
  go_wp2_with (first | (go_at_call 52; (with_reducible refine (fix_CheckTable ⟨_, n, c, ps⟩ _ (by repeat (first | exact ht | refine Tb.At.alloc ?_ _ | refine Tb.At.bw ?_ _))).mono ?_); rintro e w_ ⟨rfl, hb_⟩; obtain ⟨y1, rfl⟩ := Soft.BW.mk hb_; clear hb_) | (go_at_call 68; (with_reducible refine (fix_CheckRange r _).mono ?_); rintro e w_ ⟨rfl, hb_⟩; obtain ⟨y2, rfl⟩ := Soft.BW.mk hb_; clear hb_) | (go_at_call 53; (with_reducible refine (fix_isIn ⟨_, n, c, ps⟩ r _ (by repeat (first | exact ht | refine Tb.At.alloc ?_ _ | refine Tb.At.bw ?_ _)) hn true (decide_eq_true (by rw [isIn_len ht]; exact HI.out)).symm).mono ?_); rintro e w_ ⟨rfl, hb_⟩; obtain ⟨y3, rfl⟩ := Soft.BW.mk hb_; clear hb_))
  generalize hW0 : y3.w.alloc (.cells #[.int .i64 0, .int .i64 0, .bool false, .bool false] 192) = W0
  have q0 : HasBlk W0 w.heap.size #[.slice (some ⟨b, o, none⟩) n c] 24 := by rw [← hW0]; exact (by simp only [HasBlk, Soft.BW.heap_if, Soft.heap_alloc_if, Soft.heap_new, Soft.heap_new1, Soft.heap_new2, Soft.heap_new3, Soft.heap_new4, Soft.heap_new5])
  have q1 : HasBlk W0 (w.heap.size + 1) #[.int .i64 r.lo, .int .i64 r.hi] 27 := by rw [← hW0]; exact (by simp only [HasBlk, Soft.BW.heap_if, Soft.heap_alloc_if, Soft.heap_new, Soft.heap_new1, Soft.heap_new2, Soft.heap_new3, Soft.heap_new4, Soft.heap_new5])
  have q2 : HasBlk W0 (w.heap.size + 2) #[.int .i64 0, .int .i64 0] 27 := by rw [← hW0]; exact (by simp only [HasBlk, Soft.BW.heap_if, Soft.heap_alloc_if, Soft.heap_new, Soft.heap_new1, Soft.heap_new2, Soft.heap_new3, Soft.heap_new4, Soft.heap_new5])
  have hb0 : Below w.heap.size w W0 := by rw [← hW0]; (with_reducible repeat (first | exact blr _ | refine bla ?_ _ | refine blw _ ?_ | refine bld ?_ | refine bln _ ?_ | refine bls ?_ _ | refine blt ?_))
  have ht0 : Tb.At W0 ⟨some ⟨b, o, none⟩, n, c, ps⟩ := ht.same hb0
  have hB0 : HasBlk W0 y3.w.heap.size (gCells none) 192 := by rw [← hW0]; exact Soft.heap_new _ _
  have hlt3 : w.heap.size + 2 < y3.w.heap.size := (inferInstance : Soft.LtH (w.heap.size + 2) y3.w).lt
  have hBW : y3.w.heap.size < W0.heap.size := hB0.lt
  clear hW0
  generalize y3.w.heap.size = B at *
  clear y3
  have hr1 : firstX ps ≤ r.lo ∧ r.lo ≤ lastX ps := ⟨HI.out.1, Int.le_trans HL.out HI.out.2⟩
  have hr2 : firstX ps ≤ r.hi ∧ r.hi ≤ lastX ps := ⟨Int.le_trans HI.out.1 HL.out, HI.out.2⟩
  have R1 := Lib.hid hr1; clear hr1
  have R2 := Lib.hid hr2; clear hr2
  go_at_call 154
  refine (Over_take ⟨some ⟨b, o, none⟩, n, c, ps⟩ _ none w.heap.size B W0 ht0 hok R1.out.1 R1.out.2 (by rw [q0.cell]; rfl) hB0).mono ?_
  rintro e w1 ⟨⟨v1, rfl⟩, hB1, hb1⟩
  have k0 := q0.but hb1 (by omega)
  have k1 := q1.but hb1 (by omega)
  have k2 := q2.but hb1 (by omega)
  have kc0 := k0.cell
  have kc1 := k1.cell
  go_wp2_with fail
  go_at_call 154
  refine (Over_take ⟨some ⟨b, o, none⟩, n, c, ps⟩ _ _ w.heap.size B w1 (ht0.belowAt (hb1.below (by omega)) (fun b' o' e => by cases e; omega)) hok R2.out.1 R2.out.2 (by rw [kc0]; rfl) hB1).mono ?_
  rintro e w2 ⟨⟨v2, rfl⟩, hB2, hb2⟩
  have hb02 := hb1.trans hb2
  have m0 := (q0.but hb02 (by omega)).cell
  clear k0 k1 k2 kc0 kc1 hB1 hb1 hb2 hB0
  go_wp2_with fail
  go_loopw [41] (fun i wr => ∃ k : Nat, k ≤ n ∧ i = .int .i64 k ∧ HasBlk wr B (gCells (some (overG ps r k))) 192 ∧ But B W0 wr) (fun i _ => n - (intOf i).toNat)
  case atStart => exact ⟨0, Nat.zero_le _, rfl, hB2, hb02⟩
  case round =>
    obtain ⟨k, hk, rfl, hG, hBut⟩ := hrel
    have z0 := (q0.but hBut (by omega)).cell
    have z1 := (q1.but hBut (by omega)).cell
    have z2 := (q2.but hBut (by omega)).cell
    have f2 := (q2.but hBut (by omega)).frozen
    have zG := hG.cell
    have l0 := Soft.LtH.mk (b := w.heap.size) (w := wr) (q0.but hBut (by omega)).lt
    have l1 := Soft.LtH.mk (b := w.heap.size + 1) (w := wr) (q1.but hBut (by omega)).lt
    have l2 := Soft.LtH.mk (b := w.heap.size + 2) (w := wr) (q2.but hBut (by omega)).lt
    have lB := Soft.LtH.mk (b := B) (w := wr) hG.lt
    have hszr := hBut.size
    by_cases hlt : k < n
    · have htr : Tb.At wr ⟨some ⟨b, o, none⟩, n, c, ps⟩ := ht0.belowAt (hBut.below (by omega)) (fun b' o' e => by cases e; omega)
      obtain ⟨c1, c2, c3⟩ : wr.cell? ⟨b, o + k * 3, none⟩ = some (.int .i64 (pt ps k).x) ∧ wr.cell? ⟨b, o + k * 3 + 1, none⟩ = some (.int .i64 (pt ps k).lo) ∧ wr.cell? ⟨b, o + k * 3 + 2, none⟩ = some (.int .i64 (pt ps k).hi) := by
        obtain ⟨_, _, _, _, h5⟩ := htr
        obtain ⟨b', o', e, _, hc⟩ := h5 (by dsimp only; omega)
        cases e
        exact hc k hlt
      have lb := Soft.LtH.mk (b := b) (w := wr) (by omega)
      have HBUT := Lib.hid hBut; clear hBut
      have HS := Lib.hid (overG_succ ps r k (by rw [HLEN.out]; exact hlt))
      generalize pt ps k = q at *
      have hwb : wr.heap.size < (wr.alloc (.cells #[.int .i64 q.x, .int .i64 q.lo, .int .i64 q.hi] 69)).heap.size := by simp
      by_cases hx : r.lo ≤ q.x ∧ q.x ≤ r.hi
      · have HX := Lib.hid hx; clear hx
        have hst : overStep ps r (overG ps r k) q = gTake (some (overG ps r k)) (atS ps q.x) := if_pos HX.out
        have HST := Lib.hid hst; clear hst
        go_wp2_with (go_at_call 121; (with_reducible refine (fix_within_yes _ _ _ _ HX.out).mono ?_); rintro e w_ ⟨rfl, hw_⟩; subst w_)
        have hG' : HasBlk (wr.alloc (.cells #[.int .i64 q.x, .int .i64 q.lo, .int .i64 q.hi] 69)) B (gCells (some (overG ps r k))) 192 := hG.below ((Below.refl _ _).alloc (Nat.le_refl _) _)
        refine (Over_take ⟨some ⟨b, o, none⟩, n, c, ps⟩ _ _ w.heap.size B _ (htr.alloc _) hok (Int.le_trans R1.out.1 HX.out.1) (Int.le_trans HX.out.2 R2.out.2) (by rw [Soft.cell_alloc_if, z0]; rfl) hG').mono ?_
        rintro e w3 ⟨⟨v3, rfl⟩, hB3, hb3⟩
        go_wp2
        go_roundw
        case rel => exact ⟨k + 1, by omega, by simp, by rw [HS.out, HST.out]; exact hB3, HBUT.out.trans ((World.grownBy_alloc _ _ _).trans hb3)⟩
        case measure => simp [intOf]; omega
      · have HX := Lib.hid hx; clear hx
        have hst : overStep ps r (overG ps r k) q = overG ps r k := if_neg HX.out
        have HST := Lib.hid hst; clear hst
        have hG' : HasBlk (wr.alloc (.cells #[.int .i64 q.x, .int .i64 q.lo, .int .i64 q.hi] 69)) B (gCells (some (overG ps r k))) 192 := hG.below ((Below.refl _ _).alloc (Nat.le_refl _) _)
        go_wp2_with (go_at_call 121; (with_reducible refine (fix_within_no _ _ _ _ HX.out).mono ?_); rintro e w_ ⟨rfl, hw_⟩; subst w_)
        go_roundw
        case rel => exact ⟨k + 1, by omega, by simp, by rw [HS.out, HST.out]; exact hG', HBUT.out.trans (World.grownBy_alloc _ _ _)⟩
        case measure => simp [intOf]; omega
    · obtain rfl : k = n := by omega
      have HBUT := Lib.hid hBut; clear hBut
      simp only [gCells] at zG
      go_wp2_with fail
      have hlen : k = ps.length := HLEN.out.symm
      have HV := Lib.hid (show overS ps r = overG ps r k from by unfold overS; rw [hlen])
      clear hlen
      have hfc := ((q2.but HBUT.out (by omega)).set2 (.int .i64 (overG ps r k).lo) (.int .i64 (overG ps r k).hi)).cell
      refine bodyPost_ret (v := .tuple #[.agg #[.int .i64 (overG ps r k).lo, .int .i64 (overG ps r k).hi], .int .i64 0]) (by simp [results, Tryz.results141, go_sem, hfc]) rfl ?_
      rw [HV.out]
      refine ⟨rfl, bel_set (bel_set (hb0.trans ((HBUT.out.below (by omega)).mono (by omega))) (by simp; omega) _) (by simp; omega) _⟩

set_option maxHeartbeats 1000000 in
theorem fix_Over (t : Tb) (r : Rg) (w : World) (ht : t.At w) :
    Calls Tryz.prog 141 #[.agg #[.slice t.p t.n t.c], .agg #[.int .i64 r.lo, .int .i64 r.hi]] w fun e w' => e = .returned (.tuple #[.agg #[.int .i64 (overE t.ps r).1.lo, .int .i64 (overE t.ps r).1.hi], .int .i64 (overE t.ps r).2]) ∧ Below w.heap.size w w' := by
  by_cases hok : TabOk t.ps
  · have hte : tabErr t.ps = 0 := if_pos hok
    have hn : 1 ≤ t.n := by rw [← ht.1]; exact hok.pos
    by_cases hr : rangeErr r = 0
    · by_cases hin : firstX t.ps ≤ r.lo ∧ r.hi ≤ lastX t.ps
      · have e : overE t.ps r = (overS t.ps r, 0) := by unfold overE; rw [if_pos hok, if_pos hr, if_pos hin]
        rw [e]
        exact over_in t r w ht hok hr hin
      · have e : overE t.ps r = (⟨0, 0⟩, 4) := by unfold overE; rw [if_pos hok, if_pos hr, if_neg hin]
        have E := Lib.hid e; clear e
        have HI := Lib.hid hin; clear hin
        go_enter Tryz.func141, Tryz.ntmps141
        go_wp2_with (first | (go_at_call 52; (with_reducible refine (fix_CheckTable t _ (by repeat (first | exact ht | refine Tb.At.alloc ?_ _ | refine Tb.At.bw ?_ _))).mono ?_); rintro e w_ ⟨rfl, hb_⟩; obtain ⟨y1, rfl⟩ := Soft.BW.mk hb_; clear hb_) | (go_at_call 68; (with_reducible refine (fix_CheckRange r _).mono ?_); rintro e w_ ⟨rfl, hb_⟩; obtain ⟨y2, rfl⟩ := Soft.BW.mk hb_; clear hb_) | (go_at_call 53; (with_reducible refine (fix_isIn t r _ (by repeat (first | exact ht | refine Tb.At.alloc ?_ _ | refine Tb.At.bw ?_ _)) hn false (decide_eq_false (by rw [isIn_len ht]; exact HI.out)).symm).mono ?_); rintro e w_ ⟨rfl, hb_⟩; obtain ⟨y3, rfl⟩ := Soft.BW.mk hb_; clear hb_))
        refine bodyPost_ret (v := .tuple #[.agg #[.int .i64 0, .int .i64 0], .int .i64 4]) (by simp [results, Tryz.results141, go_sem]) rfl ?_
        rw [E.out]
        refine ⟨rfl, ?_⟩
        (with_reducible repeat (first | exact blr _ | refine bla ?_ _ | refine blw _ ?_ | refine bld ?_ | refine bln _ ?_ | refine bls ?_ _ | refine blt ?_))
    · have e : overE t.ps r = (⟨0, 0⟩, 10) := by unfold overE; rw [if_pos hok, if_neg hr]
      have hr' : rangeErr r = 10 := by rcases rangeErr_cases r with h | h <;> omega
      have E := Lib.hid e; clear e hr
      go_enter Tryz.func141, Tryz.ntmps141
      go_wp2_with (first | (go_at_call 52; (with_reducible refine (fix_CheckTable t _ (by repeat (first | exact ht | refine Tb.At.alloc ?_ _ | refine Tb.At.bw ?_ _))).mono ?_); rintro e w_ ⟨rfl, hb_⟩; obtain ⟨y1, rfl⟩ := Soft.BW.mk hb_; clear hb_) | (go_at_call 68; (with_reducible refine (fix_CheckRange r _).mono ?_); rintro e w_ ⟨rfl, hb_⟩; obtain ⟨y2, rfl⟩ := Soft.BW.mk hb_; clear hb_))
      refine bodyPost_ret (v := .tuple #[.agg #[.int .i64 0, .int .i64 0], .int .i64 10]) (by simp [results, Tryz.results141, go_sem]) rfl ?_
      rw [E.out]
      refine ⟨rfl, ?_⟩
      (with_reducible repeat (first | exact blr _ | refine bla ?_ _ | refine blw _ ?_ | refine bld ?_ | refine bln _ ?_ | refine bls ?_ _ | refine blt ?_))
  · have hte : tabErr t.ps = 11 := if_neg hok
    have e : overE t.ps r = (⟨0, 0⟩, 11) := by unfold overE; rw [if_neg hok]
    have E := Lib.hid e; clear e
    go_enter Tryz.func141, Tryz.ntmps141
    go_wp2_with (go_at_call 52; (with_reducible refine (fix_CheckTable t _ (by repeat (first | exact ht | refine Tb.At.alloc ?_ _ | refine Tb.At.bw ?_ _))).mono ?_); rintro e w_ ⟨rfl, hb_⟩; obtain ⟨y1, rfl⟩ := Soft.BW.mk hb_; clear hb_)
    refine bodyPost_ret (v := .tuple #[.agg #[.int .i64 0, .int .i64 0], .int .i64 11]) (by simp [results, Tryz.results141, go_sem]) rfl ?_
    rw [E.out]
    refine ⟨rfl, ?_⟩
    (with_reducible repeat (first | exact blr _ | refine bla ?_ _ | refine blw _ ?_ | refine bld ?_ | refine bln _ ?_ | refine bls ?_ _ | refine blt ?_))

end Go.Proofs.YteagdcgmmdiakaaGreat

namespace Go.Proofs.YteagdcgmmdiakaaGreat
set_option linter.unusedSimpArgs false
set_option linter.unusedVariables false
open Go.RowKit
attribute [local go_sem] Soft.upon Soft.BW.cell_if Soft.BW.frozen_if Soft.cell_alloc_if Soft.frozen_alloc_if

theorem hold_isWithin (n lo hi : Int) (w : World) (v : Bool) (hv : v = decide (lo ≤ n ∧ n ≤ hi)) :
    Calls Tryz.prog 70 #[.int .i64 n, .int .i64 lo, .int .i64 hi] w fun e w' => e = .returned (.bool v) ∧ w' = w := by
  have HV := Lib.hid hv; clear hv
  go_enter Tryz.func70, Tryz.ntmps70
  go_wp2
  all_goals
    go_ret
    refine ⟨ret_bool ?_, rfl⟩
    rw [HV.out, Bool.eq_iff_iff]
    simp
    omega

def isPart (r : Rg) (lo hi : Int) : Prop := lo ≤ r.lo ∧ r.lo ≤ r.hi ∧ r.hi ≤ hi
instance (r : Rg) (lo hi : Int) : Decidable (isPart r lo hi) := inferInstanceAs (Decidable (_ ∧ _ ∧ _))
def isDen (r : Rg) : Prop := isPart r 100 2000
instance (r : Rg) : Decidable (isDen r) := inferInstanceAs (Decidable (isPart _ _ _))

theorem hold_isPart (r : Rg) (lo hi : Int) (w : World) (v : Bool) (hv : v = decide (isPart r lo hi)) :
    Calls Tryz.prog 67 #[.agg #[.int .i64 (r).lo, .int .i64 (r).hi], .int .i64 lo, .int .i64 hi] w fun e w' => e = .returned (.bool v) ∧ Below w.heap.size w w' := by
  have HV := Lib.hid hv; clear hv
  go_enter Tryz.func67, Tryz.ntmps67
  go_wp2
  all_goals
    go_ret
    refine ⟨ret_bool ?_, ?_⟩
    · rw [HV.out, Bool.eq_iff_iff]
      simp only [decide_eq_true_eq, Bool.false_eq_true]
      unfold isPart
      first | omega | (simp only [false_iff]; omega)
    · (with_reducible repeat (first | exact blr _ | refine bla ?_ _ | refine blw _ ?_ | refine bld ?_ | refine bln _ ?_ | refine bls ?_ _ | refine blt ?_))

theorem hold_isDensity (r : Rg) (w : World) (v : Bool) (hv : v = decide (isDen r)) :
    Calls Tryz.prog 66 #[.agg #[.int .i64 (r).lo, .int .i64 (r).hi]] w fun e w' => e = .returned (.bool v) ∧ Below w.heap.size w w' := by
  have HV := Lib.hid (show v = decide (isPart r 100 2000) from hv); clear hv
  go_enter Tryz.func66, Tryz.ntmps66
  go_wp2_with (go_at_call 67; (with_reducible refine (hold_isPart r _ _ _ v HV.out).mono ?_); rintro e w_ ⟨rfl, hb_⟩; obtain ⟨y1, rfl⟩ := Soft.BW.mk hb_; clear hb_)
  go_ret
  refine ⟨rfl, ?_⟩
  (with_reducible repeat (first | exact blr _ | refine bla ?_ _ | refine blw _ ?_ | refine bld ?_ | refine bln _ ?_ | refine bls ?_ _ | refine blt ?_))

theorem hold_domain (t : Tb) (w : World) (ht : t.At w) (hn : 1 ≤ t.n) :
    Calls Tryz.prog 65 #[.agg #[.slice (t).p (t).n (t).c]] w fun e w' => e = .returned (.tuple #[.int .i64 (firstX t.ps), .int .i64 (lastX t.ps)]) ∧ Below w.heap.size w w' := by
  have e0 := isIn_len ht
  unfold firstX lastX
  rw [← e0]
  obtain ⟨p, n, c, ps⟩ := t
  obtain ⟨h1, h2, h3, h4, h5⟩ := ht
  obtain ⟨b, o, rfl, hb, hc⟩ := h5 (by dsimp only at *; omega)
  dsimp only at *
  have c0 := (hc 0 (by omega)).1
  have c1 := (hc (n - 1) (by omega)).1
  have H1 := Lib.hid h1; clear h1 hc h5 e0
  generalize pt ps 0 = p0 at *
  generalize pt ps (n - 1) = p1 at *
  simp only [Nat.zero_mul, Nat.add_zero] at c0
  have := Soft.LtH.mk (w := w) hb
  have i0 : 0 < n := by omega
  have i1 : (n : Int) - 1 < n := by omega
  have i2 : (1 : Int) ≤ n := by omega
  have i3 : ((n : Int) - 1).toNat = n - 1 := by omega
  go_enter Tryz.func65, Tryz.ntmps65
  go_wp2
  go_quiet (fail)
  go_wp2
  go_ret2
  refine ⟨rfl, ?_⟩
  (with_reducible repeat (first | exact blr _ | refine bla ?_ _ | refine blw _ ?_ | refine bld ?_ | refine bln _ ?_ | refine bls ?_ _ | refine blt ?_))

/-- Whether some point lies below 0. -/
def hasNeg (ps : List Pt) : Prop := ∃ k, k < ps.length ∧ (pt ps k).lo < 0

theorem isNeg (p : Pt) (w : World) (v : Bool) (hv : v = decide (p.lo < 0)) :
    Calls Tryz.prog 138 #[.agg #[.int .i64 p.x, .int .i64 p.lo, .int .i64 p.hi]] w fun e w' => e = .returned (.bool v) ∧ Below w.heap.size w w' := by
  have HV := Lib.hid hv; clear hv
  go_enter Tryz.func138, Tryz.ntmps138
  go_wp2
  all_goals
    go_ret
    refine ⟨ret_bool HV.out.symm, ?_⟩
    (with_reducible repeat (first | exact blr _ | refine bla ?_ _ | refine blw _ ?_ | refine bld ?_ | refine bln _ ?_ | refine bls ?_ _ | refine blt ?_))


set_option maxHeartbeats 1000000 in
/-- The first point below 0: its number is m. -/
theorem indexNeg_yes (t : Tb) (w : World) (ht : t.At w) (m : Nat) (hm : m < t.ps.length) (hneg : (pt t.ps m).lo < 0) (hpos : ∀ j, j < m → 0 ≤ (pt t.ps j).lo) :
    Calls Tryz.prog 142 #[.slice (t).p (t).n (t).c, .func (.func 138) #[] #[]] w fun e w' => e = .returned (.int .i64 m) ∧ Below w.heap.size w w' := by
  obtain ⟨p, n, c, ps⟩ := t
  have ht' := ht
  obtain ⟨h1, h2, h3, h4, h5⟩ := ht'
  dsimp only at *
  obtain ⟨b, o, rfl, hb, hc⟩ := h5 (by omega)
  have HM := Lib.hid hm; clear hm
  have HP := Lib.hid hpos; clear hpos
  have HN := Lib.hid hneg; clear hneg
  have HL := Lib.hid h1; clear h1 h5 hc hb
  go_enter Tryz.func142, Tryz.ntmps142
  go_wp2_with fail
  go_loopw [8] (fun i wr => ∃ k : Nat, k ≤ m ∧ i = .int .i64 k ∧ Below w.heap.size w wr) (fun i _ => m + 1 - (intOf i).toNat)
  case atStart => exact ⟨0, Nat.zero_le _, rfl, Below.refl _ _⟩
  case round =>
    obtain ⟨k, hk, rfl, hB⟩ := hrel
    have hlt : k < n := by have := HM.out; have := HL.out; omega
    have htr := ht.same hB
    obtain ⟨_, _, _, _, h5⟩ := htr
    obtain ⟨b', o', e, hb, hc⟩ := h5 (by dsimp only; omega)
    cases e
    dsimp only at *
    obtain ⟨c1, c2, c3⟩ := hc k hlt
    clear h5 hc
    have HB := Lib.hid hB; clear hB
    by_cases hkm : k = m
    · have hng : (pt ps k).lo < 0 := by rw [hkm]; exact HN.out
      have HNG := Lib.hid hng; clear hng
      have HKM := Lib.hid hkm; clear hkm
      generalize pt ps k = q at *
      go_wp2_with (go_at_call 138; (with_reducible refine (isNeg q _ true (decide_eq_true HNG.out).symm).mono ?_); rintro e w_ ⟨rfl, hb_⟩; obtain ⟨y1, rfl⟩ := Soft.BW.mk hb_; clear hb_)
      go_ret
      refine ⟨ret_int (by rw [HKM.out]), ?_⟩
      exact HB.out.trans (y1.below.mono HB.out.size)
    · have hng : ¬(pt ps k).lo < 0 := by have := HP.out k (by omega); omega
      have HNG := Lib.hid hng; clear hng
      have hk' : k < m := by omega
      clear hkm
      generalize pt ps k = q at *
      go_wp2_with (go_at_call 138; (with_reducible refine (isNeg q _ false (decide_eq_false HNG.out).symm).mono ?_); rintro e w_ ⟨rfl, hb_⟩; obtain ⟨y1, rfl⟩ := Soft.BW.mk hb_; clear hb_)
      go_roundw
      case rel => exact ⟨k + 1, by omega, by simp, HB.out.trans (y1.below.mono HB.out.size)⟩
      case measure => simp [intOf]; omega

set_option maxHeartbeats 1000000 in
theorem indexNeg_no (t : Tb) (w : World) (ht : t.At w) (hpos : ∀ j, j < t.ps.length → 0 ≤ (pt t.ps j).lo) :
    Calls Tryz.prog 142 #[.slice (t).p (t).n (t).c, .func (.func 138) #[] #[]] w fun e w' => e = .returned (.int .i64 (-1)) ∧ Below w.heap.size w w' := by
  obtain ⟨p, n, c, ps⟩ := t
  have ht' := ht
  obtain ⟨h1, h2, h3, h4, h5⟩ := ht'
  dsimp only at *
  rw [h1] at hpos
  have HP := Lib.hid hpos; clear hpos
  have HL := Lib.hid h1; clear h1 h5
  by_cases hn : n = 0
  · have h0 : (n : Int) ≤ 0 := by omega
    clear hn
    go_enter Tryz.func142, Tryz.ntmps142
    go_wp2_with fail
    go_loopw [8] (fun i wr => i = .int .i64 0 ∧ wr = w) (fun i _ => 0)
    case atStart => exact ⟨rfl, rfl⟩
    case round =>
      obtain ⟨rfl, rfl⟩ := hrel
      go_wp2_with fail
      go_ret
      exact ⟨rfl, Below.refl _ _⟩
  · have hb : ∃ b o, p = some ⟨b, o, none⟩ := by
      obtain ⟨_, _, _, _, h5⟩ := ht
      obtain ⟨b, o, e, _⟩ := h5 hn
      exact ⟨b, o, e⟩
    obtain ⟨b, o, rfl⟩ := hb
    go_enter Tryz.func142, Tryz.ntmps142
    go_wp2_with fail
    go_loopw [8] (fun i wr => ∃ k : Nat, k ≤ n ∧ i = .int .i64 k ∧ Below w.heap.size w wr) (fun i _ => n - (intOf i).toNat)
    case atStart => exact ⟨0, Nat.zero_le _, rfl, Below.refl _ _⟩
    case round =>
      obtain ⟨k, hk, rfl, hB⟩ := hrel
      by_cases hlt : k < n
      · have htr := ht.same hB
        obtain ⟨_, _, _, _, h5⟩ := htr
        obtain ⟨b', o', e, hb, hc⟩ := h5 hn
        cases e
        dsimp only at *
        obtain ⟨c1, c2, c3⟩ := hc k hlt
        clear h5 hc
        have HB := Lib.hid hB; clear hB
        have HNG := Lib.hid (show ¬(pt ps k).lo < 0 by have := HP.out k hlt; omega)
        generalize pt ps k = q at *
        go_wp2_with (go_at_call 138; (with_reducible refine (isNeg q _ false (decide_eq_false HNG.out).symm).mono ?_); rintro e w_ ⟨rfl, hb_⟩; obtain ⟨y1, rfl⟩ := Soft.BW.mk hb_; clear hb_)
        go_roundw
        case rel => exact ⟨k + 1, by omega, by simp, HB.out.trans (y1.below.mono HB.out.size)⟩
        case measure => simp [intOf]; omega
      · obtain rfl : k = n := by omega
        have HB := Lib.hid hB; clear hB
        go_wp2_with fail
        go_ret
        exact ⟨rfl, HB.out⟩

instance (ps : List Pt) : Decidable (hasNeg ps) := decidable_of_iff (∃ k, k < ps.length ∧ (pt ps k).lo < 0) Iff.rfl

theorem least_neg {ps : List Pt} (h : hasNeg ps) : ∃ m, m < ps.length ∧ (pt ps m).lo < 0 ∧ ∀ j, j < m → 0 ≤ (pt ps j).lo := by
  obtain ⟨k, hk, hn⟩ := h
  induction k using Nat.strongRecOn with
  | _ k ih =>
    by_cases hex : ∃ j, j < k ∧ (pt ps j).lo < 0
    · obtain ⟨j, hj, hjn⟩ := hex
      exact ih j hj (by omega) hjn
    · exact ⟨k, hk, hn, fun j hj => by
        rcases Int.lt_or_le (pt ps j).lo 0 with h | h
        · exact absurd ⟨j, hj, h⟩ hex
        · exact h⟩

theorem containsNeg (t : Tb) (w : World) (ht : t.At w) (v : Bool) (hv : v = decide (hasNeg t.ps)) :
    Calls Tryz.prog 94 #[.slice (t).p (t).n (t).c, .func (.func 138) #[] #[]] w fun e w' => e = .returned (.bool v) ∧ Below w.heap.size w w' := by
  by_cases h : hasNeg t.ps
  · obtain rfl : v = true := by rw [hv]; exact decide_eq_true h
    obtain ⟨m, h1, h2, h3⟩ := least_neg h
    have H := Lib.hid h3; clear h3 hv h
    have hm0 : (0 : Int) ≤ m := by omega
    go_enter Tryz.func94, Tryz.ntmps94
    go_wp2_with (go_at_call 142; (with_reducible refine (indexNeg_yes t _ ht m h1 h2 H.out).mono ?_); rintro e w_ ⟨rfl, hb_⟩; obtain ⟨y1, rfl⟩ := Soft.BW.mk hb_; clear hb_)
    go_ret
    refine ⟨by simp, ?_⟩
    (with_reducible repeat (first | exact blr _ | refine bla ?_ _ | refine blw _ ?_ | refine bld ?_ | refine bln _ ?_ | refine bls ?_ _ | refine blt ?_))
  · obtain rfl : v = false := by rw [hv]; exact decide_eq_false h
    have H := Lib.hid (show ∀ j, j < t.ps.length → 0 ≤ (pt t.ps j).lo from fun j hj => by
      rcases Int.lt_or_le (pt t.ps j).lo 0 with hl | hl
      · exact absurd ⟨j, hj, hl⟩ h
      · exact hl)
    clear hv h
    go_enter Tryz.func94, Tryz.ntmps94
    go_wp2_with (go_at_call 142; (with_reducible refine (indexNeg_no t _ ht H.out).mono ?_); rintro e w_ ⟨rfl, hb_⟩; obtain ⟨y1, rfl⟩ := Soft.BW.mk hb_; clear hb_)
    go_ret
    refine ⟨by simp, ?_⟩
    (with_reducible repeat (first | exact blr _ | refine bla ?_ _ | refine blw _ ?_ | refine bld ?_ | refine bln _ ?_ | refine bls ?_ _ | refine blt ?_))

end Go.Proofs.YteagdcgmmdiakaaGreat

namespace Go.Proofs.YteagdcgmmdiakaaGreat
set_option linter.unusedSimpArgs false
set_option linter.unusedVariables false
open Go.RowKit
set_option maxRecDepth 100000
set_option maxHeartbeats 1000000
attribute [local go_sem] Instr.field asAgg Soft.upon Soft.BW.cell_if Soft.BW.frozen_if Soft.cell_alloc_if Soft.frozen_alloc_if


end Go.Proofs.YteagdcgmmdiakaaGreat

namespace Go.Proofs.YteagdcgmmdiakaaGreat
set_option linter.unusedSimpArgs false
set_option linter.unusedVariables false
open Go.RowKit
set_option maxRecDepth 100000
set_option maxHeartbeats 1000000
attribute [local go_sem] Instr.field asAgg Soft.upon Soft.BW.cell_if Soft.BW.frozen_if Soft.cell_alloc_if Soft.frozen_alloc_if

theorem TabOk.ends {ps : List Pt} (h : TabOk ps) : 0 ≤ firstX ps ∧ firstX ps ≤ lastX ps ∧ lastX ps ≤ 1000000 := by
  have hpos := h.pos
  obtain ⟨a1, _⟩ := h.all 0 (by omega)
  obtain ⟨_, b1, _⟩ := h.all (ps.length - 1) (by omega)
  have key : ∀ k, k < ps.length → (pt ps 0).x ≤ (pt ps k).x := by
    intro k
    induction k with
    | zero => intro _; exact Int.le_refl _
    | succ k ih =>
      intro hk
      obtain ⟨_, _, _, _, _, h6⟩ := h.all (k + 1) hk
      have := ih (by omega)
      rcases h6 with h6 | h6
      · omega
      · rw [show k + 1 - 1 = k by omega] at h6; omega
  exact ⟨a1, key _ (by omega), b1⟩


end Go.Proofs.YteagdcgmmdiakaaGreat
