/-
  fix.At, and fix.Over: the least range of all values over some places.
  Conditions: each theorem's own premises.
-/
import Derived.Test.YtbjdgaeikihjbaaAt
namespace Go.Proofs.Ytbjdgaeikihjbaa
set_option linter.unusedSimpArgs false
set_option linter.unusedVariables false
open Go.RowKit
attribute [local go_sem] Soft.upon Soft.BW.cell_if Soft.BW.frozen_if Soft.cell_alloc_if Soft.frozen_alloc_if

/-! ### The value at a place -/

def kOf (ps : List Pt) (x : Int) : Nat := ((List.range (nPieces ps)).find? (fun k => decide (pcHas (pieceAt ps k) x))).getD 0
def atS (ps : List Pt) (x : Int) : Rg := pcAt (pieceAt ps (kOf ps x)) x
abbrev firstX (ps : List Pt) : Int := (pt ps 0).x
abbrev lastX (ps : List Pt) : Int := (pt ps (ps.length - 1)).x

theorem piece_exists {ps : List Pt} (hok : TabOk ps) {x : Int} (h1 : firstX ps ≤ x) (h2 : x ≤ lastX ps) : ∃ k, k < nPieces ps ∧ pcHas (pieceAt ps k) x := by
  unfold nPieces pieceAt
  by_cases hl : ps.length = 1
  · simp only [hl, if_true]
    exact ⟨0, by omega, h1, by have := h2; simp only [lastX, hl] at this; exact this⟩
  · simp only [hl, if_false]
    have hpos := hok.pos
    have key : ∀ m, m + 1 < ps.length → x ≤ (pt ps (m + 1)).x → ∃ k, k ≤ m ∧ pcHas (pt ps k, pt ps (k + 1)) x := by
      intro m
      induction m with
      | zero => intro _ hx; exact ⟨0, Nat.le_refl _, h1, hx⟩
      | succ m ih =>
        intro hm hx
        by_cases hx' : x ≤ (pt ps (m + 1)).x
        · obtain ⟨k, hk, hh⟩ := ih (by omega) hx'
          exact ⟨k, by omega, hh⟩
        · exact ⟨m + 1, Nat.le_refl _, by show (pt ps (m + 1)).x ≤ x; omega, hx⟩
    obtain ⟨k, hk, hh⟩ := key (ps.length - 2) (by omega) (by rw [show ps.length - 2 + 1 = ps.length - 1 by omega]; exact h2)
    exact ⟨k, by omega, hh⟩

theorem kOf_spec {ps : List Pt} (hok : TabOk ps) {x : Int} (h1 : firstX ps ≤ x) (h2 : x ≤ lastX ps) : kOf ps x < nPieces ps ∧ (∀ j, j < kOf ps x → ¬pcHas (pieceAt ps j) x) ∧ pcHas (pieceAt ps (kOf ps x)) x := by
  obtain ⟨k, hk, hh⟩ := piece_exists hok h1 h2
  unfold kOf
  cases hf : (List.range (nPieces ps)).find? (fun k => decide (pcHas (pieceAt ps k) x)) with
  | none =>
    rw [List.find?_eq_none] at hf
    exact absurd hh (by simpa using hf k (by simpa using hk))
  | some i =>
    rw [List.find?_range_eq_some] at hf
    obtain ⟨a1, a2, a3⟩ := hf
    exact ⟨by simpa using a2, fun j hj => by simpa using a3 j hj, by simpa using a1⟩

theorem fix_at (t : Tb) (x : Int) (w : World) (ht : t.At w) (hok : TabOk t.ps) (h1 : firstX t.ps ≤ x) (h2 : x ≤ lastX t.ps) :
    Calls Try.prog 126 #[.agg #[.slice t.p t.n t.c], .int .i64 x] w fun e w' => e = .returned (.agg #[.int .i64 (atS t.ps x).lo, .int .i64 (atS t.ps x).hi]) ∧ Below w.heap.size w w' := by
  obtain ⟨a1, a2, a3⟩ := kOf_spec hok h1 h2
  exact at_pieces t x w ht hok (kOf t.ps x) a1 a2 a3

/-- fix.At, whatever the table and the place. -/
def atE (ps : List Pt) (x : Int) : Rg × Int := if TabOk ps then if firstX ps ≤ x ∧ x ≤ lastX ps then (atS ps x, 0) else (⟨0, 0⟩, 4) else (⟨0, 0⟩, 11)

theorem isIn_len {t : Tb} {w : World} (ht : t.At w) : t.n - 1 = t.ps.length - 1 := by rw [ht.1]

set_option maxHeartbeats 1000000 in
theorem fix_At (t : Tb) (x : Int) (w : World) (ht : t.At w) :
    Calls Try.prog 86 #[.agg #[.slice t.p t.n t.c], .int .i64 x] w fun e w' => e = .returned (.tuple #[.agg #[.int .i64 (atE t.ps x).1.lo, .int .i64 (atE t.ps x).1.hi], .int .i64 (atE t.ps x).2]) ∧ Below w.heap.size w w' := by
  by_cases hok : TabOk t.ps
  · have hte : tabErr t.ps = 0 := if_pos hok
    have hn : 1 ≤ t.n := by rw [← ht.1]; exact hok.pos
    by_cases hin : firstX t.ps ≤ x ∧ x ≤ lastX t.ps
    · have hr : atE t.ps x = (atS t.ps x, 0) := by unfold atE; rw [if_pos hok, if_pos hin]
      have HR := Lib.hid hr; clear hr
      have HI := Lib.hid hin; clear hin
      go_enter Try.func86, Try.ntmps86
      go_wp2_with (first | (go_at_call 124; (with_reducible refine (fix_CheckTable t _ (by repeat (first | exact ht | refine Tb.At.alloc ?_ _ | refine Tb.At.bw ?_ _))).mono ?_); rintro e w_ ⟨rfl, hb_⟩; obtain ⟨y1, rfl⟩ := Soft.BW.mk hb_; clear hb_) | (go_at_call 125; (with_reducible refine (fix_isIn t ⟨x, x⟩ _ (by repeat (first | exact ht | refine Tb.At.alloc ?_ _ | refine Tb.At.bw ?_ _)) hn true (decide_eq_true (by rw [isIn_len ht]; exact HI.out)).symm).mono ?_); rintro e w_ ⟨rfl, hb_⟩; obtain ⟨y2, rfl⟩ := Soft.BW.mk hb_; clear hb_) | (go_at_call 126; (with_reducible refine (fix_at t x _ (by repeat (first | exact ht | refine Tb.At.alloc ?_ _ | refine Tb.At.bw ?_ _)) hok HI.out.1 HI.out.2).mono ?_); rintro e w_ ⟨rfl, hb_⟩; obtain ⟨y3, rfl⟩ := Soft.BW.mk hb_; clear hb_))
      refine bodyPost_ret (v := .tuple #[.agg #[.int .i64 (atS t.ps x).lo, .int .i64 (atS t.ps x).hi], .int .i64 0]) (by simp [results, Try.results86, go_sem]) rfl ?_
      rw [HR.out]
      refine ⟨rfl, ?_⟩
      (repeat (first | with_reducible exact bel_refl _ | with_reducible refine bel_alloc ?_ _ | with_reducible refine bel_bw _ ?_ | with_reducible refine bel_drew ?_ | with_reducible refine bel_drewN _ ?_ | ((with_reducible refine bel_set ?_ ?_ _); rotate_left; focus (first | (simp; done) | omega | (simp; omega))) | refine bel_step ?_ (by with_reducible assumption)))
    · have hr : atE t.ps x = (⟨0, 0⟩, 4) := by unfold atE; rw [if_pos hok, if_neg hin]
      have HR := Lib.hid hr; clear hr
      have HI := Lib.hid hin; clear hin
      go_enter Try.func86, Try.ntmps86
      go_wp2_with (first | (go_at_call 124; (with_reducible refine (fix_CheckTable t _ (by repeat (first | exact ht | refine Tb.At.alloc ?_ _ | refine Tb.At.bw ?_ _))).mono ?_); rintro e w_ ⟨rfl, hb_⟩; obtain ⟨y1, rfl⟩ := Soft.BW.mk hb_; clear hb_) | (go_at_call 125; (with_reducible refine (fix_isIn t ⟨x, x⟩ _ (by repeat (first | exact ht | refine Tb.At.alloc ?_ _ | refine Tb.At.bw ?_ _)) hn false (decide_eq_false (by rw [isIn_len ht]; exact HI.out)).symm).mono ?_); rintro e w_ ⟨rfl, hb_⟩; obtain ⟨y2, rfl⟩ := Soft.BW.mk hb_; clear hb_))
      refine bodyPost_ret (v := .tuple #[.agg #[.int .i64 0, .int .i64 0], .int .i64 4]) (by simp [results, Try.results86, go_sem]) rfl ?_
      rw [HR.out]
      refine ⟨rfl, ?_⟩
      (repeat (first | with_reducible exact bel_refl _ | with_reducible refine bel_alloc ?_ _ | with_reducible refine bel_bw _ ?_ | with_reducible refine bel_drew ?_ | with_reducible refine bel_drewN _ ?_ | ((with_reducible refine bel_set ?_ ?_ _); rotate_left; focus (first | (simp; done) | omega | (simp; omega))) | refine bel_step ?_ (by with_reducible assumption)))
  · have hte : tabErr t.ps = 11 := if_neg hok
    have hr : atE t.ps x = (⟨0, 0⟩, 11) := by unfold atE; rw [if_neg hok]
    have HR := Lib.hid hr; clear hr
    go_enter Try.func86, Try.ntmps86
    go_wp2_with (go_at_call 124; (with_reducible refine (fix_CheckTable t _ (by repeat (first | exact ht | refine Tb.At.alloc ?_ _ | refine Tb.At.bw ?_ _))).mono ?_); rintro e w_ ⟨rfl, hb_⟩; obtain ⟨y1, rfl⟩ := Soft.BW.mk hb_; clear hb_)
    refine bodyPost_ret (v := .tuple #[.agg #[.int .i64 0, .int .i64 0], .int .i64 11]) (by simp [results, Try.results86, go_sem]) rfl ?_
    rw [HR.out]
    refine ⟨rfl, ?_⟩
    (repeat (first | with_reducible exact bel_refl _ | with_reducible refine bel_alloc ?_ _ | with_reducible refine bel_bw _ ?_ | with_reducible refine bel_drew ?_ | with_reducible refine bel_drewN _ ?_ | ((with_reducible refine bel_set ?_ ?_ _); rotate_left; focus (first | (simp; done) | omega | (simp; omega))) | refine bel_step ?_ (by with_reducible assumption)))


/-! ### Over -/

/-- What a gatherer holds. -/
def gAdd (g : Option Rg) (n : Int) : Rg := match g with
  | none => ⟨n, n⟩
  | some r => ⟨min r.lo n, max r.hi n⟩
def gCells (g : Option Rg) : Array Value := match g with
  | none => #[.int .i64 0, .int .i64 0, .bool false, .bool false]
  | some r => #[.int .i64 r.lo, .int .i64 r.hi, .bool true, .bool false]

theorem HasBlk.put {W : World} {B : Nat} {c : Array Value} {t : TypeId} (h : HasBlk W B c t) (i : Nat) (u : Value) : HasBlk (W.setCell ⟨B, i, none⟩ u) B (c.setIfInBounds i u) t := by
  simp [HasBlk, World.setCell, Array.getElem?_modify, show W.heap[B]? = _ from h]

/-- Only block B may have turned. -/
abbrev But (B : Nat) (w w' : World) : Prop := w.grownBy w' (some B)
theorem but_refl (B : Nat) (w : World) : But B w w := ⟨rfl, rfl, rfl, Nat.le_refl _, fun _ _ _ => rfl⟩
theorem But.trans {B : Nat} {a b c : World} (h : But B a b) (k : But B b c) : But B a c :=
  ⟨k.os.trans h.os, k.tape.trans h.tape, k.output.trans h.output, Nat.le_trans h.size k.size, fun i hi hne => (k.block i (Nat.lt_of_lt_of_le hi h.size) hne).trans (h.block i hi hne)⟩
theorem But.set {B : Nat} {a w : World} (h : But B a w) (i : Nat) (u : Value) : But B a (w.setCell ⟨B, i, none⟩ u) :=
  h.trans ⟨rfl, rfl, rfl, by simp, fun k _ hne => Below.heap_setCell w ⟨B, i, none⟩ u k (fun e => hne (by rw [e]))⟩
theorem But.bw {B : Nat} {a w : World} (h : But B a w) (x : Soft.BW w) : But B a x.w := h.trans ⟨x.below.os, x.below.tape, x.below.output, x.below.size, fun k hk _ => x.below.block k hk⟩
theorem But.alloc {B : Nat} {a w : World} (h : But B a w) (o : Obj) : But B a (w.alloc o) := h.trans (World.grownBy_alloc w o _)
theorem But.drew {B : Nat} {a w : World} (h : But B a w) : But B a w.drew := h.trans ⟨rfl, rfl, rfl, Nat.le_refl _, fun _ _ _ => rfl⟩
theorem But.below {B : Nat} {w w' : World} (h : But B w w') (hB : B ≤ w.heap.size) : Below B w w' := ⟨h.os, h.tape, h.output, h.size, fun k hk => h.block k (by omega) (by simp; omega)⟩
theorem HasBlk.but {B X : Nat} {w w' : World} {c : Array Value} {t : TypeId} (h : HasBlk w X c t) (hb : But B w w') (hne : X ≠ B) : HasBlk w' X c t := (hb.block X h.lt (by simpa using hne)).trans h
theorem But.cell {B : Nat} {w w' : World} (h : But B w w') {b i : Nat} (hlt : b < w.heap.size) (hne : b ≠ B) : w'.cell? ⟨b, i, none⟩ = w.cell? ⟨b, i, none⟩ := World.cell?_of_block (a := ⟨b, i, none⟩) (h.block b hlt (by simpa using hne))

set_option maxHeartbeats 1000000 in
theorem gatherer_add (g : Option Rg) (B : Nat) (n : Int) (w : World) (hB : HasBlk w B (gCells g) 170) :
    Calls Try.prog 158 #[.pointer (some ⟨B, 0, none⟩), .int .i64 n] w fun e w' => (∃ v, e = .returned v) ∧ HasBlk w' B (gCells (some (gAdd g n))) 170 ∧ But B w w' := by
  have lB := Soft.LtH.mk (b := B) (w := w) hB.lt
  have cB := hB.cell
  have fB := hB.frozen
  cases g with
  | none =>
    simp only [gCells] at cB hB
    go_enter Try.func158, Try.ntmps158
    go_wp2
    (refine Soft.region0 [0, 1, 2, 3, 4, 5, 6, 7, 8, 9, 10, 11, 12, 13, 14, 15, 16, 17] [18] (by kernel_rfl) (by kernel_rfl) (by kernel_rfl) (by kernel_rfl) ?_; change Soft.wpSoft _ _ _ _ _ [_, _, _, _, _, _, _, _, _, _, _, _, _, _, _, _, _, _] _; (repeat (refine Soft.soft_step (fun K hK => ?_); go_simp; (try go_bits); first | (refine hK _ ?_; clear hK K) | (apply Exists.intro; refine ⟨fun x => ?_, hK _ ?_⟩; (fail); clear hK K))); refine Soft.soft_nil ?_; intro xw; change wpList _ _ _ [_] _ _)
    go_wp2
    go_end0
    refine ⟨⟨_, rfl⟩, ?_, ?_⟩
    · exact ((((((hB.put 0 (.int .i64 n)).put 1 (.int .i64 n)).put 2 (.bool true)).below xw.below).put 0 (.int .i64 n)).put 1 (.int .i64 n))
    · exact ((((((but_refl B w).set 0 _).set 1 _).set 2 _).bw xw).set 0 _).set 1 _
  | some r =>
    simp only [gCells] at cB hB
    go_enter Try.func158, Try.ntmps158
    go_wp2
    (refine Soft.region0 [0, 1, 2, 3, 4, 5, 6, 7, 8, 9, 10, 11, 12, 13, 14, 15, 16, 17] [18] (by kernel_rfl) (by kernel_rfl) (by kernel_rfl) (by kernel_rfl) ?_; change Soft.wpSoft _ _ _ _ _ [_, _, _, _, _, _, _, _, _, _, _, _, _, _, _, _, _, _] _; (repeat (refine Soft.soft_step (fun K hK => ?_); go_simp; (try go_bits); first | (refine hK _ ?_; clear hK K) | (apply Exists.intro; refine ⟨fun x => ?_, hK _ ?_⟩; (fail); clear hK K))); refine Soft.soft_nil ?_; intro xw; change wpList _ _ _ [_] _ _)
    go_wp2
    all_goals
      go_end0
      refine ⟨⟨_, rfl⟩, ?_, ?_⟩
      · have hh := ((hB.below xw.below).put 0 (.int .i64 (min r.lo n))).put 1 (.int .i64 (max r.hi n))
        first
          | (rw [show min r.lo n = r.lo by omega, show max r.hi n = r.hi by omega] at hh; show HasBlk _ B #[.int .i64 (min r.lo n), .int .i64 (max r.hi n), .bool true, .bool false] _; rw [show min r.lo n = r.lo by omega, show max r.hi n = r.hi by omega]; exact hh)
          | (rw [show min r.lo n = r.lo by omega, show max r.hi n = n by omega] at hh; show HasBlk _ B #[.int .i64 (min r.lo n), .int .i64 (max r.hi n), .bool true, .bool false] _; rw [show min r.lo n = r.lo by omega, show max r.hi n = n by omega]; exact hh)
          | (rw [show min r.lo n = n by omega, show max r.hi n = r.hi by omega] at hh; show HasBlk _ B #[.int .i64 (min r.lo n), .int .i64 (max r.hi n), .bool true, .bool false] _; rw [show min r.lo n = n by omega, show max r.hi n = r.hi by omega]; exact hh)
          | (rw [show min r.lo n = n by omega, show max r.hi n = n by omega] at hh; show HasBlk _ B #[.int .i64 (min r.lo n), .int .i64 (max r.hi n), .bool true, .bool false] _; rw [show min r.lo n = n by omega, show max r.hi n = n by omega]; exact hh)
      · exact (((but_refl B w).bw xw).set 0 _).set 1 _


def gTake (g : Option Rg) (r : Rg) : Rg := gAdd (some (gAdd g r.lo)) r.hi

set_option maxHeartbeats 1000000 in
theorem Over_take (t : Tb) (x : Int) (g : Option Rg) (S B : Nat) (w : World) (ht : t.At w) (hok : TabOk t.ps) (h1 : firstX t.ps ≤ x) (h2 : x ≤ lastX t.ps) (hS : w.cell? ⟨S, 0, none⟩ = some (.slice t.p t.n t.c)) (hB : HasBlk w B (gCells g) 170) :
    Calls Try.prog 157 #[.int .i64 x, .pointer (some ⟨S, 0, none⟩), .pointer (some ⟨B, 0, none⟩)] w fun e w' => (∃ v, e = .returned v) ∧ HasBlk w' B (gCells (some (gTake g (atS t.ps x)))) 170 ∧ But B w w' := by
  have lB := Soft.LtH.mk (b := B) (w := w) hB.lt
  have lS := Soft.LtH.mk (b := S) (w := w) (World.block_lt_of_cell? _ _ hS)
  go_enter Try.func157, Try.ntmps157
  go_wp2_with (go_at_call 126; (with_reducible refine (fix_at t x _ ht hok h1 h2).mono ?_); rintro e w_ ⟨rfl, hb_⟩; obtain ⟨y1, rfl⟩ := Soft.BW.mk hb_; clear hb_)
  have hB1 : HasBlk (y1.w.alloc (.cells #[.int .i64 (atS t.ps x).lo, .int .i64 (atS t.ps x).hi] 30)) B (gCells g) 170 := (hB.below y1.below).below ((Below.refl _ _).alloc (Nat.le_refl _) _)
  have lt1 := hB1.lt
  go_at_call 158
  refine (gatherer_add g B _ _ hB1).mono ?_
  rintro e w2 ⟨⟨v, rfl⟩, hB2, hb2⟩
  have hnew := World.alloc_heap_new y1.w (.cells #[.int .i64 (atS t.ps x).lo, .int .i64 (atS t.ps x).hi] 30)
  have hne : y1.w.heap.size ≠ B := by have := (hB.below y1.below).lt; omega
  have hR : HasBlk w2 y1.w.heap.size #[.int .i64 (atS t.ps x).lo, .int .i64 (atS t.ps x).hi] 30 := HasBlk.but hnew hb2 hne
  have hRc := hR.cell
  go_wp2_with fail
  go_at_call 158
  refine (gatherer_add _ B _ _ hB2).mono ?_
  rintro e w3 ⟨⟨v3, rfl⟩, hB3, hb3⟩
  go_wp2
  go_end0
  exact ⟨⟨_, rfl⟩, hB3, (((but_refl B w).bw y1).alloc _).trans (hb2.trans hb3)⟩


def overStep (ps : List Pt) (r : Rg) (g : Rg) (p : Pt) : Rg := if r.lo ≤ p.x ∧ p.x ≤ r.hi then gTake (some g) (atS ps p.x) else g
def overG (ps : List Pt) (r : Rg) (k : Nat) : Rg := (ps.take k).foldl (overStep ps r) (gTake (some (gTake none (atS ps r.lo))) (atS ps r.hi))
def overS (ps : List Pt) (r : Rg) : Rg := overG ps r ps.length
def overE (ps : List Pt) (r : Rg) : Rg × Int := if TabOk ps then if rangeErr r = 0 then if firstX ps ≤ r.lo ∧ r.hi ≤ lastX ps then (overS ps r, 0) else (⟨0, 0⟩, 4) else (⟨0, 0⟩, 10) else (⟨0, 0⟩, 11)

theorem overG_succ (ps : List Pt) (r : Rg) (k : Nat) (hk : k < ps.length) : overG ps r (k + 1) = overStep ps r (overG ps r k) (pt ps k) := by
  unfold overG
  rw [List.take_succ_eq_append_getElem hk, List.foldl_append]
  simp [pt, hk]

theorem rangeErr_cases (r : Rg) : (rangeErr r = 0 ∧ r.lo ≤ r.hi ∧ -1000000000000000 ≤ r.lo ∧ r.hi ≤ 1000000000000000) ∨ (rangeErr r = 10 ∧ ¬(r.lo ≤ r.hi ∧ -1000000000000000 ≤ r.lo ∧ r.hi ≤ 1000000000000000)) := by
  unfold rangeErr
  by_cases h : r.hi < r.lo ∨ r.lo < -1000000000000000 ∨ 1000000000000000 < r.hi
  · rw [if_pos h]; exact .inr ⟨rfl, by omega⟩
  · rw [if_neg h]; exact .inl ⟨rfl, by omega⟩

set_option maxRecDepth 100000 in
set_option maxHeartbeats 2000000 in
theorem over_in (t : Tb) (r : Rg) (w : World) (ht : t.At w) (hok : TabOk t.ps) (hr : rangeErr r = 0) (hin : firstX t.ps ≤ r.lo ∧ r.hi ≤ lastX t.ps) :
    Calls Try.prog 140 #[.agg #[.slice t.p t.n t.c], .agg #[.int .i64 r.lo, .int .i64 r.hi]] w fun e w' => e = .returned (.tuple #[.agg #[.int .i64 (overS t.ps r).lo, .int .i64 (overS t.ps r).hi], .int .i64 0]) ∧ Below w.heap.size w w' := by
  obtain ⟨p, n, c, ps⟩ := t
  have ht' := ht
  obtain ⟨e1, e2, e3, e4, e5⟩ := ht'
  have hpos := hok.pos
  obtain ⟨b, o, rfl, hbw, hcs⟩ := e5 (by dsimp only at *; omega)
  dsimp only at *
  have HLEN := Lib.hid e1; clear e1 e5
  have HCS := Lib.hid hcs; clear hcs hpos
  have hte : tabErr ps = 0 := if_pos hok
  have hn : 1 ≤ n := by rw [← HLEN.out]; exact hok.pos
  have hle : r.lo ≤ r.hi := by rcases rangeErr_cases r with h | h <;> omega
  have HI := Lib.hid hin; clear hin
  have HL := Lib.hid hle; clear hle
  go_enter Try.func140, Try.ntmps140
  go_wp2_with (first | (go_at_call 124; (with_reducible refine (fix_CheckTable ⟨_, n, c, ps⟩ _ (by repeat (first | exact ht | refine Tb.At.alloc ?_ _ | refine Tb.At.bw ?_ _))).mono ?_); rintro e w_ ⟨rfl, hb_⟩; obtain ⟨y1, rfl⟩ := Soft.BW.mk hb_; clear hb_) | (go_at_call 99; (with_reducible refine (fix_CheckRange r _).mono ?_); rintro e w_ ⟨rfl, hb_⟩; obtain ⟨y2, rfl⟩ := Soft.BW.mk hb_; clear hb_) | (go_at_call 125; (with_reducible refine (fix_isIn ⟨_, n, c, ps⟩ r _ (by repeat (first | exact ht | refine Tb.At.alloc ?_ _ | refine Tb.At.bw ?_ _)) hn true (decide_eq_true (by rw [isIn_len ht]; exact HI.out)).symm).mono ?_); rintro e w_ ⟨rfl, hb_⟩; obtain ⟨y3, rfl⟩ := Soft.BW.mk hb_; clear hb_))
  generalize hW0 : y3.w.alloc (.cells #[.int .i64 0, .int .i64 0, .bool false, .bool false] 170) = W0
  have q0 : HasBlk W0 w.heap.size #[.slice (some ⟨b, o, none⟩) n c] 33 := by rw [← hW0]; exact (by simp only [HasBlk, Soft.BW.heap_if, Soft.heap_alloc_if, Soft.heap_new, Soft.heap_new1, Soft.heap_new2, Soft.heap_new3, Soft.heap_new4, Soft.heap_new5])
  have q1 : HasBlk W0 (w.heap.size + 1) #[.int .i64 r.lo, .int .i64 r.hi] 30 := by rw [← hW0]; exact (by simp only [HasBlk, Soft.BW.heap_if, Soft.heap_alloc_if, Soft.heap_new, Soft.heap_new1, Soft.heap_new2, Soft.heap_new3, Soft.heap_new4, Soft.heap_new5])
  have q2 : HasBlk W0 (w.heap.size + 2) #[.int .i64 0, .int .i64 0] 30 := by rw [← hW0]; exact (by simp only [HasBlk, Soft.BW.heap_if, Soft.heap_alloc_if, Soft.heap_new, Soft.heap_new1, Soft.heap_new2, Soft.heap_new3, Soft.heap_new4, Soft.heap_new5])
  have hb0 : Below w.heap.size w W0 := by rw [← hW0]; (repeat (first | with_reducible exact bel_refl _ | with_reducible refine bel_alloc ?_ _ | with_reducible refine bel_bw _ ?_ | with_reducible refine bel_drew ?_ | with_reducible refine bel_drewN _ ?_ | ((with_reducible refine bel_set ?_ ?_ _); rotate_left; focus (first | (simp; done) | omega | (simp; omega))) | refine bel_step ?_ (by with_reducible assumption)))
  have ht0 : Tb.At W0 ⟨some ⟨b, o, none⟩, n, c, ps⟩ := ht.same hb0
  have hB0 : HasBlk W0 y3.w.heap.size (gCells none) 170 := by rw [← hW0]; exact Soft.heap_new _ _
  have hlt3 : w.heap.size + 2 < y3.w.heap.size := (inferInstance : Soft.LtH (w.heap.size + 2) y3.w).lt
  have hBW : y3.w.heap.size < W0.heap.size := hB0.lt
  clear hW0
  generalize y3.w.heap.size = B at *
  clear y3
  have hr1 : firstX ps ≤ r.lo ∧ r.lo ≤ lastX ps := ⟨HI.out.1, Int.le_trans HL.out HI.out.2⟩
  have hr2 : firstX ps ≤ r.hi ∧ r.hi ≤ lastX ps := ⟨Int.le_trans HI.out.1 HL.out, HI.out.2⟩
  have R1 := Lib.hid hr1; clear hr1
  have R2 := Lib.hid hr2; clear hr2
  go_at_call 157
  refine (Over_take ⟨some ⟨b, o, none⟩, n, c, ps⟩ _ none w.heap.size B W0 ht0 hok R1.out.1 R1.out.2 (by rw [q0.cell]; rfl) hB0).mono ?_
  rintro e w1 ⟨⟨v1, rfl⟩, hB1, hb1⟩
  have k0 := q0.but hb1 (by omega)
  have k1 := q1.but hb1 (by omega)
  have k2 := q2.but hb1 (by omega)
  have kc0 := k0.cell
  have kc1 := k1.cell
  go_wp2_with fail
  go_at_call 157
  refine (Over_take ⟨some ⟨b, o, none⟩, n, c, ps⟩ _ _ w.heap.size B w1 (ht0.belowAt (hb1.below (by omega)) (fun b' o' e => by cases e; omega)) hok R2.out.1 R2.out.2 (by rw [kc0]; rfl) hB1).mono ?_
  rintro e w2 ⟨⟨v2, rfl⟩, hB2, hb2⟩
  have hb02 := hb1.trans hb2
  have m0 := (q0.but hb02 (by omega)).cell
  clear k0 k1 k2 kc0 kc1 hB1 hb1 hb2 hB0
  go_wp2_with fail
  go_loopw [41] (fun i wr => ∃ k : Nat, k ≤ n ∧ i = .int .i64 k ∧ HasBlk wr B (gCells (some (overG ps r k))) 170 ∧ But B W0 wr) (fun i _ => n - (intOf i).toNat)
  case atStart => exact ⟨0, Nat.zero_le _, rfl, hB2, hb02⟩
  case round =>
    obtain ⟨k, hk, rfl, hG, hBut⟩ := hrel
    have z0 := (q0.but hBut (by omega)).cell
    have z1 := (q1.but hBut (by omega)).cell
    have z2 := (q2.but hBut (by omega)).cell
    have f2 := (q2.but hBut (by omega)).frozen
    have zG := hG.cell
    have l0 := Soft.LtH.mk (b := w.heap.size) (w := wr) (q0.but hBut (by omega)).lt
    have l1 := Soft.LtH.mk (b := w.heap.size + 1) (w := wr) (q1.but hBut (by omega)).lt
    have l2 := Soft.LtH.mk (b := w.heap.size + 2) (w := wr) (q2.but hBut (by omega)).lt
    have lB := Soft.LtH.mk (b := B) (w := wr) hG.lt
    have hszr := hBut.size
    by_cases hlt : k < n
    · have htr : Tb.At wr ⟨some ⟨b, o, none⟩, n, c, ps⟩ := ht0.belowAt (hBut.below (by omega)) (fun b' o' e => by cases e; omega)
      obtain ⟨c1, c2, c3⟩ : wr.cell? ⟨b, o + k * 3, none⟩ = some (.int .i64 (pt ps k).x) ∧ wr.cell? ⟨b, o + k * 3 + 1, none⟩ = some (.int .i64 (pt ps k).lo) ∧ wr.cell? ⟨b, o + k * 3 + 2, none⟩ = some (.int .i64 (pt ps k).hi) := by
        obtain ⟨_, _, _, _, h5⟩ := htr
        obtain ⟨b', o', e, _, hc⟩ := h5 (by dsimp only; omega)
        cases e
        exact hc k hlt
      have lb := Soft.LtH.mk (b := b) (w := wr) (by omega)
      have HBUT := Lib.hid hBut; clear hBut
      have HS := Lib.hid (overG_succ ps r k (by rw [HLEN.out]; exact hlt))
      generalize pt ps k = q at *
      have hwb : wr.heap.size < (wr.alloc (.cells #[.int .i64 q.x, .int .i64 q.lo, .int .i64 q.hi] 114)).heap.size := by simp
      by_cases hx : r.lo ≤ q.x ∧ q.x ≤ r.hi
      · have HX := Lib.hid hx; clear hx
        have hst : overStep ps r (overG ps r k) q = gTake (some (overG ps r k)) (atS ps q.x) := if_pos HX.out
        have HST := Lib.hid hst; clear hst
        go_wp2_with (go_at_call 147; (with_reducible refine (fix_within_yes _ _ _ _ HX.out).mono ?_); rintro e w_ ⟨rfl, hw_⟩; subst w_)
        have hG' : HasBlk (wr.alloc (.cells #[.int .i64 q.x, .int .i64 q.lo, .int .i64 q.hi] 114)) B (gCells (some (overG ps r k))) 170 := hG.below ((Below.refl _ _).alloc (Nat.le_refl _) _)
        refine (Over_take ⟨some ⟨b, o, none⟩, n, c, ps⟩ _ _ w.heap.size B _ (htr.alloc _) hok (Int.le_trans R1.out.1 HX.out.1) (Int.le_trans HX.out.2 R2.out.2) (by rw [Soft.cell_alloc_if, z0]; rfl) hG').mono ?_
        rintro e w3 ⟨⟨v3, rfl⟩, hB3, hb3⟩
        go_wp2
        go_roundw
        case rel => exact ⟨k + 1, by omega, by simp, by rw [HS.out, HST.out]; exact hB3, HBUT.out.trans ((World.grownBy_alloc _ _ _).trans hb3)⟩
        case measure => simp [intOf]; omega
      · have HX := Lib.hid hx; clear hx
        have hst : overStep ps r (overG ps r k) q = overG ps r k := if_neg HX.out
        have HST := Lib.hid hst; clear hst
        have hG' : HasBlk (wr.alloc (.cells #[.int .i64 q.x, .int .i64 q.lo, .int .i64 q.hi] 114)) B (gCells (some (overG ps r k))) 170 := hG.below ((Below.refl _ _).alloc (Nat.le_refl _) _)
        go_wp2_with (go_at_call 147; (with_reducible refine (fix_within_no _ _ _ _ HX.out).mono ?_); rintro e w_ ⟨rfl, hw_⟩; subst w_)
        go_roundw
        case rel => exact ⟨k + 1, by omega, by simp, by rw [HS.out, HST.out]; exact hG', HBUT.out.trans (World.grownBy_alloc _ _ _)⟩
        case measure => simp [intOf]; omega
    · obtain rfl : k = n := by omega
      have HBUT := Lib.hid hBut; clear hBut
      simp only [gCells] at zG
      go_wp2_with fail
      have hlen : k = ps.length := HLEN.out.symm
      have HV := Lib.hid (show overS ps r = overG ps r k from by unfold overS; rw [hlen])
      clear hlen
      have hfc := ((q2.but HBUT.out (by omega)).set2 (.int .i64 (overG ps r k).lo) (.int .i64 (overG ps r k).hi)).cell
      refine bodyPost_ret (v := .tuple #[.agg #[.int .i64 (overG ps r k).lo, .int .i64 (overG ps r k).hi], .int .i64 0]) (by simp [results, Try.results140, go_sem, hfc]) rfl ?_
      rw [HV.out]
      refine ⟨rfl, bel_set (bel_set (hb0.trans ((HBUT.out.below (by omega)).mono (by omega))) (by simp; omega) _) (by simp; omega) _⟩

set_option maxHeartbeats 1000000 in
theorem fix_Over (t : Tb) (r : Rg) (w : World) (ht : t.At w) :
    Calls Try.prog 140 #[.agg #[.slice t.p t.n t.c], .agg #[.int .i64 r.lo, .int .i64 r.hi]] w fun e w' => e = .returned (.tuple #[.agg #[.int .i64 (overE t.ps r).1.lo, .int .i64 (overE t.ps r).1.hi], .int .i64 (overE t.ps r).2]) ∧ Below w.heap.size w w' := by
  by_cases hok : TabOk t.ps
  · have hte : tabErr t.ps = 0 := if_pos hok
    have hn : 1 ≤ t.n := by rw [← ht.1]; exact hok.pos
    by_cases hr : rangeErr r = 0
    · by_cases hin : firstX t.ps ≤ r.lo ∧ r.hi ≤ lastX t.ps
      · have e : overE t.ps r = (overS t.ps r, 0) := by unfold overE; rw [if_pos hok, if_pos hr, if_pos hin]
        rw [e]
        exact over_in t r w ht hok hr hin
      · have e : overE t.ps r = (⟨0, 0⟩, 4) := by unfold overE; rw [if_pos hok, if_pos hr, if_neg hin]
        have E := Lib.hid e; clear e
        have HI := Lib.hid hin; clear hin
        go_enter Try.func140, Try.ntmps140
        go_wp2_with (first | (go_at_call 124; (with_reducible refine (fix_CheckTable t _ (by repeat (first | exact ht | refine Tb.At.alloc ?_ _ | refine Tb.At.bw ?_ _))).mono ?_); rintro e w_ ⟨rfl, hb_⟩; obtain ⟨y1, rfl⟩ := Soft.BW.mk hb_; clear hb_) | (go_at_call 99; (with_reducible refine (fix_CheckRange r _).mono ?_); rintro e w_ ⟨rfl, hb_⟩; obtain ⟨y2, rfl⟩ := Soft.BW.mk hb_; clear hb_) | (go_at_call 125; (with_reducible refine (fix_isIn t r _ (by repeat (first | exact ht | refine Tb.At.alloc ?_ _ | refine Tb.At.bw ?_ _)) hn false (decide_eq_false (by rw [isIn_len ht]; exact HI.out)).symm).mono ?_); rintro e w_ ⟨rfl, hb_⟩; obtain ⟨y3, rfl⟩ := Soft.BW.mk hb_; clear hb_))
        refine bodyPost_ret (v := .tuple #[.agg #[.int .i64 0, .int .i64 0], .int .i64 4]) (by simp [results, Try.results140, go_sem]) rfl ?_
        rw [E.out]
        refine ⟨rfl, ?_⟩
        (repeat (first | with_reducible exact bel_refl _ | with_reducible refine bel_alloc ?_ _ | with_reducible refine bel_bw _ ?_ | with_reducible refine bel_drew ?_ | with_reducible refine bel_drewN _ ?_ | ((with_reducible refine bel_set ?_ ?_ _); rotate_left; focus (first | (simp; done) | omega | (simp; omega))) | refine bel_step ?_ (by with_reducible assumption)))
    · have e : overE t.ps r = (⟨0, 0⟩, 10) := by unfold overE; rw [if_pos hok, if_neg hr]
      have hr' : rangeErr r = 10 := by rcases rangeErr_cases r with h | h <;> omega
      have E := Lib.hid e; clear e hr
      go_enter Try.func140, Try.ntmps140
      go_wp2_with (first | (go_at_call 124; (with_reducible refine (fix_CheckTable t _ (by repeat (first | exact ht | refine Tb.At.alloc ?_ _ | refine Tb.At.bw ?_ _))).mono ?_); rintro e w_ ⟨rfl, hb_⟩; obtain ⟨y1, rfl⟩ := Soft.BW.mk hb_; clear hb_) | (go_at_call 99; (with_reducible refine (fix_CheckRange r _).mono ?_); rintro e w_ ⟨rfl, hb_⟩; obtain ⟨y2, rfl⟩ := Soft.BW.mk hb_; clear hb_))
      refine bodyPost_ret (v := .tuple #[.agg #[.int .i64 0, .int .i64 0], .int .i64 10]) (by simp [results, Try.results140, go_sem]) rfl ?_
      rw [E.out]
      refine ⟨rfl, ?_⟩
      (repeat (first | with_reducible exact bel_refl _ | with_reducible refine bel_alloc ?_ _ | with_reducible refine bel_bw _ ?_ | with_reducible refine bel_drew ?_ | with_reducible refine bel_drewN _ ?_ | ((with_reducible refine bel_set ?_ ?_ _); rotate_left; focus (first | (simp; done) | omega | (simp; omega))) | refine bel_step ?_ (by with_reducible assumption)))
  · have hte : tabErr t.ps = 11 := if_neg hok
    have e : overE t.ps r = (⟨0, 0⟩, 11) := by unfold overE; rw [if_neg hok]
    have E := Lib.hid e; clear e
    go_enter Try.func140, Try.ntmps140
    go_wp2_with (go_at_call 124; (with_reducible refine (fix_CheckTable t _ (by repeat (first | exact ht | refine Tb.At.alloc ?_ _ | refine Tb.At.bw ?_ _))).mono ?_); rintro e w_ ⟨rfl, hb_⟩; obtain ⟨y1, rfl⟩ := Soft.BW.mk hb_; clear hb_)
    refine bodyPost_ret (v := .tuple #[.agg #[.int .i64 0, .int .i64 0], .int .i64 11]) (by simp [results, Try.results140, go_sem]) rfl ?_
    rw [E.out]
    refine ⟨rfl, ?_⟩
    (repeat (first | with_reducible exact bel_refl _ | with_reducible refine bel_alloc ?_ _ | with_reducible refine bel_bw _ ?_ | with_reducible refine bel_drew ?_ | with_reducible refine bel_drewN _ ?_ | ((with_reducible refine bel_set ?_ ?_ _); rotate_left; focus (first | (simp; done) | omega | (simp; omega))) | refine bel_step ?_ (by with_reducible assumption)))

end Go.Proofs.Ytbjdgaeikihjbaa
