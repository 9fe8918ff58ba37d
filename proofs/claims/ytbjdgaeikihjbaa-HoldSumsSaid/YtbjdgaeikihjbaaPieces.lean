/-
  The walks of package fix's leaves: within, CheckRange, down, up, domain, isIn, CheckTable, and a piece's value.
  A table's straight pieces, as the iterator yields them; the value of a table at a place: fix.at, fix.At.
  Conditions: each theorem's own premises.
-/
import Derived.Test.YtbjdgaeikihjbaaBase
import Derived.RangeFuncNested
import Derived.RangeFuncBound
import Derived.RangeFuncCalls
import Derived.RangeFuncLeaves
import Derived.RangeFuncBox
import Derived.Shelf.Abstract
import Derived.Shelf.RegionOpen
import Derived.OwnWalkIn
import Derived.TacticsInMore
import Derived.LoopNIn
import Derived.LoopIn
import Derived.Stop.RegionWithIn
import Derived.Sort.QuietIn
namespace Go.Proofs.Ytbjdgaeikihjbaa
set_option linter.unusedSimpArgs false
set_option linter.unusedVariables false
open Go.RowKit
attribute [local go_sem] Soft.upon Soft.BW.cell_if Soft.BW.frozen_if Soft.cell_alloc_if Soft.frozen_alloc_if

theorem fix_within_yes (n lo hi : Int) (w : World) (h : lo ≤ n ∧ n ≤ hi) :
    Calls Try.prog 147 #[.int .i64 n, .int .i64 lo, .int .i64 hi] w fun e w' => e = .returned (.bool true) ∧ w' = w := by
  obtain ⟨h1, h2⟩ := h
  go_enter Try.func147, Try.ntmps147
  go_wp2
  go_ret
  exact ⟨by simp [h1, h2], rfl⟩

theorem fix_within_no (n lo hi : Int) (w : World) (h : ¬(lo ≤ n ∧ n ≤ hi)) :
    Calls Try.prog 147 #[.int .i64 n, .int .i64 lo, .int .i64 hi] w fun e w' => e = .returned (.bool false) ∧ w' = w := by
  by_cases h1 : lo ≤ n
  · have h2 : hi < n := by omega
    clear h
    go_enter Try.func147, Try.ntmps147
    go_wp2
    go_ret
    exact ⟨by simp [h1, h2], rfl⟩
  · have h2 : n < lo := by omega
    clear h h1
    go_enter Try.func147, Try.ntmps147
    go_wp2
    go_ret
    exact ⟨by simp [h2], rfl⟩

/-- The error of a range. -/
def rangeErr (r : Rg) : Int := if r.hi < r.lo ∨ r.lo < -1000000000000000 ∨ 1000000000000000 < r.hi then 10 else 0

theorem fix_CheckRange (r : Rg) (w : World) :
    Calls Try.prog 99 #[.agg #[.int .i64 r.lo, .int .i64 r.hi]] w fun e w' => e = .returned (.int .i64 (rangeErr r)) ∧ Below w.heap.size w w' := by
  go_enter Try.func99, Try.ntmps99
  go_wp2
  all_goals
    go_ret
    refine ⟨ret_int ?_, (Below.refl _ _).alloc (Nat.le_refl _) _⟩
    unfold rangeErr
    first | rw [if_pos (by omega)] | rw [if_neg (by omega)]

theorem tdiv_neg (a b : Int) (hb : 1 ≤ b) (h : a.tmod b < 0) : a / b = a.tdiv b - 1 := by
  have h1 := Int.mul_tdiv_add_tmod a b
  have h2 : -b < a.tmod b := by have := Int.lt_tmod_of_pos a (show 0 < b by omega); omega
  rw [Int.ediv_eq_iff_of_pos (by omega)]
  rw [Int.sub_mul, Int.mul_comm (a.tdiv b) b]
  omega

theorem tdiv_pos (a b : Int) (hb : 1 ≤ b) (h : 0 ≤ a.tmod b) : a / b = a.tdiv b := by
  have h1 := Int.mul_tdiv_add_tmod a b
  have h2 : a.tmod b < b := Int.tmod_lt_of_pos a (by omega)
  rw [Int.ediv_eq_iff_of_pos (by omega)]
  rw [Int.mul_comm (a.tdiv b) b]
  omega

theorem tdiv_bd (a b : Int) (hb : 1 ≤ b) : -(max a (-a)) ≤ a.tdiv b ∧ a.tdiv b ≤ max a (-a) := by
  by_cases h : 0 ≤ a
  · rw [Int.tdiv_eq_ediv_of_nonneg h]
    have h1 := Int.ediv_nonneg h (show 0 ≤ b by omega)
    have h2 := Int.ediv_le_self b h
    omega
  · have e : a.tdiv b = -((-a) / b) := by rw [← Int.tdiv_eq_ediv_of_nonneg (show 0 ≤ -a by omega), Int.neg_tdiv]; omega
    have h1 := Int.ediv_nonneg (show 0 ≤ -a by omega) (show 0 ≤ b by omega)
    have h2 := Int.ediv_le_self b (show 0 ≤ -a by omega)
    omega

theorem fix_down (a b : Int) (w : World) (h1 : -9223372036854775807 ≤ a) (h2 : a ≤ 9223372036854775807) (hb : 1 ≤ b) :
    Calls Try.prog 162 #[.int .i64 a, .int .i64 b] w fun e w' => e = .returned (.int .i64 (a / b)) ∧ w' = w := by
  have hbd := tdiv_bd a b hb
  obtain ⟨r1, r2⟩ : -9223372036854775808 ≤ a.tdiv b - 1 ∧ a.tdiv b - 1 ≤ 9223372036854775807 := by omega
  clear hbd
  go_enter Try.func162, Try.ntmps162
  go_wp2
  all_goals
    go_ret
    refine ⟨ret_int ?_, rfl⟩
    first | exact (tdiv_neg a b hb (by assumption)).symm | exact (tdiv_pos a b hb (by assumption)).symm

theorem fix_up (a b : Int) (w : World) (h1 : -9223372036854775807 ≤ a) (h2 : a ≤ 9223372036854775807) (hb : 1 ≤ b) :
    Calls Try.prog 163 #[.int .i64 a, .int .i64 b] w fun e w' => e = .returned (.int .i64 (-(-a / b))) ∧ w' = w := by
  have hd : -9223372036854775807 ≤ -a / b ∧ -a / b ≤ 9223372036854775807 := by
    by_cases h : 0 ≤ -a
    · have h1 := Int.ediv_nonneg h (show 0 ≤ b by omega)
      have h2 := Int.ediv_le_self b h
      omega
    · have h1 := Int.ediv_lt_of_lt_mul (show 0 < b by omega) (show -a < 0 * b by omega)
      have h2 : -a ≤ -a / b := Int.le_ediv_of_mul_le (by omega) (by have := Int.mul_le_mul_of_nonneg_left hb (show 0 ≤ a by omega); rw [Int.neg_mul]; omega)
      omega
  obtain ⟨d1, d2⟩ := hd
  go_enter Try.func163, Try.ntmps163
  go_wp2_with (go_at_call 162; refine (fix_down _ _ _ (by omega) (by omega) (by omega)).mono ?_; rintro e w' ⟨rfl, rfl⟩)
  go_ret
  exact ⟨rfl, rfl⟩

theorem pt_last {t : Tb} {w : World} (h : t.At w) (hn : t.n ≠ 0) : ∃ b o, t.p = some ⟨b, o, none⟩ := by
  obtain ⟨_, _, _, _, h5⟩ := h
  obtain ⟨b, o, e, _⟩ := h5 hn
  exact ⟨b, o, e⟩

theorem fix_domain (t : Tb) (w : World) (ht : t.At w) (hn : 1 ≤ t.n) :
    Calls Try.prog 148 #[.agg #[.slice t.p t.n t.c]] w fun e w' => e = .returned (.agg #[.int .i64 (pt t.ps 0).x, .int .i64 (pt t.ps (t.n - 1)).x]) ∧ Below w.heap.size w w' := by
  obtain ⟨p, n, c, ps⟩ := t
  obtain ⟨h1, h2, h3, h4, h5⟩ := ht
  obtain ⟨b, o, rfl, hb, hc⟩ := h5 (by omega)
  dsimp only at *
  have c0 := (hc 0 (by omega)).1
  have c1 := (hc (n - 1) (by omega)).1
  have H1 := Lib.hid h1; clear h1 hc
  generalize pt ps 0 = p0 at *
  generalize pt ps (n - 1) = p1 at *
  simp only [Nat.zero_mul, Nat.add_zero] at c0
  go_enter Try.func148, Try.ntmps148
  have := Soft.LtH.mk (w := w) hb
  have i0 : 0 < n := by omega
  have i1 : (n : Int) - 1 < n := by omega
  have i2 : (1 : Int) ≤ n := by omega
  have i3 : ((n : Int) - 1).toNat = n - 1 := by omega
  clear h5
  go_wp2
  (refine Soft.region0 [0, 1, 2, 3, 4, 5, 6, 7, 8, 9, 10, 11, 12, 13, 14] [15] (by kernel_rfl) (by kernel_rfl) (by kernel_rfl) (by kernel_rfl) ?_; change Soft.wpSoft _ _ _ _ _ [_, _, _, _, _, _, _, _, _, _, _, _, _, _, _] _; (repeat (refine Soft.soft_step (fun K hK => ?_); go_simp; (try go_bits); first | (refine hK _ ?_; clear hK K) | (apply Exists.intro; refine ⟨fun x => ?_, hK _ ?_⟩; (fail); clear hK K))); refine Soft.soft_nil ?_; intro xw; change wpList _ _ _ [_] _ _)
  go_wp2
  refine bodyPost_ret (v := .agg #[.int .i64 p0.x, .int .i64 p1.x]) (by simp [results, Try.results148, go_sem]) rfl ?_
  refine ⟨rfl, ?_⟩
  (repeat (first | with_reducible exact bel_refl _ | with_reducible refine bel_alloc ?_ _ | with_reducible refine bel_bw _ ?_ | with_reducible refine bel_drew ?_ | with_reducible refine bel_drewN _ ?_ | ((with_reducible refine bel_set ?_ ?_ _); rotate_left; focus (first | (simp; done) | omega | (simp; omega))) | refine bel_step ?_ (by with_reducible assumption)))


theorem fix_isIn (t : Tb) (r : Rg) (w : World) (ht : t.At w) (hn : 1 ≤ t.n) (v : Bool) (hv : v = decide ((pt t.ps 0).x ≤ r.lo ∧ r.hi ≤ (pt t.ps (t.n - 1)).x)) :
    Calls Try.prog 125 #[.agg #[.slice t.p t.n t.c], .agg #[.int .i64 r.lo, .int .i64 r.hi]] w fun e w' => e = .returned (.bool v) ∧ Below w.heap.size w w' := by
  have HV := Lib.hid hv; clear hv
  go_enter Try.func125, Try.ntmps125
  go_wp2_with (go_at_call 148; (with_reducible refine (fix_domain t _ ((ht.alloc _).alloc _) hn).mono ?_); rintro e w_ ⟨rfl, hb_⟩; obtain ⟨x1, rfl⟩ := Soft.BW.mk hb_; clear hb_)
  all_goals
    go_ret
    refine ⟨ret_bool ?_, ?_⟩
    · rw [HV.out, Bool.eq_iff_iff]
      simp
      omega
    · (repeat (first | with_reducible exact bel_refl _ | with_reducible refine bel_alloc ?_ _ | with_reducible refine bel_bw _ ?_ | with_reducible refine bel_drew ?_ | with_reducible refine bel_drewN _ ?_ | ((with_reducible refine bel_set ?_ ?_ _); rotate_left; focus (first | (simp; done) | omega | (simp; omega))) | refine bel_step ?_ (by with_reducible assumption)))

theorem piece_has (a b : Pt) (x : Int) (w : World) (v : Bool) (hv : v = decide (a.x ≤ x ∧ x ≤ b.x)) :
    Calls Try.prog 150 #[.agg #[.int .i64 a.x, .int .i64 a.lo, .int .i64 a.hi, .int .i64 b.x, .int .i64 b.lo, .int .i64 b.hi], .int .i64 x] w fun e w' => e = .returned (.bool v) ∧ Below w.heap.size w w' := by
  by_cases h : a.x ≤ x ∧ x ≤ b.x
  · obtain rfl : v = true := by rw [hv]; exact decide_eq_true h
    clear hv
    go_enter Try.func150, Try.ntmps150
    go_wp2_with (go_at_call 147; (with_reducible refine (fix_within_yes _ _ _ _ h).mono ?_); rintro e w_ ⟨rfl, hw_⟩; subst w_)
    go_ret
    refine ⟨rfl, ?_⟩
    (repeat (first | with_reducible exact bel_refl _ | with_reducible refine bel_alloc ?_ _ | with_reducible refine bel_bw _ ?_ | with_reducible refine bel_drew ?_ | with_reducible refine bel_drewN _ ?_ | ((with_reducible refine bel_set ?_ ?_ _); rotate_left; focus (first | (simp; done) | omega | (simp; omega))) | refine bel_step ?_ (by with_reducible assumption)))
  · obtain rfl : v = false := by rw [hv]; exact decide_eq_false h
    clear hv
    have H := Lib.hid h; clear h
    go_enter Try.func150, Try.ntmps150
    go_wp2_with (go_at_call 147; (with_reducible refine (fix_within_no _ _ _ _ H.out).mono ?_); rintro e w_ ⟨rfl, hw_⟩; subst w_)
    go_ret
    refine ⟨rfl, ?_⟩
    (repeat (first | with_reducible exact bel_refl _ | with_reducible refine bel_alloc ?_ _ | with_reducible refine bel_bw _ ?_ | with_reducible refine bel_drew ?_ | with_reducible refine bel_drewN _ ?_ | ((with_reducible refine bel_set ?_ ?_ _); rotate_left; focus (first | (simp; done) | omega | (simp; omega))) | refine bel_step ?_ (by with_reducible assumption)))

/-- A line's numerator and denominator, on a piece. -/
def lineN (a b : Pt) (y z x : Int) : Int := if a = b then y else y * (b.x - x) + z * (x - a.x)
def lineD (a b : Pt) : Int := if a = b then 1 else b.x - a.x

theorem piece_value_eq (a : Pt) (y z x : Int) (w : World) :
    Calls Try.prog 161 #[.agg #[.int .i64 a.x, .int .i64 a.lo, .int .i64 a.hi, .int .i64 a.x, .int .i64 a.lo, .int .i64 a.hi], .int .i64 y, .int .i64 z, .int .i64 x] w fun e w' =>
      e = .returned (.tuple #[.int .i64 y, .int .i64 1]) ∧ Below w.heap.size w w' := by
  go_enter Try.func161, Try.ntmps161
  go_wp2
  go_ret2
  refine ⟨rfl, ?_⟩
  (repeat (first | with_reducible exact bel_refl _ | with_reducible refine bel_alloc ?_ _ | with_reducible refine bel_bw _ ?_ | with_reducible refine bel_drew ?_ | with_reducible refine bel_drewN _ ?_ | ((with_reducible refine bel_set ?_ ?_ _); rotate_left; focus (first | (simp; done) | omega | (simp; omega))) | refine bel_step ?_ (by with_reducible assumption)))

theorem mul_bd {y d : Int} (Y D M : Int) (hM : Y * D = M) (h1 : -Y ≤ y) (h2 : y ≤ Y) (h3 : 0 ≤ d) (h4 : d ≤ D) : -M ≤ y * d ∧ y * d ≤ M := by
  have hY : 0 ≤ Y := by omega
  have a1 := Int.mul_le_mul_of_nonneg_right h2 h3
  have a2 := Int.mul_le_mul_of_nonneg_right h1 h3
  have a3 := Int.mul_le_mul_of_nonneg_left h4 hY
  rw [Int.neg_mul] at a2
  omega

/-- A piece's bounds. -/
structure PieceOk (a b : Pt) : Prop where
  x0 : 0 ≤ a.x
  x1 : b.x ≤ 1000000
  lt : a.x < b.x
  alo : -1000000000 ≤ a.lo
  ale : a.lo ≤ a.hi
  ahi : a.hi ≤ 1000000000
  blo : -1000000000 ≤ b.lo
  ble : b.lo ≤ b.hi
  bhi : b.hi ≤ 1000000000

theorem piece_value (a b : Pt) (y z x : Int) (w : World) (hne : a.x < b.x) (h1 : 0 ≤ a.x) (h2 : b.x ≤ 1000000) (h3 : a.x ≤ x) (h4 : x ≤ b.x) (hy : -1000000000 ≤ y ∧ y ≤ 1000000000) (hz : -1000000000 ≤ z ∧ z ≤ 1000000000) :
    Calls Try.prog 161 #[.agg #[.int .i64 a.x, .int .i64 a.lo, .int .i64 a.hi, .int .i64 b.x, .int .i64 b.lo, .int .i64 b.hi], .int .i64 y, .int .i64 z, .int .i64 x] w fun e w' =>
      e = .returned (.tuple #[.int .i64 (y * (b.x - x) + z * (x - a.x)), .int .i64 (b.x - a.x)]) ∧ Below w.heap.size w w' := by
  have m1 := mul_bd 1000000000 1000000 1000000000000000 (by decide) hy.1 hy.2 (show 0 ≤ b.x - x by omega) (show b.x - x ≤ 1000000 by omega)
  have m2 := mul_bd 1000000000 1000000 1000000000000000 (by decide) hz.1 hz.2 (show 0 ≤ x - a.x by omega) (show x - a.x ≤ 1000000 by omega)
  have hx : (a.x == b.x) = false := beq_eq_false_iff_ne.2 (by omega)
  obtain ⟨m11, m12⟩ := m1
  obtain ⟨m21, m22⟩ := m2
  go_enter Try.func161, Try.ntmps161
  go_wp2
  go_quiet (fail)
  go_wp2
  go_ret2
  refine ⟨rfl, ?_⟩
  (repeat (first | with_reducible exact bel_refl _ | with_reducible refine bel_alloc ?_ _ | with_reducible refine bel_bw _ ?_ | with_reducible refine bel_drew ?_ | with_reducible refine bel_drewN _ ?_ | ((with_reducible refine bel_set ?_ ?_ _); rotate_left; focus (first | (simp; done) | omega | (simp; omega))) | refine bel_step ?_ (by with_reducible assumption)))

def segLo (a b : Pt) (x : Int) : Int := (a.lo * (b.x - x) + b.lo * (x - a.x)) / (b.x - a.x)
def segHi (a b : Pt) (x : Int) : Int := -(-(a.hi * (b.x - x) + b.hi * (x - a.x)) / (b.x - a.x))

theorem piece_at (a b : Pt) (x : Int) (w : World) (h : PieceOk a b) (h3 : a.x ≤ x) (h4 : x ≤ b.x) :
    Calls Try.prog 151 #[.agg #[.int .i64 a.x, .int .i64 a.lo, .int .i64 a.hi, .int .i64 b.x, .int .i64 b.lo, .int .i64 b.hi], .int .i64 x] w fun e w' =>
      e = .returned (.agg #[.int .i64 (segLo a b x), .int .i64 (segHi a b x)]) ∧ Below w.heap.size w w' := by
  obtain ⟨x0, x1, lt, alo, ale, ahi, blo, ble, bhi⟩ := h
  have m1 := mul_bd (y := a.lo) 1000000000 1000000 1000000000000000 (by decide) (by omega) (by omega) (show 0 ≤ b.x - x by omega) (show b.x - x ≤ 1000000 by omega)
  have m2 := mul_bd (y := b.lo) 1000000000 1000000 1000000000000000 (by decide) (by omega) (by omega) (show 0 ≤ x - a.x by omega) (show x - a.x ≤ 1000000 by omega)
  have m3 := mul_bd (y := a.hi) 1000000000 1000000 1000000000000000 (by decide) (by omega) (by omega) (show 0 ≤ b.x - x by omega) (show b.x - x ≤ 1000000 by omega)
  have m4 := mul_bd (y := b.hi) 1000000000 1000000 1000000000000000 (by decide) (by omega) (by omega) (show 0 ≤ x - a.x by omega) (show x - a.x ≤ 1000000 by omega)
  go_enter Try.func151, Try.ntmps151
  go_wp2_with (first | (go_at_call 161; (with_reducible refine (piece_value a b _ _ _ _ lt x0 x1 h3 h4 (by omega) (by omega)).mono ?_); rintro e w_ ⟨rfl, hb_⟩; obtain ⟨y1, rfl⟩ := Soft.BW.mk hb_; clear hb_) | (go_at_call 162; (with_reducible refine (fix_down _ _ _ (by omega) (by omega) (by omega)).mono ?_); rintro e w_ ⟨rfl, hw_⟩; subst w_) | (go_at_call 163; (with_reducible refine (fix_up _ _ _ (by omega) (by omega) (by omega)).mono ?_); rintro e w_ ⟨rfl, hw_⟩; subst w_))
  refine bodyPost_ret (v := .agg #[.int .i64 ((a.lo * (b.x - x) + b.lo * (x - a.x)) / (b.x - a.x)), .int .i64 (-(-(a.hi * (b.x - x) + b.hi * (x - a.x)) / (b.x - a.x)))]) (by simp [results, Try.results151, go_sem]) rfl ?_
  refine ⟨rfl, ?_⟩
  (repeat (first | with_reducible exact bel_refl _ | with_reducible refine bel_alloc ?_ _ | with_reducible refine bel_bw _ ?_ | with_reducible refine bel_drew ?_ | with_reducible refine bel_drewN _ ?_ | ((with_reducible refine bel_set ?_ ?_ _); rotate_left; focus (first | (simp; done) | omega | (simp; omega))) | refine bel_step ?_ (by with_reducible assumption)))

end Go.Proofs.Ytbjdgaeikihjbaa

namespace Go.Proofs.Ytbjdgaeikihjbaa
set_option linter.unusedSimpArgs false
set_option linter.unusedVariables false
open Go.RowKit Go.Shelf
attribute [local go_sem] Soft.upon Soft.BW.cell_if Soft.BW.frozen_if Soft.cell_alloc_if Soft.frozen_alloc_if Oper.semAt_some Soft.upon0

/-- A piece that is one point, or goes on. -/
def PieceAny (p : Pt × Pt) : Prop := PieceOk p.1 p.2 ∨ (p.1 = p.2 ∧ 0 ≤ p.1.x ∧ p.1.x ≤ 1000000 ∧ -1000000000 ≤ p.1.lo ∧ p.1.lo ≤ p.1.hi ∧ p.1.hi ≤ 1000000000)
abbrev Pc := { p : Pt × Pt // PieceAny p }
def encP (p : Pc) : Array Value := #[.agg #[.int .i64 p.1.1.x, .int .i64 p.1.1.lo, .int .i64 p.1.1.hi, .int .i64 p.1.2.x, .int .i64 p.1.2.lo, .int .i64 p.1.2.hi]]

def upto {α : Type} (f : Nat → α) (k : Nat) : List α := (List.range k).map f
theorem upto_succ {α : Type} (f : Nat → α) (k : Nat) : upto f (k + 1) = upto f k ++ [f k] := by simp [upto, List.range_succ]
theorem upto_length {α : Type} (f : Nat → α) (k : Nat) : (upto f k).length = k := by simp [upto]

set_option maxRecDepth 100000 in
set_option maxHeartbeats 2000000 in
/-- Of a table with more than one point. -/
theorem pieces1_in (F : Fence) (m : Nat) (h7 : F.fn 160) (hro : F.round = none) (hm : 1 ≤ m) (l Bs n₀ b off len cap : Nat) (ps : List Pt) (hreach : len ≤ 1000) (_hlc : len ≤ cap) (_hcap : cap ≤ 9223372036854775807) (hb : b < n₀) (f : Nat → Pc) (h2 : 2 ≤ len)
    (hf : ∀ k, k + 1 < len → (f k).1 = (pt ps k, pt ps (k + 1))) (J Jx : List Pc → World → Prop)
    (hY : ∀ pre x W, J pre W → pre.length < len - 1 → YieldAt F (m - 1) Try.prog l (encP x) W fun e W' =>
      (e = .returned (.bool true) ∧ J (pre ++ [x]) W' ∧ Below n₀ W W') ∨ (e = .returned (.bool false) ∧ Jx (pre ++ [x]) W'))
    (hJ : ∀ s A B, J s A → Below A.heap.size A B → J s B)
    (W : World) (hBs : W.cell? ⟨Bs, 0, none⟩ = some (.slice (some ⟨b, off, none⟩) len cap)) (hBn : Bs < n₀) (hn : n₀ ≤ W.heap.size)
    (hc : ∀ i, i < len → W.cell? ⟨b, off + i * 3, none⟩ = some (.int .i64 (pt ps i).x) ∧ W.cell? ⟨b, off + i * 3 + 1, none⟩ = some (.int .i64 (pt ps i).lo) ∧ W.cell? ⟨b, off + i * 3 + 2, none⟩ = some (.int .i64 (pt ps i).hi)) (h0 : J [] W) :
    CallsIn F m Try.prog 160 #[.func (.yield l) #[] #[], .pointer (some ⟨Bs, 0, none⟩)] W fun e W' => (∃ v, e = .returned v) ∧
      ((∃ ys, ys = upto f (len - 1) ∧ J ys W') ∨ (∃ pre, (∃ k, k ≤ len - 1 ∧ pre = upto f k) ∧ Jx pre W')) := by
  refine callsIn_of_wp Try.func160 rfl h7 ?_ hro
  simp only [Try.ntmps160, List.size_toArray, List.length_cons, List.length_nil, Nat.reduceAdd, Nat.reduceSub, Array.replicate_succ, Array.replicate_zero, List.push_toArray, List.append_toArray, List.nil_append, List.cons_append]
  have hl1 : ((len : Int) == 1) = false := beq_eq_false_iff_ne.2 (by omega)
  have hl2 : (1 : Int) ≤ len := by omega
  have hc1 : cap ≠ 1 := by omega
  gi_wp2
  go_outline
  gi_loopw [24] (fun i wr => ∃ k : Nat, k ≤ len - 1 ∧ i = .int .i64 k ∧ J (upto f k) wr ∧ Below n₀ W wr) (fun i _ => len - 1 - (intOf i).toNat)
  case atStart => exact ⟨0, Nat.zero_le _, rfl, h0, Below.refl _ _⟩
  case round =>
    obtain ⟨k, hk, rfl, hJs, hB⟩ := hrel
    by_cases hlt : k < len - 1
    · have e1 : ∀ i, i < len → wr.cell? ⟨b, off + i * 3, none⟩ = some (.int .i64 (pt ps i).x) ∧ wr.cell? ⟨b, off + i * 3 + 1, none⟩ = some (.int .i64 (pt ps i).lo) ∧ wr.cell? ⟨b, off + i * 3 + 2, none⟩ = some (.int .i64 (pt ps i).hi) := fun i hi => by
        obtain ⟨a1, a2, a3⟩ := hc i hi
        exact ⟨(hB.cell (p := ⟨b, _, none⟩) hb).trans a1, (hB.cell (p := ⟨b, _, none⟩) hb).trans a2, (hB.cell (p := ⟨b, _, none⟩) hb).trans a3⟩
      have hBs' := (hB.cell (p := ⟨Bs, 0, none⟩) hBn).trans hBs
      obtain ⟨a1, a2, a3⟩ := e1 k (by omega)
      obtain ⟨b1, b2, b3⟩ := e1 (k + 1) (by omega)
      rw [show off + (k + 1) * 3 = off + 3 + k * 3 by omega] at b1 b2 b3
      have i1 : k < len := by omega
      have hfk := hf k (by omega)
      generalize pt ps k = pa at *
      generalize pt ps (k + 1) = pb at *
      have HB := Lib.hid hB; clear hB
      have HF := Lib.hid hfk; clear hfk
      clear e1 hc hf
      have lb := Soft.LtH.mk (b := b) (w := wr) (World.block_lt_of_cell? _ _ a1)
      have lB := Soft.LtH.mk (b := Bs) (w := wr) (World.block_lt_of_cell? _ _ hBs')
      gi_wp2
      have hB2 : Below n₀ wr (wr.alloc (.cells #[.int .i64 pb.x, .int .i64 pb.lo, .int .i64 pb.hi] 114)) := (Below.refl _ _).alloc (Nat.le_trans hn HB.out.size) _
      have hJ2 : J (upto f k) (wr.alloc (.cells #[.int .i64 pb.x, .int .i64 pb.lo, .int .i64 pb.hi] 114)).drew := hJ _ _ _ hJs (((Below.refl _ _).alloc (Nat.le_refl _) _).drew)
      obtain ⟨fn, tmps, assign, body, hy, hR⟩ := hY _ (f k) _ hJ2 (by rw [upto_length]; exact hlt)
      simp only [encP, HF.out] at hy
      (refine Soft.region_in [0, 1, 2, 3, 4, 5, 6, 7] [8, 9] (by kernel_rfl) (by kernel_rfl) (by kernel_rfl) (by kernel_rfl) ?_; change Soft.wpSoft _ _ _ _ _ [_, _, _, _, _, _, _, _] _; (repeat (refine Soft.soft_step (fun K hK => ?_); go_simp; (try go_bits); (refine hK _ ?_; clear hK K))); refine Soft.soft_nil ?_; change wpListIn _ _ _ _ _ [_, _] _ _)
      gi_wp2
      refine hR.mono ?_
      rintro e W3 (⟨rfl, hJ3, hk3⟩ | ⟨rfl, hJx3⟩)
      · gi_wp2
        go_roundw
        case rel => exact ⟨k + 1, by omega, by simp, by rw [upto_succ]; exact hJ3, HB.out.trans ((hB2.drew).trans hk3)⟩
        case measure => simp [intOf]; omega
      · gi_wp2
        refine bodyPost_ret (results_none rfl _ _ _) rfl ?_
        exact ⟨⟨_, rfl⟩, .inr ⟨_, ⟨k + 1, by omega, (upto_succ _ _).symm⟩, hJx3⟩⟩
    · obtain rfl : k = len - 1 := by omega
      gi_wp2
      go_end0
      exact ⟨⟨_, rfl⟩, .inl ⟨_, rfl, hJs⟩⟩

set_option maxRecDepth 100000 in
set_option maxHeartbeats 2000000 in
/-- Of a table with one point. -/
theorem pieces1_one (F : Fence) (m : Nat) (h7 : F.fn 160) (hro : F.round = none) (hm : 1 ≤ m) (l Bs n₀ b off cap : Nat) (ps : List Pt) (hlc : 1 ≤ cap) (f : Nat → Pc)
    (hf : (f 0).1 = (pt ps 0, pt ps 0)) (J Jx : List Pc → World → Prop)
    (hY : ∀ pre x W, J pre W → pre.length < 1 → YieldAt F (m - 1) Try.prog l (encP x) W fun e W' =>
      (e = .returned (.bool true) ∧ J (pre ++ [x]) W' ∧ Below n₀ W W') ∨ (e = .returned (.bool false) ∧ Jx (pre ++ [x]) W'))
    (hJ : ∀ s A B, J s A → Below A.heap.size A B → J s B)
    (W : World) (hBs : W.cell? ⟨Bs, 0, none⟩ = some (.slice (some ⟨b, off, none⟩) 1 cap))
    (a1 : W.cell? ⟨b, off, none⟩ = some (.int .i64 (pt ps 0).x)) (a2 : W.cell? ⟨b, off + 1, none⟩ = some (.int .i64 (pt ps 0).lo)) (a3 : W.cell? ⟨b, off + 2, none⟩ = some (.int .i64 (pt ps 0).hi)) (h0 : J [] W) :
    CallsIn F m Try.prog 160 #[.func (.yield l) #[] #[], .pointer (some ⟨Bs, 0, none⟩)] W fun e W' => (∃ v, e = .returned v) ∧
      ((∃ ys, ys = upto f 1 ∧ J ys W') ∨ (∃ pre, (∃ k, k ≤ 1 ∧ pre = upto f k) ∧ Jx pre W')) := by
  refine callsIn_of_wp Try.func160 rfl h7 ?_ hro
  simp only [Try.ntmps160, List.size_toArray, List.length_cons, List.length_nil, Nat.reduceAdd, Nat.reduceSub, Array.replicate_succ, Array.replicate_zero, List.push_toArray, List.append_toArray, List.nil_append, List.cons_append]
  have lb := Soft.LtH.mk (b := b) (w := W) (World.block_lt_of_cell? _ _ a1)
  have lB := Soft.LtH.mk (b := Bs) (w := W) (World.block_lt_of_cell? _ _ hBs)
  have hJ2 : J [] W.drew := hJ _ _ _ h0 (Below.refl _ _).drew
  obtain ⟨fn, tmps, assign, body, hy, hR⟩ := hY [] (f 0) _ hJ2 (by simp)
  simp only [encP, hf] at hy
  have H0 := Lib.hid hf; clear hf
  generalize pt ps 0 = pa at *
  gi_wp2
  (refine Soft.region_in [0, 1, 2, 3, 4, 5, 6, 7, 8, 9] [10] (by kernel_rfl) (by kernel_rfl) (by kernel_rfl) (by kernel_rfl) ?_; change Soft.wpSoft _ _ _ _ _ [_, _, _, _, _, _, _, _, _, _] _; (repeat (refine Soft.soft_step (fun K hK => ?_); go_simp; (try go_bits); (refine hK _ ?_; clear hK K))); refine Soft.soft_nil ?_; change wpListIn _ _ _ _ _ [_] _ _)
  gi_wp2
  refine hR.mono ?_
  rintro e W3 (⟨rfl, hJ3, hk3⟩ | ⟨rfl, hJx3⟩)
  · gi_wp2
    refine bodyPost_ret (results_none rfl _ _ _) rfl ?_
    exact ⟨⟨_, rfl⟩, .inl ⟨_, rfl, hJ3⟩⟩
  · gi_wp2
    refine bodyPost_ret (results_none rfl _ _ _) rfl ?_
    exact ⟨⟨_, rfl⟩, .inr ⟨_, ⟨1, Nat.le_refl _, rfl⟩, hJx3⟩⟩

set_option maxHeartbeats 1000000 in
theorem pieces_in (F : Fence) (m : Nat) (h5 : F.fn 149) (hro : F.round = none) (a : Option Addr) (len cap : Nat) (w : World) :
    CallsIn F m Try.prog 149 #[.agg #[.slice a len cap]] w fun e w' => e = .returned (.func (.func 160) #[] #[.pointer (some ⟨w.heap.size, 0, none⟩)]) ∧ w' = w.alloc (.cells #[.slice a len cap] 33) := by
  refine callsIn_of_wp Try.func149 rfl h5 ?_ hro
  simp only [Try.ntmps149, List.size_toArray, List.length_cons, List.length_nil, Nat.reduceAdd, Nat.reduceSub, Array.replicate_succ, Array.replicate_zero, List.push_toArray, List.append_toArray, List.nil_append, List.cons_append]
  gi_wp2
  go_ret
  exact ⟨rfl, rfl⟩

/-- What is asked of a valid table's points. -/
def ptOk (ps : List Pt) (k : Nat) : Prop := 0 ≤ (pt ps k).x ∧ (pt ps k).x ≤ 1000000 ∧ (pt ps k).lo ≤ (pt ps k).hi ∧ -1000000000 ≤ (pt ps k).lo ∧ (pt ps k).hi ≤ 1000000000 ∧ (k = 0 ∨ (pt ps (k - 1)).x < (pt ps k).x)
structure TabOk (ps : List Pt) : Prop where
  pos : 1 ≤ ps.length
  le : ps.length ≤ 40
  all : ∀ k, k < ps.length → ptOk ps k

theorem TabOk.piece {ps : List Pt} (h : TabOk ps) {k : Nat} (hk : k + 1 < ps.length) : PieceOk (pt ps k) (pt ps (k + 1)) := by
  obtain ⟨a1, a2, a3, a4, a5, _⟩ := h.all k (by omega)
  obtain ⟨b1, b2, b3, b4, b5, b6⟩ := h.all (k + 1) hk
  rcases b6 with b6 | b6
  · omega
  · exact ⟨a1, b2, b6, a4, a3, a5, b4, b3, b5⟩

/-- The pieces of a valid table, by their numbers. -/
def pieceAt (ps : List Pt) (k : Nat) : Pt × Pt := if ps.length = 1 then (pt ps 0, pt ps 0) else (pt ps k, pt ps (k + 1))
def nPieces (ps : List Pt) : Nat := if ps.length = 1 then 1 else ps.length - 1

theorem TabOk.any {ps : List Pt} (h : TabOk ps) {k : Nat} (hk : k < nPieces ps) : PieceAny (pieceAt ps k) := by
  unfold nPieces at hk
  unfold pieceAt
  by_cases h1 : ps.length = 1
  · rw [if_pos h1]
    obtain ⟨a1, a2, a3, a4, a5, _⟩ := h.all 0 (by omega)
    exact .inr ⟨rfl, a1, a2, a4, a3, a5⟩
  · rw [if_neg h1] at hk ⊢
    exact .inl (h.piece (by omega))

instance : Inhabited Pc := ⟨⟨(⟨0, 0, 0⟩, ⟨0, 0, 0⟩), .inr ⟨rfl, by decide, by decide, by decide, by decide, by decide⟩⟩⟩
open Classical in
noncomputable def pcOf (ps : List Pt) (k : Nat) : Pc := if h : PieceAny (pieceAt ps k) then ⟨pieceAt ps k, h⟩ else default
theorem pcOf_val {ps : List Pt} (h : TabOk ps) {k : Nat} (hk : k < nPieces ps) : (pcOf ps k).1 = pieceAt ps k := by unfold pcOf; rw [dif_pos (h.any hk)]

theorem pieces_stops (F : Fence) (m : Nat) (h7 : F.fn 160) (hro : F.round = none) (hm : 1 ≤ m) (Bs n₀ : Nat) (t : Tb) (w : World) (ht : t.At w) (hok : TabOk t.ps) (hBs : Bs < n₀) (hn₀ : n₀ ≤ w.heap.size) (hb : ∀ b o, t.p = some ⟨b, o, none⟩ → b < n₀)
    (hc : w.cell? ⟨Bs, 0, none⟩ = some (.slice t.p t.n t.c)) :
    SeqStopsK F m Try.prog 160 #[.pointer (some ⟨Bs, 0, none⟩)] encP (Below n₀) (fun ys => ys = upto (pcOf t.ps) (nPieces t.ps)) (fun pre => ∃ k, k ≤ nPieces t.ps ∧ pre = upto (pcOf t.ps) k) (nPieces t.ps) w := fun l J Jx W hW hJ _ hY h0 => by
  have hJ' : ∀ s A B, J s A → Below A.heap.size A B → J s B := fun s A B hs hAB => hJ s A B none hs ⟨hAB.os, hAB.tape, hAB.output, hAB.size, fun k hk _ => hAB.block k hk⟩ (fun r e => by cases e)
  have hc' := (hW.cell (p := ⟨Bs, 0, none⟩) (Nat.lt_of_lt_of_le hBs hn₀)).trans hc
  have ht' := ht.same hW
  have hpos := hok.pos
  have hle := hok.le
  have hvals : ∀ k, k < nPieces t.ps → (pcOf t.ps k).1 = pieceAt t.ps k := fun k hk => pcOf_val hok hk
  obtain ⟨h1, h2, h3, h4, h5⟩ := ht'
  obtain ⟨b, o, hp, hlt, hcs⟩ := h5 (by omega)
  have hbn := hb b o hp
  rw [hp] at hc'
  by_cases hone : t.ps.length = 1
  · have hn1 : t.n = 1 := by omega
    have hnp : nPieces t.ps = 1 := if_pos hone
    rw [hn1] at hc'
    rw [hnp] at hY ⊢
    obtain ⟨c1, c2, c3⟩ := hcs 0 (by omega)
    refine pieces1_one F m h7 hro hm l Bs n₀ b o t.c t.ps (by omega) (pcOf t.ps) ((hvals 0 (by omega)).trans (if_pos hone)) J Jx hY hJ' W hc' ?_ ?_ ?_ h0
    · simpa using c1
    · simpa using c2
    · simpa using c3
  · have hnp : nPieces t.ps = t.n - 1 := by rw [← h1]; exact if_neg hone
    rw [hnp] at hY hvals ⊢
    exact pieces1_in F m h7 hro hm l Bs n₀ b o t.n t.c t.ps (by omega) h3 h4 hbn (pcOf t.ps) (by omega) (fun k hk => (hvals k (by omega)).trans (if_neg hone)) J Jx hY hJ' W hc' hBs (Nat.le_trans hn₀ hW.size) hcs h0

end Go.Proofs.Ytbjdgaeikihjbaa
