/-
  Words that all texts of this seat share: a hold's tables as lists of points, what it is for them to lie in memory, and small laws on worlds.
  The walks of package fix's leaves: within, CheckRange, down, up, domain, isIn, CheckTable, and a piece's value.
  A table's straight pieces, as the iterator yields them; the value of a table at a place: fix.at, fix.At.
  The value of a table at a place: fix.at and fix.At, and CheckTable.
  Conditions: each theorem's own premises.
-/
import Derived.Test.YteagdcgmmdiakaaGreatProg
import Derived.Test.YteagdcgmmdiakaaGreatP01
import Derived.WalkKit
import Derived.Lib.Hide
import Derived.Deep.QuietTactic
import Derived.BigQuiet
import Derived.Deep.LoopGhost
import Derived.WalkLawsBesides
import Derived.WalkSpells
import Derived.RangeFuncNested
import Derived.RangeFuncBound
import Derived.RangeFuncCalls
import Derived.RangeFuncLeaves
import Derived.RangeFuncBox
import Derived.Shelf.Abstract
import Derived.Shelf.RegionOpen
import Derived.OwnWalkIn
import Derived.TacticsInMore
import Derived.LoopNIn
import Derived.LoopIn
import Derived.Stop.RegionWithIn
import Derived.Sort.QuietIn
namespace Go.Proofs.YteagdcgmmdiakaaGreat
set_option linter.unusedSimpArgs false
set_option linter.unusedVariables false
open Go.RowKit

/-- A range. -/
structure Rg where
  lo : Int
  hi : Int
  deriving DecidableEq

/-- A point of a table. -/
structure Pt where
  x : Int
  lo : Int
  hi : Int
  deriving DecidableEq

instance : Inhabited Pt := ⟨⟨0, 0, 0⟩⟩
instance : Inhabited Rg := ⟨⟨0, 0⟩⟩

/-- A table as it lies in memory: its slice, and its points. -/
structure Tb where
  p : Option Addr
  n : Nat
  c : Nat
  ps : List Pt

/-- A point of a list, by its number. -/
abbrev pt (ps : List Pt) (i : Nat) : Pt := ps[i]?.getD default

/-- The table lies in this world's memory. -/
def Tb.At (w : World) (t : Tb) : Prop :=
  t.ps.length = t.n ∧ t.n ≤ 6000000000000 ∧ t.n ≤ t.c ∧ t.c ≤ 9223372036854775807 ∧ (t.n ≠ 0 → ∃ b o, t.p = some ⟨b, o, none⟩ ∧ b < w.heap.size ∧
    ∀ i, i < t.n → w.cell? ⟨b, o + i * 3, none⟩ = some (.int .i64 (pt t.ps i).x) ∧ w.cell? ⟨b, o + i * 3 + 1, none⟩ = some (.int .i64 (pt t.ps i).lo) ∧ w.cell? ⟨b, o + i * 3 + 2, none⟩ = some (.int .i64 (pt t.ps i).hi))

theorem Tb.At.below {w w' : World} {t : Tb} (h : t.At w) {B : Nat} (hb : Below B w w') (hB : w.heap.size ≤ B) : t.At w' := by
  obtain ⟨h1, h2, h3, h4, h5⟩ := h
  refine ⟨h1, h2, h3, h4, fun hn => ?_⟩
  obtain ⟨b, o, e, hlt, hc⟩ := h5 hn
  refine ⟨b, o, e, Nat.lt_of_lt_of_le hlt hb.size, fun i hi => ?_⟩
  obtain ⟨a1, a2, a3⟩ := hc i hi
  have hlt' : b < B := Nat.lt_of_lt_of_le hlt hB
  exact ⟨(hb.cell (p := ⟨b, _, none⟩) hlt').trans a1, (hb.cell (p := ⟨b, _, none⟩) hlt').trans a2, (hb.cell (p := ⟨b, _, none⟩) hlt').trans a3⟩

theorem Tb.At.belowAt {w w' : World} {t : Tb} (h : t.At w) {B : Nat} (hb : Below B w w') (hlt : ∀ b o, t.p = some ⟨b, o, none⟩ → b < B) : t.At w' := by
  obtain ⟨h1, h2, h3, h4, h5⟩ := h
  refine ⟨h1, h2, h3, h4, fun hn => ?_⟩
  obtain ⟨b, o, e, hl, hc⟩ := h5 hn
  refine ⟨b, o, e, Nat.lt_of_lt_of_le hl hb.size, fun i hi => ?_⟩
  obtain ⟨a1, a2, a3⟩ := hc i hi
  have hl' := hlt b o e
  exact ⟨(hb.cell (p := ⟨b, _, none⟩) hl').trans a1, (hb.cell (p := ⟨b, _, none⟩) hl').trans a2, (hb.cell (p := ⟨b, _, none⟩) hl').trans a3⟩
theorem Tb.At.same {w w' : World} {t : Tb} (h : t.At w) (hb : Below w.heap.size w w') : t.At w' := h.below hb (Nat.le_refl _)
theorem Tb.At.alloc {w : World} {t : Tb} (h : t.At w) (o : Obj) : t.At (w.alloc o) := h.same ((Below.refl _ _).alloc (Nat.le_refl _) o)

theorem Tb.At.bw {w : World} {t : Tb} (h : t.At w) (x : Soft.BW w) : t.At x.w := h.same x.below
theorem Tb.At.setCell {w : World} {t : Tb} (h : t.At w) {a : Addr} (ha : ∀ b o, t.p = some ⟨b, o, none⟩ → b ≠ a.block) (v : Value) : t.At (w.setCell a v) := by
  obtain ⟨h1, h2, h3, h4, h5⟩ := h
  refine ⟨h1, h2, h3, h4, fun hn => ?_⟩
  obtain ⟨b, o, e, hlt, hc⟩ := h5 hn
  have hne := ha b o e
  have key : ∀ i, (w.setCell a v).cell? ⟨b, i, none⟩ = w.cell? ⟨b, i, none⟩ := fun i => World.cell?_of_block (w := w) (Below.heap_setCell w a v b hne)
  refine ⟨b, o, e, by simpa using hlt, fun i hi => ?_⟩
  rw [key, key, key]
  exact hc i hi

/-- A contract of a function that leaves the world as it is, in the form of one that makes memory. -/
theorem Calls.bel {P : Program} {f : FuncId} {args : Array Value} {w : World} {v : Value} (h : Calls P f args w fun e w' => e = .returned v ∧ w' = w) : Calls P f args w fun e w' => e = .returned v ∧ Below w.heap.size w w' :=
  h.mono fun _ _ ⟨he, hw⟩ => ⟨he, hw ▸ Below.refl _ _⟩

theorem bel_refl (w : World) : Below w.heap.size w w := Below.refl _ _
theorem bel_alloc {w W : World} (h : Below w.heap.size w W) (o : Obj) : Below w.heap.size w (W.alloc o) := h.alloc h.size o
theorem bel_bw {w W : World} (x : Soft.BW W) (h : Below w.heap.size w W) : Below w.heap.size w x.w := h.trans (x.below.mono h.size)
theorem bel_drew {w W : World} (h : Below w.heap.size w W) : Below w.heap.size w W.drew := h.drew
theorem bel_drewN {w W : World} (n : Nat) (h : Below w.heap.size w W) : Below w.heap.size w (W.drewN n) := below_drewN h n
theorem bel_set {w W : World} (h : Below w.heap.size w W) {p : Addr} (hp : w.heap.size ≤ p.block) (v : Value) : Below w.heap.size w (W.setCell p v) := h.setCell hp v
theorem bel_step {w W W' : World} (h : Below w.heap.size w W) (h' : Below W.heap.size W W') : Below w.heap.size w W' := h.trans (h'.mono h.size)

/-! The same, short. -/
theorem blr (w : World) : Below w.heap.size w w := Below.refl _ _
theorem bla {w W : World} (h : Below w.heap.size w W) (o : Obj) : Below w.heap.size w (W.alloc o) := bel_alloc h o
theorem blw {w W : World} (x : Soft.BW W) (h : Below w.heap.size w W) : Below w.heap.size w x.w := bel_bw x h
theorem bld {w W : World} (h : Below w.heap.size w W) : Below w.heap.size w W.drew := bel_drew h
theorem bln {w W : World} (n : Nat) (h : Below w.heap.size w W) : Below w.heap.size w (W.drewN n) := bel_drewN n h
theorem bls {w W : World} (h : Below w.heap.size w W) {p : Addr} (v : Value) (hp : w.heap.size ≤ p.block := by first | (simp; done) | omega | (simp; omega)) : Below w.heap.size w (W.setCell p v) := bel_set h hp v
theorem blt {w W W' : World} (h : Below w.heap.size w W) (h' : Below W.heap.size W W' := by assumption) : Below w.heap.size w W' := bel_step h h'

theorem ret_int {k : IntKind} {a b : Int} (h : a = b) : Ending.returned (.int k a) = .returned (.int k b) := by rw [h]
theorem ret_bool {a b : Bool} (h : a = b) : Ending.returned (.bool a) = .returned (.bool b) := by rw [h]

/-- A hold. -/
structure Ho where
  id : Int
  along : Rg
  vol : Tb
  mom : Tb
  hei : Tb
  tri : Rg
  unt : Rg
  v0 : Rg
  h0 : Rg

/-- A fill. -/
structure Fi where
  hold : Int
  state : Int
  ull : Rg
  den : Rg
  deriving DecidableEq

/-- A tank. -/
structure Tk where
  id : Int
  along : Rg
  vol : Tb
  sur : Tb
  hei : Tb

/-- A level. -/
structure Lv where
  tank : Int
  pressed : Bool
  snd : Rg
  den : Rg
  deriving DecidableEq

/-- A weight. -/
structure Wt where
  mass : Rg
  along : Rg
  high : Rg
  deriving DecidableEq

instance : Inhabited Fi := ⟨⟨0, 0, default, default⟩⟩
instance : Inhabited Lv := ⟨⟨0, false, default, default⟩⟩
instance : Inhabited Wt := ⟨⟨default, default, default⟩⟩

def Ho.At (w : World) (h : Ho) : Prop := h.vol.At w ∧ h.mom.At w ∧ h.hei.At w
def Tk.At (w : World) (t : Tk) : Prop := t.vol.At w ∧ t.sur.At w ∧ t.hei.At w
theorem Ho.At.same {w w' : World} {h : Ho} (a : h.At w) (hb : Below w.heap.size w w') : h.At w' := ⟨a.1.same hb, a.2.1.same hb, a.2.2.same hb⟩
theorem Tk.At.same {w w' : World} {h : Tk} (a : h.At w) (hb : Below w.heap.size w w') : h.At w' := ⟨a.1.same hb, a.2.1.same hb, a.2.2.same hb⟩
theorem Ho.At.alloc {w : World} {h : Ho} (a : h.At w) (o : Obj) : h.At (w.alloc o) := a.same ((Below.refl _ _).alloc (Nat.le_refl _) o)
theorem Tk.At.alloc {w : World} {h : Tk} (a : h.At w) (o : Obj) : h.At (w.alloc o) := a.same ((Below.refl _ _).alloc (Nat.le_refl _) o)
theorem Ho.At.bw {w : World} {h : Ho} (a : h.At w) (x : Soft.BW w) : h.At x.w := a.same x.below
theorem Tk.At.bw {w : World} {h : Tk} (a : h.At w) (x : Soft.BW w) : h.At x.w := a.same x.below

/-- A number that an int holds. -/
abbrev I64 (n : Int) : Prop := -9223372036854775808 ≤ n ∧ n ≤ 9223372036854775807

end Go.Proofs.YteagdcgmmdiakaaGreat

namespace Go.Proofs.YteagdcgmmdiakaaGreat
set_option linter.unusedSimpArgs false
set_option linter.unusedVariables false
open Go.RowKit
attribute [local go_sem] Soft.upon Soft.BW.cell_if Soft.BW.frozen_if Soft.cell_alloc_if Soft.frozen_alloc_if

theorem fix_within_yes (n lo hi : Int) (w : World) (h : lo ≤ n ∧ n ≤ hi) :
    Calls Tryz.prog 121 #[.int .i64 n, .int .i64 lo, .int .i64 hi] w fun e w' => e = .returned (.bool true) ∧ w' = w := by
  obtain ⟨h1, h2⟩ := h
  go_enter Tryz.func121, Tryz.ntmps121
  go_wp2
  go_ret
  exact ⟨by simp [h1, h2], rfl⟩

theorem fix_within_no (n lo hi : Int) (w : World) (h : ¬(lo ≤ n ∧ n ≤ hi)) :
    Calls Tryz.prog 121 #[.int .i64 n, .int .i64 lo, .int .i64 hi] w fun e w' => e = .returned (.bool false) ∧ w' = w := by
  by_cases h1 : lo ≤ n
  · have h2 : hi < n := by omega
    clear h
    go_enter Tryz.func121, Tryz.ntmps121
    go_wp2
    go_ret
    exact ⟨by simp [h1, h2], rfl⟩
  · have h2 : n < lo := by omega
    clear h h1
    go_enter Tryz.func121, Tryz.ntmps121
    go_wp2
    go_ret
    exact ⟨by simp [h2], rfl⟩

/-- The error of a range. -/
def rangeErr (r : Rg) : Int := if r.hi < r.lo ∨ r.lo < -1000000000000000 ∨ 1000000000000000 < r.hi then 10 else 0

theorem fix_CheckRange (r : Rg) (w : World) :
    Calls Tryz.prog 68 #[.agg #[.int .i64 r.lo, .int .i64 r.hi]] w fun e w' => e = .returned (.int .i64 (rangeErr r)) ∧ Below w.heap.size w w' := by
  go_enter Tryz.func68, Tryz.ntmps68
  go_wp2
  all_goals
    go_ret
    refine ⟨ret_int ?_, (Below.refl _ _).alloc (Nat.le_refl _) _⟩
    unfold rangeErr
    first | rw [if_pos (by omega)] | rw [if_neg (by omega)]

theorem tdiv_neg (a b : Int) (hb : 1 ≤ b) (h : a.tmod b < 0) : a / b = a.tdiv b - 1 := by
  have h1 := Int.mul_tdiv_add_tmod a b
  have h2 : -b < a.tmod b := by have := Int.lt_tmod_of_pos a (show 0 < b by omega); omega
  rw [Int.ediv_eq_iff_of_pos (by omega)]
  rw [Int.sub_mul, Int.mul_comm (a.tdiv b) b]
  omega

theorem tdiv_pos (a b : Int) (hb : 1 ≤ b) (h : 0 ≤ a.tmod b) : a / b = a.tdiv b := by
  have h1 := Int.mul_tdiv_add_tmod a b
  have h2 : a.tmod b < b := Int.tmod_lt_of_pos a (by omega)
  rw [Int.ediv_eq_iff_of_pos (by omega)]
  rw [Int.mul_comm (a.tdiv b) b]
  omega

theorem tdiv_bd (a b : Int) (hb : 1 ≤ b) : -(max a (-a)) ≤ a.tdiv b ∧ a.tdiv b ≤ max a (-a) := by
  by_cases h : 0 ≤ a
  · rw [Int.tdiv_eq_ediv_of_nonneg h]
    have h1 := Int.ediv_nonneg h (show 0 ≤ b by omega)
    have h2 := Int.ediv_le_self b h
    omega
  · have e : a.tdiv b = -((-a) / b) := by rw [← Int.tdiv_eq_ediv_of_nonneg (show 0 ≤ -a by omega), Int.neg_tdiv]; omega
    have h1 := Int.ediv_nonneg (show 0 ≤ -a by omega) (show 0 ≤ b by omega)
    have h2 := Int.ediv_le_self b (show 0 ≤ -a by omega)
    omega

theorem fix_down (a b : Int) (w : World) (h1 : -9223372036854775807 ≤ a) (h2 : a ≤ 9223372036854775807) (hb : 1 ≤ b) :
    Calls Tryz.prog 58 #[.int .i64 a, .int .i64 b] w fun e w' => e = .returned (.int .i64 (a / b)) ∧ w' = w := by
  have hbd := tdiv_bd a b hb
  obtain ⟨r1, r2⟩ : -9223372036854775808 ≤ a.tdiv b - 1 ∧ a.tdiv b - 1 ≤ 9223372036854775807 := by omega
  clear hbd
  go_enter Tryz.func58, Tryz.ntmps58
  go_wp2
  all_goals
    go_ret
    refine ⟨ret_int ?_, rfl⟩
    first | exact (tdiv_neg a b hb (by assumption)).symm | exact (tdiv_pos a b hb (by assumption)).symm

theorem fix_up (a b : Int) (w : World) (h1 : -9223372036854775807 ≤ a) (h2 : a ≤ 9223372036854775807) (hb : 1 ≤ b) :
    Calls Tryz.prog 59 #[.int .i64 a, .int .i64 b] w fun e w' => e = .returned (.int .i64 (-(-a / b))) ∧ w' = w := by
  have hd : -9223372036854775807 ≤ -a / b ∧ -a / b ≤ 9223372036854775807 := by
    by_cases h : 0 ≤ -a
    · have h1 := Int.ediv_nonneg h (show 0 ≤ b by omega)
      have h2 := Int.ediv_le_self b h
      omega
    · have h1 := Int.ediv_lt_of_lt_mul (show 0 < b by omega) (show -a < 0 * b by omega)
      have h2 : -a ≤ -a / b := Int.le_ediv_of_mul_le (by omega) (by have := Int.mul_le_mul_of_nonneg_left hb (show 0 ≤ a by omega); rw [Int.neg_mul]; omega)
      omega
  obtain ⟨d1, d2⟩ := hd
  go_enter Tryz.func59, Tryz.ntmps59
  go_wp2_with (go_at_call 58; refine (fix_down _ _ _ (by omega) (by omega) (by omega)).mono ?_; rintro e w' ⟨rfl, rfl⟩)
  go_ret
  exact ⟨rfl, rfl⟩

theorem fix_domain (t : Tb) (w : World) (ht : t.At w) (hn : 1 ≤ t.n) :
    Calls Tryz.prog 122 #[.agg #[.slice t.p t.n t.c]] w fun e w' => e = .returned (.agg #[.int .i64 (pt t.ps 0).x, .int .i64 (pt t.ps (t.n - 1)).x]) ∧ Below w.heap.size w w' := by
  obtain ⟨p, n, c, ps⟩ := t
  obtain ⟨h1, h2, h3, h4, h5⟩ := ht
  obtain ⟨b, o, rfl, hb, hc⟩ := h5 (by omega)
  dsimp only at *
  have c0 := (hc 0 (by omega)).1
  have c1 := (hc (n - 1) (by omega)).1
  have H1 := Lib.hid h1; clear h1 hc
  generalize pt ps 0 = p0 at *
  generalize pt ps (n - 1) = p1 at *
  simp only [Nat.zero_mul, Nat.add_zero] at c0
  go_enter Tryz.func122, Tryz.ntmps122
  have := Soft.LtH.mk (w := w) hb
  have i0 : 0 < n := by omega
  have i1 : (n : Int) - 1 < n := by omega
  have i2 : (1 : Int) ≤ n := by omega
  have i3 : ((n : Int) - 1).toNat = n - 1 := by omega
  clear h5
  go_wp2
  (refine Soft.region0 [0, 1, 2, 3, 4, 5, 6, 7, 8, 9, 10, 11, 12, 13, 14] [15] (by kernel_rfl) (by kernel_rfl) (by kernel_rfl) (by kernel_rfl) ?_; change Soft.wpSoft _ _ _ _ _ [_, _, _, _, _, _, _, _, _, _, _, _, _, _, _] _; (repeat (refine Soft.soft_step (fun K hK => ?_); go_simp; (try go_bits); first | (refine hK _ ?_; clear hK K) | (apply Exists.intro; refine ⟨fun x => ?_, hK _ ?_⟩; (fail); clear hK K))); refine Soft.soft_nil ?_; intro xw; change wpList _ _ _ [_] _ _)
  go_wp2
  refine bodyPost_ret (v := .agg #[.int .i64 p0.x, .int .i64 p1.x]) (by simp [results, Tryz.results122, go_sem]) rfl ?_
  refine ⟨rfl, ?_⟩
  (with_reducible repeat (first | exact blr _ | refine bla ?_ _ | refine blw _ ?_ | refine bld ?_ | refine bln _ ?_ | refine bls ?_ _ | refine blt ?_))


theorem fix_isIn (t : Tb) (r : Rg) (w : World) (ht : t.At w) (hn : 1 ≤ t.n) (v : Bool) (hv : v = decide ((pt t.ps 0).x ≤ r.lo ∧ r.hi ≤ (pt t.ps (t.n - 1)).x)) :
    Calls Tryz.prog 53 #[.agg #[.slice t.p t.n t.c], .agg #[.int .i64 r.lo, .int .i64 r.hi]] w fun e w' => e = .returned (.bool v) ∧ Below w.heap.size w w' := by
  have HV := Lib.hid hv; clear hv
  go_enter Tryz.func53, Tryz.ntmps53
  go_wp2_with (go_at_call 122; (with_reducible refine (fix_domain t _ ((ht.alloc _).alloc _) hn).mono ?_); rintro e w_ ⟨rfl, hb_⟩; obtain ⟨x1, rfl⟩ := Soft.BW.mk hb_; clear hb_)
  all_goals
    go_ret
    refine ⟨ret_bool ?_, ?_⟩
    · rw [HV.out, Bool.eq_iff_iff]
      simp
      omega
    · (with_reducible repeat (first | exact blr _ | refine bla ?_ _ | refine blw _ ?_ | refine bld ?_ | refine bln _ ?_ | refine bls ?_ _ | refine blt ?_))

theorem piece_has (a b : Pt) (x : Int) (w : World) (v : Bool) (hv : v = decide (a.x ≤ x ∧ x ≤ b.x)) :
    Calls Tryz.prog 124 #[.agg #[.int .i64 a.x, .int .i64 a.lo, .int .i64 a.hi, .int .i64 b.x, .int .i64 b.lo, .int .i64 b.hi], .int .i64 x] w fun e w' => e = .returned (.bool v) ∧ Below w.heap.size w w' := by
  by_cases h : a.x ≤ x ∧ x ≤ b.x
  · obtain rfl : v = true := by rw [hv]; exact decide_eq_true h
    clear hv
    go_enter Tryz.func124, Tryz.ntmps124
    go_wp2_with (go_at_call 121; (with_reducible refine (fix_within_yes _ _ _ _ h).mono ?_); rintro e w_ ⟨rfl, hw_⟩; subst w_)
    go_ret
    refine ⟨rfl, ?_⟩
    (with_reducible repeat (first | exact blr _ | refine bla ?_ _ | refine blw _ ?_ | refine bld ?_ | refine bln _ ?_ | refine bls ?_ _ | refine blt ?_))
  · obtain rfl : v = false := by rw [hv]; exact decide_eq_false h
    clear hv
    have H := Lib.hid h; clear h
    go_enter Tryz.func124, Tryz.ntmps124
    go_wp2_with (go_at_call 121; (with_reducible refine (fix_within_no _ _ _ _ H.out).mono ?_); rintro e w_ ⟨rfl, hw_⟩; subst w_)
    go_ret
    refine ⟨rfl, ?_⟩
    (with_reducible repeat (first | exact blr _ | refine bla ?_ _ | refine blw _ ?_ | refine bld ?_ | refine bln _ ?_ | refine bls ?_ _ | refine blt ?_))

theorem piece_value_eq (a : Pt) (y z x : Int) (w : World) :
    Calls Tryz.prog 149 #[.agg #[.int .i64 a.x, .int .i64 a.lo, .int .i64 a.hi, .int .i64 a.x, .int .i64 a.lo, .int .i64 a.hi], .int .i64 y, .int .i64 z, .int .i64 x] w fun e w' =>
      e = .returned (.tuple #[.int .i64 y, .int .i64 1]) ∧ Below w.heap.size w w' := by
  go_enter Tryz.func149, Tryz.ntmps149
  go_wp2
  go_ret2
  refine ⟨rfl, ?_⟩
  (with_reducible repeat (first | exact blr _ | refine bla ?_ _ | refine blw _ ?_ | refine bld ?_ | refine bln _ ?_ | refine bls ?_ _ | refine blt ?_))

theorem mul_bd {y d : Int} (Y D M : Int) (hM : Y * D = M) (h1 : -Y ≤ y) (h2 : y ≤ Y) (h3 : 0 ≤ d) (h4 : d ≤ D) : -M ≤ y * d ∧ y * d ≤ M := by
  have hY : 0 ≤ Y := by omega
  have a1 := Int.mul_le_mul_of_nonneg_right h2 h3
  have a2 := Int.mul_le_mul_of_nonneg_right h1 h3
  have a3 := Int.mul_le_mul_of_nonneg_left h4 hY
  rw [Int.neg_mul] at a2
  omega

/-- A piece's bounds. -/
structure PieceOk (a b : Pt) : Prop where
  x0 : 0 ≤ a.x
  x1 : b.x ≤ 1000000
  lt : a.x < b.x
  alo : -1000000000 ≤ a.lo
  ale : a.lo ≤ a.hi
  ahi : a.hi ≤ 1000000000
  blo : -1000000000 ≤ b.lo
  ble : b.lo ≤ b.hi
  bhi : b.hi ≤ 1000000000

theorem piece_value (a b : Pt) (y z x : Int) (w : World) (hne : a.x < b.x) (h1 : 0 ≤ a.x) (h2 : b.x ≤ 1000000) (h3 : a.x ≤ x) (h4 : x ≤ b.x) (hy : -1000000000 ≤ y ∧ y ≤ 1000000000) (hz : -1000000000 ≤ z ∧ z ≤ 1000000000) :
    Calls Tryz.prog 149 #[.agg #[.int .i64 a.x, .int .i64 a.lo, .int .i64 a.hi, .int .i64 b.x, .int .i64 b.lo, .int .i64 b.hi], .int .i64 y, .int .i64 z, .int .i64 x] w fun e w' =>
      e = .returned (.tuple #[.int .i64 (y * (b.x - x) + z * (x - a.x)), .int .i64 (b.x - a.x)]) ∧ Below w.heap.size w w' := by
  have m1 := mul_bd 1000000000 1000000 1000000000000000 (by decide) hy.1 hy.2 (show 0 ≤ b.x - x by omega) (show b.x - x ≤ 1000000 by omega)
  have m2 := mul_bd 1000000000 1000000 1000000000000000 (by decide) hz.1 hz.2 (show 0 ≤ x - a.x by omega) (show x - a.x ≤ 1000000 by omega)
  have hx : (a.x == b.x) = false := beq_eq_false_iff_ne.2 (by omega)
  obtain ⟨m11, m12⟩ := m1
  obtain ⟨m21, m22⟩ := m2
  go_enter Tryz.func149, Tryz.ntmps149
  go_wp2
  go_quiet (fail)
  go_wp2
  go_ret2
  refine ⟨rfl, ?_⟩
  (with_reducible repeat (first | exact blr _ | refine bla ?_ _ | refine blw _ ?_ | refine bld ?_ | refine bln _ ?_ | refine bls ?_ _ | refine blt ?_))

def segLo (a b : Pt) (x : Int) : Int := (a.lo * (b.x - x) + b.lo * (x - a.x)) / (b.x - a.x)
def segHi (a b : Pt) (x : Int) : Int := -(-(a.hi * (b.x - x) + b.hi * (x - a.x)) / (b.x - a.x))

theorem piece_at (a b : Pt) (x : Int) (w : World) (h : PieceOk a b) (h3 : a.x ≤ x) (h4 : x ≤ b.x) :
    Calls Tryz.prog 125 #[.agg #[.int .i64 a.x, .int .i64 a.lo, .int .i64 a.hi, .int .i64 b.x, .int .i64 b.lo, .int .i64 b.hi], .int .i64 x] w fun e w' =>
      e = .returned (.agg #[.int .i64 (segLo a b x), .int .i64 (segHi a b x)]) ∧ Below w.heap.size w w' := by
  obtain ⟨x0, x1, lt, alo, ale, ahi, blo, ble, bhi⟩ := h
  have m1 := mul_bd (y := a.lo) 1000000000 1000000 1000000000000000 (by decide) (by omega) (by omega) (show 0 ≤ b.x - x by omega) (show b.x - x ≤ 1000000 by omega)
  have m2 := mul_bd (y := b.lo) 1000000000 1000000 1000000000000000 (by decide) (by omega) (by omega) (show 0 ≤ x - a.x by omega) (show x - a.x ≤ 1000000 by omega)
  have m3 := mul_bd (y := a.hi) 1000000000 1000000 1000000000000000 (by decide) (by omega) (by omega) (show 0 ≤ b.x - x by omega) (show b.x - x ≤ 1000000 by omega)
  have m4 := mul_bd (y := b.hi) 1000000000 1000000 1000000000000000 (by decide) (by omega) (by omega) (show 0 ≤ x - a.x by omega) (show x - a.x ≤ 1000000 by omega)
  go_enter Tryz.func125, Tryz.ntmps125
  go_wp2_with (first | (go_at_call 149; (with_reducible refine (piece_value a b _ _ _ _ lt x0 x1 h3 h4 (by omega) (by omega)).mono ?_); rintro e w_ ⟨rfl, hb_⟩; obtain ⟨y1, rfl⟩ := Soft.BW.mk hb_; clear hb_) | (go_at_call 58; (with_reducible refine (fix_down _ _ _ (by omega) (by omega) (by omega)).mono ?_); rintro e w_ ⟨rfl, hw_⟩; subst w_) | (go_at_call 59; (with_reducible refine (fix_up _ _ _ (by omega) (by omega) (by omega)).mono ?_); rintro e w_ ⟨rfl, hw_⟩; subst w_))
  refine bodyPost_ret (v := .agg #[.int .i64 ((a.lo * (b.x - x) + b.lo * (x - a.x)) / (b.x - a.x)), .int .i64 (-(-(a.hi * (b.x - x) + b.hi * (x - a.x)) / (b.x - a.x)))]) (by simp [results, Tryz.results125, go_sem]) rfl ?_
  refine ⟨rfl, ?_⟩
  (with_reducible repeat (first | exact blr _ | refine bla ?_ _ | refine blw _ ?_ | refine bld ?_ | refine bln _ ?_ | refine bls ?_ _ | refine blt ?_))

end Go.Proofs.YteagdcgmmdiakaaGreat

namespace Go.Proofs.YteagdcgmmdiakaaGreat
set_option linter.unusedSimpArgs false
set_option linter.unusedVariables false
open Go.RowKit Go.Shelf
attribute [local go_sem] Soft.upon Soft.BW.cell_if Soft.BW.frozen_if Soft.cell_alloc_if Soft.frozen_alloc_if Oper.semAt_some Soft.upon0

/-- A piece that is one point, or goes on. -/
def PieceAny (p : Pt × Pt) : Prop := PieceOk p.1 p.2 ∨ (p.1 = p.2 ∧ 0 ≤ p.1.x ∧ p.1.x ≤ 1000000 ∧ -1000000000 ≤ p.1.lo ∧ p.1.lo ≤ p.1.hi ∧ p.1.hi ≤ 1000000000)
abbrev Pc := { p : Pt × Pt // PieceAny p }
def encP (p : Pc) : Array Value := #[.agg #[.int .i64 p.1.1.x, .int .i64 p.1.1.lo, .int .i64 p.1.1.hi, .int .i64 p.1.2.x, .int .i64 p.1.2.lo, .int .i64 p.1.2.hi]]

def upto {α : Type} (f : Nat → α) (k : Nat) : List α := (List.range k).map f
theorem upto_succ {α : Type} (f : Nat → α) (k : Nat) : upto f (k + 1) = upto f k ++ [f k] := by simp [upto, List.range_succ]
theorem upto_length {α : Type} (f : Nat → α) (k : Nat) : (upto f k).length = k := by simp [upto]

set_option maxRecDepth 100000 in
set_option maxHeartbeats 2000000 in
/-- Of a table with more than one point. -/
theorem pieces1_in (F : Fence) (m : Nat) (h7 : F.fn 148) (hro : F.round = none) (hm : 1 ≤ m) (l Bs n₀ b off len cap : Nat) (ps : List Pt) (hreach : len ≤ 1000) (_hlc : len ≤ cap) (_hcap : cap ≤ 9223372036854775807) (hb : b < n₀) (f : Nat → Pc) (h2 : 2 ≤ len)
    (hf : ∀ k, k + 1 < len → (f k).1 = (pt ps k, pt ps (k + 1))) (J Jx : List Pc → World → Prop)
    (hY : ∀ pre x W, J pre W → pre.length < len - 1 → YieldAt F (m - 1) Tryz.prog l (encP x) W fun e W' =>
      (e = .returned (.bool true) ∧ J (pre ++ [x]) W' ∧ Below n₀ W W') ∨ (e = .returned (.bool false) ∧ Jx (pre ++ [x]) W'))
    (hJ : ∀ s A B, J s A → Below A.heap.size A B → J s B)
    (W : World) (hBs : W.cell? ⟨Bs, 0, none⟩ = some (.slice (some ⟨b, off, none⟩) len cap)) (hBn : Bs < n₀) (hn : n₀ ≤ W.heap.size)
    (hc : ∀ i, i < len → W.cell? ⟨b, off + i * 3, none⟩ = some (.int .i64 (pt ps i).x) ∧ W.cell? ⟨b, off + i * 3 + 1, none⟩ = some (.int .i64 (pt ps i).lo) ∧ W.cell? ⟨b, off + i * 3 + 2, none⟩ = some (.int .i64 (pt ps i).hi)) (h0 : J [] W) :
    CallsIn F m Tryz.prog 148 #[.func (.yield l) #[] #[], .pointer (some ⟨Bs, 0, none⟩)] W fun e W' => (∃ v, e = .returned v) ∧
      ((∃ ys, ys = upto f (len - 1) ∧ J ys W') ∨ (∃ pre, (∃ k, k ≤ len - 1 ∧ pre = upto f k) ∧ Jx pre W')) := by
  refine callsIn_of_wp Tryz.func148 rfl h7 ?_ hro
  simp only [Tryz.ntmps148, List.size_toArray, List.length_cons, List.length_nil, Nat.reduceAdd, Nat.reduceSub, Array.replicate_succ, Array.replicate_zero, List.push_toArray, List.append_toArray, List.nil_append, List.cons_append]
  have hl1 : ((len : Int) == 1) = false := beq_eq_false_iff_ne.2 (by omega)
  have hl2 : (1 : Int) ≤ len := by omega
  have hc1 : cap ≠ 1 := by omega
  gi_wp2
  go_outline
  gi_loopw [24] (fun i wr => ∃ k : Nat, k ≤ len - 1 ∧ i = .int .i64 k ∧ J (upto f k) wr ∧ Below n₀ W wr) (fun i _ => len - 1 - (intOf i).toNat)
  case atStart => exact ⟨0, Nat.zero_le _, rfl, h0, Below.refl _ _⟩
  case round =>
    obtain ⟨k, hk, rfl, hJs, hB⟩ := hrel
    by_cases hlt : k < len - 1
    · have e1 : ∀ i, i < len → wr.cell? ⟨b, off + i * 3, none⟩ = some (.int .i64 (pt ps i).x) ∧ wr.cell? ⟨b, off + i * 3 + 1, none⟩ = some (.int .i64 (pt ps i).lo) ∧ wr.cell? ⟨b, off + i * 3 + 2, none⟩ = some (.int .i64 (pt ps i).hi) := fun i hi => by
        obtain ⟨a1, a2, a3⟩ := hc i hi
        exact ⟨(hB.cell (p := ⟨b, _, none⟩) hb).trans a1, (hB.cell (p := ⟨b, _, none⟩) hb).trans a2, (hB.cell (p := ⟨b, _, none⟩) hb).trans a3⟩
      have hBs' := (hB.cell (p := ⟨Bs, 0, none⟩) hBn).trans hBs
      obtain ⟨a1, a2, a3⟩ := e1 k (by omega)
      obtain ⟨b1, b2, b3⟩ := e1 (k + 1) (by omega)
      rw [show off + (k + 1) * 3 = off + 3 + k * 3 by omega] at b1 b2 b3
      have i1 : k < len := by omega
      have hfk := hf k (by omega)
      generalize pt ps k = pa at *
      generalize pt ps (k + 1) = pb at *
      have HB := Lib.hid hB; clear hB
      have HF := Lib.hid hfk; clear hfk
      clear e1 hc hf
      have lb := Soft.LtH.mk (b := b) (w := wr) (World.block_lt_of_cell? _ _ a1)
      have lB := Soft.LtH.mk (b := Bs) (w := wr) (World.block_lt_of_cell? _ _ hBs')
      gi_wp2
      have hB2 : Below n₀ wr (wr.alloc (.cells #[.int .i64 pb.x, .int .i64 pb.lo, .int .i64 pb.hi] 69)) := (Below.refl _ _).alloc (Nat.le_trans hn HB.out.size) _
      have hJ2 : J (upto f k) (wr.alloc (.cells #[.int .i64 pb.x, .int .i64 pb.lo, .int .i64 pb.hi] 69)).drew := hJ _ _ _ hJs (((Below.refl _ _).alloc (Nat.le_refl _) _).drew)
      obtain ⟨fn, tmps, assign, body, hy, hR⟩ := hY _ (f k) _ hJ2 (by rw [upto_length]; exact hlt)
      simp only [encP, HF.out] at hy
      (refine Soft.region_in [0, 1, 2, 3, 4, 5, 6, 7] [8, 9] (by kernel_rfl) (by kernel_rfl) (by kernel_rfl) (by kernel_rfl) ?_; change Soft.wpSoft _ _ _ _ _ [_, _, _, _, _, _, _, _] _; (repeat (refine Soft.soft_step (fun K hK => ?_); go_simp; (try go_bits); (refine hK _ ?_; clear hK K))); refine Soft.soft_nil ?_; change wpListIn _ _ _ _ _ [_, _] _ _)
      gi_wp2
      refine hR.mono ?_
      rintro e W3 (⟨rfl, hJ3, hk3⟩ | ⟨rfl, hJx3⟩)
      · gi_wp2
        go_roundw
        case rel => exact ⟨k + 1, by omega, by simp, by rw [upto_succ]; exact hJ3, HB.out.trans ((hB2.drew).trans hk3)⟩
        case measure => simp [intOf]; omega
      · gi_wp2
        refine bodyPost_ret (results_none rfl _ _ _) rfl ?_
        exact ⟨⟨_, rfl⟩, .inr ⟨_, ⟨k + 1, by omega, (upto_succ _ _).symm⟩, hJx3⟩⟩
    · obtain rfl : k = len - 1 := by omega
      gi_wp2
      go_end0
      exact ⟨⟨_, rfl⟩, .inl ⟨_, rfl, hJs⟩⟩

set_option maxRecDepth 100000 in
set_option maxHeartbeats 2000000 in
/-- Of a table with one point. -/
theorem pieces1_one (F : Fence) (m : Nat) (h7 : F.fn 148) (hro : F.round = none) (hm : 1 ≤ m) (l Bs n₀ b off cap : Nat) (ps : List Pt) (hlc : 1 ≤ cap) (f : Nat → Pc)
    (hf : (f 0).1 = (pt ps 0, pt ps 0)) (J Jx : List Pc → World → Prop)
    (hY : ∀ pre x W, J pre W → pre.length < 1 → YieldAt F (m - 1) Tryz.prog l (encP x) W fun e W' =>
      (e = .returned (.bool true) ∧ J (pre ++ [x]) W' ∧ Below n₀ W W') ∨ (e = .returned (.bool false) ∧ Jx (pre ++ [x]) W'))
    (hJ : ∀ s A B, J s A → Below A.heap.size A B → J s B)
    (W : World) (hBs : W.cell? ⟨Bs, 0, none⟩ = some (.slice (some ⟨b, off, none⟩) 1 cap))
    (a1 : W.cell? ⟨b, off, none⟩ = some (.int .i64 (pt ps 0).x)) (a2 : W.cell? ⟨b, off + 1, none⟩ = some (.int .i64 (pt ps 0).lo)) (a3 : W.cell? ⟨b, off + 2, none⟩ = some (.int .i64 (pt ps 0).hi)) (h0 : J [] W) :
    CallsIn F m Tryz.prog 148 #[.func (.yield l) #[] #[], .pointer (some ⟨Bs, 0, none⟩)] W fun e W' => (∃ v, e = .returned v) ∧
      ((∃ ys, ys = upto f 1 ∧ J ys W') ∨ (∃ pre, (∃ k, k ≤ 1 ∧ pre = upto f k) ∧ Jx pre W')) := by
  refine callsIn_of_wp Tryz.func148 rfl h7 ?_ hro
  simp only [Tryz.ntmps148, List.size_toArray, List.length_cons, List.length_nil, Nat.reduceAdd, Nat.reduceSub, Array.replicate_succ, Array.replicate_zero, List.push_toArray, List.append_toArray, List.nil_append, List.cons_append]
  have lb := Soft.LtH.mk (b := b) (w := W) (World.block_lt_of_cell? _ _ a1)
  have lB := Soft.LtH.mk (b := Bs) (w := W) (World.block_lt_of_cell? _ _ hBs)
  have hJ2 : J [] W.drew := hJ _ _ _ h0 (Below.refl _ _).drew
  obtain ⟨fn, tmps, assign, body, hy, hR⟩ := hY [] (f 0) _ hJ2 (by simp)
  simp only [encP, hf] at hy
  have H0 := Lib.hid hf; clear hf
  generalize pt ps 0 = pa at *
  gi_wp2
  (refine Soft.region_in [0, 1, 2, 3, 4, 5, 6, 7, 8, 9] [10] (by kernel_rfl) (by kernel_rfl) (by kernel_rfl) (by kernel_rfl) ?_; change Soft.wpSoft _ _ _ _ _ [_, _, _, _, _, _, _, _, _, _] _; (repeat (refine Soft.soft_step (fun K hK => ?_); go_simp; (try go_bits); (refine hK _ ?_; clear hK K))); refine Soft.soft_nil ?_; change wpListIn _ _ _ _ _ [_] _ _)
  gi_wp2
  refine hR.mono ?_
  rintro e W3 (⟨rfl, hJ3, hk3⟩ | ⟨rfl, hJx3⟩)
  · gi_wp2
    refine bodyPost_ret (results_none rfl _ _ _) rfl ?_
    exact ⟨⟨_, rfl⟩, .inl ⟨_, rfl, hJ3⟩⟩
  · gi_wp2
    refine bodyPost_ret (results_none rfl _ _ _) rfl ?_
    exact ⟨⟨_, rfl⟩, .inr ⟨_, ⟨1, Nat.le_refl _, rfl⟩, hJx3⟩⟩

set_option maxHeartbeats 1000000 in
theorem pieces_in (F : Fence) (m : Nat) (h5 : F.fn 123) (hro : F.round = none) (a : Option Addr) (len cap : Nat) (w : World) :
    CallsIn F m Tryz.prog 123 #[.agg #[.slice a len cap]] w fun e w' => e = .returned (.func (.func 148) #[] #[.pointer (some ⟨w.heap.size, 0, none⟩)]) ∧ w' = w.alloc (.cells #[.slice a len cap] 24) := by
  refine callsIn_of_wp Tryz.func123 rfl h5 ?_ hro
  simp only [Tryz.ntmps123, List.size_toArray, List.length_cons, List.length_nil, Nat.reduceAdd, Nat.reduceSub, Array.replicate_succ, Array.replicate_zero, List.push_toArray, List.append_toArray, List.nil_append, List.cons_append]
  gi_wp2
  go_ret
  exact ⟨rfl, rfl⟩

/-- What is asked of a valid table's points. -/
def ptOk (ps : List Pt) (k : Nat) : Prop := 0 ≤ (pt ps k).x ∧ (pt ps k).x ≤ 1000000 ∧ (pt ps k).lo ≤ (pt ps k).hi ∧ -1000000000 ≤ (pt ps k).lo ∧ (pt ps k).hi ≤ 1000000000 ∧ (k = 0 ∨ (pt ps (k - 1)).x < (pt ps k).x)
structure TabOk (ps : List Pt) : Prop where
  pos : 1 ≤ ps.length
  le : ps.length ≤ 40
  all : ∀ k, k < ps.length → ptOk ps k

theorem TabOk.piece {ps : List Pt} (h : TabOk ps) {k : Nat} (hk : k + 1 < ps.length) : PieceOk (pt ps k) (pt ps (k + 1)) := by
  obtain ⟨a1, a2, a3, a4, a5, _⟩ := h.all k (by omega)
  obtain ⟨b1, b2, b3, b4, b5, b6⟩ := h.all (k + 1) hk
  rcases b6 with b6 | b6
  · omega
  · exact ⟨a1, b2, b6, a4, a3, a5, b4, b3, b5⟩

/-- The pieces of a valid table, by their numbers. -/
def pieceAt (ps : List Pt) (k : Nat) : Pt × Pt := if ps.length = 1 then (pt ps 0, pt ps 0) else (pt ps k, pt ps (k + 1))
def nPieces (ps : List Pt) : Nat := if ps.length = 1 then 1 else ps.length - 1

theorem TabOk.any {ps : List Pt} (h : TabOk ps) {k : Nat} (hk : k < nPieces ps) : PieceAny (pieceAt ps k) := by
  unfold nPieces at hk
  unfold pieceAt
  by_cases h1 : ps.length = 1
  · rw [if_pos h1]
    obtain ⟨a1, a2, a3, a4, a5, _⟩ := h.all 0 (by omega)
    exact .inr ⟨rfl, a1, a2, a4, a3, a5⟩
  · rw [if_neg h1] at hk ⊢
    exact .inl (h.piece (by omega))

instance : Inhabited Pc := ⟨⟨(⟨0, 0, 0⟩, ⟨0, 0, 0⟩), .inr ⟨rfl, by decide, by decide, by decide, by decide, by decide⟩⟩⟩
open Classical in
noncomputable def pcOf (ps : List Pt) (k : Nat) : Pc := if h : PieceAny (pieceAt ps k) then ⟨pieceAt ps k, h⟩ else default
theorem pcOf_val {ps : List Pt} (h : TabOk ps) {k : Nat} (hk : k < nPieces ps) : (pcOf ps k).1 = pieceAt ps k := by unfold pcOf; rw [dif_pos (h.any hk)]

theorem pieces_stops (F : Fence) (m : Nat) (h7 : F.fn 148) (hro : F.round = none) (hm : 1 ≤ m) (Bs n₀ : Nat) (t : Tb) (w : World) (ht : t.At w) (hok : TabOk t.ps) (hBs : Bs < n₀) (hn₀ : n₀ ≤ w.heap.size) (hb : ∀ b o, t.p = some ⟨b, o, none⟩ → b < n₀)
    (hc : w.cell? ⟨Bs, 0, none⟩ = some (.slice t.p t.n t.c)) :
    SeqStopsK F m Tryz.prog 148 #[.pointer (some ⟨Bs, 0, none⟩)] encP (Below n₀) (fun ys => ys = upto (pcOf t.ps) (nPieces t.ps)) (fun pre => ∃ k, k ≤ nPieces t.ps ∧ pre = upto (pcOf t.ps) k) (nPieces t.ps) w := fun l J Jx W hW hJ _ hY h0 => by
  have hJ' : ∀ s A B, J s A → Below A.heap.size A B → J s B := fun s A B hs hAB => hJ s A B none hs ⟨hAB.os, hAB.tape, hAB.output, hAB.size, fun k hk _ => hAB.block k hk⟩ (fun r e => by cases e)
  have hc' := (hW.cell (p := ⟨Bs, 0, none⟩) (Nat.lt_of_lt_of_le hBs hn₀)).trans hc
  have ht' := ht.same hW
  have hpos := hok.pos
  have hle := hok.le
  have hvals : ∀ k, k < nPieces t.ps → (pcOf t.ps k).1 = pieceAt t.ps k := fun k hk => pcOf_val hok hk
  obtain ⟨h1, h2, h3, h4, h5⟩ := ht'
  obtain ⟨b, o, hp, hlt, hcs⟩ := h5 (by omega)
  have hbn := hb b o hp
  rw [hp] at hc'
  by_cases hone : t.ps.length = 1
  · have hn1 : t.n = 1 := by omega
    have hnp : nPieces t.ps = 1 := if_pos hone
    rw [hn1] at hc'
    rw [hnp] at hY ⊢
    obtain ⟨c1, c2, c3⟩ := hcs 0 (by omega)
    refine pieces1_one F m h7 hro hm l Bs n₀ b o t.c t.ps (by omega) (pcOf t.ps) ((hvals 0 (by omega)).trans (if_pos hone)) J Jx hY hJ' W hc' ?_ ?_ ?_ h0
    · simpa using c1
    · simpa using c2
    · simpa using c3
  · have hnp : nPieces t.ps = t.n - 1 := by rw [← h1]; exact if_neg hone
    rw [hnp] at hY hvals ⊢
    exact pieces1_in F m h7 hro hm l Bs n₀ b o t.n t.c t.ps (by omega) h3 h4 hbn (pcOf t.ps) (by omega) (fun k hk => (hvals k (by omega)).trans (if_neg hone)) J Jx hY hJ' W hc' hBs (Nat.le_trans hn₀ hW.size) hcs h0

end Go.Proofs.YteagdcgmmdiakaaGreat

namespace Go.Proofs.YteagdcgmmdiakaaGreat
set_option linter.unusedSimpArgs false
set_option linter.unusedVariables false
open Go.RowKit Go.Shelf
attribute [local go_sem] Soft.upon Soft.BW.cell_if Soft.BW.frozen_if Soft.cell_alloc_if Soft.frozen_alloc_if Oper.semAt_some Soft.upon0

/-- A whole block, as it lies. -/
abbrev HasBlk (W : World) (B : Nat) (c : Array Value) (t : TypeId) : Prop := W.heap[B]? = some (.cells c t)
theorem HasBlk.cell {W : World} {B : Nat} {c : Array Value} {t : TypeId} (h : HasBlk W B c t) (i : Nat) : W.cell? ⟨B, i, none⟩ = c[i]? := by simp [World.cell?, show W.heap[B]? = _ from h]
theorem HasBlk.frozen {W : World} {B : Nat} {c : Array Value} {t : TypeId} (h : HasBlk W B c t) (i : Nat) : W.frozen? ⟨B, i, none⟩ = false := by simp [World.frozen?, show W.heap[B]? = _ from h]
theorem HasBlk.lt {W : World} {B : Nat} {c : Array Value} {t : TypeId} (h : HasBlk W B c t) : B < W.heap.size := (Array.getElem?_eq_some_iff.1 h).1
theorem HasBlk.below {W W' : World} {B : Nat} {c : Array Value} {t : TypeId} (h : HasBlk W B c t) (hb : Below W.heap.size W W') : HasBlk W' B c t := (hb.block B h.lt).trans h
theorem hasBlk_own (B : Nat) (c : Array Value) (t : TypeId) {β : Type} : Own (fun (_ : β) W => HasBlk W B c t) := fun s A X row hs hg hr => by
  refine (hg.block B (HasBlk.lt hs) (fun e => ?_)).trans hs
  obtain ⟨o, ho, hc⟩ := hr B e.symm
  rw [show A.heap[B]? = _ from hs] at ho
  cases ho
  cases hc
theorem HasBlk.set2 {W : World} {B : Nat} {x y : Value} {t : TypeId} (h : HasBlk W B #[x, y] t) (u v : Value) : HasBlk ((W.setCell ⟨B, 0, none⟩ u).setCell ⟨B, 1, none⟩ v) B #[u, v] t := by
  simp [HasBlk, World.setCell, Array.getElem?_modify, show W.heap[B]? = _ from h]
theorem HasBlk.set_other {W : World} {B : Nat} {c : Array Value} {t : TypeId} (h : HasBlk W B c t) {p : Addr} (hp : B ≠ p.block) (v : Value) : HasBlk (W.setCell p v) B c t := (Below.heap_setCell W p v B hp).trans h

/-- The values of a piece at a place. -/
def pcAt (p : Pt × Pt) (x : Int) : Rg := if p.1 = p.2 then ⟨p.1.lo, p.1.hi⟩ else ⟨segLo p.1 p.2 x, segHi p.1 p.2 x⟩
def pcHas (p : Pt × Pt) (x : Int) : Prop := p.1.x ≤ x ∧ x ≤ p.2.x
instance (p : Pt × Pt) (x : Int) : Decidable (pcHas p x) := inferInstanceAs (Decidable (_ ∧ _))

theorem piece_at_any (p : Pt × Pt) (x : Int) (w : World) (h : PieceAny p) (hx : pcHas p x) :
    Calls Tryz.prog 125 #[.agg #[.int .i64 p.1.x, .int .i64 p.1.lo, .int .i64 p.1.hi, .int .i64 p.2.x, .int .i64 p.2.lo, .int .i64 p.2.hi], .int .i64 x] w fun e w' =>
      e = .returned (.agg #[.int .i64 (pcAt p x).lo, .int .i64 (pcAt p x).hi]) ∧ Below w.heap.size w w' := by
  obtain ⟨a, b⟩ := p
  rcases h with h | ⟨h, h0, h1, h2, h3, h4⟩
  · have hne : a ≠ b := fun e => by have := h.lt; simp only [e] at this; omega
    unfold pcAt
    rw [if_neg hne]
    exact piece_at a b x w h hx.1 hx.2
  · dsimp only at *
    subst h
    have e : pcAt (a, a) x = ⟨a.lo, a.hi⟩ := if_pos rfl
    rw [e]
    go_enter Tryz.func125, Tryz.ntmps125
    go_wp2_with (first | (go_at_call 149; (with_reducible refine (piece_value_eq a _ _ _ _).mono ?_); rintro e w_ ⟨rfl, hb_⟩; obtain ⟨y1, rfl⟩ := Soft.BW.mk hb_; clear hb_) | (go_at_call 58; (with_reducible refine (fix_down _ _ _ (by omega) (by omega) (by omega)).mono ?_); rintro e w_ ⟨rfl, hw_⟩; subst w_) | (go_at_call 59; (with_reducible refine (fix_up _ _ _ (by omega) (by omega) (by omega)).mono ?_); rintro e w_ ⟨rfl, hw_⟩; subst w_))
    refine bodyPost_ret (v := .agg #[.int .i64 (a.lo / 1), .int .i64 (-(-a.hi / 1))]) (by simp [results, Tryz.results125, go_sem]) rfl ?_
    refine ⟨by simp, ?_⟩
    (with_reducible repeat (first | exact blr _ | refine bla ?_ _ | refine blw _ ?_ | refine bld ?_ | refine bln _ ?_ | refine bls ?_ _ | refine blt ?_))

theorem keeps_of_below {W W' : World} (h : Below W.heap.size W W') (B : Nat) : KeepsFrom B W W' :=
  ⟨h.size, fun i o _ ho _ => (h.block i (Array.getElem?_eq_some_iff.1 ho).1).trans ho⟩

theorem not_or_of {p : Pc} {pre : List Pc} {x : Int} (hp : ∀ q ∈ pre, ¬pcHas q.1 x) (h : ¬pcHas p.1 x) : ∀ q ∈ pre ++ [p], ¬pcHas q.1 x := fun q hq => by
  rcases List.mem_append.1 hq with hq | hq
  · exact hp q hq
  · simp at hq; subst hq; exact h

set_option maxRecDepth 100000 in
set_option maxHeartbeats 4000000 in
theorem at_pieces (t : Tb) (x : Int) (w : World) (ht : t.At w) (hok : TabOk t.ps) (k : Nat) (hk : k < nPieces t.ps) (hno : ∀ j, j < k → ¬pcHas (pieceAt t.ps j) x) (hhas : pcHas (pieceAt t.ps k) x) :
    Calls Tryz.prog 54 #[.agg #[.slice t.p t.n t.c], .int .i64 x] w fun e w' => e = .returned (.agg #[.int .i64 (pcAt (pieceAt t.ps k) x).lo, .int .i64 (pcAt (pieceAt t.ps k) x).hi]) ∧ Below w.heap.size w w' := by
  have hT : ∀ f, Fence.wide.fn f := fun _ => trivial
  have hb : ∀ b o, t.p = some ⟨b, o, none⟩ → b < w.heap.size := fun b o e => by
    obtain ⟨h1, h2, h3, h4, h5⟩ := ht
    have := hok.pos
    obtain ⟨b', o', e', hlt, _⟩ := h5 (by omega)
    rw [e] at e'
    cases e'
    exact hlt
  refine (callsIn_wide (n := 6)).1 ?_
  refine callsIn_of_wp_marks Tryz.func54 rfl (hT _) ?_ rfl
  simp only [Tryz.ntmps54, List.size_toArray, List.length_cons, List.length_nil, Nat.reduceAdd, Nat.reduceSub, Array.replicate_succ, Array.replicate_zero, List.push_toArray, List.append_toArray, List.nil_append, List.cons_append]
  gi_wp2_with (gi_at_call 123; refine (pieces_in Fence.wide 5 (hT _) rfl _ _ _ _).mono ?_; rintro e w' ⟨rfl, rfl⟩)
  have h1' : HasBlk ((((w.alloc (.cells #[.slice t.p t.n t.c] 24)).alloc (.cells #[.int .i64 x] 3)).alloc (.cells #[.int .i64 0, .int .i64 0] 27)).alloc (.cells #[.slice t.p t.n t.c] 24)) (w.heap.size + 1) #[.int .i64 x] 3 := by
    have := (World.alloc_heap_new (w.alloc (.cells #[.slice t.p t.n t.c] 24)) (.cells #[.int .i64 x] 3))
    rw [World.size_alloc] at this
    exact ((HasBlk.below this ((Below.refl _ _).alloc (Nat.le_refl _) _)).below ((Below.refl _ _).alloc (Nat.le_refl _) _))
  have h2' : HasBlk ((((w.alloc (.cells #[.slice t.p t.n t.c] 24)).alloc (.cells #[.int .i64 x] 3)).alloc (.cells #[.int .i64 0, .int .i64 0] 27)).alloc (.cells #[.slice t.p t.n t.c] 24)) (w.heap.size + 1 + 1) #[.int .i64 0, .int .i64 0] 27 := by
    have := (World.alloc_heap_new ((w.alloc (.cells #[.slice t.p t.n t.c] 24)).alloc (.cells #[.int .i64 x] 3)) (.cells #[.int .i64 0, .int .i64 0] 27))
    simp only [World.size_alloc] at this
    exact HasBlk.below this ((Below.refl _ _).alloc (Nat.le_refl _) _)
  have h3' : HasBlk ((((w.alloc (.cells #[.slice t.p t.n t.c] 24)).alloc (.cells #[.int .i64 x] 3)).alloc (.cells #[.int .i64 0, .int .i64 0] 27)).alloc (.cells #[.slice t.p t.n t.c] 24)) (w.heap.size + 1 + 1 + 1) #[.slice t.p t.n t.c] 24 := by
    have := (World.alloc_heap_new (((w.alloc (.cells #[.slice t.p t.n t.c] 24)).alloc (.cells #[.int .i64 x] 3)).alloc (.cells #[.int .i64 0, .int .i64 0] 27)) (.cells #[.slice t.p t.n t.c] 24))
    simp only [World.size_alloc] at this
    exact this
  have hB0 : Below w.heap.size w ((((w.alloc (.cells #[.slice t.p t.n t.c] 24)).alloc (.cells #[.int .i64 x] 3)).alloc (.cells #[.int .i64 0, .int .i64 0] 27)).alloc (.cells #[.slice t.p t.n t.c] 24)) := by (with_reducible repeat (first | exact blr _ | refine bla ?_ _ | refine blw _ ?_ | refine bld ?_ | refine bln _ ?_ | refine bls ?_ _ | refine blt ?_))
  have hsz : ((((w.alloc (.cells #[.slice t.p t.n t.c] 24)).alloc (.cells #[.int .i64 x] 3)).alloc (.cells #[.int .i64 0, .int .i64 0] 27)).alloc (.cells #[.slice t.p t.n t.c] 24)).heap.size = w.heap.size + 4 := by simp
  obtain ⟨W0, hW0⟩ : ∃ W0, (((w.alloc (.cells #[.slice t.p t.n t.c] 24)).alloc (.cells #[.int .i64 x] 3)).alloc (.cells #[.int .i64 0, .int .i64 0] 27)).alloc (.cells #[.slice t.p t.n t.c] 24) = W0 := ⟨_, rfl⟩
  rw [hW0] at h1' h2' h3' hB0 hsz ⊢
  clear hW0
  have ht0 := ht.same hB0
  refine wpIn_rangeFunc_ownH (F := Fence.wide) (n := 6) rfl (by decide) (gf := 148) (lb := #[.pointer (some ⟨w.heap.size + 1 + 1 + 1, 0, none⟩)]) rfl (hT _) (enters_of Tryz.func148 (by kernel_rfl) rfl)
    (pieces_stops Fence.wide 5 (hT _) rfl (by decide) (w.heap.size + 1 + 1 + 1) (w.heap.size + 4) t W0 ht0 hok (by omega) (by omega) (fun b o e => by have := hb b o e; omega) (by rw [h3'.cell]; rfl)) belowK_t (belowK_b (by omega)) (Below.refl _ _) (fun _ => rfl)
    (fun pre W => (((∀ p ∈ pre, ¬pcHas p.1 x) ∧ HasBlk W (w.heap.size + 1) #[.int .i64 x] 3) ∧ HasBlk W (w.heap.size + 1 + 1) #[.int .i64 0, .int .i64 0] 27) ∧ Below w.heap.size W0 W)
    (fun c pre W => (c = .ret ∧ ∃ ini last, pre = ini ++ [last] ∧ (∀ p ∈ ini, ¬pcHas p.1 x) ∧ pcHas last.1 x ∧ HasBlk W (w.heap.size + 1 + 1) #[.int .i64 (pcAt last.1 x).lo, .int .i64 (pcAt last.1 x).hi] 27) ∧ Below w.heap.size W0 W)
    (OwnFrom.and (OwnFrom.and (OwnFrom.and (ownFrom_pure _ _) (Own.from (hasBlk_own _ _ _) _)) (Own.from (hasBlk_own _ _ _) _)) (ownFrom_below (by omega) (by omega)))
    (fun c => OwnFrom.and (Own.from (fun s A B row hs hg hr => by obtain ⟨hc, ini, last, e1, e2, e3, e4⟩ := hs; exact ⟨hc, ini, last, e1, e2, e3, hasBlk_own _ _ _ s A B row e4 hg hr⟩) _) (ownFrom_below (by omega) (by omega)))
    ⟨⟨⟨by simp, h1'⟩, h2'⟩, Below.refl _ _⟩
    (fun p a' W => ∃ Bx, w.heap.size + 1 + 1 + 1 < Bx ∧ HasBlk W Bx #[.int .i64 p.1.1.x, .int .i64 p.1.1.lo, .int .i64 p.1.1.hi, .int .i64 p.1.2.x, .int .i64 p.1.2.lo, .int .i64 p.1.2.hi] 168 ∧ a' = { tmps := #[.agg #[.slice t.p t.n t.c], .int .i64 x, .pointer (some ⟨w.heap.size, 0, none⟩), .pointer (some ⟨w.heap.size + 1, 0, none⟩), .pointer (some ⟨w.heap.size + 1 + 1, 0, none⟩), .pointer (some ⟨Bx, 0, none⟩), .agg #[.slice t.p t.n t.c], .func (.func 148) #[] #[.pointer (some ⟨w.heap.size + 1 + 1 + 1, 0, none⟩)], .agg #[.int .i64 p.1.1.x, .int .i64 p.1.1.lo, .int .i64 p.1.1.hi, .int .i64 p.1.2.x, .int .i64 p.1.2.lo, .int .i64 p.1.2.hi], undef, undef, undef, undef, undef, undef, undef], defers := [] })
    (fun p a' _ X Z row hs hg hr => by obtain ⟨Bx, e1, e2, e3⟩ := hs; exact ⟨Bx, e1, hasBlk_own Bx _ _ () X Z row e2 hg (fun r e => (hr r e).2), e3⟩)
    ?assign ?body ?done ?stop
  case assign =>
    rintro l pre p W K ⟨⟨⟨hp, b1⟩, b2⟩, hB1⟩ hK
    have hsW := hB1.size
    simp only [encP]
    gi_wp2
    refine hK _ _ ((KeepsOthers.alloc _ _).from _) ((Below.refl _ W).alloc (by omega) _) ⟨⟨⟨hp, b1.below ((Below.refl _ _).alloc (Nat.le_refl _) _)⟩, b2.below ((Below.refl _ _).alloc (Nat.le_refl _) _)⟩, hB1.alloc (by omega) _⟩ ⟨W.heap.size, by omega, World.alloc_heap_new W _, rfl⟩
  case body =>
    rintro l pre p a' W hl ⟨r, hr⟩ ⟨⟨⟨hp, b1⟩, b2⟩, hB1⟩ ⟨Bx, hBx, bX, rfl⟩ hlt
    have hsW := hB1.size
    have c1 := b1.cell
    have cX := bX.cell
    have c2 := b2.cell
    have l1 := Soft.LtH.mk (b := w.heap.size + 1) (w := W) b1.lt
    have l2 := Soft.LtH.mk (b := w.heap.size + 1 + 1) (w := W) b2.lt
    have lX := Soft.LtH.mk (b := Bx) (w := W) bX.lt
    have f2 := b2.frozen
    by_cases hx : pcHas p.1 x
    · have HX := Lib.hid hx; clear hx
      gi_wp2_with (first | (gi_at_call 124; refine (CallsIn.inRound l (callsIn_wide.2 (piece_has p.1.1 p.1.2 x _ true (decide_eq_true HX.out).symm))).mono ?_; rintro e w_ ⟨rfl, hb_⟩; obtain ⟨y1, rfl⟩ := Soft.BW.mk hb_; clear hb_) | (gi_at_call 125; refine (CallsIn.inRound l (callsIn_wide.2 (piece_at_any p.1 x _ p.2 HX.out))).mono ?_; rintro e w_ ⟨rfl, hb_⟩; obtain ⟨y2, rfl⟩ := Soft.BW.mk hb_; clear hb_))
      have hby : Below W.heap.size W y2.w := y1.below.trans (y2.below.mono y1.below.size)
      exact ⟨(keeps_of_below hby _).trans (((KeepsOthers.setCell _ _ _).from _).trans ((KeepsOthers.setCell _ _ _).from _)),
        ⟨rfl, pre, p, rfl, hp, HX.out, (b2.below hby).set2 _ _⟩, ((hB1.trans (hby.mono (by omega))).setCell (p := ⟨w.heap.size + 1 + 1, 0, none⟩) (by simp; omega) _).setCell (p := ⟨w.heap.size + 1 + 1, 1, none⟩) (by simp; omega) _⟩
    · have HX := Lib.hid hx; clear hx
      gi_wp2_with (first | (gi_at_call 124; refine (CallsIn.inRound l (callsIn_wide.2 (piece_has p.1.1 p.1.2 x _ false (decide_eq_false HX.out).symm))).mono ?_; rintro e w_ ⟨rfl, hb_⟩; obtain ⟨y1, rfl⟩ := Soft.BW.mk hb_; clear hb_))
      have hby : Below W.heap.size W y1.w := y1.below
      exact ⟨keeps_of_below hby _, hby.mono (by omega), ⟨⟨not_or_of hp HX.out, b1.below hby⟩, b2.below hby⟩, hB1.trans (hby.mono (by omega))⟩
  case done =>
    rintro D ys W hD rfl ⟨⟨⟨hp, _⟩, _⟩, _⟩ _
    exfalso
    refine hp (pcOf t.ps k) (by simp only [upto, List.mem_map, List.mem_range]; exact ⟨k, hk, rfl⟩) ?_
    rw [pcOf_val hok hk]
    exact hhas
  case stop =>
    rintro D c pre W hD ⟨k', hk', rfl⟩ ⟨⟨rfl, ini, last, e1, e2, e3, hcr⟩, hB⟩ hK
    gi_wp2
    refine ⟨by simp, .inl ⟨_, _, rfl, run_takeDeferred hK, ?_⟩⟩
    obtain ⟨k'', rfl⟩ : ∃ k'', k' = k'' + 1 := by
      cases k' with
      | zero => simp [upto] at e1
      | succ k'' => exact ⟨k'', rfl⟩
    rw [upto_succ] at e1
    obtain ⟨rfl, e5⟩ := List.append_inj' e1 rfl
    obtain rfl : pcOf t.ps k'' = last := by simpa using e5
    rw [pcOf_val hok (by omega)] at e3 hcr
    obtain rfl : k = k'' := by
      rcases Nat.lt_trichotomy k k'' with h | h | h
      · exfalso
        refine e2 (pcOf t.ps k) (by simp only [upto, List.mem_map, List.mem_range]; exact ⟨k, h, rfl⟩) ?_
        rw [pcOf_val hok hk]
        exact hhas
      · exact h
      · exact absurd e3 (hno _ h)
    have q0 := cell_kept (hcr.cell 0) (grownBy_putObj' _ D (.deferred none)) (fun r e => by cases e; exact ⟨_, hK, rfl⟩)
    have q1 := cell_kept (hcr.cell 1) (grownBy_putObj' _ D (.deferred none)) (fun r e => by cases e; exact ⟨_, hK, rfl⟩)
    refine ⟨_, ?_, rfl, (hB0.trans hB).trans (belowK_b (w := w) (Nat.le_refl _) W D _ _ (by omega) hK rfl rfl)⟩
    simp [results, Tryz.f54, go_sem, q0, q1]


/-! ### CheckTable -/

instance (ps : List Pt) (k : Nat) : Decidable (ptOk ps k) := inferInstanceAs (Decidable (_ ∧ _ ∧ _ ∧ _ ∧ _ ∧ (_ ∨ _)))
theorem tabOk_iff (ps : List Pt) : TabOk ps ↔ 1 ≤ ps.length ∧ ps.length ≤ 40 ∧ ∀ k, k < ps.length → ptOk ps k := ⟨fun h => ⟨h.pos, h.le, h.all⟩, fun h => ⟨h.1, h.2.1, h.2.2⟩⟩
instance (ps : List Pt) : Decidable (TabOk ps) := decidable_of_iff _ (tabOk_iff ps).symm
/-- The error of a table. -/
def tabErr (ps : List Pt) : Int := if TabOk ps then 0 else 11


set_option maxRecDepth 100000 in
set_option maxHeartbeats 4000000 in
theorem fix_CheckTable (t : Tb) (w : World) (ht : t.At w) :
    Calls Tryz.prog 52 #[.agg #[.slice t.p t.n t.c]] w fun e w' => e = .returned (.int .i64 (tabErr t.ps)) ∧ Below w.heap.size w w' := by
  by_cases hn : 1 ≤ t.n ∧ t.n ≤ 40
  · obtain ⟨p, n, c, ps⟩ := t
    obtain ⟨h1, h2, h3, h4, h5⟩ := ht
    obtain ⟨b, o, rfl, hb, hc⟩ := h5 (by dsimp only at *; omega)
    dsimp only at *
    obtain ⟨n1, n2⟩ := hn
    have HBAD := Lib.hid (show ∀ k, k < n ∧ ¬ptOk ps k → tabErr ps = 11 from fun k ⟨hk, hp⟩ => if_neg (fun h => hp (h.all k (by omega))))
    have HGOOD := Lib.hid (show (∀ k, k < n → ptOk ps k) → tabErr ps = 0 from fun h => if_pos ⟨by omega, by omega, fun k hk => h k (by omega)⟩)
    have hA : Below w.heap.size w (w.alloc (.cells #[.slice (some ⟨b, o, none⟩) n c] 24)) := (Below.refl _ _).alloc (Nat.le_refl _) _
    have H1 := Lib.hid h1; clear h1 h5
    have HC := Lib.hid hc; clear hc
    generalize tabErr ps = te at *
    go_enter Tryz.func52, Tryz.ntmps52
    go_wp2_with (go_at_call 121; (with_reducible refine (fix_within_yes _ _ _ _ (by omega)).mono ?_); rintro e w_ ⟨rfl, hw_⟩; subst w_)
    go_loopw [13] (fun i wr => ∃ k : Nat, k ≤ n ∧ i = .int .i64 k ∧ (∀ j, j < k → ptOk ps j) ∧ Below (w.heap.size+1) (w.alloc (.cells #[.slice (some ⟨b, o, none⟩) n c] 24)) wr) (fun i _ => n - (intOf i).toNat)
    case atStart => exact ⟨0, by omega, rfl, fun j hj => by omega, Below.refl _ _⟩
    case round =>
      obtain ⟨k, hk, rfl, hall, hB⟩ := hrel
      have hbox : wr.cell? ⟨w.heap.size, 0, none⟩ = some (.slice (some ⟨b, o, none⟩) n c) := by
        rw [hB.cell (by simp)]; simp
      have hsz : w.heap.size < wr.heap.size := by have := hB.size; simp at this; omega
      have l0 := Soft.LtH.mk (b := w.heap.size) (w := wr) hsz
      have lb := Soft.LtH.mk (b := b) (w := wr) (by omega)
      have HALL := Lib.hid hall; clear hall
      have HBs := Lib.hid hB
      by_cases hlt : k < n
      · obtain ⟨hx, hl, hh⟩ := HC.out k hlt
        rw [← World.cell?_alloc_lt w (.cells #[.slice (some ⟨b, o, none⟩) n c] 24) _ (by simpa using hb), ← hB.cell (by simp; omega)] at hx hl hh
        have HB := Lib.hid hB; clear hB
        have HPREV := Lib.hid (show 0 < k → wr.cell? ⟨b, o + (k - 1) * 3, none⟩ = some (.int .i64 (pt ps (k - 1)).x) from fun h0 => by
          obtain ⟨hx', _, _⟩ := HC.out (k - 1) (by omega)
          rw [← World.cell?_alloc_lt w (.cells #[.slice (some ⟨b, o, none⟩) n c] 24) _ (by simpa using hb), ← HB.out.cell (by simp; omega)] at hx'
          exact hx')
        have HBD := Lib.hid (show ¬ptOk ps k → te = 11 from fun h => HBAD.out k ⟨hlt, h⟩)
        have HNX := Lib.hid (show ptOk ps k → ∀ j, j < k + 1 → ptOk ps j from fun h j hj => by
          by_cases e : j = k
          · rw [e]; exact h
          · exact HALL.out j (by omega))
        have i1 : (k : Int) + 1 ≤ 9223372036854775807 := by omega
        by_cases hk0 : k = 0
        · have e0 : ∀ i, ptOk ps i → True := fun _ _ => trivial
          clear e0
          rw [hk0] at hx hl hh HBD HNX
          simp only [Nat.zero_mul, Nat.add_zero] at hx hl hh
          have HBD := Lib.hid (show ¬(0 ≤ (pt ps 0).x ∧ (pt ps 0).x ≤ 1000000 ∧ (pt ps 0).lo ≤ (pt ps 0).hi ∧ -1000000000 ≤ (pt ps 0).lo ∧ (pt ps 0).hi ≤ 1000000000) → te = 11 from fun h => HBD.out (fun h' => h ⟨h'.1, h'.2.1, h'.2.2.1, h'.2.2.2.1, h'.2.2.2.2.1⟩))
          have HNX := Lib.hid (show (0 ≤ (pt ps 0).x ∧ (pt ps 0).x ≤ 1000000 ∧ (pt ps 0).lo ≤ (pt ps 0).hi ∧ -1000000000 ≤ (pt ps 0).lo ∧ (pt ps 0).hi ≤ 1000000000) → ∀ j, j < 0 + 1 → ptOk ps j from fun h => HNX.out ⟨h.1, h.2.1, h.2.2.1, h.2.2.2.1, h.2.2.2.2, .inl rfl⟩)
          subst hk0
          generalize pt ps 0 = q at *
          by_cases c1 : 0 ≤ (q).x ∧ (q).x ≤ 1000000
          · by_cases c2 : (q).hi < (q).lo
            · have d1 : decide ((q).hi < (q).lo) = true := decide_eq_true c2
              go_wp2_with fail
              go_quiet ((go_at_call 121; exact Calls.quiet_of_same (fix_within_yes _ _ _ _ (by omega))))
              go_wp2
              go_ret
              refine ⟨ret_int (HBD.out (by omega)).symm, ?_⟩
              exact (hA.trans (HB.out.mono (by omega))).trans (below_drewN ((Below.refl _ _).alloc (by omega) _) _)
            · have d1 : decide ((q).hi < (q).lo) = false := decide_eq_false c2
              by_cases c3 : (q).lo < -1000000000
              · have d2 : decide ((q).lo < -1000000000) = true := decide_eq_true c3
                go_wp2_with fail
                go_quiet ((go_at_call 121; exact Calls.quiet_of_same (fix_within_yes _ _ _ _ (by omega))))
                go_wp2
                go_ret
                refine ⟨ret_int (HBD.out (by omega)).symm, ?_⟩
                exact (hA.trans (HB.out.mono (by omega))).trans (below_drewN ((Below.refl _ _).alloc (by omega) _) _)
              · have d2 : decide ((q).lo < -1000000000) = false := decide_eq_false c3
                by_cases c4 : 1000000000 < (q).hi
                · have d3 : decide (1000000000 < (q).hi) = true := decide_eq_true c4
                  go_wp2_with fail
                  go_quiet ((go_at_call 121; exact Calls.quiet_of_same (fix_within_yes _ _ _ _ (by omega))))
                  go_wp2
                  go_ret
                  refine ⟨ret_int (HBD.out (by omega)).symm, ?_⟩
                  exact (hA.trans (HB.out.mono (by omega))).trans (below_drewN ((Below.refl _ _).alloc (by omega) _) _)
                · have d3 : decide (1000000000 < (q).hi) = false := decide_eq_false c4
                  go_wp2_with fail
                  go_quiet ((go_at_call 121; exact Calls.quiet_of_same (fix_within_yes _ _ _ _ (by omega))))
                  go_wp2
                  go_roundw
                  case rel => exact ⟨0 + 1, by omega, by simp, HNX.out (by omega), HB.out.trans (below_drewN ((Below.refl _ _).alloc (by omega) _) _)⟩
                  case measure => simp [intOf]; omega
          · have C1 := Lib.hid c1; clear c1
            have HBD := Lib.hid (HBD.out (fun h => C1.out ⟨h.1, h.2.1⟩))
            go_wp2_with fail
            go_quiet ((go_at_call 121; exact Calls.quiet_of_same (fix_within_no _ _ _ _ C1.out)))
            go_wp2
            go_ret
            refine ⟨ret_int HBD.out.symm, ?_⟩
            exact (hA.trans (HB.out.mono (by omega))).trans (below_drewN ((Below.refl _ _).alloc (by omega) _) _)
        · have hp := HPREV.out (by omega)
          have HBD := Lib.hid (show ¬(0 ≤ (pt ps k).x ∧ (pt ps k).x ≤ 1000000 ∧ (pt ps k).lo ≤ (pt ps k).hi ∧ -1000000000 ≤ (pt ps k).lo ∧ (pt ps k).hi ≤ 1000000000 ∧ (pt ps (k - 1)).x < (pt ps k).x) → te = 11 from fun h => HBD.out (fun h' => h ⟨h'.1, h'.2.1, h'.2.2.1, h'.2.2.2.1, h'.2.2.2.2.1, h'.2.2.2.2.2.resolve_left hk0⟩))
          have HNX := Lib.hid (show (0 ≤ (pt ps k).x ∧ (pt ps k).x ≤ 1000000 ∧ (pt ps k).lo ≤ (pt ps k).hi ∧ -1000000000 ≤ (pt ps k).lo ∧ (pt ps k).hi ≤ 1000000000 ∧ (pt ps (k - 1)).x < (pt ps k).x) → ∀ j, j < k + 1 → ptOk ps j from fun h => HNX.out ⟨h.1, h.2.1, h.2.2.1, h.2.2.2.1, h.2.2.2.2.1, .inr h.2.2.2.2.2⟩)
          generalize pt ps k = q at *
          generalize pt ps (k - 1) = r at *
          have j1 : (1 : Int) ≤ k := by omega
          have j2 : (k : Int) - 1 < n := by omega
          have j3 : ((k : Int) - 1).toNat = k - 1 := by omega
          have j4 : 0 < k := by omega
          have j5 : decide ((0 : Int) < (k : Int)) = true := decide_eq_true (by omega)
          have j6 : decide (0 < k) = true := decide_eq_true (by omega)
          by_cases c1 : 0 ≤ (q).x ∧ (q).x ≤ 1000000
          · by_cases c2 : (q).hi < (q).lo
            · have d1 : decide ((q).hi < (q).lo) = true := decide_eq_true c2
              go_wp2_with fail
              go_quiet ((go_at_call 121; exact Calls.quiet_of_same (fix_within_yes _ _ _ _ (by omega))))
              go_wp2
              go_ret
              refine ⟨ret_int (HBD.out (by omega)).symm, ?_⟩
              exact (hA.trans (HB.out.mono (by omega))).trans (below_drewN ((Below.refl _ _).alloc (by omega) _) _)
            · have d1 : decide ((q).hi < (q).lo) = false := decide_eq_false c2
              by_cases c3 : (q).lo < -1000000000
              · have d2 : decide ((q).lo < -1000000000) = true := decide_eq_true c3
                go_wp2_with fail
                go_quiet ((go_at_call 121; exact Calls.quiet_of_same (fix_within_yes _ _ _ _ (by omega))))
                go_wp2
                go_ret
                refine ⟨ret_int (HBD.out (by omega)).symm, ?_⟩
                exact (hA.trans (HB.out.mono (by omega))).trans (below_drewN ((Below.refl _ _).alloc (by omega) _) _)
              · have d2 : decide ((q).lo < -1000000000) = false := decide_eq_false c3
                by_cases c4 : 1000000000 < (q).hi
                · have d3 : decide (1000000000 < (q).hi) = true := decide_eq_true c4
                  go_wp2_with fail
                  go_quiet ((go_at_call 121; exact Calls.quiet_of_same (fix_within_yes _ _ _ _ (by omega))))
                  go_wp2
                  go_ret
                  refine ⟨ret_int (HBD.out (by omega)).symm, ?_⟩
                  exact (hA.trans (HB.out.mono (by omega))).trans (below_drewN ((Below.refl _ _).alloc (by omega) _) _)
                · have d3 : decide (1000000000 < (q).hi) = false := decide_eq_false c4
                  by_cases c5 : q.x ≤ r.x
                  · have d4 : decide (q.x ≤ r.x) = true := decide_eq_true c5
                    go_wp2_with fail
                    go_quiet ((go_at_call 121; exact Calls.quiet_of_same (fix_within_yes _ _ _ _ (by omega))))
                    go_wp2
                    go_ret
                    refine ⟨ret_int (HBD.out (by omega)).symm, ?_⟩
                    exact (hA.trans (HB.out.mono (by omega))).trans (below_drewN ((Below.refl _ _).alloc (by omega) _) _)
                  · have d4 : decide (q.x ≤ r.x) = false := decide_eq_false c5
                    go_wp2_with fail
                    go_quiet ((go_at_call 121; exact Calls.quiet_of_same (fix_within_yes _ _ _ _ (by omega))))
                    go_wp2
                    go_roundw
                    case rel => exact ⟨k + 1, by omega, by simp, HNX.out (by omega), HB.out.trans (below_drewN ((Below.refl _ _).alloc (by omega) _) _)⟩
                    case measure => simp [intOf]; omega
          · have C1 := Lib.hid c1; clear c1
            have HBD := Lib.hid (HBD.out (fun h => C1.out ⟨h.1, h.2.1⟩))
            go_wp2_with fail
            go_quiet ((go_at_call 121; exact Calls.quiet_of_same (fix_within_no _ _ _ _ C1.out)))
            go_wp2
            go_ret
            refine ⟨ret_int HBD.out.symm, ?_⟩
            exact (hA.trans (HB.out.mono (by omega))).trans (below_drewN ((Below.refl _ _).alloc (by omega) _) _)
      · obtain rfl : k = n := by omega
        have HB := Lib.hid hB; clear hB
        go_wp2_with fail
        go_ret
        refine ⟨ret_int (HGOOD.out HALL.out).symm, ?_⟩
        exact hA.trans (HB.out.mono (by omega))
  · have hbad : tabErr t.ps = 11 := if_neg (fun h => hn (by have := h.pos; have := h.le; have := ht.1; omega))
    have HT := Lib.hid hbad; clear hbad
    have HN := Lib.hid hn; clear hn
    generalize tabErr t.ps = te at *
    go_enter Tryz.func52, Tryz.ntmps52
    go_wp2_with (go_at_call 121; (with_reducible refine (fix_within_no _ _ _ _ (by have := HN.out; omega)).mono ?_); rintro e w_ ⟨rfl, hw_⟩; subst w_)
    go_ret
    refine ⟨ret_int HT.out.symm, ?_⟩
    (with_reducible repeat (first | exact blr _ | refine bla ?_ _ | refine blw _ ?_ | refine bld ?_ | refine bln _ ?_ | refine bls ?_ _ | refine blt ?_))

end Go.Proofs.YteagdcgmmdiakaaGreat
