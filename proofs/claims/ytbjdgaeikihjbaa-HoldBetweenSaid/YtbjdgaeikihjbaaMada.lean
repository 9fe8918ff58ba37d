/-
  The reference's maker of compartments out of numbers, first part: Mod, Pick, xs.
  Conditions: each theorem's own premises.
-/
import Derived.Test.YtbjdgaeikihjbaaBase
import Derived.OwnWalk
namespace Go.Proofs.Ytbjdgaeikihjbaa
set_option linter.unusedSimpArgs false
set_option linter.unusedVariables false
open Go.RowKit
set_option maxRecDepth 100000
set_option maxHeartbeats 1000000
attribute [local go_sem] Instr.field asAgg Soft.upon Soft.BW.cell_if Soft.BW.frozen_if Soft.cell_alloc_if Soft.frozen_alloc_if

/-- A number of a list, by its place. -/
abbrev iv (xs : List Int) (i : Nat) : Int := xs[i]?.getD 0

/-- A slice of numbers as it lies in memory. -/
structure Is where
  p : Option Addr
  n : Nat
  c : Nat
  xs : List Int

def Is.At (w : World) (s : Is) : Prop :=
  s.xs.length = s.n ∧ s.n ≤ 6000000000000000 ∧ s.n ≤ s.c ∧ s.c ≤ 9223372036854775807 ∧ (∀ i, I64 (iv s.xs i)) ∧ (s.n ≠ 0 → ∃ b o, s.p = some ⟨b, o, none⟩ ∧ b < w.heap.size ∧
    ∀ i, i < s.n → w.cell? ⟨b, o + i, none⟩ = some (.int .i64 (iv s.xs i)))

theorem Is.At.below {w w' : World} {s : Is} (h : s.At w) (hb : Below w.heap.size w w') : s.At w' := by
  obtain ⟨h1, h2, h3, h4, h6, h5⟩ := h
  refine ⟨h1, h2, h3, h4, h6, fun hn => ?_⟩
  obtain ⟨b, o, e, hlt, hc⟩ := h5 hn
  exact ⟨b, o, e, Nat.lt_of_lt_of_le hlt hb.size, fun i hi => (hb.cell (p := ⟨b, _, none⟩) hlt).trans (hc i hi)⟩
theorem Is.At.belowN {w w' : World} {s : Is} (h : s.At w) {B : Nat} (hn : w.heap.size = B) (hb : Below B w w') : s.At w' := h.below (hn ▸ hb)
theorem Is.At.alloc {w : World} {s : Is} (h : s.At w) (o : Obj) : s.At (w.alloc o) := h.below ((Below.refl _ _).alloc (Nat.le_refl _) o)
theorem Is.At.bw {w : World} {s : Is} (h : s.At w) (x : Soft.BW w) : s.At x.w := h.below x.below

/-- What describes a compartment. -/
structure Rw where
  id : Int
  first : Int
  steps : Is
  vals : Is
structure Rw.At (w : World) (r : Rw) : Prop where
  id : I64 r.id
  first : I64 r.first
  steps : r.steps.At w
  vals : r.vals.At w
theorem Rw.At.below {w w' : World} {r : Rw} (h : r.At w) (hb : Below w.heap.size w w') : r.At w' := ⟨h.id, h.first, h.steps.below hb, h.vals.below hb⟩
theorem Rw.At.belowN {w w' : World} {r : Rw} (h : r.At w) {B : Nat} (hn : w.heap.size = B) (hb : Below B w w') : r.At w' := h.below (hn ▸ hb)
theorem Rw.At.alloc {w : World} {r : Rw} (h : r.At w) (o : Obj) : r.At (w.alloc o) := h.below ((Below.refl _ _).alloc (Nat.le_refl _) o)
theorem Rw.At.bw {w : World} {r : Rw} (h : r.At w) (x : Soft.BW w) : r.At x.w := h.below x.below

theorem tmod_tmod (n m : Int) (hm : 1 ≤ m) : (n.tmod m + m).tmod m = n % m := by
  have h1 := Int.lt_tmod_of_pos n (show 0 < m by omega)
  have h2 := Int.tmod_lt_of_pos n (show 0 < m by omega)
  rw [Int.tmod_eq_emod_of_nonneg (by omega)]
  rw [Int.add_emod_right]
  rw [Int.tmod_eq_emod]
  split
  · simp
  · rw [show (m.natAbs : Int) = m by omega]
    simp

theorem R2_Mod (n m r : Int) (w : World) (hm : 1 ≤ m) (hm2 : m ≤ 4611686018427387904) (hr : r = n % m) :
    Calls Try.prog 37 #[.int .i64 n, .int .i64 m] w fun e w' => e = .returned (.int .i64 r) ∧ w' = w := by
  have HR := Lib.hid (hr.trans (tmod_tmod n m hm).symm); clear hr
  have h1 := Int.lt_tmod_of_pos n (show 0 < m by omega)
  have h2 := Int.tmod_lt_of_pos n (show 0 < m by omega)
  have d0 : (m == 0) = false := by rw [beq_eq_false_iff_ne]; omega
  go_enter Try.func37, Try.ntmps37
  go_wp2
  go_ret
  refine ⟨ret_int ?_, rfl⟩
  rw [HR.out]
  exact (Int.tmod_eq_emod_of_nonneg (by omega)).symm

/-- The number of a list with an index modulo its length. -/
def pickS (xs : List Int) (i : Int) : Int := if xs.length = 0 then 0 else iv xs (i % (xs.length : Int)).toNat

theorem R2_Pick (s : Is) (i : Int) (w : World) (hs : s.At w) :
    Calls Try.prog 62 #[.slice s.p s.n s.c, .int .i64 i] w fun e w' => e = .returned (.int .i64 (pickS s.xs i)) ∧ w' = w := by
  obtain ⟨p, n, c, xs⟩ := s
  obtain ⟨h1, h2, h3, h4, h6, h5⟩ := hs
  dsimp only at *
  by_cases hn : n = 0
  · have HV := Lib.hid (show pickS xs i = 0 from if_pos (by omega))
    subst hn
    clear h1 h5 h6
    go_enter Try.func62, Try.ntmps62
    go_wp2
    go_ret
    exact ⟨ret_int HV.out.symm, rfl⟩
  · obtain ⟨b, o, rfl, hb, hc⟩ := h5 hn
    have j1 := Int.emod_nonneg i (show (n : Int) ≠ 0 by omega)
    have j2 := Int.emod_lt_of_pos i (show 0 < (n : Int) by omega)
    obtain ⟨j, hj⟩ : ∃ j : Nat, (j : Int) = i % (n : Int) := ⟨(i % (n : Int)).toNat, by omega⟩
    have HV := Lib.hid (show pickS xs i = iv xs j by unfold pickS; rw [if_neg (by omega), h1, ← hj]; rfl)
    have HJ := Lib.hid hj
    have j3 : j < n := by omega
    have c1 := hc j j3
    have d0 : ((n : Int) == 0) = false := by rw [beq_eq_false_iff_ne]; omega
    have := Soft.LtH.mk (w := w) hb
    clear hj j1 j2 h1 hc h5 h6 hn
    generalize iv xs j = v at *
    go_enter Try.func62, Try.ntmps62
    go_wp2_with (go_at_call 37; (with_reducible refine (R2_Mod _ _ (j : Int) _ (by omega) (by omega) HJ.out).mono ?_); rintro e w_ ⟨rfl, hw_⟩; subst w_)
    go_ret
    exact ⟨ret_int HV.out.symm, rfl⟩

theorem pickS_in (s : Is) (w : World) (hs : s.At w) (i : Int) : I64 (pickS s.xs i) := by
  unfold pickS
  split
  · exact ⟨by omega, by omega⟩
  · exact hs.2.2.2.2.1 _

end Go.Proofs.Ytbjdgaeikihjbaa
