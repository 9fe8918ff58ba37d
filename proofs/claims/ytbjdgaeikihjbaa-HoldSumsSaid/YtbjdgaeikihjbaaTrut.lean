/-
  The reference's and the law's small functions: Inside, Within, somewhere, dense, around; Curve, Value.
  The reference's curves within a table: Curve, Value.
  The reference's value of a curve at a place.
  Numbers that choose curves, and what is so, as they lie in memory; a curve's contract with its value's.
  Conditions: each theorem's own premises.
-/
import Derived.Test.YtbjdgaeikihjbaaMadf
namespace Go.Proofs.Ytbjdgaeikihjbaa
set_option linter.unusedSimpArgs false
set_option linter.unusedVariables false
open Go.RowKit
set_option maxRecDepth 100000
set_option maxHeartbeats 2000000
attribute [local go_sem] Instr.field asAgg Soft.upon Soft.BW.cell_if Soft.BW.frozen_if Soft.cell_alloc_if Soft.frozen_alloc_if

theorem R2_Inside (a b : Rg) (w : World) (v : Bool) (hv : v = decide (b.lo ≤ a.lo ∧ a.hi ≤ b.hi)) :
    Calls Try.prog 27 #[.agg #[.int .i64 (a).lo, .int .i64 (a).hi], .agg #[.int .i64 (b).lo, .int .i64 (b).hi]] w fun e w' => e = .returned (.bool v) ∧ Below w.heap.size w w' := by
  have HV := Lib.hid hv; clear hv
  go_enter Try.func27, Try.ntmps27
  go_wp2
  all_goals
    go_ret
    refine ⟨ret_bool ?_, ?_⟩
    · rw [HV.out, Bool.eq_iff_iff]
      simp
      omega
    · (repeat (first | with_reducible exact bel_refl _ | with_reducible refine bel_alloc ?_ _ | with_reducible refine bel_bw _ ?_ | with_reducible refine bel_drew ?_ | with_reducible refine bel_drewN _ ?_ | ((with_reducible refine bel_set ?_ ?_ _); rotate_left; focus (first | (simp; done) | omega | (simp; omega))) | refine bel_step ?_ (by with_reducible assumption)))

theorem R2_Within (r : Rg) (n d : Int) (w : World) (v : Bool) (hv : v = decide (r.lo * d ≤ n ∧ n ≤ r.hi * d)) (h1 : I64 (r.lo * d)) (h2 : I64 (r.hi * d)) :
    Calls Try.prog 35 #[.agg #[.int .i64 (r).lo, .int .i64 (r).hi], .int .i64 n, .int .i64 d] w fun e w' => e = .returned (.bool v) ∧ Below w.heap.size w w' := by
  have HV := Lib.hid hv; clear hv
  obtain ⟨a1, a2⟩ := h1
  obtain ⟨b1, b2⟩ := h2
  go_enter Try.func35, Try.ntmps35
  go_wp2
  all_goals
    go_ret
    refine ⟨ret_bool ?_, ?_⟩
    · rw [HV.out, Bool.eq_iff_iff]
      simp
      omega
    · (repeat (first | with_reducible exact bel_refl _ | with_reducible refine bel_alloc ?_ _ | with_reducible refine bel_bw _ ?_ | with_reducible refine bel_drew ?_ | with_reducible refine bel_drewN _ ?_ | ((with_reducible refine bel_set ?_ ?_ _); rotate_left; focus (first | (simp; done) | omega | (simp; omega))) | refine bel_step ?_ (by with_reducible assumption)))

/-- A number within a range. -/
def somS (r : Rg) (n : Int) : Int := r.lo + n % (r.hi - r.lo + 1)
theorem somS_in (r : Rg) (n : Int) (h : r.lo ≤ r.hi) : r.lo ≤ somS r n ∧ somS r n ≤ r.hi := by
  have a1 := Int.emod_nonneg n (show r.hi - r.lo + 1 ≠ 0 by omega)
  have a2 := Int.emod_lt_of_pos n (show 0 < r.hi - r.lo + 1 by omega)
  unfold somS
  omega

theorem L2_somewhere (r : Rg) (n : Int) (w : World) (h : RgIn r (-1000000000) 1000000000) :
    Calls Try.prog 19 #[.agg #[.int .i64 (r).lo, .int .i64 (r).hi], .int .i64 n] w fun e w' => e = .returned (.int .i64 (somS r n)) ∧ Below w.heap.size w w' := by
  obtain ⟨h1, h2, h3⟩ := h
  obtain ⟨z, hz⟩ : ∃ z, z = n % (r.hi - r.lo + 1) := ⟨_, rfl⟩
  have z1 := Int.emod_nonneg n (show r.hi - r.lo + 1 ≠ 0 by omega)
  have z2 := Int.emod_lt_of_pos n (show 0 < r.hi - r.lo + 1 by omega)
  rw [← hz] at z1 z2
  have HV := Lib.hid (show somS r n = r.lo + z by unfold somS; rw [← hz])
  have HZ := Lib.hid hz; clear hz
  go_enter Try.func19, Try.ntmps19
  go_wp2_with fail
  (refine Soft.region0 [0, 1, 2, 3, 4, 5, 6, 7, 8, 9, 10, 11] [] (by kernel_rfl) (by kernel_rfl) (by kernel_rfl) (by kernel_rfl) ?_; change Soft.wpSoft _ _ _ _ _ [_, _, _, _, _, _, _, _, _, _, _, _] _; (repeat (refine Soft.soft_step (fun K hK => ?_); go_simp; (try go_bits); first | (refine hK _ ?_; clear hK K) | (apply Exists.intro; refine ⟨fun x => ?_, hK _ ?_⟩; ((go_at_call 37; exact Calls.bel (R2_Mod _ _ z _ (by omega) (by omega) HZ.out))); clear hK K))); refine Soft.soft_nil ?_; intro xw; change wpList _ _ _ [] _ _)
  go_wp2_with fail
  go_ret
  refine ⟨ret_int HV.out.symm, ?_⟩
  (repeat (first | with_reducible exact bel_refl _ | with_reducible refine bel_alloc ?_ _ | with_reducible refine bel_bw _ ?_ | with_reducible refine bel_drew ?_ | with_reducible refine bel_drewN _ ?_ | ((with_reducible refine bel_set ?_ ?_ _); rotate_left; focus (first | (simp; done) | omega | (simp; omega))) | refine bel_step ?_ (by with_reducible assumption)))
theorem L2_dense (r : Rg) (n : Int) (w : World) (h : RgIn r (-1000000000) 1000000000) :
    Calls Try.prog 24 #[.agg #[.int .i64 (r).lo, .int .i64 (r).hi], .int .i64 n] w fun e w' => e = .returned (.int .i64 (somS r n)) ∧ Below w.heap.size w w' := by
  obtain ⟨h1, h2, h3⟩ := h
  obtain ⟨z, hz⟩ : ∃ z, z = n % (r.hi - r.lo + 1) := ⟨_, rfl⟩
  have z1 := Int.emod_nonneg n (show r.hi - r.lo + 1 ≠ 0 by omega)
  have z2 := Int.emod_lt_of_pos n (show 0 < r.hi - r.lo + 1 by omega)
  rw [← hz] at z1 z2
  have HV := Lib.hid (show somS r n = r.lo + z by unfold somS; rw [← hz])
  have HZ := Lib.hid hz; clear hz
  go_enter Try.func24, Try.ntmps24
  go_wp2_with fail
  (refine Soft.region0 [0, 1, 2, 3, 4, 5, 6, 7, 8, 9, 10, 11] [] (by kernel_rfl) (by kernel_rfl) (by kernel_rfl) (by kernel_rfl) ?_; change Soft.wpSoft _ _ _ _ _ [_, _, _, _, _, _, _, _, _, _, _, _] _; (repeat (refine Soft.soft_step (fun K hK => ?_); go_simp; (try go_bits); first | (refine hK _ ?_; clear hK K) | (apply Exists.intro; refine ⟨fun x => ?_, hK _ ?_⟩; ((go_at_call 37; exact Calls.bel (R2_Mod _ _ z _ (by omega) (by omega) HZ.out))); clear hK K))); refine Soft.soft_nil ?_; intro xw; change wpList _ _ _ [] _ _)
  go_wp2_with fail
  go_ret
  refine ⟨ret_int HV.out.symm, ?_⟩
  (repeat (first | with_reducible exact bel_refl _ | with_reducible refine bel_alloc ?_ _ | with_reducible refine bel_bw _ ?_ | with_reducible refine bel_drew ?_ | with_reducible refine bel_drewN _ ?_ | ((with_reducible refine bel_set ?_ ?_ _); rotate_left; focus (first | (simp; done) | omega | (simp; omega))) | refine bel_step ?_ (by with_reducible assumption)))

/-- The least range of whole numbers that has n / d. -/
def aroS (n d : Int) : Rg := ⟨n / d, if n / d * d < n then n / d + 1 else n / d⟩
theorem L2_around (n d : Int) (w : World) (h1 : 0 ≤ n) (h2 : n ≤ 1000000000000000000) (h3 : 1 ≤ d) (h4 : d ≤ 1000000000000000000) :
    Calls Try.prog 26 #[.int .i64 n, .int .i64 d] w fun e w' => e = .returned (.agg #[.int .i64 (aroS n d).lo, .int .i64 (aroS n d).hi]) ∧ Below w.heap.size w w' := by
  have a1 := Int.ediv_nonneg h1 (show 0 ≤ d by omega)
  have a2 := Int.ediv_le_self d h1
  have a3 := Int.ediv_mul_le n (show d ≠ 0 by omega)
  have a4 := Int.mul_nonneg a1 (show 0 ≤ d by omega)
  have a5 := Int.emod_nonneg n (show d ≠ 0 by omega)
  have a6 := Int.emod_lt_of_pos n (show 0 < d by omega)
  have d0 : (d == 0) = false := by rw [beq_eq_false_iff_ne]; omega
  by_cases c : n / d * d < n
  · have HV := Lib.hid (show aroS n d = ⟨n / d, n / d + 1⟩ by unfold aroS; rw [if_pos c])
    go_enter Try.func26, Try.ntmps26
    go_wp2_with fail
    rw [HV.out]
    refine bodyPost_ret (v := .agg #[.int .i64 ((⟨n / d, n / d + 1⟩ : Rg)).lo, .int .i64 ((⟨n / d, n / d + 1⟩ : Rg)).hi]) (by simp [results, Try.results26, go_sem]) rfl ?_
    refine ⟨rfl, ?_⟩
    (repeat (first | with_reducible exact bel_refl _ | with_reducible refine bel_alloc ?_ _ | with_reducible refine bel_bw _ ?_ | with_reducible refine bel_drew ?_ | with_reducible refine bel_drewN _ ?_ | ((with_reducible refine bel_set ?_ ?_ _); rotate_left; focus (first | (simp; done) | omega | (simp; omega))) | refine bel_step ?_ (by with_reducible assumption)))
  · have HV := Lib.hid (show aroS n d = ⟨n / d, n / d⟩ by unfold aroS; rw [if_neg c])
    go_enter Try.func26, Try.ntmps26
    go_wp2_with fail
    rw [HV.out]
    refine bodyPost_ret (v := .agg #[.int .i64 ((⟨n / d, n / d⟩ : Rg)).lo, .int .i64 ((⟨n / d, n / d⟩ : Rg)).hi]) (by simp [results, Try.results26, go_sem]) rfl ?_
    refine ⟨rfl, ?_⟩
    (repeat (first | with_reducible exact bel_refl _ | with_reducible refine bel_alloc ?_ _ | with_reducible refine bel_bw _ ?_ | with_reducible refine bel_drew ?_ | with_reducible refine bel_drewN _ ?_ | ((with_reducible refine bel_set ?_ ?_ _); rotate_left; focus (first | (simp; done) | omega | (simp; omega))) | refine bel_step ?_ (by with_reducible assumption)))

end Go.Proofs.Ytbjdgaeikihjbaa

namespace Go.Proofs.Ytbjdgaeikihjbaa
set_option linter.unusedSimpArgs false
set_option linter.unusedVariables false
open Go.RowKit
set_option maxRecDepth 100000
set_option maxHeartbeats 4000000
attribute [local go_sem] Instr.field asAgg Soft.upon Soft.BW.cell_if Soft.BW.frozen_if Soft.cell_alloc_if Soft.frozen_alloc_if

/-- Numbers at the points of a table, within it. -/
structure CurveIn (ps : List Pt) (l : List Int) : Prop where
  len : l.length = ps.length
  at_ : ∀ j, j < ps.length → (pt ps j).lo ≤ iv l j ∧ iv l j ≤ (pt ps j).hi

/-- The curve that numbers choose. -/
def curK (ps : List Pt) (xs : List Int) (j : Nat) : Int := (pt ps j).lo + pickS xs j % ((pt ps j).hi - (pt ps j).lo + 1)
def curS (ps : List Pt) (xs : List Int) : Nat → List Int
  | 0 => []
  | k + 1 => curS ps xs k ++ [curK ps xs k]
theorem curS_len (ps : List Pt) (xs : List Int) : ∀ k, (curS ps xs k).length = k
  | 0 => rfl
  | k + 1 => by simp [curS, curS_len ps xs k]
theorem curS_at (ps : List Pt) (xs : List Int) : ∀ k j, j < k → iv (curS ps xs k) j = curK ps xs j
  | k + 1, j, h => by
    rw [curS, iv_snoc, curS_len]
    split
    · rename_i e; rw [e]
    · exact curS_at ps xs k j (by omega)
theorem curS_in {ps : List Pt} (h : TabOk ps) (xs : List Int) : CurveIn ps (curS ps xs ps.length) := by
  refine ⟨curS_len _ _ _, fun j hj => ?_⟩
  rw [curS_at _ _ _ _ hj]
  obtain ⟨_, _, _, h4, _, _⟩ := h.all j hj
  have a1 := Int.emod_nonneg (pickS xs j) (show (pt ps j).hi - (pt ps j).lo + 1 ≠ 0 by omega)
  have a2 := Int.emod_lt_of_pos (pickS xs j) (show 0 < (pt ps j).hi - (pt ps j).lo + 1 by omega)
  unfold curK
  omega

def CurvePost (ps : List Pt) (xs : List Int) (w : World) (e : Ending) (w' : World) : Prop :=
  ∃ (g n c : Nat), e = .returned (.slice (some ⟨g, 0, none⟩) n c) ∧ w.heap.size ≤ g ∧ Is.At w' ⟨some ⟨g, 0, none⟩, n, c, curS ps xs ps.length⟩ ∧ Below w.heap.size w w'

theorem R2_Curve (t : Tb) (s : Is) (w : World) (ht : t.At w) (hs : s.At w) (hok : TabOk t.ps) :
    Calls Try.prog 21 #[.agg #[.slice (t).p (t).n (t).c], .slice s.p s.n s.c] w (CurvePost t.ps s.xs w) := by
  obtain ⟨p, n, c, ps⟩ := t
  have ht' := ht
  obtain ⟨h1, h2, h3, h4, h5⟩ := ht'
  dsimp only at *
  have hpos := hok.pos
  have hle := hok.le
  obtain ⟨b, o, rfl, hb, hc⟩ := h5 (by omega)
  have HOK := Lib.hid hok
  have HL := Lib.hid h1
  have HC := Lib.hid hc
  have hn1 : 1 ≤ n := by omega
  have hn2 : n ≤ 40 := by omega
  clear hok h1 hc h5 hpos hle
  go_enter Try.func21, Try.ntmps21
  go_wp2_with fail
  go_loopw [5, 6, 7] (fun v i _ wr => ∃ (k : Nat), i = .int .i64 k ∧ k ≤ n ∧ OwnI wr (w.heap.size + 1) v (curS ps s.xs k) ∧ Below (w.heap.size + 1) (w.alloc (.cells #[.slice (some ⟨b, o, none⟩) n c] 33)) wr) (fun _ i _ _ => n - (intOf i).toNat)
  case atStart => exact ⟨0, rfl, by omega, World.ownsRow_nil _ _ _ _, Below.refl _ _⟩
  case round =>
    obtain ⟨k, rfl, hk, hown, hB⟩ := hrel
    have hsz := hB.size
    simp at hsz
    have hbox : wr.cell? ⟨w.heap.size, 0, none⟩ = some (.slice (some ⟨b, o, none⟩) n c) := by
      rw [hB.cell (by simp)]; simp
    have l0 := Soft.LtH.mk (b := w.heap.size) (w := wr) (by omega)
    have lb := Soft.LtH.mk (b := b) (w := wr) (by omega)
    have hbel : Below w.heap.size w wr := (((Below.refl _ _).alloc (Nat.le_refl _) _).trans (hB.mono (by omega)))
    have HBEL := Lib.hid hbel
    by_cases hlt : k < n
    · obtain ⟨c1, c2, c3⟩ := HC.out k hlt
      rw [← hbel.cell (p := ⟨b, o + k * 3, none⟩) hb] at c1
      rw [← hbel.cell (p := ⟨b, o + k * 3 + 1, none⟩) hb] at c2
      rw [← hbel.cell (p := ⟨b, o + k * 3 + 2, none⟩) hb] at c3
      have hs' := hs.below hbel
      have hk2 : (k : Int) < n := by omega
      obtain ⟨p1, p2, p3, p4, p5, _⟩ := HOK.out.all k (by have := HL.out; omega)
      obtain ⟨z, hz⟩ : ∃ z, z = pickS s.xs k % ((pt ps k).hi - (pt ps k).lo + 1) := ⟨_, rfl⟩
      have z1 := Int.emod_nonneg (pickS s.xs k) (show (pt ps k).hi - (pt ps k).lo + 1 ≠ 0 by omega)
      have z2 := Int.emod_lt_of_pos (pickS s.xs k) (show 0 < (pt ps k).hi - (pt ps k).lo + 1 by omega)
      rw [← hz] at z1 z2
      have HNX := Lib.hid (show curS ps s.xs (k + 1) = curS ps s.xs k ++ [(pt ps k).lo + z] by rw [curS]; unfold curK; rw [← hz])
      have hlen := curS_len ps s.xs k
      have HLEN := Lib.hid hlen
      have HZ := Lib.hid hz
      have HB := Lib.hid hB
      clear hz hlen hB hbel
      generalize pt ps k = q at *
      go_wp2_with fail
      (refine Soft.region1 [0, 1, 2, 3, 4, 5, 6, 7, 8, 9, 10, 11, 12, 13] 14 [15, 16] _ (by kernel_rfl) (by kernel_rfl) (by kernel_rfl) rfl rfl (by kernel_rfl) ?_; change Soft.wpSoft _ _ _ _ _ [_, _, _, _, _, _, _, _, _, _, _, _, _, _] _; (repeat (refine Soft.soft_step (fun K hK => ?_); go_simp; (try go_bits); first | (refine hK _ ?_; clear hK K) | (apply Exists.intro; refine ⟨fun x => ?_, hK _ ?_⟩; (first | (go_at_call 62; exact Calls.bel (R2_Pick s _ _ (by with_reducible repeat (first | exact hs' | refine Is.At.alloc ?_ _ | refine Is.At.bw ?_ _)))) | (go_at_call 37; exact Calls.bel (R2_Mod _ _ z _ (by omega) (by omega) HZ.out))); clear hK K))); refine Soft.soft_nil ?_)
      refine ⟨fun b => .slice (some ⟨b, 0, none⟩) 1 1, .cells #[.int .i64 (q.lo + z)] 3, fun x => by go_simp, fun kb x hnew => ?_⟩
      have n0 := hnew.cell 0
      simp at n0
      have hxb := x.below.size
      simp at hxb
      change wpList _ _ _ [_, _] _ _
      go_wp2_with (at_builtin; go_loud (refine app_int rfl (.tmp 20) (.tmp 34) rfl (w.heap.size + 1) _ _ rfl ((hown.alloc _).bw x) kb (q.lo + z) rfl n0 (by have := HLEN.out; omega) (by omega) ?_); intro v' w3 ho hb3)
      go_roundw
      case rel => exact ⟨k + 1, by simp, by omega, by rw [HNX.out]; exact ho, HB.out.trans ((((bel_alloc (bel_refl _) _).trans (x.below.mono (by simp))).mono (by omega)).trans hb3)⟩
      case measure => simp [intOf]; omega
    · obtain rfl : k = n := by omega
      have hlen := curS_len ps s.xs k
      have hne : curS ps s.xs k ≠ [] := fun h => by rw [h] at hlen; simp at hlen; omega
      obtain ⟨g, c5, rfl, hg5, hg6, hg7, hg8⟩ := hown.shape hne
      clear hB
      have HLEN := Lib.hid hlen
      clear hlen
      go_wp2_with fail
      go_ret
      refine ⟨g, (curS ps s.xs k).length, c5, rfl, by omega, ?_, HBEL.out⟩
      rw [HL.out]
      refine hown.at (fun i => ?_) (by have := HLEN.out; omega) hne
      by_cases hi : i < k
      · have hin := (curS_in HOK.out s.xs).at_ i (by have := HL.out; omega)
        obtain ⟨_, _, p3, _, p5, _⟩ := HOK.out.all i (by have := HL.out; omega)
        rw [HL.out] at hin
        exact ⟨by omega, by omega⟩
      · rw [show iv (curS ps s.xs k) i = 0 by simp [iv, List.getElem?_eq_none (show (curS ps s.xs k).length ≤ i by have := HLEN.out; omega)]]; exact ⟨by omega, by omega⟩

end Go.Proofs.Ytbjdgaeikihjbaa

namespace Go.Proofs.Ytbjdgaeikihjbaa
set_option linter.unusedSimpArgs false
set_option linter.unusedVariables false
open Go.RowKit
set_option maxRecDepth 100000
set_option maxHeartbeats 4000000
attribute [local go_sem] Instr.field asAgg Soft.upon Soft.BW.cell_if Soft.BW.frozen_if Soft.cell_alloc_if Soft.frozen_alloc_if

/-- The value of a curve at a place: a numerator and a denominator. -/
def valN (ps : List Pt) (l : List Int) (x : Int) : Int := iv l (kOf ps x) * ((pt ps (kOf ps x + 1)).x - x) + iv l (kOf ps x + 1) * (x - (pt ps (kOf ps x)).x)
def valD (ps : List Pt) (x : Int) : Int := (pt ps (kOf ps x + 1)).x - (pt ps (kOf ps x)).x

/-- The piece that a place of a table of two points or more lies on. -/
theorem kOf_two {ps : List Pt} (h : Tab2 ps) {x : Int} (h1 : firstX ps ≤ x) (h2 : x ≤ lastX ps) :
    kOf ps x + 1 < ps.length ∧ (∀ j, j < kOf ps x → (pt ps (j + 1)).x < x) ∧ (pt ps (kOf ps x)).x ≤ x ∧ x ≤ (pt ps (kOf ps x + 1)).x := by
  obtain ⟨a1, a2, a3⟩ := kOf_spec h.ok h1 h2
  have htwo := h.two
  have hlen : ¬ps.length = 1 := by omega
  have hpa : ∀ j, pieceAt ps j = (pt ps j, pt ps (j + 1)) := fun j => if_neg hlen
  rw [show nPieces ps = ps.length - 1 from if_neg hlen] at a1
  rw [hpa] at a3
  have key : ∀ j, j < kOf ps x → (pt ps (j + 1)).x < x := by
    intro j
    induction j with
    | zero =>
      intro hj
      have := a2 0 hj
      rw [hpa] at this
      have h3 : (pt ps 0).x ≤ x := h1
      apply Classical.byContradiction
      intro hc
      exact this ⟨h3, by dsimp only; omega⟩
    | succ j ih =>
      intro hj
      have := a2 (j + 1) hj
      rw [hpa] at this
      have h3 := ih (by omega)
      apply Classical.byContradiction
      intro hc
      exact this ⟨by dsimp only; omega, by dsimp only; omega⟩
  exact ⟨by omega, key, a3.1, a3.2⟩

theorem R2_Value (t : Tb) (s : Is) (x : Int) (w : World) (ht : t.At w) (hs : s.At w) (hok : Tab2 t.ps) (hl : CurveIn t.ps s.xs) (hx : firstX t.ps ≤ x ∧ x ≤ lastX t.ps) :
    Calls Try.prog 22 #[.agg #[.slice (t).p (t).n (t).c], .slice s.p s.n s.c, .int .i64 x] w fun e w' => e = .returned (.tuple #[.int .i64 (valN t.ps s.xs x), .int .i64 (valD t.ps x)]) ∧ Below w.heap.size w w' := by
  obtain ⟨p, n, c, ps⟩ := t
  obtain ⟨p', n', c', xs⟩ := s
  dsimp only at *
  obtain ⟨k1, k2, k3, k4⟩ := kOf_two hok hx.1 hx.2
  unfold valN valD
  generalize hK : kOf ps x = K at *
  clear hK
  have ht' := ht
  obtain ⟨h1, h2, h3, h4, h5⟩ := ht'
  obtain ⟨g1, g2, g3, g4, g6, g5⟩ := hs
  dsimp only at *
  have htwo := hok.two
  have hle := hok.ok.le
  have hcl := hl.len
  obtain ⟨b, o, rfl, hb, hc⟩ := h5 (by omega)
  obtain ⟨b', o', rfl, hb', hc'⟩ := g5 (by omega)
  have HOK := Lib.hid hok.ok
  have HL := Lib.hid h1
  have HC := Lib.hid hc
  have HC' := Lib.hid hc'
  have HK2 := Lib.hid k2
  have HIN := Lib.hid hl.at_
  have hnn : n = n' := by omega
  have hn1 : K + 1 < n := by omega
  have hn3 : K + 1 < n' := by omega
  have hn2 : n ≤ 40 := by omega
  obtain ⟨x1, x2⟩ := hx
  clear hok h1 hc hc' h5 g5 g1 htwo hle hcl hl k2 hnn g6 x1 x2
  go_enter Try.func22, Try.ntmps22
  go_wp2_with fail
  go_loopw [8, 9, 10] (fun i _ _ wr => ∃ (k : Nat), i = .int .i64 ((k : Int) + 1) ∧ k ≤ K ∧ Below (w.heap.size + 1) (w.alloc (.cells #[.slice (some ⟨b, o, none⟩) n c] 33)) wr) (fun i _ _ _ => K + 2 - (intOf i).toNat)
  case atStart => exact ⟨0, rfl, by omega, Below.refl _ _⟩
  case round =>
    obtain ⟨k, rfl, hk, hB⟩ := hrel
    have hsz := hB.size
    simp at hsz
    have hbox : wr.cell? ⟨w.heap.size, 0, none⟩ = some (.slice (some ⟨b, o, none⟩) n c) := by
      rw [hB.cell (by simp)]; simp
    have l0 := Soft.LtH.mk (b := w.heap.size) (w := wr) (by omega)
    have lb := Soft.LtH.mk (b := b) (w := wr) (by omega)
    have lb' := Soft.LtH.mk (b := b') (w := wr) (by omega)
    have hbel : Below w.heap.size w wr := (((Below.refl _ _).alloc (Nat.le_refl _) _).trans (hB.mono (by omega)))
    have HBEL := Lib.hid hbel
    obtain ⟨c1, _, _⟩ := HC.out k (by omega)
    obtain ⟨c2, _, _⟩ := HC.out (k + 1) (by omega)
    rw [← hbel.cell (p := ⟨b, o + k * 3, none⟩) hb] at c1
    rw [← hbel.cell (p := ⟨b, o + (k + 1) * 3, none⟩) hb] at c2
    have HB := Lib.hid hB
    have i1 : (k : Int) + 1 < n := by omega
    by_cases hlt : k < K
    · have hlt2 := HK2.out k hlt
      have HLT := Lib.hid hlt2
      clear hB hbel
      generalize (pt ps (k + 1)).x = u2 at *
      generalize (pt ps k).x = u1 at *
      go_wp2_with fail
      all_goals
        go_roundw
        case rel => exact ⟨k + 1, by simp, by omega, HB.out⟩
        case measure => simp [intOf]; omega
    · obtain rfl : k = K := by omega
      have d1 := HC'.out k (by omega)
      have d2 := HC'.out (k + 1) (by omega)
      rw [← hbel.cell (p := ⟨b', o' + k, none⟩) hb'] at d1
      rw [← hbel.cell (p := ⟨b', o' + (k + 1), none⟩) hb'] at d2
      obtain ⟨q1, q2, q3, q4, q5, _⟩ := HOK.out.all k (by have := HL.out; omega)
      obtain ⟨r1, r2, r3, r4, r5, r6⟩ := HOK.out.all (k + 1) (by have := HL.out; omega)
      have i3 := HIN.out k (by have := HL.out; omega)
      have i4 := HIN.out (k + 1) (by have := HL.out; omega)
      have m1 := mul_bd (y := iv xs k) 1000000000 1000000 1000000000000000 (by decide) (by omega) (by omega) (show 0 ≤ (pt ps (k + 1)).x - x by omega) (show (pt ps (k + 1)).x - x ≤ 1000000 by omega)
      have m2 := mul_bd (y := iv xs (k + 1)) 1000000000 1000000 1000000000000000 (by decide) (by omega) (by omega) (show 0 ≤ x - (pt ps k).x by omega) (show x - (pt ps k).x ≤ 1000000 by omega)
      obtain ⟨m11, m12⟩ := m1
      obtain ⟨m21, m22⟩ := m2
      clear hB hbel i3 i4 q3 q4 q5 r3 r4 r5 r6 hlt
      generalize hu2 : (pt ps (k + 1)).x = u2 at *
      generalize hu1 : (pt ps k).x = u1 at *
      generalize hv1 : iv xs k = v1 at *
      generalize hv2 : iv xs (k + 1) = v2 at *
      have HU1 := Lib.hid hu1; have HU2 := Lib.hid hu2; have HV1 := Lib.hid hv1; have HV2 := Lib.hid hv2
      clear hu1 hu2 hv1 hv2
      go_wp2_with fail
      go_quiet (fail)
      go_wp2
      go_ret2
      refine ⟨by simp [HU1.out, HU2.out, HV1.out, HV2.out], ?_⟩
      exact HBEL.out.trans (below_drewN (Below.refl _ _) _)

end Go.Proofs.Ytbjdgaeikihjbaa

namespace Go.Proofs.Ytbjdgaeikihjbaa
set_option linter.unusedSimpArgs false
set_option linter.unusedVariables false
open Go.RowKit

/-- Numbers that choose curves, and what is so. -/
structure Tr where
  c0 : Is
  c1 : Is
  c2 : Is
  place : Int
  dense : Int
structure Tr.At (w : World) (t : Tr) : Prop where
  c0 : t.c0.At w
  c1 : t.c1.At w
  c2 : t.c2.At w
  place : I64 t.place
  dense : I64 t.dense

theorem tdiv_i64 {a : Int} (h : I64 a) (b : Int) (hb : 1 ≤ b) : -9223372036854775808 ≤ a.tdiv b ∧ a.tdiv b ≤ 9223372036854775807 := by
  obtain ⟨h1, h2⟩ := h
  by_cases e : a = -9223372036854775808
  · subst e
    have h3 : (-9223372036854775808 : Int).tdiv b = -((9223372036854775808 : Int).tdiv b) := Int.neg_tdiv _ _
    have h4 := Int.ediv_le_self b (show (0 : Int) ≤ 9223372036854775808 by omega)
    have h5 := Int.ediv_nonneg (show (0 : Int) ≤ 9223372036854775808 by omega) (show 0 ≤ b by omega)
    rw [h3, Int.tdiv_eq_ediv_of_nonneg (show (0 : Int) ≤ 9223372036854775808 by omega)]
    omega
  · have := tdiv_bd a b hb
    omega

theorem Tb.At.drew {w : World} {t : Tb} (h : t.At w) : t.At w.drew := h
theorem Is.At.drew {w : World} {t : Is} (h : t.At w) : t.At w.drew := h
theorem Ho.At.drew {w : World} {t : Ho} (h : t.At w) : t.At w.drew := h
theorem Tk.At.drew {w : World} {t : Tk} (h : t.At w) : t.At w.drew := h

/-- A table's curve, and a place of the table: the two contracts, to be used one behind the other. -/
def CurveCall (t : Tb) (s : Is) (W : World) : Prop := t.At W → s.At W → Calls Try.prog 21 #[.agg #[.slice (t).p (t).n (t).c], .slice s.p s.n s.c] W (CurvePost t.ps s.xs W)
def ValueCall (t : Tb) (s : Is) (x : Int) (W : World) : Prop := ∀ g n c, t.At W → Is.At W ⟨some ⟨g, 0, none⟩, n, c, curS t.ps s.xs t.ps.length⟩ →
  Calls Try.prog 22 #[.agg #[.slice (t).p (t).n (t).c], .slice (some ⟨g, 0, none⟩) n c, .int .i64 x] W fun e w' => e = .returned (.tuple #[.int .i64 (valN t.ps (curS t.ps s.xs t.ps.length) x), .int .i64 (valD t.ps x)]) ∧ Below W.heap.size W w'
theorem R2_CurveAt (t : Tb) (s : Is) (x : Int) (W : World) (h : Tab2 t.ps) (hx : firstX t.ps ≤ x ∧ x ≤ lastX t.ps) : CurveCall t s W ∧ ValueCall t s x W :=
  ⟨fun h1 h2 => R2_Curve t s W h1 h2 h.ok, fun g n c h1 h2 => R2_Value t ⟨some ⟨g, 0, none⟩, n, c, curS t.ps s.xs t.ps.length⟩ x W h1 h2 h (curS_in h.ok s.xs) hx⟩

end Go.Proofs.Ytbjdgaeikihjbaa
