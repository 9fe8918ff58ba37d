/-
  cond: its look at ranges, weights and tables: isWithin, isPart, isWeight, CheckWeight, isTable; what it adds and divides: plus, minus, down, up.
  Several arrays that a call grows, side by side, and the tables that what they hold leads to.
  Conditions: each theorem's own premises.
-/
import Derived.Test.YteagdcgmmdiakaaGreatP09
import Derived.Test.YteagdcgmmdiakaaGreatP06
namespace Go.Proofs.YteagdcgmmdiakaaGreat
set_option linter.unusedSimpArgs false
set_option linter.unusedVariables false
open Go.RowKit
set_option maxRecDepth 100000
set_option maxHeartbeats 4000000
attribute [local go_sem] Instr.field asAgg Soft.upon Soft.upon0 Soft.stepC Soft.BW.cell_if Soft.BW.frozen_if Soft.cell_alloc_if Soft.frozen_alloc_if

theorem cond_isWithin (n lo hi : Int) (w : World) (v : Bool) (hv : v = decide (lo ≤ n ∧ n ≤ hi)) :
    Calls Tryz.prog 39 #[.int .i64 n, .int .i64 lo, .int .i64 hi] w fun e w' => e = .returned (.bool v) ∧ w' = w := by
  have HV := Lib.hid hv; clear hv
  go_enter Tryz.func39, Tryz.ntmps39
  go_wp2
  all_goals
    go_ret
    refine ⟨ret_bool ?_, rfl⟩
    rw [HV.out, Bool.eq_iff_iff]
    simp
    omega

theorem cond_isPart (r : Rg) (lo hi : Int) (w : World) (v : Bool) (hv : v = decide (isPart r lo hi)) :
    Calls Tryz.prog 88 #[.agg #[.int .i64 (r).lo, .int .i64 (r).hi], .int .i64 lo, .int .i64 hi] w fun e w' => e = .returned (.bool v) ∧ Below w.heap.size w w' := by
  have HV := Lib.hid hv; clear hv
  go_enter Tryz.func88, Tryz.ntmps88
  go_wp2
  all_goals
    go_ret
    refine ⟨ret_bool ?_, ?_⟩
    · rw [HV.out, Bool.eq_iff_iff]
      simp only [decide_eq_true_eq, Bool.false_eq_true]
      unfold isPart
      first | omega | (simp only [false_iff]; omega)
    · (repeat (first | with_reducible exact bel_refl _ | with_reducible refine bel_alloc ?_ _ | with_reducible refine bel_bw _ ?_ | with_reducible refine bel_drew ?_ | with_reducible refine bel_drewN _ ?_ | ((with_reducible refine bel_set ?_ ?_ _); rotate_left; focus (first | (simp; done) | omega | (simp; omega))) | refine bel_step ?_ (by with_reducible assumption)))

/-- A valid weight. -/
def isWt (x : Wt) : Prop := isPart x.mass 0 1000000000 ∧ isPart x.along (-1000000) 1000000 ∧ isPart x.high 0 1000000
instance (x : Wt) : Decidable (isWt x) := inferInstanceAs (Decidable (_ ∧ _ ∧ _))

theorem cond_isWeight (x : Wt) (w : World) (v : Bool) (hv : v = decide (isWt x)) :
    Calls Tryz.prog 40 #[.agg #[.int .i64 ((x).mass).lo, .int .i64 ((x).mass).hi, .int .i64 ((x).along).lo, .int .i64 ((x).along).hi, .int .i64 ((x).high).lo, .int .i64 ((x).high).hi]] w fun e w' => e = .returned (.bool v) ∧ Below w.heap.size w w' := by
  have HV := Lib.hid hv; clear hv
  by_cases c1 : isPart x.mass 0 1000000000
  · by_cases c2 : isPart x.along (-1000000) 1000000
    · have HE := Lib.hid (show v = decide (isPart x.high 0 1000000) by rw [HV.out]; unfold isWt; simp [c1, c2])
      have C1 := Lib.hid c1; have C2 := Lib.hid c2; clear c1 c2 HV
      go_enter Tryz.func40, Tryz.ntmps40
      go_wp2_with (first | (go_at_call 88; (with_reducible refine (cond_isPart x.mass _ _ _ true (decide_eq_true C1.out).symm).mono ?_); rintro e w_ ⟨rfl, hb_⟩; obtain ⟨y1, rfl⟩ := Soft.BW.mk hb_; clear hb_) | (go_at_call 88; (with_reducible refine (cond_isPart x.along _ _ _ true (decide_eq_true C2.out).symm).mono ?_); rintro e w_ ⟨rfl, hb_⟩; obtain ⟨y2, rfl⟩ := Soft.BW.mk hb_; clear hb_) | (go_at_call 88; (with_reducible refine (cond_isPart x.high _ _ _ v HE.out).mono ?_); rintro e w_ ⟨rfl, hb_⟩; obtain ⟨y3, rfl⟩ := Soft.BW.mk hb_; clear hb_))
      go_ret
      refine ⟨rfl, ?_⟩
      (repeat (first | with_reducible exact bel_refl _ | with_reducible refine bel_alloc ?_ _ | with_reducible refine bel_bw _ ?_ | with_reducible refine bel_drew ?_ | with_reducible refine bel_drewN _ ?_ | ((with_reducible refine bel_set ?_ ?_ _); rotate_left; focus (first | (simp; done) | omega | (simp; omega))) | refine bel_step ?_ (by with_reducible assumption)))
    · have HE := Lib.hid (show v = false by rw [HV.out]; unfold isWt; simp [c2])
      have C1 := Lib.hid c1; have C2 := Lib.hid c2; clear c1 c2 HV
      go_enter Tryz.func40, Tryz.ntmps40
      go_wp2_with (first | (go_at_call 88; (with_reducible refine (cond_isPart x.mass _ _ _ true (decide_eq_true C1.out).symm).mono ?_); rintro e w_ ⟨rfl, hb_⟩; obtain ⟨y1, rfl⟩ := Soft.BW.mk hb_; clear hb_) | (go_at_call 88; (with_reducible refine (cond_isPart x.along _ _ _ false (decide_eq_false C2.out).symm).mono ?_); rintro e w_ ⟨rfl, hb_⟩; obtain ⟨y2, rfl⟩ := Soft.BW.mk hb_; clear hb_))
      go_ret
      refine ⟨ret_bool HE.out.symm, ?_⟩
      (repeat (first | with_reducible exact bel_refl _ | with_reducible refine bel_alloc ?_ _ | with_reducible refine bel_bw _ ?_ | with_reducible refine bel_drew ?_ | with_reducible refine bel_drewN _ ?_ | ((with_reducible refine bel_set ?_ ?_ _); rotate_left; focus (first | (simp; done) | omega | (simp; omega))) | refine bel_step ?_ (by with_reducible assumption)))
  · have HE := Lib.hid (show v = false by rw [HV.out]; unfold isWt; simp [c1])
    have C1 := Lib.hid c1; clear c1 HV
    go_enter Tryz.func40, Tryz.ntmps40
    go_wp2_with (go_at_call 88; (with_reducible refine (cond_isPart x.mass _ _ _ false (decide_eq_false C1.out).symm).mono ?_); rintro e w_ ⟨rfl, hb_⟩; obtain ⟨y1, rfl⟩ := Soft.BW.mk hb_; clear hb_)
    go_ret
    refine ⟨ret_bool HE.out.symm, ?_⟩
    (repeat (first | with_reducible exact bel_refl _ | with_reducible refine bel_alloc ?_ _ | with_reducible refine bel_bw _ ?_ | with_reducible refine bel_drew ?_ | with_reducible refine bel_drewN _ ?_ | ((with_reducible refine bel_set ?_ ?_ _); rotate_left; focus (first | (simp; done) | omega | (simp; omega))) | refine bel_step ?_ (by with_reducible assumption)))

theorem cond_CheckWeight (x : Wt) (w : World) :
    Calls Tryz.prog 60 #[.agg #[.int .i64 ((x).mass).lo, .int .i64 ((x).mass).hi, .int .i64 ((x).along).lo, .int .i64 ((x).along).hi, .int .i64 ((x).high).lo, .int .i64 ((x).high).hi]] w fun e w' => e = .returned (.int .i64 (if isWt x then 0 else 31)) ∧ Below w.heap.size w w' := by
  by_cases c1 : isWt x
  · have C1 := Lib.hid c1
    rw [if_pos c1]
    clear c1
    go_enter Tryz.func60, Tryz.ntmps60
    go_wp2_with (go_at_call 40; (with_reducible refine (cond_isWeight x _ true (decide_eq_true C1.out).symm).mono ?_); rintro e w_ ⟨rfl, hb_⟩; obtain ⟨y1, rfl⟩ := Soft.BW.mk hb_; clear hb_)
    go_ret
    refine ⟨rfl, ?_⟩
    (repeat (first | with_reducible exact bel_refl _ | with_reducible refine bel_alloc ?_ _ | with_reducible refine bel_bw _ ?_ | with_reducible refine bel_drew ?_ | with_reducible refine bel_drewN _ ?_ | ((with_reducible refine bel_set ?_ ?_ _); rotate_left; focus (first | (simp; done) | omega | (simp; omega))) | refine bel_step ?_ (by with_reducible assumption)))
  · have C1 := Lib.hid c1
    rw [if_neg c1]
    clear c1
    go_enter Tryz.func60, Tryz.ntmps60
    go_wp2_with (go_at_call 40; (with_reducible refine (cond_isWeight x _ false (decide_eq_false C1.out).symm).mono ?_); rintro e w_ ⟨rfl, hb_⟩; obtain ⟨y1, rfl⟩ := Soft.BW.mk hb_; clear hb_)
    go_ret
    refine ⟨rfl, ?_⟩
    (repeat (first | with_reducible exact bel_refl _ | with_reducible refine bel_alloc ?_ _ | with_reducible refine bel_bw _ ?_ | with_reducible refine bel_drew ?_ | with_reducible refine bel_drewN _ ?_ | ((with_reducible refine bel_set ?_ ?_ _); rotate_left; focus (first | (simp; done) | omega | (simp; omega))) | refine bel_step ?_ (by with_reducible assumption)))

theorem cond_down (a b : Int) (w : World) (h1 : -9223372036854775807 ≤ a) (h2 : a ≤ 9223372036854775807) (hb : 1 ≤ b) :
    Calls Tryz.prog 114 #[.int .i64 a, .int .i64 b] w fun e w' => e = .returned (.int .i64 (a / b)) ∧ w' = w := by
  have hbd := tdiv_bd a b hb
  obtain ⟨r1, r2⟩ : -9223372036854775808 ≤ a.tdiv b - 1 ∧ a.tdiv b - 1 ≤ 9223372036854775807 := by omega
  clear hbd
  go_enter Tryz.func114, Tryz.ntmps114
  go_wp2
  all_goals
    go_ret
    refine ⟨ret_int ?_, rfl⟩
    first | exact (tdiv_neg a b hb (by assumption)).symm | exact (tdiv_pos a b hb (by assumption)).symm

theorem cond_plus (a b : Rg) (w : World) (h1 : -4000000000000000000 ≤ a.lo ∧ a.lo ≤ 4000000000000000000) (h2 : -4000000000000000000 ≤ a.hi ∧ a.hi ≤ 4000000000000000000) (h3 : -4000000000000000000 ≤ b.lo ∧ b.lo ≤ 4000000000000000000) (h4 : -4000000000000000000 ≤ b.hi ∧ b.hi ≤ 4000000000000000000) :
    Calls Tryz.prog 61 #[.agg #[.int .i64 (a).lo, .int .i64 (a).hi], .agg #[.int .i64 (b).lo, .int .i64 (b).hi]] w fun e w' => e = .returned (.agg #[.int .i64 (addR a b).lo, .int .i64 (addR a b).hi]) ∧ Below w.heap.size w w' := by
  obtain ⟨h11, h12⟩ := h1
  obtain ⟨h21, h22⟩ := h2
  obtain ⟨h31, h32⟩ := h3
  obtain ⟨h41, h42⟩ := h4
  go_enter Tryz.func61, Tryz.ntmps61
  go_wp2
  refine bodyPost_ret (v := .agg #[.int .i64 (a.lo + b.lo), .int .i64 (a.hi + b.hi)]) (by simp [results, Tryz.results61, go_sem]) rfl ?_
  refine ⟨rfl, ?_⟩
  (repeat (first | with_reducible exact bel_refl _ | with_reducible refine bel_alloc ?_ _ | with_reducible refine bel_bw _ ?_ | with_reducible refine bel_drew ?_ | with_reducible refine bel_drewN _ ?_ | ((with_reducible refine bel_set ?_ ?_ _); rotate_left; focus (first | (simp; done) | omega | (simp; omega))) | refine bel_step ?_ (by with_reducible assumption)))

/-- A table with values and places within limits. -/
def isTab (ps : List Pt) (lo hi most : Int) : Prop := TabOk ps ∧ ∀ k, k < ps.length → lo ≤ (pt ps k).lo ∧ (pt ps k).hi ≤ hi ∧ (pt ps k).x ≤ most
instance (ps : List Pt) (lo hi most : Int) : Decidable (isTab ps lo hi most) := inferInstanceAs (Decidable (_ ∧ _))

/-- A point out of the limits. -/
def outPt (p : Pt) (lo hi most : Int) : Prop := p.lo < lo ∨ hi < p.hi ∨ most < p.x
instance (p : Pt) (lo hi most : Int) : Decidable (outPt p lo hi most) := inferInstanceAs (Decidable (_ ∨ _ ∨ _))

theorem isOut (p : Pt) (lo hi most : Int) (b1 b2 b3 : Nat) (w : World) (h1 : w.cell? ⟨b1, 0, none⟩ = some (.int .i64 lo)) (h2 : w.cell? ⟨b2, 0, none⟩ = some (.int .i64 hi)) (h3 : w.cell? ⟨b3, 0, none⟩ = some (.int .i64 most)) (v : Bool) (hv : v = decide (outPt p lo hi most)) :
    Calls Tryz.prog 95 #[.agg #[.int .i64 (p).x, .int .i64 (p).lo, .int .i64 (p).hi], .pointer (some ⟨b1, 0, none⟩), .pointer (some ⟨b2, 0, none⟩), .pointer (some ⟨b3, 0, none⟩)] w fun e w' => e = .returned (.bool v) ∧ Below w.heap.size w w' := by
  have HV := Lib.hid hv; clear hv
  have l1 := Soft.LtH.mk (b := b1) (w := w) (World.block_lt_of_cell? _ _ h1)
  have l2 := Soft.LtH.mk (b := b2) (w := w) (World.block_lt_of_cell? _ _ h2)
  have l3 := Soft.LtH.mk (b := b3) (w := w) (World.block_lt_of_cell? _ _ h3)
  go_enter Tryz.func95, Tryz.ntmps95
  go_wp2
  all_goals
    go_ret
    refine ⟨ret_bool ?_, ?_⟩
    · rw [HV.out, Bool.eq_iff_iff]
      simp only [decide_eq_true_eq, Bool.false_eq_true, Bool.or_eq_true, iff_true, true_iff, iff_false, false_iff]
      unfold outPt
      omega
    · (repeat (first | with_reducible exact bel_refl _ | with_reducible refine bel_alloc ?_ _ | with_reducible refine bel_bw _ ?_ | with_reducible refine bel_drew ?_ | with_reducible refine bel_drewN _ ?_ | ((with_reducible refine bel_set ?_ ?_ _); rotate_left; focus (first | (simp; done) | omega | (simp; omega))) | refine bel_step ?_ (by with_reducible assumption)))

theorem least_out {ps : List Pt} {lo hi most : Int} (h : ∃ k, k < ps.length ∧ outPt (pt ps k) lo hi most) : ∃ m, m < ps.length ∧ outPt (pt ps m) lo hi most ∧ ∀ j, j < m → ¬outPt (pt ps j) lo hi most := by
  obtain ⟨k, hk, hn⟩ := h
  induction k using Nat.strongRecOn with
  | _ k ih =>
    by_cases hex : ∃ j, j < k ∧ outPt (pt ps j) lo hi most
    · obtain ⟨j, hj, hjn⟩ := hex
      exact ih j hj (by omega) hjn
    · exact ⟨k, hk, hn, fun j hj h => hex ⟨j, hj, h⟩⟩

/-- The boxes of the limits. -/
structure Lims (w : World) (b1 b2 b3 : Nat) (lo hi most : Int) : Prop where
  h1 : w.cell? ⟨b1, 0, none⟩ = some (.int .i64 lo)
  h2 : w.cell? ⟨b2, 0, none⟩ = some (.int .i64 hi)
  h3 : w.cell? ⟨b3, 0, none⟩ = some (.int .i64 most)
theorem Lims.same {w w' : World} {b1 b2 b3 : Nat} {lo hi most : Int} (h : Lims w b1 b2 b3 lo hi most) (hb : Below w.heap.size w w') : Lims w' b1 b2 b3 lo hi most :=
  ⟨(hb.cell (p := ⟨b1, 0, none⟩) (World.block_lt_of_cell? _ _ h.h1)).trans h.h1, (hb.cell (p := ⟨b2, 0, none⟩) (World.block_lt_of_cell? _ _ h.h2)).trans h.h2, (hb.cell (p := ⟨b3, 0, none⟩) (World.block_lt_of_cell? _ _ h.h3)).trans h.h3⟩

theorem indexOut (t : Tb) (lo hi most : Int) (b1 b2 b3 : Nat) (w : World) (ht : t.At w) (hl : Lims w b1 b2 b3 lo hi most) (hn : 1 ≤ t.n) (m : Nat) (hm : m ≤ t.ps.length) (hpos : ∀ j, j < m → ¬outPt (pt t.ps j) lo hi most) (hneg : m < t.ps.length → outPt (pt t.ps m) lo hi most) (r : Int) (hr : r = if m < t.ps.length then (m : Int) else -1) :
    Calls Tryz.prog 142 #[.slice (t).p (t).n (t).c, .func (.func 95) #[] #[.pointer (some ⟨b1, 0, none⟩), .pointer (some ⟨b2, 0, none⟩), .pointer (some ⟨b3, 0, none⟩)]] w fun e w' => e = .returned (.int .i64 r) ∧ Below w.heap.size w w' := by
  obtain ⟨p, n, c, ps⟩ := t
  have ht' := ht
  obtain ⟨h1, h2, h3, h4, h5⟩ := ht'
  dsimp only at *
  obtain ⟨b, o, rfl, hb, hc⟩ := h5 (by omega)
  rw [h1] at hm hneg hr
  have HR := Lib.hid hr; clear hr
  have HP := Lib.hid hpos; clear hpos
  have HN := Lib.hid hneg; clear hneg
  clear h1 h5 hc hb
  go_enter Tryz.func142, Tryz.ntmps142
  go_wp2_with fail
  go_loopw [8] (fun i wr => ∃ k : Nat, k ≤ m ∧ i = .int .i64 k ∧ Below w.heap.size w wr) (fun i _ => m + 1 - (intOf i).toNat)
  case atStart => exact ⟨0, Nat.zero_le _, rfl, Below.refl _ _⟩
  case round =>
    obtain ⟨k, hk, rfl, hB⟩ := hrel
    by_cases hlt : k < n
    · have htr := ht.same hB
      have hlr := hl.same hB
      obtain ⟨_, _, _, _, h5⟩ := htr
      obtain ⟨b', o', e, hb, hc⟩ := h5 (by dsimp only; omega)
      cases e
      dsimp only at *
      obtain ⟨c1, c2, c3⟩ := hc k hlt
      clear h5 hc
      have HB := Lib.hid hB; clear hB
      by_cases hkm : k = m
      · have hng := HN.out (by omega)
        rw [← hkm] at hng
        have HNG := Lib.hid hng; clear hng
        have HKM := Lib.hid (show (k : Int) = r by rw [HR.out, if_pos (by omega), hkm])
        clear hkm
        generalize pt ps k = q at *
        go_wp2_with (go_at_call 95; (with_reducible refine (isOut q lo hi most b1 b2 b3 _ hlr.h1 hlr.h2 hlr.h3 true (decide_eq_true HNG.out).symm).mono ?_); rintro e w_ ⟨rfl, hb_⟩; obtain ⟨y1, rfl⟩ := Soft.BW.mk hb_; clear hb_)
        go_ret
        refine ⟨ret_int HKM.out, ?_⟩
        exact HB.out.trans (y1.below.mono HB.out.size)
      · have hng := HP.out k (by omega)
        have HNG := Lib.hid hng; clear hng
        have hk' : k < m := by omega
        clear hkm
        generalize pt ps k = q at *
        go_wp2_with (go_at_call 95; (with_reducible refine (isOut q lo hi most b1 b2 b3 _ hlr.h1 hlr.h2 hlr.h3 false (decide_eq_false HNG.out).symm).mono ?_); rintro e w_ ⟨rfl, hb_⟩; obtain ⟨y1, rfl⟩ := Soft.BW.mk hb_; clear hb_)
        go_roundw
        case rel => exact ⟨k + 1, by omega, by simp, HB.out.trans (y1.below.mono HB.out.size)⟩
        case measure => simp [intOf]; omega
    · have hkn : ¬((k : Int) < n) := by omega
      have HKM := Lib.hid (show (-1 : Int) = r by rw [HR.out, if_neg (by omega)])
      have HB := Lib.hid hB; clear hB
      go_wp2_with fail
      go_ret
      exact ⟨ret_int HKM.out, HB.out⟩

theorem containsOut (t : Tb) (lo hi most : Int) (b1 b2 b3 : Nat) (w : World) (ht : t.At w) (hl : Lims w b1 b2 b3 lo hi most) (hn : 1 ≤ t.n) (v : Bool) (hv : v = decide (∃ k, k < t.ps.length ∧ outPt (pt t.ps k) lo hi most)) :
    Calls Tryz.prog 94 #[.slice (t).p (t).n (t).c, .func (.func 95) #[] #[.pointer (some ⟨b1, 0, none⟩), .pointer (some ⟨b2, 0, none⟩), .pointer (some ⟨b3, 0, none⟩)]] w fun e w' => e = .returned (.bool v) ∧ Below w.heap.size w w' := by
  by_cases h : ∃ k, k < t.ps.length ∧ outPt (pt t.ps k) lo hi most
  · obtain rfl : v = true := by rw [hv]; exact decide_eq_true h
    obtain ⟨m, h1, h2, h3⟩ := least_out h
    have C := Lib.hid (indexOut t lo hi most b1 b2 b3 w ht hl hn m (by omega) h3 (fun _ => h2) m (if_pos h1).symm)
    clear h3 hv h h1 h2
    have hm0 : (0 : Int) ≤ m := by omega
    go_enter Tryz.func94, Tryz.ntmps94
    go_wp2_with (go_at_call 142; (with_reducible refine (C.out).mono ?_); rintro e w_ ⟨rfl, hb_⟩; obtain ⟨y1, rfl⟩ := Soft.BW.mk hb_; clear hb_)
    go_ret
    refine ⟨by simp, ?_⟩
    (repeat (first | with_reducible exact bel_refl _ | with_reducible refine bel_alloc ?_ _ | with_reducible refine bel_bw _ ?_ | with_reducible refine bel_drew ?_ | with_reducible refine bel_drewN _ ?_ | ((with_reducible refine bel_set ?_ ?_ _); rotate_left; focus (first | (simp; done) | omega | (simp; omega))) | refine bel_step ?_ (by with_reducible assumption)))
  · obtain rfl : v = false := by rw [hv]; exact decide_eq_false h
    have C := Lib.hid (indexOut t lo hi most b1 b2 b3 w ht hl hn t.ps.length (Nat.le_refl _) (fun j hj hx => h ⟨j, hj, hx⟩) (fun hx => absurd hx (Nat.lt_irrefl _)) (-1) (if_neg (Nat.lt_irrefl _)).symm)
    clear hv h
    go_enter Tryz.func94, Tryz.ntmps94
    go_wp2_with (go_at_call 142; (with_reducible refine (C.out).mono ?_); rintro e w_ ⟨rfl, hb_⟩; obtain ⟨y1, rfl⟩ := Soft.BW.mk hb_; clear hb_)
    go_ret
    refine ⟨by simp, ?_⟩
    (repeat (first | with_reducible exact bel_refl _ | with_reducible refine bel_alloc ?_ _ | with_reducible refine bel_bw _ ?_ | with_reducible refine bel_drew ?_ | with_reducible refine bel_drewN _ ?_ | ((with_reducible refine bel_set ?_ ?_ _); rotate_left; focus (first | (simp; done) | omega | (simp; omega))) | refine bel_step ?_ (by with_reducible assumption)))

theorem cond_isTable (t : Tb) (lo hi most : Int) (w : World) (ht : t.At w) (v : Bool) (hv : v = decide (isTab t.ps lo hi most)) :
    Calls Tryz.prog 42 #[.agg #[.slice (t).p (t).n (t).c], .int .i64 lo, .int .i64 hi, .int .i64 most] w fun e w' => e = .returned (.bool v) ∧ Below w.heap.size w w' := by
  by_cases hok : TabOk t.ps
  · have hn : 1 ≤ t.n := by rw [← ht.1]; exact hok.pos
    have he : tabErr t.ps = 0 := if_pos hok
    have C := Lib.hid (fun W hW hL => containsOut t lo hi most (w.heap.size + 1) (w.heap.size + 2) (w.heap.size + 3) W hW hL hn (!v) (by
      rw [hv, Bool.eq_iff_iff]
      simp only [Bool.not_eq_true', decide_eq_false_iff_not, decide_eq_true_eq]
      unfold isTab outPt
      constructor
      · intro h
        apply Classical.byContradiction
        intro hx
        refine h ⟨hok, fun k hk => ?_⟩
        have : ¬((pt t.ps k).lo < lo ∨ hi < (pt t.ps k).hi ∨ most < (pt t.ps k).x) := fun h' => hx ⟨k, hk, h'⟩
        omega
      · rintro ⟨k, hk, hx⟩ ⟨_, hy⟩
        have := hy k hk
        omega))
    clear hv hok
    go_enter Tryz.func42, Tryz.ntmps42
    go_wp2_with (first | (go_at_call 52; (with_reducible refine (fix_CheckTable t _ (by repeat (first | exact ht | refine Tb.At.alloc ?_ _ | refine Tb.At.bw ?_ _))).mono ?_); rintro e w_ ⟨rfl, hb_⟩; obtain ⟨y1, rfl⟩ := Soft.BW.mk hb_; clear hb_) | (go_at_call 94; (with_reducible refine (C.out _ (by repeat (first | exact ht | refine Tb.At.alloc ?_ _ | refine Tb.At.bw ?_ _)) (Lims.mk (HasBlk.cell (c := #[.int .i64 lo]) (t := 3) (by simp only [HasBlk, Soft.BW.heap_if, Soft.heap_alloc_if, Soft.heap_new, Soft.heap_new1, Soft.heap_new2, Soft.heap_new3, Soft.heap_new4, Soft.heap_new5]) 0) (HasBlk.cell (c := #[.int .i64 hi]) (t := 3) (by simp only [HasBlk, Soft.BW.heap_if, Soft.heap_alloc_if, Soft.heap_new, Soft.heap_new1, Soft.heap_new2, Soft.heap_new3, Soft.heap_new4, Soft.heap_new5]) 0) (HasBlk.cell (c := #[.int .i64 most]) (t := 3) (by simp only [HasBlk, Soft.BW.heap_if, Soft.heap_alloc_if, Soft.heap_new, Soft.heap_new1, Soft.heap_new2, Soft.heap_new3, Soft.heap_new4, Soft.heap_new5]) 0))).mono ?_); rintro e w_ ⟨rfl, hb_⟩; obtain ⟨y2, rfl⟩ := Soft.BW.mk hb_; clear hb_))
    go_ret
    refine ⟨by simp, ?_⟩
    (repeat (first | with_reducible exact bel_refl _ | with_reducible refine bel_alloc ?_ _ | with_reducible refine bel_bw _ ?_ | with_reducible refine bel_drew ?_ | with_reducible refine bel_drewN _ ?_ | ((with_reducible refine bel_set ?_ ?_ _); rotate_left; focus (first | (simp; done) | omega | (simp; omega))) | refine bel_step ?_ (by with_reducible assumption)))
  · have he : tabErr t.ps = 11 := if_neg hok
    have HV := Lib.hid (show v = false by rw [hv]; exact decide_eq_false (fun h => hok h.1))
    clear hv hok
    go_enter Tryz.func42, Tryz.ntmps42
    go_wp2_with (go_at_call 52; (with_reducible refine (fix_CheckTable t _ (by repeat (first | exact ht | refine Tb.At.alloc ?_ _ | refine Tb.At.bw ?_ _))).mono ?_); rintro e w_ ⟨rfl, hb_⟩; obtain ⟨y1, rfl⟩ := Soft.BW.mk hb_; clear hb_)
    go_ret
    refine ⟨ret_bool HV.out.symm, ?_⟩
    (repeat (first | with_reducible exact bel_refl _ | with_reducible refine bel_alloc ?_ _ | with_reducible refine bel_bw _ ?_ | with_reducible refine bel_drew ?_ | with_reducible refine bel_drewN _ ?_ | ((with_reducible refine bel_set ?_ ?_ _); rotate_left; focus (first | (simp; done) | omega | (simp; omega))) | refine bel_step ?_ (by with_reducible assumption)))

end Go.Proofs.YteagdcgmmdiakaaGreat

namespace Go.Proofs.YteagdcgmmdiakaaGreat
set_option linter.unusedSimpArgs false
set_option linter.unusedVariables false
open Go.RowKit
set_option maxRecDepth 100000
set_option maxHeartbeats 4000000

/-- An array of the call's own: its elements' type and size, its cells, how many elements it has, and the slice. -/
structure Row where
  e : TypeId
  sz : Nat
  cs : List Value
  n : Nat
  v : Value

def Row.own (r : Row) (w : World) (B : Nat) : Prop := w.ownsRow B r.e r.sz r.v r.n r.cs

/-- A table lies where no array grows. -/
def TbFree (w : World) (B : Nat) (rows : List Row) (t : Tb) : Prop :=
  t.At w ∧ (t.n ≠ 0 → ∀ b o, t.p = some ⟨b, o, none⟩ → B ≤ b ∧ ∀ (i : Nat) (r : Row), rows[i]? = some r → r.v.ownBlock ≠ some b)

structure Heap (w : World) (B : Nat) (rows : List Row) (tabs : List Tb) : Prop where
  own : ∀ (i : Nat) (r : Row), rows[i]? = some r → r.own w B
  dis : ∀ (i j : Nat) (r s : Row), rows[i]? = some r → rows[j]? = some s → i ≠ j → ∀ g, r.v.ownBlock = some g → s.v.ownBlock ≠ some g
  tab : ∀ t ∈ tabs, TbFree w B rows t

theorem ownsRow_same {w W : World} {B : Nat} {e : TypeId} {sz : Nat} {v : Value} {n : Nat} {cs : List Value} (h : w.ownsRow B e sz v n cs) (hb : Below w.heap.size w W) : W.ownsRow B e sz v n cs := by
  refine ⟨h.1, ?_⟩
  rcases h.2 with hn | ⟨g, cap, cur, rfl, hb', hgg, rest⟩
  · exact .inl hn
  · exact .inr ⟨g, cap, cur, rfl, hb', (hb.block g (Array.getElem?_eq_some_iff.1 hgg).1).trans hgg, rest⟩
theorem ownsRow_set {w : World} {B : Nat} {e : TypeId} {sz : Nat} {v : Value} {n : Nat} {cs : List Value} (h : w.ownsRow B e sz v n cs) {p : Addr} (hp : p.block < B) (u : Value) : (w.setCell p u).ownsRow B e sz v n cs := by
  refine ⟨h.1, ?_⟩
  rcases h.2 with hn | ⟨g, cap, cur, rfl, hb', hgg, rest⟩
  · exact .inl hn
  · exact .inr ⟨g, cap, cur, rfl, hb', (Below.heap_setCell w p u g (by omega)).trans hgg, rest⟩
theorem ownsRow_row {w : World} {B : Nat} {e : TypeId} {sz : Nat} {v : Value} {n : Nat} {cs : List Value} (h : w.ownsRow B e sz v n cs) {X : Nat} (hp : X < B) (us : Array Value) : (w.setRow X us).ownsRow B e sz v n cs := by
  refine ⟨h.1, ?_⟩
  rcases h.2 with hn | ⟨g, cap, cur, rfl, hb', hgg, rest⟩
  · exact .inl hn
  · exact .inr ⟨g, cap, cur, rfl, hb', (setRow_other w X g us (by omega)).trans hgg, rest⟩

theorem TbFree.same {w W : World} {B : Nat} {rows : List Row} {t : Tb} (h : TbFree w B rows t) (hb : Below w.heap.size w W) : TbFree W B rows t := ⟨h.1.same hb, h.2⟩
theorem TbFree.set {w : World} {B : Nat} {rows : List Row} {t : Tb} (h : TbFree w B rows t) {p : Addr} (hp : p.block < B) (u : Value) : TbFree (w.setCell p u) B rows t := by
  refine ⟨?_, h.2⟩
  by_cases hn : t.n = 0
  · exact ⟨h.1.1, h.1.2.1, h.1.2.2.1, h.1.2.2.2.1, fun hne => absurd hn hne⟩
  · exact h.1.setCell (fun b o e => by have := (h.2 hn b o e).1; omega) u
theorem TbFree.row {w : World} {B : Nat} {rows : List Row} {t : Tb} (h : TbFree w B rows t) {X : Nat} (hp : X < B) (us : Array Value) : TbFree (w.setRow X us) B rows t := by
  refine ⟨?_, h.2⟩
  by_cases hn : t.n = 0
  · exact ⟨h.1.1, h.1.2.1, h.1.2.2.1, h.1.2.2.2.1, fun hne => absurd hn hne⟩
  · exact h.1.rowx (fun b o e => by have := (h.2 hn b o e).1; omega) us

theorem Heap.same {w W : World} {B : Nat} {rows : List Row} {tabs : List Tb} (h : Heap w B rows tabs) (hb : Below w.heap.size w W) : Heap W B rows tabs :=
  ⟨fun i r hi => ownsRow_same (h.own i r hi) hb, h.dis, fun t ht => (h.tab t ht).same hb⟩
theorem Heap.set {w : World} {B : Nat} {rows : List Row} {tabs : List Tb} (h : Heap w B rows tabs) {p : Addr} (hp : p.block < B) (u : Value) : Heap (w.setCell p u) B rows tabs :=
  ⟨fun i r hi => ownsRow_set (h.own i r hi) hp u, h.dis, fun t ht => (h.tab t ht).set hp u⟩
theorem Heap.row {w : World} {B : Nat} {rows : List Row} {tabs : List Tb} (h : Heap w B rows tabs) {X : Nat} (hp : X < B) (us : Array Value) : Heap (w.setRow X us) B rows tabs :=
  ⟨fun i r hi => ownsRow_row (h.own i r hi) hp us, h.dis, fun t ht => (h.tab t ht).row hp us⟩

theorem Tb.At.grown {w w' : World} {t : Tb} {row : Option Nat} (h : t.At w) (hg : w.grownBy w' row) (hr : t.n ≠ 0 → ∀ b o, t.p = some ⟨b, o, none⟩ → some b ≠ row) : t.At w' := by
  obtain ⟨h1, h2, h3, h4, h5⟩ := h
  refine ⟨h1, h2, h3, h4, fun hn => ?_⟩
  obtain ⟨b, o, e, hlt, hc⟩ := h5 hn
  have key : ∀ k, w'.cell? ⟨b, k, none⟩ = w.cell? ⟨b, k, none⟩ := fun k => World.cell?_of_block (a := ⟨b, k, none⟩) (hg.block b hlt (hr hn b o e))
  refine ⟨b, o, e, Nat.lt_of_lt_of_le hlt hg.size, fun i hi => ?_⟩
  rw [key, key, key]
  exact hc i hi

/-- One of the arrays grows. -/
theorem Heap.grow {w w' : World} {B : Nat} {rows : List Row} {tabs : List Tb} (h : Heap w B rows tabs) (i : Nat) {r r' : Row} (hi : rows[i]? = some r) {g : Nat} (ho : r'.own w' B) (hg : w.grownBy w' r.v.ownBlock) (hl : r.v.ownBlock = some g ∨ g = w.heap.size) (hv : r'.v.ownBlock = some g) :
    Heap w' B (rows.set i r') tabs := by
  have get : ∀ (j : Nat) (s : Row), (rows.set i r')[j]? = some s → (j = i ∧ s = r') ∨ (j ≠ i ∧ rows[j]? = some s) := fun j s hj => by
    rw [List.getElem?_set] at hj
    by_cases e : i = j
    · rw [if_pos e] at hj
      split at hj
      · cases hj; exact .inl ⟨e.symm, rfl⟩
      · cases hj
    · rw [if_neg e] at hj; exact .inr ⟨fun e2 => e e2.symm, hj⟩
  have far : ∀ (j : Nat) (s : Row), j ≠ i → rows[j]? = some s → s.v.ownBlock ≠ some g := fun j s hj hs e => by
    rcases hl with e1 | e1
    · exact h.dis i j r s hi hs (Ne.symm hj) g e1 e
    · have := (World.ownsRow.lt (h.own j s hs) g e).2
      omega
  refine ⟨fun j s hj => ?_, fun j k s t hj hk hne g' e => ?_, fun t ht => ?_⟩
  · rcases get j s hj with ⟨_, rfl⟩ | ⟨hne, hs⟩
    · exact ho
    · refine World.ownsRow.kept (h.own j s hs) hg ?_
      cases hv' : s.v.ownBlock with
      | none => exact .inl rfl
      | some k => exact .inr (fun e => h.dis i j r s hi hs (Ne.symm hne) k e.symm hv')
  · rcases get j s hj with ⟨rfl, rfl⟩ | ⟨hne1, hs⟩ <;> rcases get k t hk with ⟨rfl, rfl⟩ | ⟨hne2, ht⟩
    · exact absurd rfl hne
    · rw [hv] at e
      cases e
      exact far k t hne2 ht
    · rw [hv]
      intro e2
      cases e2
      exact far j s hne1 hs e
    · exact h.dis j k s t hs ht hne g' e
  · obtain ⟨ha, hf⟩ := h.tab t ht
    have hb : t.n ≠ 0 → ∀ b o, t.p = some ⟨b, o, none⟩ → b < w.heap.size := fun hn b o e => by
      obtain ⟨b', o', e', hlt, _⟩ := ha.2.2.2.2 hn
      rw [e] at e'
      cases e'
      exact hlt
    refine ⟨ha.grown hg (fun hn b o e e2 => (hf hn b o e).2 i r hi e2.symm), fun hn b o e => ⟨(hf hn b o e).1, fun j s hj => ?_⟩⟩
    rcases get j s hj with ⟨rfl, rfl⟩ | ⟨_, hs⟩
    · rw [hv]
      intro e2
      cases e2
      rcases hl with e1 | e1
      · exact (hf hn g o e).2 j r hi e1
      · have := hb hn g o e
        omega
    · exact (hf hn b o e).2 j s hs
/-- More tables, that lie in new memory. -/
theorem Heap.addTabs {w W : World} {B : Nat} {rows : List Row} {tabs : List Tb} (h : Heap w B rows tabs) (hb : Below w.heap.size w W) (hB : B ≤ w.heap.size) {more : List Tb} (hm : ∀ t ∈ more, t.At W ∧ (t.n ≠ 0 → ∀ b o, t.p = some ⟨b, o, none⟩ → w.heap.size ≤ b)) : Heap W B rows (tabs ++ more) := by
  have k := h.same hb
  refine ⟨k.own, k.dis, fun t ht => ?_⟩
  rcases List.mem_append.1 ht with ht | ht
  · exact k.tab t ht
  · obtain ⟨a, b⟩ := hm t ht
    refine ⟨a, fun hn x o e => ⟨Nat.le_trans hB (b hn x o e), fun j s hj e2 => ?_⟩⟩
    have := (World.ownsRow.lt (h.own j s hj) x e2).2
    have := b hn x o e
    omega

/-- What append asks of an element's type. -/
structure RowTy (te e : TypeId) (sz : Nat) : Prop where
  und : Tryz.prog.underlying te = some (.slice e)
  info : ∃ i z, Tryz.prog.info? e = some i ∧ i.zero = some z ∧ i.size = sz ∧ i.bytes ≤ 1000 ∧ z.cells.size = sz
  pos : 0 < sz

/-- An element more at the end of one of the arrays. -/
theorem app_row {w : World} {ops : Array Oper} {rest : List Oper} {o : Oper} {a : Act} {Q : Exit → Act → World → Prop} {te e : TypeId} {sz : Nat} (T : RowTy te e sz) (hgd : o.guard = none) (s x : Operand)
    (ho : o.op = .call { callee := .builtin .append, args := #[s, x], argTypes := #[te, te] }) (B : Nat) (v : Value) (n : Nat) (cs : List Value) (hs : a.eval s = v) (hown : w.ownsRow B e sz v n cs)
    (b : Nat) (news : List Value) (hx : a.eval x = .slice (some ⟨b, 0, none⟩) 1 1) (hlen : news.length = sz) (hone : ∀ u ∈ news, u.oneCell' = true) (h0 : ∀ j u, news[j]? = some u → w.cell? ⟨b, j, none⟩ = some u) (hn : n ≤ 1000) (hB : B ≤ w.heap.size)
    (h : ∀ g cap w', w'.ownsRow B e sz (.slice (some ⟨g, 0, none⟩) (n + 1) cap) (n + 1) (cs ++ news) → Below B w w' → w.grownBy w' v.ownBlock → (v.ownBlock = some g ∨ g = w.heap.size) → B ≤ g → g < w'.heap.size → n + 1 ≤ cap → cap ≤ 9223372036854775807 → wpList Tryz.prog ops Q rest (a.put o.dst (.slice (some ⟨g, 0, none⟩) (n + 1) cap)) w') : wpList Tryz.prog ops Q (o :: rest) a w := by
  obtain ⟨i0, z, hi, hz0, hz1, hz2, hz3⟩ := T.info
  refine wpList_append_lies w hgd s x te ho B e i0 z sz i0.bytes T.und hi hz0 hz1 rfl hz3 T.pos v n cs hs hown ⟨b, 0, none⟩ 1 1 news hx (by omega) ?_ hone (by decide) (by unfold maxLen; omega) ?_ hB w.heap.size rfl ?_
  · intro j u hu
    have := h0 j u hu
    rw [show ((⟨b, 0, none⟩ : Addr).add j) = ⟨b, j, none⟩ from by simp [Addr.add]; omega]
    exact this
  · exact Nat.le_trans (Nat.mul_le_mul (by omega : n + 1 ≤ 1001) hz2) (by decide)
  · intro g cap w' h1 h2 h3 h4
    have hg := (World.ownsRow.lt h1 g rfl).1
    have hc : n + 1 ≤ cap ∧ cap ≤ maxLen := by
      rcases h1.2 with ⟨e, _⟩ | ⟨g', cap', cur, e, _, _, c1, c2, _⟩
      · cases e
      · cases e; exact ⟨c1, c2⟩
    exact h g cap w' h1 (below_of_grown h2 hB fun k hk => (World.ownsRow.lt hown k hk).1) h2 h3 hg h4 hc.1 hc.2

theorem flatMap_get {α : Type} [Inhabited α] {sz : Nat} (C : α → List Value) (hC : ∀ a, (C a).length = sz) : ∀ (l : List α) (i : Nat), i < l.length → ∀ j, j < sz → (l.flatMap C)[i * sz + j]? = (C (l[i]?.getD default))[j]?
  | x :: l, 0, _, j, hj => by
    simp only [List.flatMap_cons, Nat.zero_mul, Nat.zero_add]
    rw [List.getElem?_append_left (by rw [hC]; exact hj)]
    rfl
  | x :: l, i + 1, h, j, hj => by
    have ih := flatMap_get C hC l i (by simpa using h) j hj
    simp only [List.flatMap_cons]
    rw [List.getElem?_append_right (by rw [hC, Nat.add_mul]; omega), hC, show (i + 1) * sz + j - sz = i * sz + j by rw [Nat.add_mul]; omega, ih]
    simp

/-- An array of the call's own as a slice of structs. -/
theorem rowsAt_own {α : Type} [Inhabited α] {w : World} {B : Nat} {e : TypeId} {sz : Nat} {v : Value} {l : List α} (C : α → List Value) (hC : ∀ a, (C a).length = sz) (h : w.ownsRow B e sz v l.length (l.flatMap C)) :
    ∃ s : Sl α, v = .slice s.p s.n s.c ∧ s.xs = l ∧ s.xs.length = s.n ∧ RowsAt w s.p s.n s.c sz (fun i => C (s.xs[i]?.getD default)) := by
  rcases h.2 with ⟨rfl, hn⟩ | ⟨g, cap, cur, rfl, hb, hg, h1, h2, h3, h4⟩
  · exact ⟨⟨none, 0, 0, l⟩, rfl, rfl, hn, Nat.le_refl _, by dsimp only; omega, fun h => absurd rfl h⟩
  · refine ⟨⟨some ⟨g, 0, none⟩, l.length, cap, l⟩, rfl, rfl, rfl, h1, h2, fun hn => ⟨g, 0, rfl, (Array.getElem?_eq_some_iff.1 hg).1, fun i hi j u hu => ?_⟩⟩
    dsimp only at *
    have hj : j < sz := by
      have := (List.getElem?_eq_some_iff.1 hu).1
      rw [hC] at this
      exact this
    rw [Nat.zero_add, h.cellAt (i * sz + j) (Nat.lt_of_lt_of_le (Nat.add_lt_add_left hj _) (by rw [← Nat.succ_mul]; exact Nat.mul_le_mul_right _ hi)), flatMap_get C hC l i hi j hj]
    exact hu

/-- A block that no array of the call's own lies in, and what it holds. -/
def Free (w : World) (rows : List Row) (b : Nat) (o : Obj) : Prop := w.heap[b]? = some o ∧ ∀ (i : Nat) (r : Row), rows[i]? = some r → r.v.ownBlock ≠ some b
theorem Free.same {w W : World} {rows : List Row} {b : Nat} {o : Obj} (h : Free w rows b o) (hb : Below w.heap.size w W) : Free W rows b o :=
  ⟨(hb.block b (Array.getElem?_eq_some_iff.1 h.1).1).trans h.1, h.2⟩
theorem Free.set {w : World} {rows : List Row} {b : Nat} {o : Obj} (h : Free w rows b o) {p : Addr} (hp : b ≠ p.block) (u : Value) : Free (w.setCell p u) rows b o :=
  ⟨(Below.heap_setCell w p u b hp).trans h.1, h.2⟩
theorem Free.grow {w w' : World} {rows : List Row} {b : Nat} {o : Obj} (h : Free w rows b o) (i : Nat) {r r' : Row} (hi : rows[i]? = some r) {g : Nat} (hg : w.grownBy w' r.v.ownBlock) (hl : r.v.ownBlock = some g ∨ g = w.heap.size) (hv : r'.v.ownBlock = some g) : Free w' (rows.set i r') b o := by
  have hlt := (Array.getElem?_eq_some_iff.1 h.1).1
  refine ⟨(hg.block b hlt (fun e => h.2 i r hi e.symm)).trans h.1, fun j s hj => ?_⟩
  rw [List.getElem?_set] at hj
  by_cases e : i = j
  · rw [if_pos e] at hj
    split at hj
    · cases hj
      rw [hv]
      intro e2
      cases e2
      rcases hl with e1 | e1
      · exact h.2 i r hi e1
      · omega
    · cases hj
  · rw [if_neg e] at hj
    exact h.2 j s hj
theorem Heap.free {w W : World} {B : Nat} {rows : List Row} {tabs : List Tb} (h : Heap w B rows tabs) {b : Nat} (hb : w.heap.size ≤ b) {o : Obj} (ho : W.heap[b]? = some o) : Free W rows b o :=
  ⟨ho, fun i r hi e => by have := (World.ownsRow.lt (h.own i r hi) b e).2; omega⟩

/-- The same at a step of a region that draws its order. -/
theorem step_app_row {w : World} {ops : Array Oper} {o : Oper} {a : Act} {K : Act → World → Prop} {Q : Exit → Act → World → Prop} {E : Prop} {te e : TypeId} {sz : Nat} (T : RowTy te e sz) (hgd : o.guard = none) (s x : Operand)
    (ho : o.op = .call { callee := .builtin .append, args := #[s, x], argTypes := #[te, te] }) (B : Nat) (v : Value) (n : Nat) (cs : List Value) (hs : a.eval s = v) (hown : w.ownsRow B e sz v n cs)
    (b : Nat) (news : List Value) (hx : a.eval x = .slice (some ⟨b, 0, none⟩) 1 1) (hlen : news.length = sz) (hone : ∀ u ∈ news, u.oneCell' = true) (h0 : ∀ j u, news[j]? = some u → w.cell? ⟨b, j, none⟩ = some u) (hn : n ≤ 1000) (hB : B ≤ w.heap.size)
    (h : ∀ g cap w', w'.ownsRow B e sz (.slice (some ⟨g, 0, none⟩) (n + 1) cap) (n + 1) (cs ++ news) → Below B w w' → w.grownBy w' v.ownBlock → (v.ownBlock = some g ∨ g = w.heap.size) → B ≤ g → g < w'.heap.size → n + 1 ≤ cap → cap ≤ 9223372036854775807 → K (a.put o.dst (.slice (some ⟨g, 0, none⟩) (n + 1) cap)) w') :
    if Region.wanted o (yielded ops a.tmps) = true then Oper.wp Tryz.prog o a w K Q else E := by
  obtain ⟨i0, z, hi, hz0, hz1, hz2, hz3⟩ := T.info
  refine step_append_lies w hgd s x te ho B e i0 z sz i0.bytes T.und hi hz0 hz1 rfl hz3 T.pos v n cs hs hown ⟨b, 0, none⟩ 1 1 news hx (by omega) ?_ hone (by decide) (by unfold maxLen; omega) ?_ hB w.heap.size rfl ?_
  · intro j u hu
    have := h0 j u hu
    rw [show ((⟨b, 0, none⟩ : Addr).add j) = ⟨b, j, none⟩ from by simp [Addr.add]; omega]
    exact this
  · exact Nat.le_trans (Nat.mul_le_mul (by omega : n + 1 ≤ 1001) hz2) (by decide)
  · intro g cap w' h1 h2 h3 h4
    have hg := (World.ownsRow.lt h1 g rfl).1
    have hc : n + 1 ≤ cap ∧ cap ≤ maxLen := by
      rcases h1.2 with ⟨e, _⟩ | ⟨g', cap', cur, e, _, _, c1, c2, _⟩
      · cases e
      · cases e; exact ⟨c1, c2⟩
    exact h g cap w' h1 (below_of_grown h2 hB fun k hk => (World.ownsRow.lt hown k hk).1) h2 h3 hg h4 hc.1 hc.2

end Go.Proofs.YteagdcgmmdiakaaGreat
