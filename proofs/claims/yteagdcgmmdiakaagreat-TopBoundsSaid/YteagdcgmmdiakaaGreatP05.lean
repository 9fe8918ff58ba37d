/-
  Plain facts of monotone tables: their values go the same way, and the tests of inverse with them.
  CheckTank and CheckLevel.
  hold: down, up, weighed, filling, volume, moment, height, mass, heel, weight, told and what is told.
  hold: litres, checkMass, Litres, hull, plus.
  hold: Ullage, Sounding (given CheckTank), Pour, Draw, Settle.
  hold: Pour.
  Worlds in their normal form: what a region has laid lies between two callees' worlds, and a store into it changes what was laid.
  Conditions: each theorem's own premises.
-/
import Derived.Test.YteagdcgmmdiakaaGreatP03
import Derived.Test.YteagdcgmmdiakaaGreatP04
import Derived.Laws.CopyOwn
namespace Go.Proofs.YteagdcgmmdiakaaGreat
set_option linter.unusedSimpArgs false
set_option linter.unusedVariables false
open Go.RowKit

theorem TabOk.lt {ps : List Pt} (h : TabOk ps) : ∀ (j i : Nat), i < j → j < ps.length → (pt ps i).x < (pt ps j).x
  | 0, _, hij, _ => by omega
  | j + 1, i, hij, hj => by
    obtain ⟨_, _, _, _, _, h6⟩ := h.all (j + 1) hj
    rw [show j + 1 - 1 = j by omega] at h6
    rcases h6 with h6 | h6
    · omega
    · by_cases e : i = j
      · rw [e]; exact h6
      · have := TabOk.lt h j i (by omega) (by omega); omega

theorem seg_start (a b : Pt) (h : a.x < b.x) : segLo a b a.x = a.lo ∧ segHi a b a.x = a.hi := by
  unfold segLo segHi
  have e : a.x - a.x = 0 := by omega
  rw [e, Int.mul_zero, Int.mul_zero, Int.add_zero, Int.add_zero, ← Int.neg_mul, Int.mul_ediv_cancel _ (by omega), Int.mul_ediv_cancel _ (by omega), Int.neg_neg]
  exact ⟨rfl, rfl⟩
theorem seg_end (a b : Pt) (h : a.x < b.x) : segLo a b b.x = b.lo ∧ segHi a b b.x = b.hi := by
  unfold segLo segHi
  have e : b.x - b.x = 0 := by omega
  rw [e, Int.mul_zero, Int.mul_zero, Int.zero_add, Int.zero_add, ← Int.neg_mul, Int.mul_ediv_cancel _ (by omega), Int.mul_ediv_cancel _ (by omega), Int.neg_neg]
  exact ⟨rfl, rfl⟩

/-- The value at a place of a piece, whichever piece it is seen from. -/
theorem atS_seg {ps : List Pt} (hok : TabOk ps) {k : Nat} (hk : k + 1 < ps.length) {x : Int} (h1 : (pt ps k).x ≤ x) (h2 : x ≤ (pt ps (k + 1)).x) :
    atS ps x = ⟨segLo (pt ps k) (pt ps (k + 1)) x, segHi (pt ps k) (pt ps (k + 1)) x⟩ := by
  have hf : firstX ps ≤ x := by
    by_cases e : k = 0
    · subst e; exact h1
    · have := hok.lt k 0 (by omega) (by omega); show (pt ps 0).x ≤ x; omega
  have hl : x ≤ lastX ps := by
    by_cases e : k + 1 = ps.length - 1
    · show x ≤ (pt ps (ps.length - 1)).x; rw [← e]; exact h2
    · have := hok.lt (ps.length - 1) (k + 1) (by omega) (by omega); show x ≤ (pt ps (ps.length - 1)).x; omega
  obtain ⟨a1, a2, a3⟩ := kOf_spec hok hf hl
  have hlen : ¬ps.length = 1 := by omega
  have hpa : ∀ j, pieceAt ps j = (pt ps j, pt ps (j + 1)) := fun j => if_neg hlen
  have hnp : nPieces ps = ps.length - 1 := if_neg hlen
  have hk1 : kOf ps x ≤ k := by
    apply Classical.byContradiction; intro hc
    exact a2 k (by omega) (by rw [hpa]; exact ⟨h1, h2⟩)
  have hv : ∀ j, j + 1 < ps.length → pcAt (pieceAt ps j) x = ⟨segLo (pt ps j) (pt ps (j + 1)) x, segHi (pt ps j) (pt ps (j + 1)) x⟩ := fun j hj => by
    rw [hpa]
    have := hok.lt (j + 1) j (by omega) hj
    exact if_neg (fun e => by dsimp only at e; rw [e] at this; omega)
  unfold atS
  by_cases e : kOf ps x = k
  · rw [e]; exact hv k hk
  · have ha3 : x ≤ (pt ps (kOf ps x + 1)).x := by rw [hpa] at a3; exact a3.2
    generalize kOf ps x = j at *
    have ej : j + 1 = k := by
      apply Classical.byContradiction; intro hc
      have := hok.lt k (j + 1) (by omega) (by omega)
      omega
    rw [hv j (by omega)]
    subst ej
    have ex : x = (pt ps (j + 1)).x := by omega
    subst ex
    obtain ⟨p1, p2⟩ := seg_end (pt ps j) (pt ps (j + 1)) (hok.lt (j + 1) j (by omega) (by omega))
    obtain ⟨q1, q2⟩ := seg_start (pt ps (j + 1)) (pt ps (j + 1 + 1)) (hok.lt (j + 1 + 1) (j + 1) (by omega) hk)
    rw [p1, p2, q1, q2]

theorem lin_step (a b : Pt) (y z x x' : Int) (hx : x ≤ x') : (y ≤ z → lin a b y z x ≤ lin a b y z x') ∧ (z ≤ y → lin a b y z x' ≤ lin a b y z x) := by
  unfold lin
  have e1 : y * (b.x - x) = y * (b.x - x') + y * (x' - x) := by rw [← Int.mul_add]; congr 1; omega
  have e2 : z * (x' - a.x) = z * (x - a.x) + z * (x' - x) := by rw [← Int.mul_add]; congr 1; omega
  constructor
  · intro h
    have := Int.mul_le_mul_of_nonneg_right h (show 0 ≤ x' - x by omega)
    omega
  · intro h
    have := Int.mul_le_mul_of_nonneg_right h (show 0 ≤ x' - x by omega)
    omega

theorem segLo_step (a b : Pt) (x x' : Int) (h : a.x < b.x) (hx : x ≤ x') : (a.lo ≤ b.lo → segLo a b x ≤ segLo a b x') ∧ (b.lo ≤ a.lo → segLo a b x' ≤ segLo a b x) :=
  ⟨fun hl => Int.ediv_le_ediv (by omega) ((lin_step a b a.lo b.lo x x' hx).1 hl), fun hl => Int.ediv_le_ediv (by omega) ((lin_step a b a.lo b.lo x x' hx).2 hl)⟩
theorem segHi_step (a b : Pt) (x x' : Int) (h : a.x < b.x) (hx : x ≤ x') : (a.hi ≤ b.hi → segHi a b x ≤ segHi a b x') ∧ (b.hi ≤ a.hi → segHi a b x' ≤ segHi a b x) := by
  unfold segHi
  constructor
  · intro hl
    have := Int.ediv_le_ediv (c := b.x - a.x) (by omega) (Int.neg_le_neg ((lin_step a b a.hi b.hi x x' hx).1 hl))
    unfold lin at this
    omega
  · intro hl
    have := Int.ediv_le_ediv (c := b.x - a.x) (by omega) (Int.neg_le_neg ((lin_step a b a.hi b.hi x x' hx).2 hl))
    unfold lin at this
    omega

/-- One number goes a way to another. -/
def goes (s a b : Int) : Prop := 0 ≤ s * (b - a)
theorem piece_of {ps : List Pt} (hok : TabOk ps) (h2 : 2 ≤ ps.length) {x : Int} (h1 : firstX ps ≤ x) (h3 : x ≤ lastX ps) : ∃ k, k + 1 < ps.length ∧ (pt ps k).x ≤ x ∧ x ≤ (pt ps (k + 1)).x := by
  obtain ⟨k, hk, hp⟩ := piece_exists hok h1 h3
  have hlen : ¬ps.length = 1 := by omega
  rw [show pieceAt ps k = (pt ps k, pt ps (k + 1)) from if_neg hlen] at hp
  rw [show nPieces ps = ps.length - 1 from if_neg hlen] at hk
  exact ⟨k, by omega, hp.1, hp.2⟩

end Go.Proofs.YteagdcgmmdiakaaGreat

namespace Go.Proofs.YteagdcgmmdiakaaGreat
set_option linter.unusedSimpArgs false
set_option linter.unusedVariables false
open Go.RowKit
set_option maxRecDepth 100000
set_option maxHeartbeats 4000000
attribute [local go_sem] Instr.field asAgg Soft.upon Soft.BW.cell_if Soft.BW.frozen_if Soft.cell_alloc_if Soft.frozen_alloc_if

/-- A valid tank. -/
structure TankOk (t : Tk) : Prop where
  id : 1 ≤ t.id ∧ t.id ≤ 9
  along : isPart t.along (-1000000) 1000000
  tabs : tabs3 t.vol.ps t.sur.ps t.hei.ps
  mv : mono t.vol.ps 1
  mh : mono t.hei.ps 1
theorem tankOk_iff (t : Tk) : TankOk t ↔ (1 ≤ t.id ∧ t.id ≤ 9) ∧ isPart t.along (-1000000) 1000000 ∧ tabs3 t.vol.ps t.sur.ps t.hei.ps ∧ mono t.vol.ps 1 ∧ mono t.hei.ps 1 :=
  ⟨fun h => ⟨h.id, h.along, h.tabs, h.mv, h.mh⟩, fun ⟨a, b, c, d, e⟩ => ⟨a, b, c, d, e⟩⟩
instance (t : Tk) : Decidable (TankOk t) := decidable_of_iff _ (tankOk_iff t).symm
def tankErr (t : Tk) : Int := if TankOk t then 0 else 21


theorem hold_CheckTank (t : Tk) (w : World) (hh : t.At w) :
    Calls Tryz.prog 36 #[.agg #[.int .i64 (t).id, .int .i64 ((t).along).lo, .int .i64 ((t).along).hi, .slice ((t).vol).p ((t).vol).n ((t).vol).c, .slice ((t).sur).p ((t).sur).n ((t).sur).c, .slice ((t).hei).p ((t).hei).n ((t).hei).c]] w fun e w' => e = .returned (.int .i64 (tankErr t)) ∧ Below w.heap.size w w' := by
  obtain ⟨hv, hm, hz⟩ := hh
  by_cases c1 : 1 ≤ t.id ∧ t.id ≤ 9
  · by_cases c2 : isPart t.along (-1000000) 1000000
    · by_cases c3 : tabs3 t.vol.ps t.sur.ps t.hei.ps
      · have hT1 : Tab2 t.vol.ps := c3.1
        have hT3 : Tab2 t.hei.ps := c3.2.2.1
        by_cases c4 : mono t.vol.ps 1
        · have HE := Lib.hid (show tankErr t = if mono t.hei.ps 1 then 0 else 21 by
            unfold tankErr
            by_cases c5 : mono t.hei.ps 1
            · rw [if_pos c5, if_pos ⟨c1, c2, c3, c4, c5⟩]
            · rw [if_neg c5, if_neg (fun h => c5 h.mh)])
          have C1 := Lib.hid c1; have C2 := Lib.hid c2; have C3 := Lib.hid c3; have C4 := Lib.hid c4; clear c1 c2 c3 c4
          by_cases c5 : mono t.hei.ps 1
          · have HE := Lib.hid (show tankErr t = 0 by rw [HE.out, if_pos c5])
            have C5 := Lib.hid c5; clear c5
            go_enter Tryz.func36, Tryz.ntmps36
            go_wp2_with (first | (go_at_call 70; (with_reducible refine (hold_isWithin _ _ _ _ true (decide_eq_true C1.out).symm).mono ?_); rintro e w_ ⟨rfl, hw_⟩; subst w_) | (go_at_call 67; (with_reducible refine (hold_isPart t.along _ _ _ true (decide_eq_true C2.out).symm).mono ?_); rintro e w_ ⟨rfl, hb_⟩; obtain ⟨y1, rfl⟩ := Soft.BW.mk hb_; clear hb_) | (go_at_call 78; (with_reducible refine (hold_areTables t.vol t.sur t.hei _ _ (by repeat (first | exact hv | refine Tb.At.alloc ?_ _ | refine Tb.At.bw ?_ _)) (by repeat (first | exact hm | refine Tb.At.alloc ?_ _ | refine Tb.At.bw ?_ _)) (by repeat (first | exact hz | refine Tb.At.alloc ?_ _ | refine Tb.At.bw ?_ _)) (by simp only [HasBlk, Soft.BW.heap_if, Soft.heap_alloc_if, Soft.heap_new, Soft.heap_new1, Soft.heap_new2, Soft.heap_new3, Soft.heap_new4, Soft.heap_new5]) true (decide_eq_true C3.out).symm).mono ?_); rintro e w_ ⟨rfl, hb_⟩; obtain ⟨y2, rfl⟩ := Soft.BW.mk hb_; clear hb_) | (go_at_call 79; (with_reducible refine (hold_isMonotone t.vol 1 (.inl rfl) _ (by repeat (first | exact hv | refine Tb.At.alloc ?_ _ | refine Tb.At.bw ?_ _)) hT1 true (decide_eq_true C4.out).symm).mono ?_); rintro e w_ ⟨rfl, hb_⟩; obtain ⟨y3, rfl⟩ := Soft.BW.mk hb_; clear hb_) | (go_at_call 79; (with_reducible refine (hold_isMonotone t.hei 1 (.inl rfl) _ (by repeat (first | exact hz | refine Tb.At.alloc ?_ _ | refine Tb.At.bw ?_ _)) hT3 true (decide_eq_true C5.out).symm).mono ?_); rintro e w_ ⟨rfl, hb_⟩; obtain ⟨y4, rfl⟩ := Soft.BW.mk hb_; clear hb_))
            go_ret
            refine ⟨ret_int HE.out.symm, ?_⟩
            (with_reducible repeat (first | exact blr _ | refine bla ?_ _ | refine blw _ ?_ | refine bld ?_ | refine bln _ ?_ | refine bls ?_ _ | refine blt ?_))
          · have HE := Lib.hid (show tankErr t = 21 by rw [HE.out, if_neg c5])
            have C5 := Lib.hid c5; clear c5
            go_enter Tryz.func36, Tryz.ntmps36
            go_wp2_with (first | (go_at_call 70; (with_reducible refine (hold_isWithin _ _ _ _ true (decide_eq_true C1.out).symm).mono ?_); rintro e w_ ⟨rfl, hw_⟩; subst w_) | (go_at_call 67; (with_reducible refine (hold_isPart t.along _ _ _ true (decide_eq_true C2.out).symm).mono ?_); rintro e w_ ⟨rfl, hb_⟩; obtain ⟨y1, rfl⟩ := Soft.BW.mk hb_; clear hb_) | (go_at_call 78; (with_reducible refine (hold_areTables t.vol t.sur t.hei _ _ (by repeat (first | exact hv | refine Tb.At.alloc ?_ _ | refine Tb.At.bw ?_ _)) (by repeat (first | exact hm | refine Tb.At.alloc ?_ _ | refine Tb.At.bw ?_ _)) (by repeat (first | exact hz | refine Tb.At.alloc ?_ _ | refine Tb.At.bw ?_ _)) (by simp only [HasBlk, Soft.BW.heap_if, Soft.heap_alloc_if, Soft.heap_new, Soft.heap_new1, Soft.heap_new2, Soft.heap_new3, Soft.heap_new4, Soft.heap_new5]) true (decide_eq_true C3.out).symm).mono ?_); rintro e w_ ⟨rfl, hb_⟩; obtain ⟨y2, rfl⟩ := Soft.BW.mk hb_; clear hb_) | (go_at_call 79; (with_reducible refine (hold_isMonotone t.vol 1 (.inl rfl) _ (by repeat (first | exact hv | refine Tb.At.alloc ?_ _ | refine Tb.At.bw ?_ _)) hT1 true (decide_eq_true C4.out).symm).mono ?_); rintro e w_ ⟨rfl, hb_⟩; obtain ⟨y3, rfl⟩ := Soft.BW.mk hb_; clear hb_) | (go_at_call 79; (with_reducible refine (hold_isMonotone t.hei 1 (.inl rfl) _ (by repeat (first | exact hz | refine Tb.At.alloc ?_ _ | refine Tb.At.bw ?_ _)) hT3 false (decide_eq_false C5.out).symm).mono ?_); rintro e w_ ⟨rfl, hb_⟩; obtain ⟨y4, rfl⟩ := Soft.BW.mk hb_; clear hb_))
            go_ret
            refine ⟨ret_int HE.out.symm, ?_⟩
            (with_reducible repeat (first | exact blr _ | refine bla ?_ _ | refine blw _ ?_ | refine bld ?_ | refine bln _ ?_ | refine bls ?_ _ | refine blt ?_))
        · have HE := Lib.hid (show tankErr t = 21 from if_neg (fun h => c4 h.mv))
          have C1 := Lib.hid c1; have C2 := Lib.hid c2; have C3 := Lib.hid c3; have C4 := Lib.hid c4; clear c1 c2 c3 c4
          go_enter Tryz.func36, Tryz.ntmps36
          go_wp2_with (first | (go_at_call 70; (with_reducible refine (hold_isWithin _ _ _ _ true (decide_eq_true C1.out).symm).mono ?_); rintro e w_ ⟨rfl, hw_⟩; subst w_) | (go_at_call 67; (with_reducible refine (hold_isPart t.along _ _ _ true (decide_eq_true C2.out).symm).mono ?_); rintro e w_ ⟨rfl, hb_⟩; obtain ⟨y1, rfl⟩ := Soft.BW.mk hb_; clear hb_) | (go_at_call 78; (with_reducible refine (hold_areTables t.vol t.sur t.hei _ _ (by repeat (first | exact hv | refine Tb.At.alloc ?_ _ | refine Tb.At.bw ?_ _)) (by repeat (first | exact hm | refine Tb.At.alloc ?_ _ | refine Tb.At.bw ?_ _)) (by repeat (first | exact hz | refine Tb.At.alloc ?_ _ | refine Tb.At.bw ?_ _)) (by simp only [HasBlk, Soft.BW.heap_if, Soft.heap_alloc_if, Soft.heap_new, Soft.heap_new1, Soft.heap_new2, Soft.heap_new3, Soft.heap_new4, Soft.heap_new5]) true (decide_eq_true C3.out).symm).mono ?_); rintro e w_ ⟨rfl, hb_⟩; obtain ⟨y2, rfl⟩ := Soft.BW.mk hb_; clear hb_) | (go_at_call 79; (with_reducible refine (hold_isMonotone t.vol 1 (.inl rfl) _ (by repeat (first | exact hv | refine Tb.At.alloc ?_ _ | refine Tb.At.bw ?_ _)) hT1 false (decide_eq_false C4.out).symm).mono ?_); rintro e w_ ⟨rfl, hb_⟩; obtain ⟨y3, rfl⟩ := Soft.BW.mk hb_; clear hb_))
          go_ret
          refine ⟨ret_int HE.out.symm, ?_⟩
          (with_reducible repeat (first | exact blr _ | refine bla ?_ _ | refine blw _ ?_ | refine bld ?_ | refine bln _ ?_ | refine bls ?_ _ | refine blt ?_))
      · have HE := Lib.hid (show tankErr t = 21 from if_neg (fun h => c3 h.tabs))
        have C1 := Lib.hid c1; have C2 := Lib.hid c2; have C3 := Lib.hid c3; clear c1 c2 c3
        go_enter Tryz.func36, Tryz.ntmps36
        go_wp2_with (first | (go_at_call 70; (with_reducible refine (hold_isWithin _ _ _ _ true (decide_eq_true C1.out).symm).mono ?_); rintro e w_ ⟨rfl, hw_⟩; subst w_) | (go_at_call 67; (with_reducible refine (hold_isPart t.along _ _ _ true (decide_eq_true C2.out).symm).mono ?_); rintro e w_ ⟨rfl, hb_⟩; obtain ⟨y1, rfl⟩ := Soft.BW.mk hb_; clear hb_) | (go_at_call 78; (with_reducible refine (hold_areTables t.vol t.sur t.hei _ _ (by repeat (first | exact hv | refine Tb.At.alloc ?_ _ | refine Tb.At.bw ?_ _)) (by repeat (first | exact hm | refine Tb.At.alloc ?_ _ | refine Tb.At.bw ?_ _)) (by repeat (first | exact hz | refine Tb.At.alloc ?_ _ | refine Tb.At.bw ?_ _)) (by simp only [HasBlk, Soft.BW.heap_if, Soft.heap_alloc_if, Soft.heap_new, Soft.heap_new1, Soft.heap_new2, Soft.heap_new3, Soft.heap_new4, Soft.heap_new5]) false (decide_eq_false C3.out).symm).mono ?_); rintro e w_ ⟨rfl, hb_⟩; obtain ⟨y2, rfl⟩ := Soft.BW.mk hb_; clear hb_))
        go_ret
        refine ⟨ret_int HE.out.symm, ?_⟩
        (with_reducible repeat (first | exact blr _ | refine bla ?_ _ | refine blw _ ?_ | refine bld ?_ | refine bln _ ?_ | refine bls ?_ _ | refine blt ?_))
    · have HE := Lib.hid (show tankErr t = 21 from if_neg (fun h => c2 h.along))
      have C1 := Lib.hid c1; have C2 := Lib.hid c2; clear c1 c2
      go_enter Tryz.func36, Tryz.ntmps36
      go_wp2_with (first | (go_at_call 70; (with_reducible refine (hold_isWithin _ _ _ _ true (decide_eq_true C1.out).symm).mono ?_); rintro e w_ ⟨rfl, hw_⟩; subst w_) | (go_at_call 67; (with_reducible refine (hold_isPart t.along _ _ _ false (decide_eq_false C2.out).symm).mono ?_); rintro e w_ ⟨rfl, hb_⟩; obtain ⟨y1, rfl⟩ := Soft.BW.mk hb_; clear hb_))
      go_ret
      refine ⟨ret_int HE.out.symm, ?_⟩
      (with_reducible repeat (first | exact blr _ | refine bla ?_ _ | refine blw _ ?_ | refine bld ?_ | refine bln _ ?_ | refine bls ?_ _ | refine blt ?_))
  · have HE := Lib.hid (show tankErr t = 21 from if_neg (fun h => c1 h.id))
    have C1 := Lib.hid c1; clear c1
    go_enter Tryz.func36, Tryz.ntmps36
    go_wp2_with (go_at_call 70; (with_reducible refine (hold_isWithin _ _ _ _ false (decide_eq_false C1.out).symm).mono ?_); rintro e w_ ⟨rfl, hw_⟩; subst w_)
    go_ret
    refine ⟨ret_int HE.out.symm, ?_⟩
    (with_reducible repeat (first | exact blr _ | refine bla ?_ _ | refine blw _ ?_ | refine bld ?_ | refine bln _ ?_ | refine bls ?_ _ | refine blt ?_))

/-- What a valid level of a tank is. -/
def LevelIn (t : Tk) (l : Lv) : Prop := l.tank = t.id ∧ isDen l.den ∧ isPart l.snd (firstX t.vol.ps) (lastX t.vol.ps) ∧ (l.pressed = true → l.snd.lo = lastX t.vol.ps)
instance (t : Tk) (l : Lv) : Decidable (LevelIn t l) := inferInstanceAs (Decidable (_ ∧ _))
def levelErr (t : Tk) (l : Lv) : Int := if TankOk t then (if LevelIn t l then 0 else 23) else 21

theorem levelErr_no {t : Tk} {l : Lv} (h0 : TankOk t) (h : ¬LevelIn t l) : levelErr t l = 23 := by unfold levelErr; rw [if_pos h0, if_neg h]
theorem levelErr_yes {t : Tk} {l : Lv} (h0 : TankOk t) (h : LevelIn t l) : levelErr t l = 0 := by unfold levelErr; rw [if_pos h0, if_pos h]

theorem hold_CheckLevel (t : Tk) (l : Lv) (w : World) (hh : t.At w) :
    Calls Tryz.prog 86 #[.agg #[.int .i64 (t).id, .int .i64 ((t).along).lo, .int .i64 ((t).along).hi, .slice ((t).vol).p ((t).vol).n ((t).vol).c, .slice ((t).sur).p ((t).sur).n ((t).sur).c, .slice ((t).hei).p ((t).hei).n ((t).hei).c], .agg #[.int .i64 (l).tank, .bool (l).pressed, .int .i64 ((l).snd).lo, .int .i64 ((l).snd).hi, .int .i64 ((l).den).lo, .int .i64 ((l).den).hi]] w fun e w' => e = .returned (.int .i64 (levelErr t l)) ∧ Below w.heap.size w w' := by
  have hv := hh.1
  by_cases h0 : TankOk t
  · have hE : tankErr t = 0 := if_pos h0
    have hn : 1 ≤ t.vol.n := by rw [← hv.1]; exact h0.tabs.1.ok.pos
    have H0 := Lib.hid h0; clear h0
    by_cases c1 : l.tank = t.id
    · have d1 : (l.tank != t.id) = false := by rw [c1]; simp
      have C1 := Lib.hid c1; clear c1
      by_cases c2 : isDen l.den
      · have C2 := Lib.hid c2; clear c2
        by_cases c3 : isPart l.snd (firstX t.vol.ps) (lastX t.vol.ps)
        · have C3 := Lib.hid c3; clear c3
          cases hp : l.pressed
          · have HE := Lib.hid (levelErr_yes (l := l) H0.out ⟨C1.out, C2.out, C3.out, fun h => by rw [hp] at h; cases h⟩)
            go_enter Tryz.func86, Tryz.ntmps86
            go_wp2_with (first | (go_at_call 36; (with_reducible refine (hold_CheckTank t _ (by with_reducible repeat (first | exact hh | refine Ho.At.alloc ?_ _ | refine Ho.At.bw ?_ _ | refine Tk.At.alloc ?_ _ | refine Tk.At.bw ?_ _))).mono ?_); rintro e w_ ⟨rfl, hb_⟩; obtain ⟨y1, rfl⟩ := Soft.BW.mk hb_; clear hb_) | (go_at_call 65; (with_reducible refine (hold_domain t.vol _ (by repeat (first | exact hv | refine Tb.At.alloc ?_ _ | refine Tb.At.bw ?_ _)) hn).mono ?_); rintro e w_ ⟨rfl, hb_⟩; obtain ⟨y2, rfl⟩ := Soft.BW.mk hb_; clear hb_) | (go_at_call 66; (with_reducible refine (hold_isDensity l.den _ true (decide_eq_true C2.out).symm).mono ?_); rintro e w_ ⟨rfl, hb_⟩; obtain ⟨y3, rfl⟩ := Soft.BW.mk hb_; clear hb_) | (go_at_call 67; (with_reducible refine (hold_isPart l.snd _ _ _ true (decide_eq_true C3.out).symm).mono ?_); rintro e w_ ⟨rfl, hb_⟩; obtain ⟨y4, rfl⟩ := Soft.BW.mk hb_; clear hb_))
            go_ret
            refine ⟨ret_int HE.out.symm, ?_⟩
            (with_reducible repeat (first | exact blr _ | refine bla ?_ _ | refine blw _ ?_ | refine bld ?_ | refine bln _ ?_ | refine bls ?_ _ | refine blt ?_))
          · by_cases c4 : l.snd.lo = lastX t.vol.ps
            · have HE := Lib.hid (levelErr_yes (l := l) H0.out ⟨C1.out, C2.out, C3.out, fun _ => c4⟩)
              have d4 : (l.snd.lo != lastX t.vol.ps) = false := by rw [c4]; simp
              clear c4
              go_enter Tryz.func86, Tryz.ntmps86
              go_wp2_with (first | (go_at_call 36; (with_reducible refine (hold_CheckTank t _ (by with_reducible repeat (first | exact hh | refine Ho.At.alloc ?_ _ | refine Ho.At.bw ?_ _ | refine Tk.At.alloc ?_ _ | refine Tk.At.bw ?_ _))).mono ?_); rintro e w_ ⟨rfl, hb_⟩; obtain ⟨y1, rfl⟩ := Soft.BW.mk hb_; clear hb_) | (go_at_call 65; (with_reducible refine (hold_domain t.vol _ (by repeat (first | exact hv | refine Tb.At.alloc ?_ _ | refine Tb.At.bw ?_ _)) hn).mono ?_); rintro e w_ ⟨rfl, hb_⟩; obtain ⟨y2, rfl⟩ := Soft.BW.mk hb_; clear hb_) | (go_at_call 66; (with_reducible refine (hold_isDensity l.den _ true (decide_eq_true C2.out).symm).mono ?_); rintro e w_ ⟨rfl, hb_⟩; obtain ⟨y3, rfl⟩ := Soft.BW.mk hb_; clear hb_) | (go_at_call 67; (with_reducible refine (hold_isPart l.snd _ _ _ true (decide_eq_true C3.out).symm).mono ?_); rintro e w_ ⟨rfl, hb_⟩; obtain ⟨y4, rfl⟩ := Soft.BW.mk hb_; clear hb_))
              go_ret
              refine ⟨ret_int HE.out.symm, ?_⟩
              (with_reducible repeat (first | exact blr _ | refine bla ?_ _ | refine blw _ ?_ | refine bld ?_ | refine bln _ ?_ | refine bls ?_ _ | refine blt ?_))
            · have HE := Lib.hid (levelErr_no (l := l) H0.out (fun h => c4 (h.2.2.2 hp)))
              have d4 : (l.snd.lo != lastX t.vol.ps) = true := bne_iff_ne.2 c4
              clear c4
              go_enter Tryz.func86, Tryz.ntmps86
              go_wp2_with (first | (go_at_call 36; (with_reducible refine (hold_CheckTank t _ (by with_reducible repeat (first | exact hh | refine Ho.At.alloc ?_ _ | refine Ho.At.bw ?_ _ | refine Tk.At.alloc ?_ _ | refine Tk.At.bw ?_ _))).mono ?_); rintro e w_ ⟨rfl, hb_⟩; obtain ⟨y1, rfl⟩ := Soft.BW.mk hb_; clear hb_) | (go_at_call 65; (with_reducible refine (hold_domain t.vol _ (by repeat (first | exact hv | refine Tb.At.alloc ?_ _ | refine Tb.At.bw ?_ _)) hn).mono ?_); rintro e w_ ⟨rfl, hb_⟩; obtain ⟨y2, rfl⟩ := Soft.BW.mk hb_; clear hb_) | (go_at_call 66; (with_reducible refine (hold_isDensity l.den _ true (decide_eq_true C2.out).symm).mono ?_); rintro e w_ ⟨rfl, hb_⟩; obtain ⟨y3, rfl⟩ := Soft.BW.mk hb_; clear hb_) | (go_at_call 67; (with_reducible refine (hold_isPart l.snd _ _ _ true (decide_eq_true C3.out).symm).mono ?_); rintro e w_ ⟨rfl, hb_⟩; obtain ⟨y4, rfl⟩ := Soft.BW.mk hb_; clear hb_))
              go_ret
              refine ⟨ret_int HE.out.symm, ?_⟩
              (with_reducible repeat (first | exact blr _ | refine bla ?_ _ | refine blw _ ?_ | refine bld ?_ | refine bln _ ?_ | refine bls ?_ _ | refine blt ?_))
        · have HE := Lib.hid (levelErr_no (l := l) H0.out (fun h => c3 h.2.2.1))
          have C3 := Lib.hid c3; clear c3
          go_enter Tryz.func86, Tryz.ntmps86
          go_wp2_with (first | (go_at_call 36; (with_reducible refine (hold_CheckTank t _ (by with_reducible repeat (first | exact hh | refine Ho.At.alloc ?_ _ | refine Ho.At.bw ?_ _ | refine Tk.At.alloc ?_ _ | refine Tk.At.bw ?_ _))).mono ?_); rintro e w_ ⟨rfl, hb_⟩; obtain ⟨y1, rfl⟩ := Soft.BW.mk hb_; clear hb_) | (go_at_call 65; (with_reducible refine (hold_domain t.vol _ (by repeat (first | exact hv | refine Tb.At.alloc ?_ _ | refine Tb.At.bw ?_ _)) hn).mono ?_); rintro e w_ ⟨rfl, hb_⟩; obtain ⟨y2, rfl⟩ := Soft.BW.mk hb_; clear hb_) | (go_at_call 66; (with_reducible refine (hold_isDensity l.den _ true (decide_eq_true C2.out).symm).mono ?_); rintro e w_ ⟨rfl, hb_⟩; obtain ⟨y3, rfl⟩ := Soft.BW.mk hb_; clear hb_) | (go_at_call 67; (with_reducible refine (hold_isPart l.snd _ _ _ false (decide_eq_false C3.out).symm).mono ?_); rintro e w_ ⟨rfl, hb_⟩; obtain ⟨y4, rfl⟩ := Soft.BW.mk hb_; clear hb_))
          go_ret
          refine ⟨ret_int HE.out.symm, ?_⟩
          (with_reducible repeat (first | exact blr _ | refine bla ?_ _ | refine blw _ ?_ | refine bld ?_ | refine bln _ ?_ | refine bls ?_ _ | refine blt ?_))
      · have HE := Lib.hid (levelErr_no (l := l) H0.out (fun h => c2 h.2.1))
        have C2 := Lib.hid c2; clear c2
        go_enter Tryz.func86, Tryz.ntmps86
        go_wp2_with (first | (go_at_call 36; (with_reducible refine (hold_CheckTank t _ (by with_reducible repeat (first | exact hh | refine Ho.At.alloc ?_ _ | refine Ho.At.bw ?_ _ | refine Tk.At.alloc ?_ _ | refine Tk.At.bw ?_ _))).mono ?_); rintro e w_ ⟨rfl, hb_⟩; obtain ⟨y1, rfl⟩ := Soft.BW.mk hb_; clear hb_) | (go_at_call 65; (with_reducible refine (hold_domain t.vol _ (by repeat (first | exact hv | refine Tb.At.alloc ?_ _ | refine Tb.At.bw ?_ _)) hn).mono ?_); rintro e w_ ⟨rfl, hb_⟩; obtain ⟨y2, rfl⟩ := Soft.BW.mk hb_; clear hb_) | (go_at_call 66; (with_reducible refine (hold_isDensity l.den _ false (decide_eq_false C2.out).symm).mono ?_); rintro e w_ ⟨rfl, hb_⟩; obtain ⟨y3, rfl⟩ := Soft.BW.mk hb_; clear hb_))
        go_ret
        refine ⟨ret_int HE.out.symm, ?_⟩
        (with_reducible repeat (first | exact blr _ | refine bla ?_ _ | refine blw _ ?_ | refine bld ?_ | refine bln _ ?_ | refine bls ?_ _ | refine blt ?_))
    · have HE := Lib.hid (levelErr_no (l := l) H0.out (fun h => c1 h.1))
      have d1 : (l.tank != t.id) = true := bne_iff_ne.2 c1
      clear c1
      go_enter Tryz.func86, Tryz.ntmps86
      go_wp2_with (first | (go_at_call 36; (with_reducible refine (hold_CheckTank t _ (by with_reducible repeat (first | exact hh | refine Ho.At.alloc ?_ _ | refine Ho.At.bw ?_ _ | refine Tk.At.alloc ?_ _ | refine Tk.At.bw ?_ _))).mono ?_); rintro e w_ ⟨rfl, hb_⟩; obtain ⟨y1, rfl⟩ := Soft.BW.mk hb_; clear hb_) | (go_at_call 65; (with_reducible refine (hold_domain t.vol _ (by repeat (first | exact hv | refine Tb.At.alloc ?_ _ | refine Tb.At.bw ?_ _)) hn).mono ?_); rintro e w_ ⟨rfl, hb_⟩; obtain ⟨y2, rfl⟩ := Soft.BW.mk hb_; clear hb_))
      go_ret
      refine ⟨ret_int HE.out.symm, ?_⟩
      (with_reducible repeat (first | exact blr _ | refine bla ?_ _ | refine blw _ ?_ | refine bld ?_ | refine bln _ ?_ | refine bls ?_ _ | refine blt ?_))
  · have hE : tankErr t = 21 := if_neg h0
    have HE := Lib.hid (show levelErr t l = 21 from if_neg h0); clear h0
    go_enter Tryz.func86, Tryz.ntmps86
    go_wp2_with (go_at_call 36; (with_reducible refine (hold_CheckTank t _ (by with_reducible repeat (first | exact hh | refine Ho.At.alloc ?_ _ | refine Ho.At.bw ?_ _ | refine Tk.At.alloc ?_ _ | refine Tk.At.bw ?_ _))).mono ?_); rintro e w_ ⟨rfl, hb_⟩; obtain ⟨y1, rfl⟩ := Soft.BW.mk hb_; clear hb_)
    go_ret
    refine ⟨ret_int HE.out.symm, ?_⟩
    (with_reducible repeat (first | exact blr _ | refine bla ?_ _ | refine blw _ ?_ | refine bld ?_ | refine bln _ ?_ | refine bls ?_ _ | refine blt ?_))

end Go.Proofs.YteagdcgmmdiakaaGreat

namespace Go.Proofs.YteagdcgmmdiakaaGreat
set_option linter.unusedSimpArgs false
set_option linter.unusedVariables false
open Go.RowKit
set_option maxRecDepth 100000
set_option maxHeartbeats 1000000
attribute [local go_sem] Soft.upon Soft.BW.cell_if Soft.BW.frozen_if Soft.cell_alloc_if Soft.frozen_alloc_if

theorem hold_down (a b : Int) (w : World) (h1 : -9223372036854775807 ≤ a) (h2 : a ≤ 9223372036854775807) (hb : 1 ≤ b) :
    Calls Tryz.prog 72 #[.int .i64 a, .int .i64 b] w fun e w' => e = .returned (.int .i64 (a / b)) ∧ w' = w := by
  have hbd := tdiv_bd a b hb
  obtain ⟨r1, r2⟩ : -9223372036854775808 ≤ a.tdiv b - 1 ∧ a.tdiv b - 1 ≤ 9223372036854775807 := by omega
  clear hbd
  go_enter Tryz.func72, Tryz.ntmps72
  go_wp2
  all_goals
    go_ret
    refine ⟨ret_int ?_, rfl⟩
    first | exact (tdiv_neg a b hb (by assumption)).symm | exact (tdiv_pos a b hb (by assumption)).symm

theorem hold_up (a b : Int) (w : World) (h1 : -9223372036854775807 ≤ a) (h2 : a ≤ 9223372036854775807) (hb : 1 ≤ b) :
    Calls Tryz.prog 73 #[.int .i64 a, .int .i64 b] w fun e w' => e = .returned (.int .i64 (-(-a / b))) ∧ w' = w := by
  have hd : -9223372036854775807 ≤ -a / b ∧ -a / b ≤ 9223372036854775807 := by
    by_cases h : 0 ≤ -a
    · have h1 := Int.ediv_nonneg h (show 0 ≤ b by omega)
      have h2 := Int.ediv_le_self b h
      omega
    · have h1 := Int.ediv_lt_of_lt_mul (show 0 < b by omega) (show -a < 0 * b by omega)
      have h2 : -a ≤ -a / b := Int.le_ediv_of_mul_le (by omega) (by have := Int.mul_le_mul_of_nonneg_left hb (show 0 ≤ a by omega); rw [Int.neg_mul]; omega)
      omega
  obtain ⟨d1, d2⟩ := hd
  go_enter Tryz.func73, Tryz.ntmps73
  go_wp2_with (go_at_call 72; refine (hold_down _ _ _ (by omega) (by omega) (by omega)).mono ?_; rintro e w' ⟨rfl, rfl⟩)
  go_ret
  exact ⟨rfl, rfl⟩

/-- A range times a density, divided by 1000. -/
def weighS (v d : Rg) : Rg := ⟨v.lo * d.lo / 1000, -(-(v.hi * d.hi) / 1000)⟩

theorem hold_weighed (v d : Rg) (w : World) (hv : RgIn v (-1000000000) 1000000000) (hd : RgIn d 0 2000) :
    Calls Tryz.prog 82 #[.agg #[.int .i64 (v).lo, .int .i64 (v).hi], .agg #[.int .i64 (d).lo, .int .i64 (d).hi]] w fun e w' => e = .returned (.agg #[.int .i64 (weighS v d).lo, .int .i64 (weighS v d).hi]) ∧ Below w.heap.size w w' := by
  obtain ⟨a1, a2, a3⟩ := hv
  obtain ⟨b1, b2, b3⟩ := hd
  have m1 := mul_bd 1000000000 2000 2000000000000 (by decide) (show -1000000000 ≤ v.lo by omega) (show v.lo ≤ 1000000000 by omega) (show 0 ≤ d.lo by omega) (show d.lo ≤ 2000 by omega)
  have m2 := mul_bd 1000000000 2000 2000000000000 (by decide) (show -1000000000 ≤ v.hi by omega) (show v.hi ≤ 1000000000 by omega) (show 0 ≤ d.hi by omega) (show d.hi ≤ 2000 by omega)
  obtain ⟨m11, m12⟩ := m1
  obtain ⟨m21, m22⟩ := m2
  go_enter Tryz.func82, Tryz.ntmps82
  go_wp2_with fail
  (refine Soft.region0 [0, 1, 2, 3, 4, 5, 6, 7, 8, 9, 10, 11, 12] [13] (by kernel_rfl) (by kernel_rfl) (by kernel_rfl) (by kernel_rfl) ?_; change Soft.wpSoft _ _ _ _ _ [_, _, _, _, _, _, _, _, _, _, _, _, _] _; (repeat (refine Soft.soft_step (fun K hK => ?_); go_simp; (try go_bits); first | (refine hK _ ?_; clear hK K) | (apply Exists.intro; refine ⟨fun x => ?_, hK _ ?_⟩; (first | exact Calls.bel (hold_down (v.lo * d.lo) _ _ (by omega) (by omega) (by omega)) | exact Calls.bel (hold_up (v.hi * d.hi) _ _ (by omega) (by omega) (by omega))); clear hK K))); refine Soft.soft_nil ?_; intro xw; change wpList _ _ _ [_] _ _)
  go_wp2_with fail
  refine bodyPost_ret (v := .agg #[.int .i64 (weighS v d).lo, .int .i64 (weighS v d).hi]) (by simp [results, Tryz.results82, go_sem, weighS]) rfl ?_
  refine ⟨rfl, ?_⟩
  (with_reducible repeat (first | exact blr _ | refine bla ?_ _ | refine blw _ ?_ | refine bld ?_ | refine bln _ ?_ | refine bls ?_ _ | refine blt ?_))

/-- What a fill has of two ways to say it. -/
def fillS (f : Fi) (filled : Rg) (ps : List Pt) : Rg := if f.state = 1 ∨ f.state = 2 then filled else if 3 ≤ f.state ∧ f.state ≤ 5 then (overE ps f.ull).1 else ⟨0, 0⟩

theorem hold_filling (h : Ho) (f : Fi) (filled : Rg) (t : Tb) (w : World) (ht : t.At w) :
    Calls Tryz.prog 71 #[.agg #[.int .i64 (h).id, .int .i64 ((h).along).lo, .int .i64 ((h).along).hi, .slice ((h).vol).p ((h).vol).n ((h).vol).c, .slice ((h).mom).p ((h).mom).n ((h).mom).c, .slice ((h).hei).p ((h).hei).n ((h).hei).c, .int .i64 ((h).tri).lo, .int .i64 ((h).tri).hi, .int .i64 ((h).unt).lo, .int .i64 ((h).unt).hi, .int .i64 ((h).v0).lo, .int .i64 ((h).v0).hi, .int .i64 ((h).h0).lo, .int .i64 ((h).h0).hi], .agg #[.int .i64 (f).hold, .int .i64 (f).state, .int .i64 ((f).ull).lo, .int .i64 ((f).ull).hi, .int .i64 ((f).den).lo, .int .i64 ((f).den).hi], .agg #[.int .i64 (filled).lo, .int .i64 (filled).hi], .agg #[.slice (t).p (t).n (t).c]] w fun e w' => e = .returned (.agg #[.int .i64 (fillS f filled t.ps).lo, .int .i64 (fillS f filled t.ps).hi]) ∧ Below w.heap.size w w' := by
  rcases st_class f.state with ⟨hc, m, hst⟩ | ⟨hc, m, hst⟩ | ⟨hc, m, hst⟩ | ⟨hc, hst⟩
  · have HST := Lib.hid hst; clear hst
    have HV := Lib.hid (show fillS f filled t.ps = ⟨0, 0⟩ by unfold fillS; rw [if_neg (by omega), if_neg (by omega)]); clear hc
    go_enter Tryz.func71, Tryz.ntmps71
    go_wp2_with (first | (go_at_call 26; (with_reducible refine (hold_stateOf f.state _ _ _ _ _ HST.out).mono ?_); rintro e w_ ⟨rfl, hb_⟩; obtain ⟨y1, rfl⟩ := Soft.BW.mk hb_; clear hb_) | (go_at_call 85; (with_reducible refine (hold_over t f.ull _ (by repeat (first | exact ht | refine Tb.At.alloc ?_ _ | refine Tb.At.bw ?_ _))).mono ?_); rintro e w_ ⟨rfl, hb_⟩; obtain ⟨y2, rfl⟩ := Soft.BW.mk hb_; clear hb_))
    rw [HV.out]
    refine bodyPost_ret (v := .agg #[.int .i64 ((⟨0, 0⟩ : Rg)).lo, .int .i64 ((⟨0, 0⟩ : Rg)).hi]) (by simp [results, Tryz.results71, go_sem]) rfl ?_
    refine ⟨rfl, ?_⟩
    (with_reducible repeat (first | exact blr _ | refine bla ?_ _ | refine blw _ ?_ | refine bld ?_ | refine bln _ ?_ | refine bls ?_ _ | refine blt ?_))
  · have HST := Lib.hid hst; clear hst
    have HV := Lib.hid (show fillS f filled t.ps = filled by unfold fillS; rw [if_pos hc]); clear hc
    go_enter Tryz.func71, Tryz.ntmps71
    go_wp2_with (first | (go_at_call 26; (with_reducible refine (hold_stateOf f.state _ _ _ _ _ HST.out).mono ?_); rintro e w_ ⟨rfl, hb_⟩; obtain ⟨y1, rfl⟩ := Soft.BW.mk hb_; clear hb_) | (go_at_call 85; (with_reducible refine (hold_over t f.ull _ (by repeat (first | exact ht | refine Tb.At.alloc ?_ _ | refine Tb.At.bw ?_ _))).mono ?_); rintro e w_ ⟨rfl, hb_⟩; obtain ⟨y2, rfl⟩ := Soft.BW.mk hb_; clear hb_))
    rw [HV.out]
    refine bodyPost_ret (v := .agg #[.int .i64 (filled).lo, .int .i64 (filled).hi]) (by simp [results, Tryz.results71, go_sem]) rfl ?_
    refine ⟨rfl, ?_⟩
    (with_reducible repeat (first | exact blr _ | refine bla ?_ _ | refine blw _ ?_ | refine bld ?_ | refine bln _ ?_ | refine bls ?_ _ | refine blt ?_))
  · have HST := Lib.hid hst; clear hst
    have HV := Lib.hid (show fillS f filled t.ps = (overE t.ps f.ull).1 by unfold fillS; rw [if_neg (by omega), if_pos hc]); clear hc
    go_enter Tryz.func71, Tryz.ntmps71
    go_wp2_with (first | (go_at_call 26; (with_reducible refine (hold_stateOf f.state _ _ _ _ _ HST.out).mono ?_); rintro e w_ ⟨rfl, hb_⟩; obtain ⟨y1, rfl⟩ := Soft.BW.mk hb_; clear hb_) | (go_at_call 85; (with_reducible refine (hold_over t f.ull _ (by repeat (first | exact ht | refine Tb.At.alloc ?_ _ | refine Tb.At.bw ?_ _))).mono ?_); rintro e w_ ⟨rfl, hb_⟩; obtain ⟨y2, rfl⟩ := Soft.BW.mk hb_; clear hb_))
    rw [HV.out]
    refine bodyPost_ret (v := .agg #[.int .i64 ((overE t.ps f.ull).1).lo, .int .i64 ((overE t.ps f.ull).1).hi]) (by simp [results, Tryz.results71, go_sem]) rfl ?_
    refine ⟨rfl, ?_⟩
    (with_reducible repeat (first | exact blr _ | refine bla ?_ _ | refine blw _ ?_ | refine bld ?_ | refine bln _ ?_ | refine bls ?_ _ | refine blt ?_))
  · have HST := Lib.hid hst; clear hst
    have HV := Lib.hid (show fillS f filled t.ps = ⟨0, 0⟩ by unfold fillS; rw [if_neg (by omega), if_neg (by omega)]); clear hc
    go_enter Tryz.func71, Tryz.ntmps71
    go_wp2_with (first | (go_at_call 26; (with_reducible refine (hold_stateOf f.state _ _ _ _ _ HST.out).mono ?_); rintro e w_ ⟨rfl, hb_⟩; obtain ⟨y1, rfl⟩ := Soft.BW.mk hb_; clear hb_) | (go_at_call 85; (with_reducible refine (hold_over t f.ull _ (by repeat (first | exact ht | refine Tb.At.alloc ?_ _ | refine Tb.At.bw ?_ _))).mono ?_); rintro e w_ ⟨rfl, hb_⟩; obtain ⟨y2, rfl⟩ := Soft.BW.mk hb_; clear hb_))
    rw [HV.out]
    refine bodyPost_ret (v := .agg #[.int .i64 ((⟨0, 0⟩ : Rg)).lo, .int .i64 ((⟨0, 0⟩ : Rg)).hi]) (by simp [results, Tryz.results71, go_sem]) rfl ?_
    refine ⟨rfl, ?_⟩
    (with_reducible repeat (first | exact blr _ | refine bla ?_ _ | refine blw _ ?_ | refine bld ?_ | refine bln _ ?_ | refine bls ?_ _ | refine blt ?_))


def volS (h : Ho) (f : Fi) : Rg := fillS f h.v0 h.vol.ps
def heightS (h : Ho) (f : Fi) : Rg := fillS f h.h0 h.hei.ps

theorem hold_volume (h : Ho) (f : Fi) (w : World) (hh : h.At w) :
    Calls Tryz.prog 27 #[.agg #[.int .i64 (h).id, .int .i64 ((h).along).lo, .int .i64 ((h).along).hi, .slice ((h).vol).p ((h).vol).n ((h).vol).c, .slice ((h).mom).p ((h).mom).n ((h).mom).c, .slice ((h).hei).p ((h).hei).n ((h).hei).c, .int .i64 ((h).tri).lo, .int .i64 ((h).tri).hi, .int .i64 ((h).unt).lo, .int .i64 ((h).unt).hi, .int .i64 ((h).v0).lo, .int .i64 ((h).v0).hi, .int .i64 ((h).h0).lo, .int .i64 ((h).h0).hi], .agg #[.int .i64 (f).hold, .int .i64 (f).state, .int .i64 ((f).ull).lo, .int .i64 ((f).ull).hi, .int .i64 ((f).den).lo, .int .i64 ((f).den).hi]] w fun e w' => e = .returned (.agg #[.int .i64 (volS h f).lo, .int .i64 (volS h f).hi]) ∧ Below w.heap.size w w' := by
  obtain ⟨hv, hm, hz⟩ := hh
  go_enter Tryz.func27, Tryz.ntmps27
  go_wp2_with (go_at_call 71; (with_reducible refine (hold_filling h f h.v0 h.vol _ (by repeat (first | exact hv | refine Tb.At.alloc ?_ _ | refine Tb.At.bw ?_ _))).mono ?_); rintro e w_ ⟨rfl, hb_⟩; obtain ⟨y1, rfl⟩ := Soft.BW.mk hb_; clear hb_)
  refine bodyPost_ret (v := .agg #[.int .i64 (volS h f).lo, .int .i64 (volS h f).hi]) (by simp [results, Tryz.results27, go_sem, volS]) rfl ?_
  refine ⟨rfl, ?_⟩
  (with_reducible repeat (first | exact blr _ | refine bla ?_ _ | refine blw _ ?_ | refine bld ?_ | refine bln _ ?_ | refine bls ?_ _ | refine blt ?_))
theorem hold_height (h : Ho) (f : Fi) (w : World) (hh : h.At w) :
    Calls Tryz.prog 140 #[.agg #[.int .i64 (h).id, .int .i64 ((h).along).lo, .int .i64 ((h).along).hi, .slice ((h).vol).p ((h).vol).n ((h).vol).c, .slice ((h).mom).p ((h).mom).n ((h).mom).c, .slice ((h).hei).p ((h).hei).n ((h).hei).c, .int .i64 ((h).tri).lo, .int .i64 ((h).tri).hi, .int .i64 ((h).unt).lo, .int .i64 ((h).unt).hi, .int .i64 ((h).v0).lo, .int .i64 ((h).v0).hi, .int .i64 ((h).h0).lo, .int .i64 ((h).h0).hi], .agg #[.int .i64 (f).hold, .int .i64 (f).state, .int .i64 ((f).ull).lo, .int .i64 ((f).ull).hi, .int .i64 ((f).den).lo, .int .i64 ((f).den).hi]] w fun e w' => e = .returned (.agg #[.int .i64 (heightS h f).lo, .int .i64 (heightS h f).hi]) ∧ Below w.heap.size w w' := by
  obtain ⟨hv, hm, hz⟩ := hh
  go_enter Tryz.func140, Tryz.ntmps140
  go_wp2_with (go_at_call 71; (with_reducible refine (hold_filling h f h.h0 h.hei _ (by repeat (first | exact hz | refine Tb.At.alloc ?_ _ | refine Tb.At.bw ?_ _))).mono ?_); rintro e w_ ⟨rfl, hb_⟩; obtain ⟨y1, rfl⟩ := Soft.BW.mk hb_; clear hb_)
  refine bodyPost_ret (v := .agg #[.int .i64 (heightS h f).lo, .int .i64 (heightS h f).hi]) (by simp [results, Tryz.results140, go_sem, heightS]) rfl ?_
  refine ⟨rfl, ?_⟩
  (with_reducible repeat (first | exact blr _ | refine bla ?_ _ | refine blw _ ?_ | refine bld ?_ | refine bln _ ?_ | refine bls ?_ _ | refine blt ?_))

end Go.Proofs.YteagdcgmmdiakaaGreat

namespace Go.Proofs.YteagdcgmmdiakaaGreat
set_option linter.unusedSimpArgs false
set_option linter.unusedVariables false
open Go.RowKit
set_option maxRecDepth 100000
set_option maxHeartbeats 1000000
attribute [local go_sem] Instr.field asAgg Soft.upon Soft.BW.cell_if Soft.BW.frozen_if Soft.cell_alloc_if Soft.frozen_alloc_if

def litLo (m : Int) (d : Rg) : Int := 1000 * m / (if m < 0 then d.lo else d.hi)
def litHi (m : Int) (d : Rg) : Int := -(-(1000 * m) / (if m < 0 then d.hi else d.lo))
/-- The litres of a mass. -/
def litS (m d : Rg) : Rg := ⟨litLo m.lo d, litHi m.hi d⟩

theorem hold_litres (m d : Rg) (w : World) (hm : rangeErr m = 0) (hd : isDen d) :
    Calls Tryz.prog 28 #[.agg #[.int .i64 (m).lo, .int .i64 (m).hi], .agg #[.int .i64 (d).lo, .int .i64 (d).hi]] w fun e w' => e = .returned (.agg #[.int .i64 (litS m d).lo, .int .i64 (litS m d).hi]) ∧ Below w.heap.size w w' := by
  obtain ⟨b1, b2, b3⟩ := hd
  obtain ⟨_, m1, m2, m3⟩ | ⟨h, _⟩ := rangeErr_cases m
  · clear hm
    by_cases c1 : m.lo < 0
    · have E1 := Lib.hid (show litLo m.lo d = 1000 * m.lo / d.lo by unfold litLo; rw [if_pos c1])
      by_cases c2 : m.hi < 0
      · have E2 := Lib.hid (show litHi m.hi d = -(-(1000 * m.hi) / d.hi) by unfold litHi; rw [if_pos c2])
        go_enter Tryz.func28, Tryz.ntmps28
        go_wp2_with fail
        (refine Soft.region0 [0, 1, 2, 3, 4, 5] [] (by kernel_rfl) (by kernel_rfl) (by kernel_rfl) (by kernel_rfl) ?_; change Soft.wpSoft _ _ _ _ _ [_, _, _, _, _, _] _; (repeat (refine Soft.soft_step (fun K hK => ?_); go_simp; (try go_bits); first | (refine hK _ ?_; clear hK K) | (apply Exists.intro; refine ⟨fun x => ?_, hK _ ?_⟩; (fail); clear hK K))); refine Soft.soft_nil ?_; intro xw; change wpList _ _ _ [] _ _)
        go_wp2_with fail
        (refine Soft.region0 [0, 1, 2, 3, 4, 5, 6, 7, 8, 9, 10] [11] (by kernel_rfl) (by kernel_rfl) (by kernel_rfl) (by kernel_rfl) ?_; change Soft.wpSoft _ _ _ _ _ [_, _, _, _, _, _, _, _, _, _, _] _; (repeat (refine Soft.soft_step (fun K hK => ?_); go_simp; (try go_bits); first | (refine hK _ ?_; clear hK K) | (apply Exists.intro; refine ⟨fun x => ?_, hK _ ?_⟩; (first | exact Calls.bel (hold_down (1000 * m.lo) d.lo _ (by omega) (by omega) (by omega)) | exact Calls.bel (hold_up (1000 * m.hi) d.hi _ (by omega) (by omega) (by omega))); clear hK K))); refine Soft.soft_nil ?_; intro xw; change wpList _ _ _ [_] _ _)
        go_wp2_with fail
        refine bodyPost_ret (v := .agg #[.int .i64 (litS m d).lo, .int .i64 (litS m d).hi]) (by simp [results, Tryz.results28, go_sem, litS, E1.out, E2.out]) rfl ?_
        refine ⟨rfl, ?_⟩
        (with_reducible repeat (first | exact blr _ | refine bla ?_ _ | refine blw _ ?_ | refine bld ?_ | refine bln _ ?_ | refine bls ?_ _ | refine blt ?_))
      · have E2 := Lib.hid (show litHi m.hi d = -(-(1000 * m.hi) / d.lo) by unfold litHi; rw [if_neg c2])
        go_enter Tryz.func28, Tryz.ntmps28
        go_wp2_with fail
        (refine Soft.region0 [0, 1, 2, 3, 4, 5] [] (by kernel_rfl) (by kernel_rfl) (by kernel_rfl) (by kernel_rfl) ?_; change Soft.wpSoft _ _ _ _ _ [_, _, _, _, _, _] _; (repeat (refine Soft.soft_step (fun K hK => ?_); go_simp; (try go_bits); first | (refine hK _ ?_; clear hK K) | (apply Exists.intro; refine ⟨fun x => ?_, hK _ ?_⟩; (fail); clear hK K))); refine Soft.soft_nil ?_; intro xw; change wpList _ _ _ [] _ _)
        go_wp2_with fail
        (refine Soft.region0 [0, 1, 2, 3, 4, 5, 6, 7, 8, 9, 10] [11] (by kernel_rfl) (by kernel_rfl) (by kernel_rfl) (by kernel_rfl) ?_; change Soft.wpSoft _ _ _ _ _ [_, _, _, _, _, _, _, _, _, _, _] _; (repeat (refine Soft.soft_step (fun K hK => ?_); go_simp; (try go_bits); first | (refine hK _ ?_; clear hK K) | (apply Exists.intro; refine ⟨fun x => ?_, hK _ ?_⟩; (first | exact Calls.bel (hold_down (1000 * m.lo) d.lo _ (by omega) (by omega) (by omega)) | exact Calls.bel (hold_up (1000 * m.hi) d.lo _ (by omega) (by omega) (by omega))); clear hK K))); refine Soft.soft_nil ?_; intro xw; change wpList _ _ _ [_] _ _)
        go_wp2_with fail
        refine bodyPost_ret (v := .agg #[.int .i64 (litS m d).lo, .int .i64 (litS m d).hi]) (by simp [results, Tryz.results28, go_sem, litS, E1.out, E2.out]) rfl ?_
        refine ⟨rfl, ?_⟩
        (with_reducible repeat (first | exact blr _ | refine bla ?_ _ | refine blw _ ?_ | refine bld ?_ | refine bln _ ?_ | refine bls ?_ _ | refine blt ?_))
    · have E1 := Lib.hid (show litLo m.lo d = 1000 * m.lo / d.hi by unfold litLo; rw [if_neg c1])
      have c2 : ¬m.hi < 0 := by omega
      have E2 := Lib.hid (show litHi m.hi d = -(-(1000 * m.hi) / d.lo) by unfold litHi; rw [if_neg c2])
      go_enter Tryz.func28, Tryz.ntmps28
      go_wp2_with fail
      (refine Soft.region0 [0, 1, 2, 3, 4, 5] [] (by kernel_rfl) (by kernel_rfl) (by kernel_rfl) (by kernel_rfl) ?_; change Soft.wpSoft _ _ _ _ _ [_, _, _, _, _, _] _; (repeat (refine Soft.soft_step (fun K hK => ?_); go_simp; (try go_bits); first | (refine hK _ ?_; clear hK K) | (apply Exists.intro; refine ⟨fun x => ?_, hK _ ?_⟩; (fail); clear hK K))); refine Soft.soft_nil ?_; intro xw; change wpList _ _ _ [] _ _)
      go_wp2_with fail
      (refine Soft.region0 [0, 1, 2, 3, 4, 5, 6, 7, 8, 9, 10] [11] (by kernel_rfl) (by kernel_rfl) (by kernel_rfl) (by kernel_rfl) ?_; change Soft.wpSoft _ _ _ _ _ [_, _, _, _, _, _, _, _, _, _, _] _; (repeat (refine Soft.soft_step (fun K hK => ?_); go_simp; (try go_bits); first | (refine hK _ ?_; clear hK K) | (apply Exists.intro; refine ⟨fun x => ?_, hK _ ?_⟩; (first | exact Calls.bel (hold_down (1000 * m.lo) d.hi _ (by omega) (by omega) (by omega)) | exact Calls.bel (hold_up (1000 * m.hi) d.lo _ (by omega) (by omega) (by omega))); clear hK K))); refine Soft.soft_nil ?_; intro xw; change wpList _ _ _ [_] _ _)
      go_wp2_with fail
      refine bodyPost_ret (v := .agg #[.int .i64 (litS m d).lo, .int .i64 (litS m d).hi]) (by simp [results, Tryz.results28, go_sem, litS, E1.out, E2.out]) rfl ?_
      refine ⟨rfl, ?_⟩
      (with_reducible repeat (first | exact blr _ | refine bla ?_ _ | refine blw _ ?_ | refine bld ?_ | refine bln _ ?_ | refine bls ?_ _ | refine blt ?_))
  · omega

/-- The error of a mass and a density. -/
def massErr (m d : Rg) : Int := if rangeErr m = 0 then (if isDen d then 0 else 22) else 10

theorem hold_checkMass (m d : Rg) (w : World) :
    Calls Tryz.prog 25 #[.agg #[.int .i64 (m).lo, .int .i64 (m).hi], .agg #[.int .i64 (d).lo, .int .i64 (d).hi]] w fun e w' => e = .returned (.int .i64 (massErr m d)) ∧ Below w.heap.size w w' := by
  obtain ⟨e0, _⟩ | ⟨e0, _⟩ := rangeErr_cases m
  · by_cases c : isDen d
    · have HV := Lib.hid (show massErr m d = 0 by unfold massErr; rw [if_pos e0, if_pos c])
      have HC := Lib.hid c; clear c
      go_enter Tryz.func25, Tryz.ntmps25
      go_wp2_with (first | (go_at_call 68; (with_reducible refine (fix_CheckRange m _).mono ?_); rintro e w_ ⟨rfl, hb_⟩; obtain ⟨y1, rfl⟩ := Soft.BW.mk hb_; clear hb_) | (go_at_call 66; (with_reducible refine (hold_isDensity d _ true (decide_eq_true HC.out).symm).mono ?_); rintro e w_ ⟨rfl, hb_⟩; obtain ⟨y2, rfl⟩ := Soft.BW.mk hb_; clear hb_))
      go_ret
      refine ⟨ret_int HV.out.symm, ?_⟩
      (with_reducible repeat (first | exact blr _ | refine bla ?_ _ | refine blw _ ?_ | refine bld ?_ | refine bln _ ?_ | refine bls ?_ _ | refine blt ?_))
    · have HV := Lib.hid (show massErr m d = 22 by unfold massErr; rw [if_pos e0, if_neg c])
      have HC := Lib.hid c; clear c
      go_enter Tryz.func25, Tryz.ntmps25
      go_wp2_with (first | (go_at_call 68; (with_reducible refine (fix_CheckRange m _).mono ?_); rintro e w_ ⟨rfl, hb_⟩; obtain ⟨y1, rfl⟩ := Soft.BW.mk hb_; clear hb_) | (go_at_call 66; (with_reducible refine (hold_isDensity d _ false (decide_eq_false HC.out).symm).mono ?_); rintro e w_ ⟨rfl, hb_⟩; obtain ⟨y2, rfl⟩ := Soft.BW.mk hb_; clear hb_))
      go_ret
      refine ⟨ret_int HV.out.symm, ?_⟩
      (with_reducible repeat (first | exact blr _ | refine bla ?_ _ | refine blw _ ?_ | refine bld ?_ | refine bln _ ?_ | refine bls ?_ _ | refine blt ?_))
  · have HV := Lib.hid (show massErr m d = 10 by unfold massErr; rw [if_neg (by omega)])
    go_enter Tryz.func25, Tryz.ntmps25
    go_wp2_with (first | (go_at_call 68; (with_reducible refine (fix_CheckRange m _).mono ?_); rintro e w_ ⟨rfl, hb_⟩; obtain ⟨y1, rfl⟩ := Soft.BW.mk hb_; clear hb_))
    go_ret
    refine ⟨ret_int HV.out.symm, ?_⟩
    (with_reducible repeat (first | exact blr _ | refine bla ?_ _ | refine blw _ ?_ | refine bld ?_ | refine bln _ ?_ | refine bls ?_ _ | refine blt ?_))

theorem massErr_ok {m d : Rg} (h : massErr m d = 0) : rangeErr m = 0 ∧ isDen d := by
  unfold massErr at h
  by_cases h1 : rangeErr m = 0
  · rw [if_pos h1] at h
    by_cases h2 : isDen d
    · exact ⟨h1, h2⟩
    · rw [if_neg h2] at h; omega
  · rw [if_neg h1] at h; omega

def litE (m d : Rg) : Rg := if massErr m d = 0 then litS m d else ⟨0, 0⟩

theorem hold_Litres (m d : Rg) (w : World) :
    Calls Tryz.prog 21 #[.agg #[.int .i64 (m).lo, .int .i64 (m).hi], .agg #[.int .i64 (d).lo, .int .i64 (d).hi]] w fun e w' => e = .returned (.tuple #[.agg #[.int .i64 (litE m d).lo, .int .i64 (litE m d).hi], .int .i64 (massErr m d)]) ∧ Below w.heap.size w w' := by
  by_cases hc : massErr m d = 0
  · have HK := Lib.hid hc
    obtain ⟨h1, h2⟩ := massErr_ok hc
    have H1 := Lib.hid h1; have H2 := Lib.hid h2
    have HV := Lib.hid (show litE m d = litS m d from if_pos hc)
    have d0 : (massErr m d != 0) = false := by rw [hc]; rfl
    clear hc h1 h2
    go_enter Tryz.func21, Tryz.ntmps21
    go_wp2_with (first | (go_at_call 25; (with_reducible refine (hold_checkMass m d _).mono ?_); rintro e w_ ⟨rfl, hb_⟩; obtain ⟨y1, rfl⟩ := Soft.BW.mk hb_; clear hb_) | (go_at_call 28; (with_reducible refine (hold_litres m d _ H1.out H2.out).mono ?_); rintro e w_ ⟨rfl, hb_⟩; obtain ⟨y2, rfl⟩ := Soft.BW.mk hb_; clear hb_))
    rw [HV.out, HK.out]
    refine bodyPost_ret (v := .tuple #[.agg #[.int .i64 (litS m d).lo, .int .i64 (litS m d).hi], .int .i64 0]) (by simp [results, Tryz.results21, go_sem]) rfl ?_
    refine ⟨rfl, ?_⟩
    (with_reducible repeat (first | exact blr _ | refine bla ?_ _ | refine blw _ ?_ | refine bld ?_ | refine bln _ ?_ | refine bls ?_ _ | refine blt ?_))
  · have HV := Lib.hid (show litE m d = ⟨0, 0⟩ from if_neg hc)
    have d0 : (massErr m d != 0) = true := bne_iff_ne.2 hc
    clear hc
    go_enter Tryz.func21, Tryz.ntmps21
    go_wp2_with (first | (go_at_call 25; (with_reducible refine (hold_checkMass m d _).mono ?_); rintro e w_ ⟨rfl, hb_⟩; obtain ⟨y1, rfl⟩ := Soft.BW.mk hb_; clear hb_))
    rw [HV.out]
    refine bodyPost_ret (v := .tuple #[.agg #[.int .i64 ((⟨0, 0⟩ : Rg)).lo, .int .i64 ((⟨0, 0⟩ : Rg)).hi], .int .i64 (massErr m d)]) (by simp [results, Tryz.results21, go_sem]) rfl ?_
    refine ⟨rfl, ?_⟩
    (with_reducible repeat (first | exact blr _ | refine bla ?_ _ | refine blw _ ?_ | refine bld ?_ | refine bln _ ?_ | refine bls ?_ _ | refine blt ?_))

def plusS (a b : Rg) : Rg := ⟨a.lo + b.lo, a.hi + b.hi⟩
theorem hold_plus (a b : Rg) (w : World) (h1 : I64 (a.lo + b.lo)) (h2 : I64 (a.hi + b.hi)) :
    Calls Tryz.prog 34 #[.agg #[.int .i64 (a).lo, .int .i64 (a).hi], .agg #[.int .i64 (b).lo, .int .i64 (b).hi]] w fun e w' => e = .returned (.agg #[.int .i64 (plusS a b).lo, .int .i64 (plusS a b).hi]) ∧ Below w.heap.size w w' := by
  obtain ⟨a1, a2⟩ := h1
  obtain ⟨b1, b2⟩ := h2
  go_enter Tryz.func34, Tryz.ntmps34
  go_wp2_with fail
  refine bodyPost_ret (v := .agg #[.int .i64 (plusS a b).lo, .int .i64 (plusS a b).hi]) (by simp [results, Tryz.results34, go_sem, plusS]) rfl ?_
  refine ⟨rfl, ?_⟩
  (with_reducible repeat (first | exact blr _ | refine bla ?_ _ | refine blw _ ?_ | refine bld ?_ | refine bln _ ?_ | refine bls ?_ _ | refine blt ?_))

end Go.Proofs.YteagdcgmmdiakaaGreat

namespace Go.Proofs.YteagdcgmmdiakaaGreat
set_option linter.unusedSimpArgs false
set_option linter.unusedVariables false
open Go.RowKit
set_option maxRecDepth 100000
set_option maxHeartbeats 1000000
attribute [local go_sem] Instr.field asAgg Soft.upon Soft.BW.cell_if Soft.BW.frozen_if Soft.cell_alloc_if Soft.frozen_alloc_if

end Go.Proofs.YteagdcgmmdiakaaGreat

namespace Go.Proofs.YteagdcgmmdiakaaGreat
set_option linter.unusedSimpArgs false
set_option linter.unusedVariables false
open Go.RowKit
set_option maxRecDepth 100000
set_option maxHeartbeats 4000000
attribute [local go_sem] Instr.field asAgg Soft.upon Soft.BW.cell_if Soft.BW.frozen_if Soft.cell_alloc_if Soft.frozen_alloc_if

theorem HasBlk.rowx {W : World} {B : Nat} {c : Array Value} {t : TypeId} (h : HasBlk W B c t) {g : Nat} (hg : B ≠ g) (cs : Array Value) : HasBlk (W.setRow g cs) B c t := (setRow_other W g B cs hg).trans h
theorem Tb.At.rowx {w : World} {t : Tb} (h : t.At w) {g : Nat} (hg : ∀ b o, t.p = some ⟨b, o, none⟩ → b ≠ g) (cs : Array Value) : t.At (w.setRow g cs) := by
  obtain ⟨h1, h2, h3, h4, h5⟩ := h
  refine ⟨h1, h2, h3, h4, fun hn => ?_⟩
  obtain ⟨b, o, e, hlt, hc⟩ := h5 hn
  have key : ∀ i, (w.setRow g cs).cell? ⟨b, i, none⟩ = w.cell? ⟨b, i, none⟩ := fun i => World.cell?_of_block (w := w) (setRow_other w g b cs (hg b o e))
  refine ⟨b, o, e, by simpa [World.setRow] using hlt, fun i hi => ?_⟩
  rw [key, key, key]
  exact hc i hi

end Go.Proofs.YteagdcgmmdiakaaGreat

namespace Go.Proofs.YteagdcgmmdiakaaGreat
set_option linter.unusedSimpArgs false
set_option linter.unusedVariables false
open Go.RowKit

/-- A world with fewer blocks. -/
def World.cut (x : World) (k : Nat) : World := { x with heap := x.heap.extract 0 k }
theorem World.cut_size (x : World) (k : Nat) (h : k ≤ x.heap.size) : (World.cut x k).heap.size = k := by
  simp [World.cut]; omega
theorem World.cut_get (x : World) (k i : Nat) (h : i < k) : (World.cut x k).heap[i]? = x.heap[i]? := by
  simp [World.cut, Array.getElem?_extract]; omega

theorem newSplit {w : World} {k : Nat} {obj : Obj} {x : Soft.BW w} (h : Soft.New w k obj x.w) : ∃ (N : Soft.BW w) (x' : Soft.BW (N.w.alloc obj)), k = N.w.heap.size ∧ x.w = x'.w := by
  have hk := h.le
  have hlt := h.lt
  have hb := x.below
  have hN : Below w.heap.size w (World.cut x.w k) := ⟨hb.os, hb.tape, hb.output, by rw [World.cut_size _ _ (by omega)]; exact hk, fun i hi => by rw [World.cut_get _ _ _ (by omega)]; exact hb.block i hi⟩
  have hs := World.cut_size x.w k (by omega)
  refine ⟨⟨World.cut x.w k, hN⟩, ⟨x.w, ?_⟩, hs.symm, rfl⟩
  show Below ((World.cut x.w k).alloc obj).heap.size ((World.cut x.w k).alloc obj) x.w
  refine ⟨rfl, rfl, rfl, by simp [hs]; omega, fun i hi => ?_⟩
  simp [hs] at hi
  by_cases e : i < k
  · rw [show ((World.cut x.w k).alloc obj).heap[i]? = (World.cut x.w k).heap[i]? from Below.heap_alloc _ _ _ (by omega), World.cut_get _ _ _ e]
  · obtain rfl : i = k := by omega
    rw [show ((World.cut x.w i).alloc obj).heap[i]? = some obj by have := Soft.heap_new (World.cut x.w i) obj; rwa [hs] at this]
    exact h.at_

/-- A store of a whole block that was laid before the callees. -/
theorem bwStore {N : World} {c : Array Value} {t : TypeId} (x : Soft.BW (N.alloc (.cells c t))) (cs : Array Value) : ∃ x' : Soft.BW (N.alloc (.cells cs t)), x.w.setRow N.heap.size cs = x'.w ∧ x'.w.heap.size = x.w.heap.size := by
  have hb := x.below
  have hsz := hb.size
  simp at hsz
  have h0 : x.w.heap[N.heap.size]? = some (.cells c t) := (hb.block N.heap.size (by simp)).trans (Soft.heap_new N _)
  refine ⟨⟨x.w.setRow N.heap.size cs, ⟨hb.os, hb.tape, hb.output, by simp [World.setRow]; omega, fun i hi => ?_⟩⟩, rfl, by simp [Soft.BW.w, World.setRow]⟩
  simp at hi
  by_cases e : i < N.heap.size
  · rw [setRow_other _ _ _ _ (by omega), hb.block i (by simp; omega)]
    rw [Below.heap_alloc _ _ _ e, Below.heap_alloc _ _ _ e]
  · obtain rfl : i = N.heap.size := by omega
    rw [setRow_heap _ _ _ _ _ _ h0, Soft.heap_new]

end Go.Proofs.YteagdcgmmdiakaaGreat
