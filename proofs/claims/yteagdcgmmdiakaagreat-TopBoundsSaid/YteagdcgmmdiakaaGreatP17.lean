/-
  cond's arithmetic of ranges: minus, quotient, product; at, over.
  cond: CheckLoad, check.
  A store of several cells into the midst of a block that is known whole.
  Plain facts: what is gathered over a range of places, inverses, litres, where no makers are there.
  What Sum tells of all weights together narrows where the weights do; and it is one thing alone.
  Conditions: each theorem's own premises.
-/
import Derived.Test.YteagdcgmmdiakaaGreatP16
import Derived.Test.YteagdcgmmdiakaaGreatP10
import Derived.Test.YteagdcgmmdiakaaGreatP02
import Derived.Test.YteagdcgmmdiakaaGreatP05
import Derived.Test.YteagdcgmmdiakaaGreatP06
namespace Go.Proofs.YteagdcgmmdiakaaGreat
set_option linter.unusedSimpArgs false
set_option linter.unusedVariables false
open Go.RowKit
set_option maxRecDepth 100000
set_option maxHeartbeats 4000000
attribute [local go_sem] Instr.field asAgg Soft.upon Soft.upon0 Soft.stepC Soft.BW.cell_if Soft.BW.frozen_if Soft.cell_alloc_if Soft.frozen_alloc_if
attribute [local irreducible] Soft.wpSoft Soft.wpMix

/-- The difference, the quotient and the product of two ranges. -/
def subR (a b : Rg) : Rg := ⟨a.lo - b.hi, a.hi - b.lo⟩
def quoR (a b : Rg) : Rg := ⟨min (a.lo / b.lo) (a.lo / b.hi), max (-(-a.hi / b.lo)) (-(-a.hi / b.hi))⟩

theorem cond_minus (a b : Rg) (w : World) (h1 : -4000000000000000000 ≤ a.lo ∧ a.lo ≤ 4000000000000000000) (h2 : -4000000000000000000 ≤ a.hi ∧ a.hi ≤ 4000000000000000000) (h3 : -4000000000000000000 ≤ b.lo ∧ b.lo ≤ 4000000000000000000) (h4 : -4000000000000000000 ≤ b.hi ∧ b.hi ≤ 4000000000000000000) :
    Calls Tryz.prog 50 #[.agg #[.int .i64 (a).lo, .int .i64 (a).hi], .agg #[.int .i64 (b).lo, .int .i64 (b).hi]] w fun e w' => e = .returned (.agg #[.int .i64 (subR a b).lo, .int .i64 (subR a b).hi]) ∧ Below w.heap.size w w' := by
  obtain ⟨h11, h12⟩ := h1
  obtain ⟨h21, h22⟩ := h2
  obtain ⟨h31, h32⟩ := h3
  obtain ⟨h41, h42⟩ := h4
  go_enter Tryz.func50, Tryz.ntmps50
  go_wp2
  refine bodyPost_ret (v := .agg #[.int .i64 (a.lo - b.hi), .int .i64 (a.hi - b.lo)]) (by simp [results, Tryz.results50, go_sem]) rfl ?_
  refine ⟨rfl, ?_⟩
  (with_reducible repeat (first | exact blr _ | refine bla ?_ _ | refine blw _ ?_ | refine bld ?_ | refine bln _ ?_ | refine bls ?_ _ | refine blt ?_))

/-- The ends of a range, not too great. -/
def MidR (r : Rg) : Prop := (-4000000000000000000 ≤ r.lo ∧ r.lo ≤ 4000000000000000000) ∧ -4000000000000000000 ≤ r.hi ∧ r.hi ≤ 4000000000000000000

theorem cond_quotient (a b : Rg) (w : World) (ha : MidR a) (hb : 1 ≤ b.lo ∧ 1 ≤ b.hi) :
    Calls Tryz.prog 116 #[.agg #[.int .i64 (a).lo, .int .i64 (a).hi], .agg #[.int .i64 (b).lo, .int .i64 (b).hi]] w fun e w' => e = .returned (.agg #[.int .i64 (quoR a b).lo, .int .i64 (quoR a b).hi]) ∧ Below w.heap.size w w' := by
  obtain ⟨⟨a1, a2⟩, a3, a4⟩ := ha
  obtain ⟨b1, b2⟩ := hb
  have C1 := Lib.hid (fun W => Calls.bel (cond_down a.lo b.lo W (by omega) (by omega) b1))
  have C2 := Lib.hid (fun W => Calls.bel (cond_down a.lo b.hi W (by omega) (by omega) b2))
  have C3 := Lib.hid (fun W => Calls.bel (cond_up a.hi b.lo W (by omega) (by omega) b1))
  have C4 := Lib.hid (fun W => Calls.bel (cond_up a.hi b.hi W (by omega) (by omega) b2))
  have HV := Lib.hid (show quoR a b = ⟨min (a.lo / b.lo) (a.lo / b.hi), max (-(-a.hi / b.lo)) (-(-a.hi / b.hi))⟩ from rfl)
  rw [HV.out]
  generalize a.lo / b.lo = q1 at *
  generalize a.lo / b.hi = q2 at *
  generalize -(-a.hi / b.lo) = q3 at *
  generalize -(-a.hi / b.hi) = q4 at *
  clear HV
  go_enter Tryz.func116, Tryz.ntmps116
  go_wp2_with fail
  (refine Soft.region0 [0, 1, 2, 3, 4, 5, 6, 7, 8, 9, 10, 11, 12, 13, 14, 15, 16, 17, 18, 19, 20, 21, 22] [23] (by kernel_rfl) (by kernel_rfl) (by kernel_rfl) (by kernel_rfl) ?_; change Soft.wpSoft _ _ _ _ _ [_, _, _, _, _, _, _, _, _, _, _, _, _, _, _, _, _, _, _, _, _, _, _] _; (repeat (refine Soft.soft_step (fun K hK => ?_); go_simp; (try go_bits); first | (refine hK _ ?_; clear hK K) | (apply Exists.intro; refine ⟨fun x => ?_, hK _ ?_⟩; (first | (go_at_call 114; with_reducible exact (C1.out _)) | (go_at_call 114; with_reducible exact (C2.out _)) | (go_at_call 115; with_reducible exact (C3.out _)) | (go_at_call 115; with_reducible exact (C4.out _))); clear hK K))); refine Soft.soft_nil ?_; intro xw; change wpList _ _ _ [_] _ _)
  go_wp2_with fail
  refine bodyPost_ret (v := .agg #[.int .i64 (min q1 q2), .int .i64 (max q3 q4)]) (by simp [results, Tryz.results116, go_sem]) rfl ?_
  refine ⟨rfl, ?_⟩
  (with_reducible repeat (first | exact blr _ | refine bla ?_ _ | refine blw _ ?_ | refine bld ?_ | refine bln _ ?_ | refine bls ?_ _ | refine blt ?_))

theorem cond_over (t : Tb) (r : Rg) (w : World) (ht : t.At w) :
    Calls Tryz.prog 107 #[.agg #[.slice (t).p (t).n (t).c], .agg #[.int .i64 (r).lo, .int .i64 (r).hi]] w fun e w' => e = .returned (.tuple #[.agg #[.int .i64 ((overE t.ps r).1).lo, .int .i64 ((overE t.ps r).1).hi], .int .i64 (overE t.ps r).2]) ∧ Below w.heap.size w w' := by
  have CO := Lib.hid (fun W (hb : Below w.heap.size w W) => fix_Over t r W (ht.same hb))
  generalize overE t.ps r = E at *
  obtain ⟨⟨el, eh⟩, er⟩ := E
  dsimp only at CO
  go_enter Tryz.func107, Tryz.ntmps107
  go_wp2_with (go_at_call 141; (with_reducible refine (CO.out _ (by (with_reducible repeat (first | exact blr _ | refine bla ?_ _ | refine blw _ ?_ | refine bld ?_ | refine bln _ ?_ | refine bls ?_ _ | refine blt ?_)))).mono ?_); rintro e w_ ⟨rfl, hb_⟩; obtain ⟨y1, rfl⟩ := Soft.BW.mk hb_; clear hb_)
  refine bodyPost_ret (v := .tuple #[.agg #[.int .i64 el, .int .i64 eh], .int .i64 er]) (by simp [results, Tryz.results107, go_sem]) rfl ?_
  refine ⟨rfl, ?_⟩
  (with_reducible repeat (first | exact blr _ | refine bla ?_ _ | refine blw _ ?_ | refine bld ?_ | refine bln _ ?_ | refine bls ?_ _ | refine blt ?_))

theorem cond_at (t : Tb) (x : Int) (w : World) (ht : t.At w) :
    Calls Tryz.prog 51 #[.agg #[.slice (t).p (t).n (t).c], .int .i64 x] w fun e w' => e = .returned (.agg #[.int .i64 ((atE t.ps x).1).lo, .int .i64 ((atE t.ps x).1).hi]) ∧ Below w.heap.size w w' := by
  have CO := Lib.hid (fun W (hb : Below w.heap.size w W) => fix_At t x W (ht.same hb))
  generalize atE t.ps x = E at *
  obtain ⟨⟨el, eh⟩, er⟩ := E
  dsimp only at CO
  go_enter Tryz.func51, Tryz.ntmps51
  go_wp2_with (go_at_call 18; (with_reducible refine (CO.out _ (by (with_reducible repeat (first | exact blr _ | refine bla ?_ _ | refine blw _ ?_ | refine bld ?_ | refine bln _ ?_ | refine bls ?_ _ | refine blt ?_)))).mono ?_); rintro e w_ ⟨rfl, hb_⟩; obtain ⟨y1, rfl⟩ := Soft.BW.mk hb_; clear hb_)
  refine bodyPost_ret (v := .agg #[.int .i64 el, .int .i64 eh]) (by simp [results, Tryz.results51, go_sem]) rfl ?_
  refine ⟨rfl, ?_⟩
  (with_reducible repeat (first | exact blr _ | refine bla ?_ _ | refine blw _ ?_ | refine bld ?_ | refine bln _ ?_ | refine bls ?_ _ | refine blt ?_))

end Go.Proofs.YteagdcgmmdiakaaGreat

namespace Go.Proofs.YteagdcgmmdiakaaGreat
set_option linter.unusedSimpArgs false
set_option linter.unusedVariables false
open Go.RowKit
set_option maxRecDepth 100000
set_option maxHeartbeats 4000000
attribute [local go_sem] Instr.field asAgg Soft.upon Soft.upon0 Soft.stepC Soft.BW.cell_if Soft.BW.frozen_if Soft.cell_alloc_if Soft.frozen_alloc_if
attribute [local irreducible] Soft.wpSoft Soft.wpMix

theorem isWeightNot (x : Wt) (w : World) (v : Bool) (hv : v = decide (isWt x)) :
    Calls Tryz.prog 159 #[.agg #[.int .i64 ((x).mass).lo, .int .i64 ((x).mass).hi, .int .i64 ((x).along).lo, .int .i64 ((x).along).hi, .int .i64 ((x).high).lo, .int .i64 ((x).high).hi]] w fun e w' => e = .returned (.bool (!v)) ∧ Below w.heap.size w w' := by
  have CW := Lib.hid (fun W => cond_isWeight x W v hv)
  clear hv
  go_enter Tryz.func159, Tryz.ntmps159
  go_wp2_with (go_at_call 40; (with_reducible refine (CW.out _).mono ?_); rintro e w_ ⟨rfl, hb_⟩; obtain ⟨y1, rfl⟩ := Soft.BW.mk hb_; clear hb_)
  go_ret
  refine ⟨rfl, ?_⟩
  (with_reducible repeat (first | exact blr _ | refine bla ?_ _ | refine blw _ ?_ | refine bld ?_ | refine bln _ ?_ | refine bls ?_ _ | refine blt ?_))

theorem least_wt {xs : List Wt} (h : ∃ k, k < xs.length ∧ ¬isWt (wv xs k)) : ∃ m, m < xs.length ∧ ¬isWt (wv xs m) ∧ ∀ j, j < m → isWt (wv xs j) := by
  obtain ⟨k, hk, hn⟩ := h
  induction k using Nat.strongRecOn with
  | _ k ih =>
    by_cases hex : ∃ j, j < k ∧ ¬isWt (wv xs j)
    · obtain ⟨j, hj, hjn⟩ := hex
      exact ih j hj (by omega) hjn
    · exact ⟨k, hk, hn, fun j hj => Classical.not_not.1 fun h => hex ⟨j, hj, h⟩⟩

theorem indexWt (s : Sl Wt) (w : World) (hs : WsAt w s) (m : Nat) (hm : m ≤ s.xs.length) (hpos : ∀ j, j < m → isWt (wv s.xs j)) (hneg : m < s.xs.length → ¬isWt (wv s.xs m)) (r : Int) (hr : r = if m < s.xs.length then (m : Int) else -1) :
    Calls Tryz.prog 173 #[.slice s.p s.n s.c, .func (.func 159) #[] #[]] w fun e w' => e = .returned (.int .i64 r) ∧ Below w.heap.size w w' := by
  obtain ⟨p, n, c, xs⟩ := s
  have h1 := hs.1
  have h3 := hs.2.1
  have h4 := hs.2.2.1
  dsimp only at *
  rw [h1] at hm hneg hr
  have HS := Lib.hid hs; clear hs
  have HR := Lib.hid hr; clear hr
  have HP := Lib.hid hpos; clear hpos
  have HN := Lib.hid hneg; clear hneg
  clear h1
  go_enter Tryz.func173, Tryz.ntmps173
  go_wp2_with fail
  go_loopw [8] (fun i wr => ∃ k : Nat, k ≤ m ∧ i = .int .i64 k ∧ Below w.heap.size w wr) (fun i _ => m + 1 - (intOf i).toNat)
  case atStart => exact ⟨0, Nat.zero_le _, rfl, Below.refl _ _⟩
  case round =>
    obtain ⟨k, hk, rfl, hB⟩ := hrel
    by_cases hlt : k < n
    · obtain ⟨b, o, rfl, _, _⟩ := HS.out.2.2.2 (by dsimp only; omega)
      obtain ⟨b', o', e, hb, hc⟩ := (HS.out.same hB).2.2.2 (by dsimp only; omega)
      cases e
      have c0 := hc k hlt 0 _ rfl
      have c1 := hc k hlt 1 _ rfl
      have c2 := hc k hlt 2 _ rfl
      have c3 := hc k hlt 3 _ rfl
      have c4 := hc k hlt 4 _ rfl
      have c5 := hc k hlt 5 _ rfl
      simp only [Nat.add_zero] at c0
      dsimp only at c0 c1 c2 c3 c4 c5
      clear hc
      have HB := Lib.hid hB; clear hB
      by_cases hkm : k = m
      · have hng := HN.out (by omega)
        rw [← hkm] at hng
        have HNG := Lib.hid (decide_eq_false hng).symm; clear hng
        have HKM := Lib.hid (show (k : Int) = r by rw [HR.out, if_pos (by omega), hkm])
        clear hkm
        generalize wv xs k = q at *
        go_wp2_with (go_at_call 159; (with_reducible refine (isWeightNot q _ false HNG.out).mono ?_); rintro e w_ ⟨rfl, hb_⟩; obtain ⟨y1, rfl⟩ := Soft.BW.mk hb_; clear hb_)
        go_ret
        refine ⟨ret_int HKM.out, ?_⟩
        exact HB.out.trans (y1.below.mono HB.out.size)
      · have hng := HP.out k (by omega)
        have HNG := Lib.hid (decide_eq_true hng).symm; clear hng
        have hk' : k < m := by omega
        clear hkm
        generalize wv xs k = q at *
        go_wp2_with (go_at_call 159; (with_reducible refine (isWeightNot q _ true HNG.out).mono ?_); rintro e w_ ⟨rfl, hb_⟩; obtain ⟨y1, rfl⟩ := Soft.BW.mk hb_; clear hb_)
        go_roundw
        case rel => exact ⟨k + 1, by omega, by simp, HB.out.trans (y1.below.mono HB.out.size)⟩
        case measure => simp [intOf]; omega
    · have hkn : ¬((k : Int) < n) := by omega
      have HKM := Lib.hid (show (-1 : Int) = r by rw [HR.out, if_neg (by omega)])
      have HB := Lib.hid hB; clear hB
      go_wp2_with fail
      go_ret
      exact ⟨ret_int HKM.out, HB.out⟩

theorem containsWt (s : Sl Wt) (w : World) (hs : WsAt w s) (v : Bool) (hv : v = decide (∃ k, k < s.xs.length ∧ ¬isWt (wv s.xs k))) :
    Calls Tryz.prog 158 #[.slice s.p s.n s.c, .func (.func 159) #[] #[]] w fun e w' => e = .returned (.bool v) ∧ Below w.heap.size w w' := by
  by_cases h : ∃ k, k < s.xs.length ∧ ¬isWt (wv s.xs k)
  · obtain rfl : v = true := by rw [hv]; exact decide_eq_true h
    obtain ⟨m, h1, h2, h3⟩ := least_wt h
    have C := Lib.hid (indexWt s w hs m (by omega) h3 (fun _ => h2) m (if_pos h1).symm)
    clear h3 hv h h1 h2 hs
    have hm0 : (0 : Int) ≤ m := by omega
    go_enter Tryz.func158, Tryz.ntmps158
    go_wp2_with (go_at_call 173; (with_reducible refine (C.out).mono ?_); rintro e w_ ⟨rfl, hb_⟩; obtain ⟨y1, rfl⟩ := Soft.BW.mk hb_; clear hb_)
    go_ret
    refine ⟨by simp, ?_⟩
    (with_reducible repeat (first | exact blr _ | refine bla ?_ _ | refine blw _ ?_ | refine bld ?_ | refine bln _ ?_ | refine bls ?_ _ | refine blt ?_))
  · obtain rfl : v = false := by rw [hv]; exact decide_eq_false h
    have C := Lib.hid (indexWt s w hs s.xs.length (Nat.le_refl _) (fun j hj => Classical.not_not.1 fun hx => h ⟨j, hj, hx⟩) (fun hx => absurd hx (Nat.lt_irrefl _)) (-1) (if_neg (Nat.lt_irrefl _)).symm)
    clear hv h hs
    go_enter Tryz.func158, Tryz.ntmps158
    go_wp2_with (go_at_call 173; (with_reducible refine (C.out).mono ?_); rintro e w_ ⟨rfl, hb_⟩; obtain ⟨y1, rfl⟩ := Soft.BW.mk hb_; clear hb_)
    go_ret
    refine ⟨by simp, ?_⟩
    (with_reducible repeat (first | exact blr _ | refine bla ?_ _ | refine blw _ ?_ | refine bld ?_ | refine bln _ ?_ | refine bls ?_ _ | refine blt ?_))

/-- A load as it lies in memory. -/
structure La where
  ws : Sl Wt
  sur : Rg
  shi : Rg
def La.At (w : World) (L : La) : Prop := WsAt w L.ws ∧ (L.ws.p = none → L.ws.c = 0)
theorem La.At.same {w w' : World} {L : La} (h : L.At w) (hb : Below w.heap.size w w') : L.At w' := ⟨h.1.same hb, h.2⟩
/-- A valid load. -/
structure LoadIn (L : La) : Prop where
  n : L.ws.xs.length ≤ 40
  sur : isPart L.sur 0 1000000000000
  shi : isPart L.shi 0 1000000000000
  w : ∀ k, k < L.ws.xs.length → isWt (wv L.ws.xs k)
open Classical in
noncomputable def ldErr (L : La) : Int := if LoadIn L then 0 else 32
theorem ldErr_ok {L : La} (h : LoadIn L) : ldErr L = 0 := if_pos h
theorem ldErr_bad {L : La} (h : ¬LoadIn L) : ldErr L = 32 := if_neg h

theorem cond_CheckLoad (L : La) (w : World) (hL : L.At w) :
    Calls Tryz.prog 145 #[.agg #[.slice ((L).ws).p ((L).ws).n ((L).ws).c, .int .i64 ((L).sur).lo, .int .i64 ((L).sur).hi, .int .i64 ((L).shi).lo, .int .i64 ((L).shi).hi]] w fun e w' => e = .returned (.int .i64 (ldErr L)) ∧ Below w.heap.size w w' := by
  have hn : L.ws.xs.length = L.ws.n := hL.1.1
  by_cases c1 : (40 : Int) < L.ws.n
  · have HE := Lib.hid (ldErr_bad (L := L) (fun h => by have := h.n; omega))
    clear hn
    go_enter Tryz.func145, Tryz.ntmps145
    go_wp2_with fail
    go_ret
    refine ⟨ret_int HE.out.symm, ?_⟩
    (with_reducible repeat (first | exact blr _ | refine bla ?_ _ | refine blw _ ?_ | refine bld ?_ | refine bln _ ?_ | refine bls ?_ _ | refine blt ?_))
  by_cases c2 : isPart L.sur 0 1000000000000
  rotate_left
  · have HE := Lib.hid (ldErr_bad (L := L) (fun h => c2 h.sur))
    have C2 := Lib.hid (decide_eq_false c2)
    clear hn c2
    go_enter Tryz.func145, Tryz.ntmps145
    go_wp2_with (go_at_call 88; (with_reducible refine (cond_isPart L.sur _ _ _ false C2.out.symm).mono ?_); rintro e w_ ⟨rfl, hb_⟩; obtain ⟨y1, rfl⟩ := Soft.BW.mk hb_; clear hb_)
    go_ret
    refine ⟨ret_int HE.out.symm, ?_⟩
    (with_reducible repeat (first | exact blr _ | refine bla ?_ _ | refine blw _ ?_ | refine bld ?_ | refine bln _ ?_ | refine bls ?_ _ | refine blt ?_))
  by_cases c3 : isPart L.shi 0 1000000000000
  rotate_left
  · have HE := Lib.hid (ldErr_bad (L := L) (fun h => c3 h.shi))
    have C2 := Lib.hid (decide_eq_true c2)
    have C3 := Lib.hid (decide_eq_false c3)
    clear hn c2 c3
    go_enter Tryz.func145, Tryz.ntmps145
    go_wp2_with (first | (go_at_call 88; (with_reducible refine (cond_isPart L.sur _ _ _ true C2.out.symm).mono ?_); rintro e w_ ⟨rfl, hb_⟩; obtain ⟨y1, rfl⟩ := Soft.BW.mk hb_; clear hb_) | (go_at_call 88; (with_reducible refine (cond_isPart L.shi _ _ _ false C3.out.symm).mono ?_); rintro e w_ ⟨rfl, hb_⟩; obtain ⟨y2, rfl⟩ := Soft.BW.mk hb_; clear hb_))
    go_ret
    refine ⟨ret_int HE.out.symm, ?_⟩
    (with_reducible repeat (first | exact blr _ | refine bla ?_ _ | refine blw _ ?_ | refine bld ?_ | refine bln _ ?_ | refine bls ?_ _ | refine blt ?_))
  have C2 := Lib.hid (decide_eq_true c2)
  have C3 := Lib.hid (decide_eq_true c3)
  by_cases c4 : ∃ k, k < L.ws.xs.length ∧ ¬isWt (wv L.ws.xs k)
  · have HE := Lib.hid (ldErr_bad (L := L) (fun h => by obtain ⟨k, hk, hx⟩ := c4; exact hx (h.w k hk)))
    have CC := Lib.hid (fun W (hb : Below w.heap.size w W) => containsWt L.ws W (hL.1.same hb) true (decide_eq_true c4).symm)
    clear hn c2 c3 c4 hL
    go_enter Tryz.func145, Tryz.ntmps145
    go_wp2_with (first | (go_at_call 88; (with_reducible refine (cond_isPart L.sur _ _ _ true C2.out.symm).mono ?_); rintro e w_ ⟨rfl, hb_⟩; obtain ⟨y1, rfl⟩ := Soft.BW.mk hb_; clear hb_) | (go_at_call 88; (with_reducible refine (cond_isPart L.shi _ _ _ true C3.out.symm).mono ?_); rintro e w_ ⟨rfl, hb_⟩; obtain ⟨y2, rfl⟩ := Soft.BW.mk hb_; clear hb_) | (go_at_call 158; (with_reducible refine (CC.out _ (by (with_reducible repeat (first | exact blr _ | refine bla ?_ _ | refine blw _ ?_ | refine bld ?_ | refine bln _ ?_ | refine bls ?_ _ | refine blt ?_)))).mono ?_); rintro e w_ ⟨rfl, hb_⟩; obtain ⟨y3, rfl⟩ := Soft.BW.mk hb_; clear hb_))
    go_ret
    refine ⟨ret_int HE.out.symm, ?_⟩
    (with_reducible repeat (first | exact blr _ | refine bla ?_ _ | refine blw _ ?_ | refine bld ?_ | refine bln _ ?_ | refine bls ?_ _ | refine blt ?_))
  · have HE := Lib.hid (ldErr_ok (L := L) ⟨by omega, c2, c3, fun k hk => Classical.not_not.1 fun h => c4 ⟨k, hk, h⟩⟩)
    have CC := Lib.hid (fun W (hb : Below w.heap.size w W) => containsWt L.ws W (hL.1.same hb) false (decide_eq_false c4).symm)
    clear hn c2 c3 c4 hL
    go_enter Tryz.func145, Tryz.ntmps145
    go_wp2_with (first | (go_at_call 88; (with_reducible refine (cond_isPart L.sur _ _ _ true C2.out.symm).mono ?_); rintro e w_ ⟨rfl, hb_⟩; obtain ⟨y1, rfl⟩ := Soft.BW.mk hb_; clear hb_) | (go_at_call 88; (with_reducible refine (cond_isPart L.shi _ _ _ true C3.out.symm).mono ?_); rintro e w_ ⟨rfl, hb_⟩; obtain ⟨y2, rfl⟩ := Soft.BW.mk hb_; clear hb_) | (go_at_call 158; (with_reducible refine (CC.out _ (by (with_reducible repeat (first | exact blr _ | refine bla ?_ _ | refine blw _ ?_ | refine bld ?_ | refine bln _ ?_ | refine bls ?_ _ | refine blt ?_)))).mono ?_); rintro e w_ ⟨rfl, hb_⟩; obtain ⟨y3, rfl⟩ := Soft.BW.mk hb_; clear hb_))
    go_ret
    refine ⟨ret_int HE.out.symm, ?_⟩
    (with_reducible repeat (first | exact blr _ | refine bla ?_ _ | refine blw _ ?_ | refine bld ?_ | refine bln _ ?_ | refine bls ?_ _ | refine blt ?_))

end Go.Proofs.YteagdcgmmdiakaaGreat

namespace Go.Proofs.YteagdcgmmdiakaaGreat
set_option linter.unusedSimpArgs false
set_option linter.unusedVariables false
open Go.RowKit

section
variable {P : Program}

theorem run_storeCells_part (g off : Nat) (t : TypeId) : ∀ (vs : List Value) (i : Nat) (cur : Array Value) (w : World), w.heap[g]? = some (.cells cur t (0, 0)) → off + i + vs.length ≤ cur.size → (∀ v ∈ vs, v.oneCell' = true) →
    (storeCells ⟨g, off, none⟩ vs i).run P w = .ok () (w.setRow g (cur.toList.take (off + i) ++ (vs ++ cur.toList.drop (off + i + vs.length))).toArray)
  | [], i, cur, w, hg, hl, _ => by
    have hlt : g < w.heap.size := (Array.getElem?_eq_some_iff.1 hg).1
    have hv : w.heap[g] = .cells cur t (0, 0) := (Array.getElem?_eq_some_iff.1 hg).2
    simp only [storeCells, List.nil_append, List.length_nil, Nat.add_zero, List.take_append_drop, Array.toArray_toList]
    show Result.ok () w = _
    congr 1
    unfold World.setRow
    cases w with
    | mk heap tape drawn os output =>
      congr 1
      apply Array.ext
      · simp
      · intro k h1 h2
        simp only [Array.getElem_modify]
        split
        · rename_i hk; subst hk; simp at hv; simp [hv]
        · rfl
  | v :: rest, i, cur, w, hg, hl, h1 => by
    simp only [List.length_cons] at hl
    have hi : off + i < cur.size := by omega
    have hadd : (⟨g, off, none⟩ : Addr).add i = ⟨g, off + i, none⟩ := by unfold Addr.add; split <;> simp_all
    have hcell : w.cell? ⟨g, off + i, none⟩ = some cur[off + i] := by simp [World.cell?, hg, hi]
    have hfro : w.frozen? ⟨g, off + i, none⟩ = false := by simp [World.frozen?, hg]
    have hst : (store ((⟨g, off, none⟩ : Addr).add i) v).run P w = .ok () (w.setRow g (cur.setIfInBounds (off + i) v)) := by
      rw [hadd, run_store P w _ v _ (h1 v (by simp)), hcell]
      simp [hfro, setCell_eq_setRow w g (off + i) cur t (0, 0) v hg]
    have ih := run_storeCells_part g off t rest (i + 1) (cur.setIfInBounds (off + i) v) (w.setRow g (cur.setIfInBounds (off + i) v)) (setRow_heap w g cur _ t _ hg) (by simp; omega) (fun x hx => h1 x (by simp [hx]))
    simp only [storeCells, Sem.run_bind, hst, Result.andThen_ok, ih, setRow_setRow]
    congr 3
    apply List.ext_getElem?
    intro k
    simp only [Array.toList_setIfInBounds, List.getElem?_append, List.getElem?_take, List.length_take, List.length_set, Array.length_toList, List.length_cons, List.getElem?_cons, List.getElem?_drop, List.getElem?_set]
    rw [show min (off + (i + 1)) cur.size = off + i + 1 by omega, show min (off + i) cur.size = off + i by omega]
    by_cases hk : k < off + i
    · simp [hk, show k < off + i + 1 by omega, show ¬(off + i = k) by omega, show k < off + (i + 1) by omega]
    · by_cases hk2 : k = off + i
      · subst hk2
        simp [show off + i < off + (i + 1) by omega, hi]
      · rw [if_neg (by omega), if_neg hk]
        by_cases hk3 : k - (off + i + 1) < rest.length
        · rw [if_pos hk3, if_pos (by omega), if_neg (by omega)]
          congr 1; try omega
        · rw [if_neg hk3, if_neg (by omega), if_neg (by omega)]
          congr 1; try omega

/-- A struct into the midst of a block. -/
theorem wpList_store_part {ops : Array Oper} {rest : List Oper} {o : Oper} {a : Act} {w : World} {Q : Exit → Act → World → Prop} (hgd : o.guard = none) (ty : TypeId) (x y : Operand) (ho : o.op = .store ty x y)
    (g off : Nat) (cells : Array Value) (hx : a.eval x = .pointer (some ⟨g, off, none⟩)) (hy : a.eval y = .agg cells)
    (t : TypeId) (old new : Array Value) (hg : w.heap[g]? = some (.cells old t (0, 0))) (hi : (P.info? ty).map (·.size) = some cells.size)
    (hsz : off + cells.size ≤ old.size) (h1 : cells.all (·.oneCell') = true) (hnew : (old.toList.take off ++ (cells.toList ++ old.toList.drop (off + cells.size))).toArray = new)
    (h : wpList P ops Q rest (a.put o.dst undef) (w.setRow g new)) : wpList P ops Q (o :: rest) a w :=
  wpList_plain hgd fun _ hK => by
    have := run_storeCells_part (P := P) g off t cells.toList 0 old w hg (by simpa using hsz) (fun v hv => (Array.all_eq_true_iff_forall_mem.1 h1) v (by simpa using hv))
    simp only [Nat.add_zero, Array.length_toList, hnew] at this
    have hst : (storeVar ty ⟨g, off, none⟩ (.agg cells)).run P w = .ok () (w.setRow g new) := by
      cases hq : P.info? ty with
      | none => simp [hq] at hi
      | some i =>
        have hs : cells.size = i.size := by simp [hq] at hi; omega
        simp [storeVar, sizeOf, typeInfo, hq, Value.cells, hs, this]
    unfold Oper.wp execOp
    simp only [ho, hx, hy, Instr.storeAt, Instr.sureAddr, Sem.run_bind, Sem.run_pure, Result.andThen_ok, hst]
    exact hK _ _ h

/-- Into a block laid last. -/
theorem wpList_store_new {ops : Array Oper} {rest : List Oper} {o : Oper} {a : Act} {W : World} {Q : Exit → Act → World → Prop} {old : Array Value} {t : TypeId} (hgd : o.guard = none) (ty : TypeId) (x y : Operand) (ho : o.op = .store ty x y)
    (g : Nat) (hg : g = W.heap.size) (cells : Array Value) (hx : a.eval x = .pointer (some ⟨g, 0, none⟩)) (hy : a.eval y = .agg cells) (hi : (P.info? ty).map (·.size) = some cells.size)
    (hold : old.size = cells.size) (h1 : cells.all (·.oneCell') = true)
    (h : wpList P ops Q rest (a.put o.dst undef) (W.alloc (.cells cells t))) : wpList P ops Q (o :: rest) a (W.alloc (.cells old t)) := by
  subst hg
  have hg : (W.alloc (.cells old t)).heap[W.heap.size]? = some (.cells old t (0, 0)) := by show (W.heap.push _)[W.heap.size]? = _; simp
  refine wpList_store_row hgd ty x y ho W.heap.size cells hx hy t old hg hi hold h1 ?_
  have e : (W.alloc (.cells old t)).setRow W.heap.size cells = W.alloc (.cells cells t) := by
    unfold World.setRow World.alloc
    congr 1
    apply Array.ext
    · simp
    · intro k h1 h2
      simp only [Array.getElem_modify]
      by_cases hk : W.heap.size = k
      · subst hk; simp
      · rw [if_neg hk]
        simp only [Array.size_push] at h2
        rw [Array.getElem_push_lt (by omega), Array.getElem_push_lt (by omega)]
  rw [e]
  exact h

/-- A struct out of the midst of a block. -/
theorem wpList_load_part {ops : Array Oper} {rest : List Oper} {o : Oper} {a : Act} {w : World} {Q : Exit → Act → World → Prop} (hgd : o.guard = none) (ty : TypeId) (x : Operand) (ho : o.op = .load ty x)
    (g off : Nat) (hx : a.eval x = .pointer (some ⟨g, off, none⟩)) (t : TypeId) (old cs : Array Value) (d : TypeDesc) (hg : w.heap[g]? = some (.cells old t (0, 0)))
    (hu : P.underlying ty = some d) (hd : (match d with | .struct _ | .array _ _ => true | _ => false) = true) (hi : (P.info? ty).map (·.size) = some cs.size)
    (hcs : (old.toList.drop off).take cs.size = cs.toList)
    (h : wpList P ops Q rest (a.put o.dst (.agg cs)) w) : wpList P ops Q (o :: rest) a w :=
  wpList_plain hgd fun _ hK => by
    have hl : (loadCells ⟨g, off, none⟩ cs.toList.length).run P w = .ok cs.toList.toArray w :=
      run_loadCells_list (P := P) w ⟨g, off, none⟩ cs.toList (fun j v hv => by
        have hadd : (⟨g, off, none⟩ : Addr).add j = ⟨g, off + j, none⟩ := by unfold Addr.add; split <;> simp_all
        rw [hadd]
        rw [← hcs, List.getElem?_take] at hv
        split at hv
        · rw [List.getElem?_drop] at hv
          simpa [World.cell?, hg] using hv
        · cases hv)
    have hld : (loadVar ty ⟨g, off, none⟩).run P w = .ok (.agg cs) w := by
      cases hq : P.info? ty with
      | none => simp [hq] at hi
      | some i =>
        have hs : i.size = cs.size := by simpa [hq] using hi
        have hagg : (isAgg ty).run P w = .ok true w := by
          unfold isAgg
          rw [Sem.run_bind, run_underlying hu w]
          cases d <;> simp_all
        simp only [Array.length_toList, Array.toArray_toList] at hl
        simp [loadVar, Sem.run_bind, hagg, sizeOf, typeInfo, hq, hs, hl]
    unfold Oper.wp execOp
    simp only [ho, hx, Instr.loadAt, Instr.sureAddr, Sem.run_bind, Sem.run_pure, Result.andThen_ok, hld]
    exact hK _ _ h
end

end Go.Proofs.YteagdcgmmdiakaaGreat

namespace Go.Proofs.YteagdcgmmdiakaaGreat
set_option linter.unusedSimpArgs false
set_option linter.unusedVariables false
open Go.RowKit

/-! ### A range's gathering -/

theorem gTake_le (g : Rg) (r : Rg) (h : r.lo ≤ r.hi) : (gTake (some g) r).lo ≤ g.lo ∧ g.hi ≤ (gTake (some g) r).hi ∧ (gTake (some g) r).lo ≤ r.lo ∧ r.hi ≤ (gTake (some g) r).hi := by
  simp only [gTake, gAdd]; omega
theorem gTake0_le (r : Rg) (h : r.lo ≤ r.hi) : (gTake none r).lo ≤ r.lo ∧ r.hi ≤ (gTake none r).hi := by
  simp only [gTake, gAdd]; omega

theorem atS_le {ps : List Pt} (hok : TabOk ps) {x : Int} (h1 : firstX ps ≤ x) (h2 : x ≤ lastX ps) : (atS ps x).lo ≤ (atS ps x).hi :=
  (atS_in hok h1 h2 (-1000000000) 1000000000 (fun k hk => by obtain ⟨_, _, _, a, b, _⟩ := hok.all k hk; exact ⟨a, b⟩)).b

/-- What was gathered has the values at the ends and at the points within. -/
theorem overG_has {ps : List Pt} (hok : TabOk ps) {r : Rg} (h1 : firstX ps ≤ r.lo) (h2 : r.lo ≤ r.hi) (h3 : r.hi ≤ lastX ps) : ∀ k, k ≤ ps.length →
    ((overG ps r k).lo ≤ (atS ps r.lo).lo ∧ (atS ps r.lo).hi ≤ (overG ps r k).hi) ∧ ((overG ps r k).lo ≤ (atS ps r.hi).lo ∧ (atS ps r.hi).hi ≤ (overG ps r k).hi) ∧
    ∀ j, j < k → r.lo ≤ (pt ps j).x → (pt ps j).x ≤ r.hi → (overG ps r k).lo ≤ (atS ps (pt ps j).x).lo ∧ (atS ps (pt ps j).x).hi ≤ (overG ps r k).hi
  | 0, _ => by
    have a := gTake0_le _ (atS_le hok h1 (by omega : r.lo ≤ lastX ps))
    have b := gTake_le (gTake none (atS ps r.lo)) _ (atS_le hok (by omega : firstX ps ≤ r.hi) h3)
    unfold overG
    simp only [List.take_zero, List.foldl_nil]
    exact ⟨⟨by omega, by omega⟩, ⟨by omega, by omega⟩, fun j hj => by omega⟩
  | k + 1, hk => by
    obtain ⟨⟨a1, a2⟩, ⟨b1, b2⟩, c⟩ := overG_has hok h1 h2 h3 k (by omega)
    rw [overG_succ ps r k (by omega)]
    unfold overStep
    split
    · rename_i hc
      have g := gTake_le (overG ps r k) _ (atS_le hok (by omega : firstX ps ≤ (pt ps k).x) (by omega))
      refine ⟨⟨by omega, by omega⟩, ⟨by omega, by omega⟩, fun j hj e1 e2 => ?_⟩
      by_cases e : j = k
      · subst e; omega
      · have := c j (by omega) e1 e2; omega
    · rename_i hc
      refine ⟨⟨a1, a2⟩, ⟨b1, b2⟩, fun j hj e1 e2 => ?_⟩
      by_cases e : j = k
      · subst e; exact absurd ⟨e1, e2⟩ hc
      · exact c j (by omega) e1 e2

theorem seg_between (a b : Pt) (h : a.x < b.x) (s x e : Int) (h1 : s ≤ x) (h2 : x ≤ e) (L U : Int) (hs : L ≤ segLo a b s ∧ segHi a b s ≤ U) (he : L ≤ segLo a b e ∧ segHi a b e ≤ U) : L ≤ segLo a b x ∧ segHi a b x ≤ U := by
  constructor
  · rcases Int.le_total a.lo b.lo with hl | hl
    · have := (segLo_step a b s x h h1).1 hl; omega
    · have := (segLo_step a b x e h h2).2 hl; omega
  · rcases Int.le_total a.hi b.hi with hl | hl
    · have := (segHi_step a b x e h h2).1 hl; omega
    · have := (segHi_step a b s x h h1).2 hl; omega

theorem fill_free {h : Ho} {f : Fi} (h1 : FillIn h f) (h3 : 3 ≤ f.state) : (3 ≤ f.state ∧ f.state ≤ 5) ∧ isPart f.ull (firstX h.vol.ps) (lastX h.vol.ps) ∧ isDen f.den := by
  obtain ⟨_, ⟨e, _⟩ | ⟨e, _⟩ | ⟨e, hp, hd⟩⟩ := h1
  · omega
  · omega
  · exact ⟨e, hp, hd⟩

theorem overE_eq {ps : List Pt} (ht : Tab2 ps) {r : Rg} (h : isPart r (firstX ps) (lastX ps)) : (overE ps r).1 = overS ps r := by
  obtain ⟨p1, p2, p3⟩ := h
  have hends := ht.ok.ends
  unfold overE
  rw [if_pos ht.ok, if_pos (by unfold rangeErr; rw [if_neg (by omega)]), if_pos ⟨by omega, by omega⟩]

/-- A range lies within another one. -/
def InS (a b : Rg) : Prop := b.lo ≤ a.lo ∧ a.hi ≤ b.hi

theorem nTake_lo (g r : Rg) (M : Int) (h1 : M ≤ g.lo) (h2 : M ≤ r.lo) (h3 : r.lo ≤ r.hi) : M ≤ (gTake (some g) r).lo := by
  simp only [gTake, gAdd]; omega
theorem nTake0_lo (r : Rg) (M : Int) (h2 : M ≤ r.lo) (h3 : r.lo ≤ r.hi) : M ≤ (gTake none r).lo := by
  simp only [gTake, gAdd]; omega
theorem nTake_hi (g r : Rg) (M : Int) (h1 : g.hi ≤ M) (h2 : r.hi ≤ M) (h3 : r.lo ≤ r.hi) : (gTake (some g) r).hi ≤ M := by
  simp only [gTake, gAdd]; omega
theorem nTake0_hi (r : Rg) (M : Int) (h2 : r.hi ≤ M) (h3 : r.lo ≤ r.hi) : (gTake none r).hi ≤ M := by
  simp only [gTake, gAdd]; omega

theorem overG_cut {ps : List Pt} (hok : TabOk ps) {r : Rg} (h1 : firstX ps ≤ r.lo) (h2 : r.lo ≤ r.hi) (h3 : r.hi ≤ lastX ps) (L M : Int) (a : L ≤ (atS ps r.lo).lo ∧ (atS ps r.lo).hi ≤ M) (b : L ≤ (atS ps r.hi).lo ∧ (atS ps r.hi).hi ≤ M)
    (c : ∀ j, j < ps.length → r.lo ≤ (pt ps j).x → (pt ps j).x ≤ r.hi → L ≤ (atS ps (pt ps j).x).lo ∧ (atS ps (pt ps j).x).hi ≤ M) : ∀ k, k ≤ ps.length → L ≤ (overG ps r k).lo ∧ (overG ps r k).hi ≤ M
  | 0, _ => by
    have e1 := atS_le hok h1 (by omega : r.lo ≤ lastX ps)
    have e2 := atS_le hok (by omega : firstX ps ≤ r.hi) h3
    unfold overG
    simp only [List.take_zero, List.foldl_nil]
    exact ⟨nTake_lo _ _ L (nTake0_lo _ L a.1 e1) b.1 e2, nTake_hi _ _ M (nTake0_hi _ M a.2 e1) b.2 e2⟩
  | k + 1, hk => by
    have ih := overG_cut hok h1 h2 h3 L M a b c k (by omega)
    rw [overG_succ ps r k (by omega)]
    unfold overStep
    split
    · rename_i hc
      have e := c k (by omega) hc.1 hc.2
      have e3 := atS_le hok (x := (pt ps k).x) (by omega) (by omega)
      exact ⟨nTake_lo _ _ L ih.1 e.1 e3, nTake_hi _ _ M ih.2 e.2 e3⟩
    · exact ih

theorem weigh_mono {v v' d d' : Rg} (hv : InS v' v) (hd : InS d' d) (h1 : 0 ≤ v.lo) (h2 : v'.lo ≤ v'.hi) (h3 : 0 ≤ d.lo) (h4 : d'.lo ≤ d'.hi) : InS (weighS v' d') (weighS v d) := by
  obtain ⟨a1, a2⟩ := hv
  obtain ⟨b1, b2⟩ := hd
  have m1 : v.lo * d.lo ≤ v'.lo * d'.lo := Int.mul_le_mul a1 b1 h3 (by omega)
  have m2 : v'.hi * d'.hi ≤ v.hi * d.hi := Int.mul_le_mul a2 b2 (by omega) (by omega)
  unfold weighS InS
  dsimp only
  generalize v.lo * d.lo = p1 at *
  generalize v'.lo * d'.lo = p2 at *
  generalize v.hi * d.hi = p3 at *
  generalize v'.hi * d'.hi = p4 at *
  omega

theorem ndiv_anti {a b c : Int} (ha : 0 ≤ a) (hb : 1 ≤ b) (hc : b ≤ c) : a / c ≤ a / b := by
  have h1 : a / c * b ≤ a / c * c := Int.mul_le_mul_of_nonneg_left hc (Int.ediv_nonneg ha (by omega))
  have h2 := Int.ediv_mul_le a (show c ≠ 0 by omega)
  exact (Int.le_ediv_iff_mul_le (by omega)).2 (by omega)
theorem ndiv_mono_neg {a b c : Int} (ha : a ≤ 0) (hb : 1 ≤ b) (hc : b ≤ c) : a / b ≤ a / c := by
  have h0 : a / b ≤ 0 := by
    have := Int.ediv_mul_le a (show b ≠ 0 by omega)
    apply Classical.byContradiction
    intro h
    have : 1 * b ≤ a / b * b := Int.mul_le_mul_of_nonneg_right (by omega) (by omega)
    omega
  have h1 : a / b * c ≤ a / b * b := by
    have : (-(a / b)) * b ≤ (-(a / b)) * c := Int.mul_le_mul_of_nonneg_left hc (by omega)
    rw [Int.neg_mul, Int.neg_mul] at this
    omega
  have h2 := Int.ediv_mul_le a (show b ≠ 0 by omega)
  exact (Int.le_ediv_iff_mul_le (by omega)).2 (by omega)

end Go.Proofs.YteagdcgmmdiakaaGreat

namespace Go.Proofs.YteagdcgmmdiakaaGreat
set_option linter.unusedSimpArgs false
set_option linter.unusedVariables false
open Go.RowKit

/-! ### A centre narrows where the weights do -/

/-- The least that a weight adds to the moment about c. -/
def minM (pl : Wt → Int) (c : Int) (x : Wt) : Int := (if pl x < c then x.mass.hi else x.mass.lo) * (pl x - c)
def sumM (pl : Wt → Int) (c : Int) : List Wt → Int
  | [] => 0
  | x :: l => minM pl c x + sumM pl c l
theorem sumM_perm {pl : Wt → Int} {c : Int} {l l' : List Wt} (h : l.Perm l') : sumM pl c l = sumM pl c l' := by
  induction h with
  | nil => rfl
  | cons x _ ih => simp [sumM, ih]
  | swap x y l => simp [sumM]; omega
  | trans _ _ a b => exact a.trans b
def sumTo (pl : Wt → Int) (c : Int) (l : List Wt) : Nat → Int
  | 0 => 0
  | k + 1 => sumTo pl c l k + minM pl c (wv l k)
theorem sumM_append (pl : Wt → Int) (c : Int) (a b : List Wt) : sumM pl c (a ++ b) = sumM pl c a + sumM pl c b := by
  induction a with
  | nil => simp [sumM]
  | cons x l ih => simp only [List.cons_append, sumM, ih]; omega
theorem sumTo_take (pl : Wt → Int) (c : Int) (l : List Wt) : ∀ k, k ≤ l.length → sumTo pl c l k = sumM pl c (l.take k)
  | 0, _ => by simp [sumTo, sumM]
  | k + 1, h => by
    have e : l.take (k + 1) = l.take k ++ [wv l k] := by
      rw [List.take_add_one]
      simp [wv, List.getElem?_eq_getElem (show k < l.length by omega)]
    rw [e, sumM_append, sumTo, sumTo_take pl c l k (by omega)]
    simp [sumM]
theorem sumTo_all (pl : Wt → Int) (c : Int) (l : List Wt) : sumTo pl c l l.length = sumM pl c l := by
  rw [sumTo_take _ _ _ _ (Nat.le_refl _), List.take_length]
theorem sumTo_le {pl : Wt → Int} {c : Int} {xs xs' : List Wt} : ∀ k, (∀ j, j < k → minM pl c (wv xs j) ≤ minM pl c (wv xs' j)) → sumTo pl c xs k ≤ sumTo pl c xs' k
  | 0, _ => Int.le_refl _
  | k + 1, h => by
    have a := sumTo_le k (fun j hj => h j (by omega))
    have b := h k (by omega)
    unfold sumTo
    omega

/-- What a weight adds, with its least mass; with its greatest. -/
theorem minM_le {pl : Wt → Int} {c : Int} {x : Wt} {m : Int} (h1 : x.mass.lo ≤ m) (h2 : m ≤ x.mass.hi) : minM pl c x ≤ m * (pl x - c) := by
  unfold minM
  split
  · exact Int.mul_le_mul_of_nonpos_right h2 (by omega)
  · exact Int.mul_le_mul_of_nonneg_right h1 (by omega)
theorem minM_narrow {pl : Wt → Int} {c : Int} {x x' : Wt} (h0 : 0 ≤ x.mass.lo) (h1 : x.mass.lo ≤ x'.mass.lo) (h2 : x'.mass.lo ≤ x'.mass.hi) (h3 : x'.mass.hi ≤ x.mass.hi) (hp : pl x ≤ pl x') : minM pl c x ≤ minM pl c x' := by
  unfold minM
  by_cases a : pl x' < c
  · rw [if_pos a, if_pos (by omega)]
    have k1 : x.mass.hi * (pl x - c) ≤ x.mass.hi * (pl x' - c) := Int.mul_le_mul_of_nonneg_left (by omega) (by omega)
    have k2 : x.mass.hi * (pl x' - c) ≤ x'.mass.hi * (pl x' - c) := Int.mul_le_mul_of_nonpos_right h3 (by omega)
    omega
  · rw [if_neg a]
    have k3 : 0 ≤ x'.mass.lo * (pl x' - c) := Int.mul_nonneg (by omega) (by omega)
    split
    · have : x.mass.hi * (pl x - c) ≤ 0 := Int.mul_nonpos_of_nonneg_of_nonpos (by omega) (by omega)
      omega
    · have k1 : x.mass.lo * (pl x - c) ≤ x.mass.lo * (pl x' - c) := Int.mul_le_mul_of_nonneg_left (by omega) h0
      have k2 : x.mass.lo * (pl x' - c) ≤ x'.mass.lo * (pl x' - c) := Int.mul_le_mul_of_nonneg_right h1 (by omega)
      omega

/-- A mix's moment about c. -/
def lowC (l : List Wt) (pl : Wt → Int) (c : Int) : Nat → Int
  | 0 => 0
  | k + 1 => lowC l pl c k + (wv l k).mass.lo * (pl (wv l k) - c)
theorem lowM_c (l : List Wt) (pl : Wt → Int) (c : Int) : ∀ k, (lowM l pl k).2 - c * (lowM l pl k).1 = lowC l pl c k
  | 0 => by simp [lowM, lowC]
  | k + 1 => by
    have := lowM_c l pl c k
    unfold lowM lowC
    dsimp only
    rw [Int.mul_sub, Int.mul_add, Int.mul_comm c (wv l k).mass.lo]
    omega
def mixZ (l : List Wt) (pl : Wt → Int) (c : Int) : Nat → Int
  | 0 => lowC l pl c l.length
  | k + 1 => mixZ l pl c k + ((wv l k).mass.hi - (wv l k).mass.lo) * (pl (wv l k) - c)
theorem mixP_c (l : List Wt) (pl : Wt → Int) (c : Int) : ∀ k, (mixP l pl k).2 - c * (mixP l pl k).1 = mixZ l pl c k
  | 0 => lowM_c l pl c _
  | k + 1 => by
    have := mixP_c l pl c k
    unfold mixP mixZ
    dsimp only
    rw [Int.mul_sub, Int.mul_add, Int.mul_comm c ((wv l k).mass.hi - (wv l k).mass.lo)]
    omega
/-- The first k with their greatest masses, the others up to n with their least. -/
def cutC (l : List Wt) (pl : Wt → Int) (c : Int) (k : Nat) : Nat → Int
  | 0 => 0
  | n + 1 => cutC l pl c k n + (if n < k then (wv l n).mass.hi else (wv l n).mass.lo) * (pl (wv l n) - c)
theorem cutC_step (l : List Wt) (pl : Wt → Int) (c : Int) (k : Nat) : ∀ n, cutC l pl c (k + 1) n = cutC l pl c k n + (if k < n then ((wv l k).mass.hi - (wv l k).mass.lo) * (pl (wv l k) - c) else 0)
  | 0 => by simp [cutC]
  | n + 1 => by
    have ih := cutC_step l pl c k n
    unfold cutC
    rw [ih]
    by_cases a : n < k
    · rw [if_neg (show ¬k < n by omega), if_pos (show n < k + 1 by omega), if_pos a, if_neg (show ¬k < n + 1 by omega)]; omega
    · by_cases b : n = k
      · subst b
        rw [if_neg (show ¬n < n by omega), if_pos (show n < n + 1 by omega), if_neg (show ¬n < n by omega), Int.sub_mul]; omega
      · rw [if_pos (show k < n by omega), if_neg (show ¬n < k + 1 by omega), if_neg a, if_pos (show k < n + 1 by omega)]; omega
theorem mixC_cut (l : List Wt) (pl : Wt → Int) (c : Int) : ∀ k, k ≤ l.length → mixZ l pl c k = cutC l pl c k l.length
  | 0, _ => by
    unfold mixZ
    suffices ∀ n, lowC l pl c n = cutC l pl c 0 n from this _
    intro n
    induction n with
    | zero => rfl
    | succ n ih => unfold lowC cutC; rw [ih, if_neg (by omega)]
  | k + 1, h => by
    unfold mixZ
    rw [mixC_cut l pl c k (by omega), cutC_step, if_pos (by omega)]
theorem sumTo_cut {l : List Wt} {pl : Wt → Int} {c : Int} (hw : ∀ j, j < l.length → (wv l j).mass.lo ≤ (wv l j).mass.hi) (k : Nat) : ∀ n, n ≤ l.length → sumTo pl c l n ≤ cutC l pl c k n
  | 0, _ => Int.le_refl _
  | n + 1, h => by
    have ih := sumTo_cut (pl := pl) (c := c) hw k n (by omega)
    have := hw n (by omega)
    unfold sumTo cutC
    have := minM_le (pl := pl) (c := c) (x := wv l n) (m := if n < k then (wv l n).mass.hi else (wv l n).mass.lo) (by split <;> omega) (by split <;> omega)
    omega
/-- How many places lie below c. -/
def cntC (l : List Wt) (pl : Wt → Int) (c : Int) : Nat → Nat
  | 0 => 0
  | n + 1 => cntC l pl c n + if pl (wv l n) < c then 1 else 0
theorem cnt_sorted {l : List Wt} {pl : Wt → Int} {c : Int} (hs : ∀ i j, i < j → j < l.length → pl (wv l i) ≤ pl (wv l j)) : ∀ n, n ≤ l.length → cntC l pl c n ≤ n ∧ ∀ j, j < n → (pl (wv l j) < c ↔ j < cntC l pl c n)
  | 0, _ => ⟨Nat.le_refl _, fun j hj => absurd hj (Nat.not_lt_zero _)⟩
  | n + 1, h => by
    obtain ⟨a, b⟩ := cnt_sorted (c := c) hs n (by omega)
    unfold cntC
    by_cases e : pl (wv l n) < c
    · have hall : cntC l pl c n = n := by
        by_cases z : n = 0
        · subst z; rfl
        · have h1 : pl (wv l (n - 1)) ≤ pl (wv l n) := hs (n - 1) n (by omega) (by omega)
          have := (b (n - 1) (by omega)).1 (by omega)
          omega
      rw [if_pos e, hall]
      refine ⟨by omega, fun j hj => ?_⟩
      by_cases q : j = n
      · subst q; exact ⟨fun _ => by omega, fun _ => e⟩
      · have := b j (by omega)
        rw [hall] at this
        exact ⟨fun _ => by omega, fun _ => this.2 (by omega)⟩
    · rw [if_neg e]
      refine ⟨by omega, fun j hj => ?_⟩
      by_cases q : j = n
      · subst q; exact ⟨fun x => absurd x e, fun x => by omega⟩
      · exact b j (by omega)
theorem cut_eq {l : List Wt} {pl : Wt → Int} {c : Int} {k : Nat} : ∀ n, (∀ j, j < n → (pl (wv l j) < c ↔ j < k)) → sumTo pl c l n = cutC l pl c k n
  | 0, _ => rfl
  | n + 1, h => by
    unfold sumTo cutC minM
    rw [cut_eq n (fun j hj => h j (by omega))]
    by_cases e : n < k
    · rw [if_pos ((h n (by omega)).2 e), if_pos e]
    · rw [if_neg (fun x => e ((h n (by omega)).1 x)), if_neg e]

theorem cLo_spec {f : Nat → Int × Int} : ∀ n, (cLo (upto f (n + 1))).1 = false ∧ (∀ k, k ≤ n → (cLo (upto f (n + 1))).2 ≤ (f k).2 / (f k).1) ∧ ∃ k, k ≤ n ∧ (cLo (upto f (n + 1))).2 = (f k).2 / (f k).1
  | 0 => by
    have e : cLo (upto f 1) = (false, (f 0).2 / (f 0).1) := by simp [cLo, upto, cLoStep, List.range_succ]
    rw [e]
    exact ⟨rfl, fun k hk => by obtain rfl : k = 0 := by omega
                               exact Int.le_refl _, 0, Nat.le_refl _, rfl⟩
  | n + 1 => by
    obtain ⟨a, b, k0, hk0, c⟩ := cLo_spec (f := f) n
    rw [upto_succ, cLo_snoc]
    unfold cLoStep
    by_cases h : (f (n + 1)).2 / (f (n + 1)).1 < (cLo (upto f (n + 1))).2
    · rw [if_pos (.inr h)]
      refine ⟨rfl, fun k hk => ?_, n + 1, Nat.le_refl _, rfl⟩
      dsimp only
      by_cases e : k = n + 1
      · subst e; exact Int.le_refl _
      · have := b k (by omega); omega
    · rw [if_neg (fun x => by
        rcases x with x | x
        · rw [a] at x; cases x
        · exact h x)]
      refine ⟨a, fun k hk => ?_, k0, by omega, c⟩
      by_cases e : k = n + 1
      · subst e; omega
      · exact b k (by omega)

theorem lo_mono {xs xs' l l' : List Wt} {pl : Wt → Int} (hp : l.Perm xs) (hp' : l'.Perm xs') (hlen : xs'.length = xs.length) (hs : ∀ i j, i < j → j < l.length → pl (wv l i) ≤ pl (wv l j)) (ok : WtsOk l pl) (ok' : WtsOk l' pl)
    (hn : ∀ k, k < xs.length → InS (wv xs' k).mass (wv xs k).mass ∧ pl (wv xs k) ≤ pl (wv xs' k)) (hw : ∀ k, k < xs.length → isWt (wv xs k) ∧ isWt (wv xs' k)) :
    (cLo (upto (mixP l pl) (xs.length + 1))).2 ≤ (cLo (upto (mixP l' pl) (xs'.length + 1))).2 := by
  have e1 : xs.length = l.length := hp.length_eq.symm
  have e2 : xs'.length = l'.length := hp'.length_eq.symm
  rw [e1, e2]
  obtain ⟨_, a, _⟩ := cLo_spec (f := mixP l pl) l.length
  obtain ⟨_, _, k', hk', b⟩ := cLo_spec (f := mixP l' pl) l'.length
  generalize (cLo (upto (mixP l pl) (l.length + 1))).2 = c at *
  generalize (cLo (upto (mixP l' pl) (l'.length + 1))).2 = c' at *
  apply Classical.byContradiction
  intro hc
  obtain ⟨⟨m1, _⟩, _⟩ := ok'.mix k' hk'
  have q := mixP_c l' pl c k'
  rw [mixC_cut _ _ _ _ hk'] at q
  have z1 := sumTo_cut (pl := pl) (c := c) (l := l') (fun j hj => (ok'.w j hj).1.2.1) k' l'.length (Nat.le_refl _)
  rw [sumTo_all, sumM_perm hp', ← sumTo_all] at z1
  have z2 : sumTo pl c xs xs'.length ≤ sumTo pl c xs' xs'.length := sumTo_le _ fun j hj => by
    obtain ⟨⟨n1, n2⟩, n3⟩ := hn j (by omega)
    obtain ⟨w1, w2⟩ := hw j (by omega)
    exact minM_narrow w1.1.1 n1 w2.1.2.1 n2 n3
  rw [hlen, sumTo_all, ← sumM_perm hp, ← sumTo_all] at z2
  obtain ⟨k1, k2⟩ := cnt_sorted (c := c) hs l.length (Nat.le_refl _)
  have z3 := cut_eq (l := l) (pl := pl) (c := c) l.length k2
  rw [← mixC_cut _ _ _ _ k1, ← mixP_c] at z3
  obtain ⟨⟨m2, _⟩, _⟩ := ok.mix _ k1
  have z4 := a _ k1
  have z5 := (Int.le_ediv_iff_mul_le (show 0 < (mixP l pl (cntC l pl c l.length)).1 by omega)).1 z4
  have z6 : (mixP l' pl k').2 < (c' + 1) * (mixP l' pl k').1 := (Int.ediv_lt_iff_lt_mul (by omega)).1 (by omega)
  have z7 : (c' + 1) * (mixP l' pl k').1 ≤ c * (mixP l' pl k').1 := Int.mul_le_mul_of_nonneg_right (by omega) (by omega)
  rw [hlen] at z1
  omega

theorem mixP_neg (l : List Wt) (pl : Wt → Int) : ∀ k, mixP l (fun x => -pl x) k = ((mixP l pl k).1, -(mixP l pl k).2)
  | 0 => by
    unfold mixP
    suffices ∀ n, lowM l (fun x => -pl x) n = ((lowM l pl n).1, -(lowM l pl n).2) from this _
    intro n
    induction n with
    | zero => simp [lowM]
    | succ n ih =>
      unfold lowM
      rw [ih]
      refine Prod.ext rfl ?_
      dsimp only
      rw [Int.mul_neg]
      omega
  | k + 1 => by
    unfold mixP
    rw [mixP_neg l pl k]
    refine Prod.ext rfl ?_
    dsimp only
    rw [Int.mul_neg]
    omega
theorem cHi_neg (f : Nat → Int × Int) : ∀ n, cHi (upto f n) = ((cLo (upto (fun k => ((f k).1, -(f k).2)) n)).1, -(cLo (upto (fun k => ((f k).1, -(f k).2)) n)).2)
  | 0 => rfl
  | n + 1 => by
    rw [upto_succ, upto_succ, cHi_snoc, cLo_snoc, cHi_neg f n]
    generalize cLo (upto (fun k => ((f k).1, -(f k).2)) n) = s
    obtain ⟨s1, s2⟩ := s
    unfold cHiStep cLoStep
    dsimp only
    generalize -(f n).2 / (f n).1 = q
    by_cases h : s1 = true ∨ q < s2
    · have h' : s1 = true ∨ -s2 < -q := h.imp id (fun x => by omega)
      rw [if_pos h, if_pos h']
    · have h' : ¬(s1 = true ∨ -s2 < -q) := fun x => h (x.imp id (fun y => by omega))
      rw [if_neg h, if_neg h']
theorem hi_mono {xs xs' l l' : List Wt} {pl : Wt → Int} (hp : l.Perm xs) (hp' : l'.Perm xs') (hlen : xs'.length = xs.length) (hs : ∀ i j, i < j → j < l.length → pl (wv l j) ≤ pl (wv l i)) (ok : WtsOk l pl) (ok' : WtsOk l' pl)
    (hn : ∀ k, k < xs.length → InS (wv xs' k).mass (wv xs k).mass ∧ pl (wv xs' k) ≤ pl (wv xs k)) (hw : ∀ k, k < xs.length → isWt (wv xs k) ∧ isWt (wv xs' k)) :
    (cHi (upto (mixP l' pl) (xs'.length + 1))).2 ≤ (cHi (upto (mixP l pl) (xs.length + 1))).2 := by
  rw [cHi_neg, cHi_neg]
  have e : ∀ l : List Wt, (fun k => ((mixP l pl k).1, -(mixP l pl k).2)) = mixP l (fun x => -pl x) := fun l => funext fun k => (mixP_neg l pl k).symm
  rw [e, e]
  have neg : ∀ {l : List Wt}, WtsOk l pl → WtsOk l (fun x => -pl x) := fun h => ⟨h.n, h.w, fun k hk => by have := h.pl k hk; omega, h.pos⟩
  have := lo_mono hp hp' hlen (pl := fun x => -pl x) (fun i j a b => by have := hs i j a b; omega) (neg ok) (neg ok') (fun k hk => by have := hn k hk; exact ⟨this.1, by omega⟩) hw
  dsimp only at this ⊢
  omega

/-- Weights within others, one by one. -/
structure WsIn (xs xs' : List Wt) : Prop where
  len : xs'.length = xs.length
  mass : ∀ k, k < xs.length → InS (wv xs' k).mass (wv xs k).mass
  along : ∀ k, k < xs.length → InS (wv xs' k).along (wv xs k).along
  high : ∀ k, k < xs.length → InS (wv xs' k).high (wv xs k).high

theorem centre_mono {sel : Wt → Rg} (hsel : ∀ x, isWt x → -1000000 ≤ (sel x).lo ∧ (sel x).lo ≤ (sel x).hi ∧ (sel x).hi ≤ 1000000) {xs xs' : List Wt} (h : AllWt xs) (h' : AllWt xs') (hlen : xs'.length = xs.length)
    (hm : ∀ k, k < xs.length → InS (wv xs' k).mass (wv xs k).mass) (hn : ∀ k, k < xs.length → InS (sel (wv xs' k)) (sel (wv xs k))) {r r' : Rg} (hr : CentreIs sel xs r) (hr' : CentreIs sel xs' r') : InS r' r := by
  obtain ⟨l1, l2, p1, q1, p2, q2, rfl⟩ := hr
  obtain ⟨l1', l2', p1', _, p2', _, rfl⟩ := hr'
  have hw : ∀ k, k < xs.length → isWt (wv xs k) ∧ isWt (wv xs' k) := fun k hk => ⟨h.w k hk, h'.w k (by omega)⟩
  refine ⟨?_, ?_⟩
  · exact lo_mono (pl := fun x => (sel x).lo) p1 p1' hlen q1 (h.ok p1 _ fun x hx => by have := hsel x hx; omega) (h'.ok p1' _ fun x hx => by have := hsel x hx; omega) (fun k hk => ⟨hm k hk, (hn k hk).1⟩) hw
  · exact hi_mono (pl := fun x => (sel x).hi) p2 p2' hlen q2 (h.ok p2 _ fun x hx => by have := hsel x hx; omega) (h'.ok p2' _ fun x hx => by have := hsel x hx; omega) (fun k hk => ⟨hm k hk, (hn k hk).2⟩) hw
theorem sel_along (x : Wt) (h : isWt x) : -1000000 ≤ x.along.lo ∧ x.along.lo ≤ x.along.hi ∧ x.along.hi ≤ 1000000 := by
  obtain ⟨_, ⟨a, b, c⟩, _⟩ := h; omega
theorem sel_high (x : Wt) (h : isWt x) : -1000000 ≤ x.high.lo ∧ x.high.lo ≤ x.high.hi ∧ x.high.hi ≤ 1000000 := by
  obtain ⟨_, _, a, b, c⟩ := h; omega
theorem mSum_narrow {xs xs' : List Wt} : ∀ k, (∀ j, j < k → InS (wv xs' j).mass (wv xs j).mass) → InS (mSum xs' k) (mSum xs k)
  | 0, _ => ⟨Int.le_refl _, Int.le_refl _⟩
  | k + 1, h => by
    obtain ⟨a, b⟩ := mSum_narrow k (fun j hj => h j (by omega))
    obtain ⟨c, d⟩ := h k (by omega)
    unfold mSum addR
    constructor
    · dsimp only; omega
    · dsimp only; omega
/-- All weights together. -/
structure TotIs (xs : List Wt) (v : Wt) : Prop where
  all : AllWt xs
  mass : v.mass = mSum xs xs.length
  along : CentreIs Wt.along xs v.along
  high : CentreIs Wt.high xs v.high
theorem TotIs.sum {xs : List Wt} {v : Wt} (h : TotIs xs v) {u : Wt} {c : Int} (hs : SumIs xs u c) : TotIs xs u ∧ c = 0 := by
  rcases hs with ⟨a, _⟩ | ⟨_, ⟨k, hk, a⟩, _⟩ | ⟨_, _, a, _⟩ | ⟨a, rfl, b, c, d⟩
  · have := h.all.n; omega
  · exact absurd (h.all.w k hk) a
  · exact absurd a h.all.pos
  · exact ⟨⟨a, b, c, d⟩, rfl⟩
/-- A weight within another one. -/
def WtIn (x' x : Wt) : Prop := InS x'.mass x.mass ∧ InS x'.along x.along ∧ InS x'.high x.high
theorem TotIs.narrow {xs xs' : List Wt} {v v' : Wt} (h : TotIs xs v) (h' : TotIs xs' v') (hn : WsIn xs xs') : WtIn v' v := by
  refine ⟨?_, centre_mono sel_along h.all h'.all hn.len hn.mass hn.along h.along h'.along, centre_mono sel_high h.all h'.all hn.len hn.mass hn.high h.high h'.high⟩
  rw [h.mass, h'.mass, hn.len]
  exact mSum_narrow _ hn.mass
theorem inS_refl (r : Rg) : InS r r := ⟨Int.le_refl _, Int.le_refl _⟩
theorem inS_anti {a b : Rg} (h : InS a b) (k : InS b a) : a = b := by
  obtain ⟨a1, a2⟩ := a
  obtain ⟨b1, b2⟩ := b
  obtain ⟨h1, h2⟩ := h
  obtain ⟨k1, k2⟩ := k
  dsimp only at *
  rw [show a1 = b1 by omega, show a2 = b2 by omega]
theorem TotIs.uniq {xs : List Wt} {u v : Wt} (h : TotIs xs u) (h' : TotIs xs v) : u = v := by
  have hn : WsIn xs xs := ⟨rfl, fun _ _ => inS_refl _, fun _ _ => inS_refl _, fun _ _ => inS_refl _⟩
  obtain ⟨a, b, c⟩ := h.narrow h' hn
  obtain ⟨a', b', c'⟩ := h'.narrow h hn
  obtain ⟨u1, u2, u3⟩ := u
  obtain ⟨v1, v2, v3⟩ := v
  dsimp only at *
  rw [inS_anti a' a, inS_anti b' b, inS_anti c' c]
theorem sorted_wv {le : Wt → Wt → Bool} {l : List Wt} (h : l.Pairwise (fun a b => le a b = true)) (i j : Nat) (hi : i < j) (hj : j < l.length) : le (wv l i) (wv l j) = true := by
  have := List.pairwise_iff_getElem.1 h i j (by omega) hj hi
  simp only [wv, List.getElem?_eq_getElem (show i < l.length by omega), List.getElem?_eq_getElem hj, Option.getD_some]
  exact this
theorem centre_ex (sel : Wt → Rg) (xs : List Wt) : ∃ r, CentreIs sel xs r := by
  refine ⟨_, xs.mergeSort (fun a b => decide ((sel a).lo ≤ (sel b).lo)), xs.mergeSort (fun a b => decide ((sel b).hi ≤ (sel a).hi)), List.mergeSort_perm _ _, fun i j a b => ?_, List.mergeSort_perm _ _, fun i j a b => ?_, rfl⟩
  · have := sorted_wv (List.pairwise_mergeSort (le := fun a b => decide ((sel a).lo ≤ (sel b).lo)) (fun a b c h1 h2 => by simp at *; omega) (fun a b => by simp; omega) xs) i j a b
    simpa using this
  · have := sorted_wv (List.pairwise_mergeSort (le := fun a b => decide ((sel b).hi ≤ (sel a).hi)) (fun a b c h1 h2 => by simp at *; omega) (fun a b => by simp; omega) xs) i j a b
    simpa using this
theorem tot_ex {xs : List Wt} (h : AllWt xs) : ∃ v, TotIs xs v := by
  obtain ⟨a, ha⟩ := centre_ex Wt.along xs
  obtain ⟨b, hb⟩ := centre_ex Wt.high xs
  exact ⟨⟨_, a, b⟩, h, rfl, ha, hb⟩

end Go.Proofs.YteagdcgmmdiakaaGreat
