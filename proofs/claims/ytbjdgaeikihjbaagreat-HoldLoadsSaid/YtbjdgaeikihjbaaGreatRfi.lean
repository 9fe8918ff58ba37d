/-
  The reference's litres, Litres.
  Conditions: each theorem's own premises.
-/
import Derived.Test.YtbjdgaeikihjbaaGreatRfh
import Derived.Test.YtbjdgaeikihjbaaGreatLit
namespace Go.Proofs.YtbjdgaeikihjbaaGreat
set_option linter.unusedSimpArgs false
set_option linter.unusedVariables false
open Go.RowKit
set_option maxRecDepth 100000
set_option maxHeartbeats 4000000
attribute [local go_sem] Instr.field asAgg Soft.upon Soft.BW.cell_if Soft.BW.frozen_if Soft.cell_alloc_if Soft.frozen_alloc_if

theorem div_anti {a b c : Int} (ha : 0 ≤ a) (hb : 1 ≤ b) (hc : b ≤ c) : a / c ≤ a / b := by
  have h1 : a / c * b ≤ a / c * c := Int.mul_le_mul_of_nonneg_left hc (Int.ediv_nonneg ha (by omega))
  have h2 := Int.ediv_mul_le a (show c ≠ 0 by omega)
  exact (Int.le_ediv_iff_mul_le (by omega)).2 (by omega)
theorem div_mono_neg {a b c : Int} (ha : a ≤ 0) (hb : 1 ≤ b) (hc : b ≤ c) : a / b ≤ a / c := by
  have h0 : a / b ≤ 0 := by
    have := Int.ediv_mul_le a (show b ≠ 0 by omega)
    apply Classical.byContradiction
    intro h
    have : 1 * b ≤ a / b * b := Int.mul_le_mul_of_nonneg_right (by omega) (by omega)
    omega
  have h1 : a / b * c ≤ a / b * b := by
    have : (-(a / b)) * b ≤ (-(a / b)) * c := Int.mul_le_mul_of_nonneg_left hc (by omega)
    rw [Int.neg_mul, Int.neg_mul] at this
    omega
  have h2 := Int.ediv_mul_le a (show b ≠ 0 by omega)
  exact (Int.le_ediv_iff_mul_le (by omega)).2 (by omega)

theorem lit_mm (m : Int) (d : Rg) (hd : isDen d) : litLo m d = min (1000 * m / d.lo) (1000 * m / d.hi) := by
  obtain ⟨b1, b2, b3⟩ := hd
  unfold litLo
  by_cases c : m < 0
  · rw [if_pos c]
    have := div_mono_neg (a := 1000 * m) (b := d.lo) (c := d.hi) (by omega) (by omega) (by omega)
    omega
  · rw [if_neg c]
    have := div_anti (a := 1000 * m) (b := d.lo) (c := d.hi) (by omega) (by omega) (by omega)
    omega
theorem lit_mx (m : Int) (d : Rg) (hd : isDen d) : litHi m d = max (-(-1000 * m / d.lo)) (-(-1000 * m / d.hi)) := by
  obtain ⟨b1, b2, b3⟩ := hd
  unfold litHi
  rw [show -(1000 * m) = -1000 * m by omega]
  by_cases c : m < 0
  · rw [if_pos c]
    have := div_anti (a := -1000 * m) (b := d.lo) (c := d.hi) (by omega) (by omega) (by omega)
    omega
  · rw [if_neg c]
    have := div_mono_neg (a := -1000 * m) (b := d.lo) (c := d.hi) (by omega) (by omega) (by omega)
    omega

theorem floor_cut (a b : Int) (h1 : -9223372036854775807 ≤ a) (h2 : a ≤ 9223372036854775807) (hb : 1 ≤ b) :
    ∃ q, q = a / b ∧ (-9223372036854775807 ≤ q ∧ q ≤ 9223372036854775807) ∧ ∀ w : World, Calls Tryz.prog 112 #[.int .i64 a, .int .i64 b] w fun e w' => e = .returned (.int .i64 q) ∧ Below w.heap.size w w' := by
  refine ⟨a / b, rfl, ?_, fun w => (R2_floor a b w h1 h2 hb).mono (fun e w' h => ⟨h.1, h.2 ▸ Below.refl _ _⟩)⟩
  have e1 := Int.ediv_mul_le a (show b ≠ 0 by omega)
  have e2 := Int.lt_ediv_add_one_mul_self a (show 0 < b by omega)
  generalize a / b = q at *
  constructor
  · apply Classical.byContradiction
    intro h
    have : (q + 1) * b ≤ (q + 1) * 1 := by
      have := Int.mul_le_mul_of_nonneg_left hb (show 0 ≤ -(q + 1) by omega)
      rw [Int.neg_mul, Int.neg_mul] at this
      omega
    omega
  · apply Classical.byContradiction
    intro h
    have : q * 1 ≤ q * b := Int.mul_le_mul_of_nonneg_left hb (by omega)
    omega

theorem R2_litres (m d : Rg) (w : World) (hm : rangeErr m = 0) (hd : isDen d) :
    Calls Tryz.prog 84 #[.agg #[.int .i64 (m).lo, .int .i64 (m).hi], .agg #[.int .i64 (d).lo, .int .i64 (d).hi]] w fun e w' => e = .returned (.agg #[.int .i64 (litS m d).lo, .int .i64 (litS m d).hi]) ∧ Below w.heap.size w w' := by
  have E : litS m d = ⟨min (1000 * m.lo / d.lo) (1000 * m.lo / d.hi), max (-(-1000 * m.hi / d.lo)) (-(-1000 * m.hi / d.hi))⟩ := by
    unfold litS; rw [lit_mm _ _ hd, lit_mx _ _ hd]
  rw [E]
  clear E
  obtain ⟨b1, b2, b3⟩ := hd
  obtain ⟨_, m1, m2, m3⟩ | ⟨h, _⟩ := rangeErr_cases m
  · obtain ⟨q1, h1, ⟨l1, u1⟩, C1⟩ := floor_cut (1000 * m.lo) d.lo (by omega) (by omega) (by omega)
    obtain ⟨q2, h2, ⟨l2, u2⟩, C2⟩ := floor_cut (1000 * m.lo) d.hi (by omega) (by omega) (by omega)
    obtain ⟨q3, h3, ⟨l3, u3⟩, C3⟩ := floor_cut (-1000 * m.hi) d.lo (by omega) (by omega) (by omega)
    obtain ⟨q4, h4, ⟨l4, u4⟩, C4⟩ := floor_cut (-1000 * m.hi) d.hi (by omega) (by omega) (by omega)
    rw [← h1, ← h2, ← h3, ← h4]
    replace C1 := Lib.hid C1; replace C2 := Lib.hid C2; replace C3 := Lib.hid C3; replace C4 := Lib.hid C4
    clear h1 h2 h3 h4 hm
    obtain ⟨A, hA⟩ : ∃ x, x = min q1 q2 := ⟨_, rfl⟩
    obtain ⟨B, hB⟩ : ∃ x, x = max (-q3) (-q4) := ⟨_, rfl⟩
    rw [← hA, ← hB]
    replace hA := Lib.hid hA; replace hB := Lib.hid hB
    rcases Int.lt_or_le q2 q1 with e0 | e0 <;> rcases Int.lt_or_le (-q3) (-q4) with e1 | e1
    · have EA := Lib.hid (show A = q2 by have := hA.out; omega)
      have EB := Lib.hid (show B = -q4 by have := hB.out; omega)
      go_enter Tryz.func84, Tryz.ntmps84
      go_wp2_with fail
      (refine Soft.region0 [0, 1, 2, 3, 4, 5, 6, 7, 8, 9, 10, 11, 12, 13] [] (by kernel_rfl) (by kernel_rfl) (by kernel_rfl) (by kernel_rfl) ?_; change Soft.wpSoft _ _ _ _ _ [_, _, _, _, _, _, _, _, _, _, _, _, _, _] _; (repeat (refine Soft.soft_step (fun K hK => ?_); go_simp; (try go_bits); first | (refine hK _ ?_; clear hK K) | (apply Exists.intro; refine ⟨fun x => ?_, hK _ ?_⟩; (first | (go_at_call 112; with_reducible exact (C1.out _)) | (go_at_call 112; with_reducible exact (C2.out _))); clear hK K))); refine Soft.soft_nil ?_; intro xw; change wpList _ _ _ [] _ _)
      change wpList _ _ _ [] _ _
      go_wp2_with fail
      (refine Soft.region0 [0, 1, 2, 3, 4, 5, 6, 7, 8, 9, 10, 11, 12, 13, 14, 15] [] (by kernel_rfl) (by kernel_rfl) (by kernel_rfl) (by kernel_rfl) ?_; change Soft.wpSoft _ _ _ _ _ [_, _, _, _, _, _, _, _, _, _, _, _, _, _, _, _] _; (repeat (refine Soft.soft_step (fun K hK => ?_); go_simp; (try go_bits); first | (refine hK _ ?_; clear hK K) | (apply Exists.intro; refine ⟨fun x => ?_, hK _ ?_⟩; (first | (go_at_call 112; with_reducible exact (C3.out _)) | (go_at_call 112; with_reducible exact (C4.out _))); clear hK K))); refine Soft.soft_nil ?_; intro xw; change wpList _ _ _ [] _ _)
      change wpList _ _ _ [] _ _
      go_wp2_with fail
      refine bodyPost_ret (v := .agg #[.int .i64 ((⟨A, B⟩ : Rg)).lo, .int .i64 ((⟨A, B⟩ : Rg)).hi]) (by simp [results, Tryz.results84, go_sem, EA.out, EB.out]) rfl ?_
      refine ⟨rfl, ?_⟩
      (repeat (first | with_reducible exact bel_refl _ | with_reducible refine bel_alloc ?_ _ | with_reducible refine bel_bw _ ?_ | with_reducible refine bel_drew ?_ | with_reducible refine bel_drewN _ ?_ | ((with_reducible refine bel_set ?_ ?_ _); rotate_left; focus (first | (simp; done) | omega | (simp; omega))) | refine bel_step ?_ (by with_reducible assumption)))
    · have EA := Lib.hid (show A = q2 by have := hA.out; omega)
      have EB := Lib.hid (show B = -q3 by have := hB.out; omega)
      go_enter Tryz.func84, Tryz.ntmps84
      go_wp2_with fail
      (refine Soft.region0 [0, 1, 2, 3, 4, 5, 6, 7, 8, 9, 10, 11, 12, 13] [] (by kernel_rfl) (by kernel_rfl) (by kernel_rfl) (by kernel_rfl) ?_; change Soft.wpSoft _ _ _ _ _ [_, _, _, _, _, _, _, _, _, _, _, _, _, _] _; (repeat (refine Soft.soft_step (fun K hK => ?_); go_simp; (try go_bits); first | (refine hK _ ?_; clear hK K) | (apply Exists.intro; refine ⟨fun x => ?_, hK _ ?_⟩; (first | (go_at_call 112; with_reducible exact (C1.out _)) | (go_at_call 112; with_reducible exact (C2.out _))); clear hK K))); refine Soft.soft_nil ?_; intro xw; change wpList _ _ _ [] _ _)
      change wpList _ _ _ [] _ _
      go_wp2_with fail
      (refine Soft.region0 [0, 1, 2, 3, 4, 5, 6, 7, 8, 9, 10, 11, 12, 13, 14, 15] [] (by kernel_rfl) (by kernel_rfl) (by kernel_rfl) (by kernel_rfl) ?_; change Soft.wpSoft _ _ _ _ _ [_, _, _, _, _, _, _, _, _, _, _, _, _, _, _, _] _; (repeat (refine Soft.soft_step (fun K hK => ?_); go_simp; (try go_bits); first | (refine hK _ ?_; clear hK K) | (apply Exists.intro; refine ⟨fun x => ?_, hK _ ?_⟩; (first | (go_at_call 112; with_reducible exact (C3.out _)) | (go_at_call 112; with_reducible exact (C4.out _))); clear hK K))); refine Soft.soft_nil ?_; intro xw; change wpList _ _ _ [] _ _)
      change wpList _ _ _ [] _ _
      go_wp2_with fail
      refine bodyPost_ret (v := .agg #[.int .i64 ((⟨A, B⟩ : Rg)).lo, .int .i64 ((⟨A, B⟩ : Rg)).hi]) (by simp [results, Tryz.results84, go_sem, EA.out, EB.out]) rfl ?_
      refine ⟨rfl, ?_⟩
      (repeat (first | with_reducible exact bel_refl _ | with_reducible refine bel_alloc ?_ _ | with_reducible refine bel_bw _ ?_ | with_reducible refine bel_drew ?_ | with_reducible refine bel_drewN _ ?_ | ((with_reducible refine bel_set ?_ ?_ _); rotate_left; focus (first | (simp; done) | omega | (simp; omega))) | refine bel_step ?_ (by with_reducible assumption)))
    · have EA := Lib.hid (show A = q1 by have := hA.out; omega)
      have EB := Lib.hid (show B = -q4 by have := hB.out; omega)
      go_enter Tryz.func84, Tryz.ntmps84
      go_wp2_with fail
      (refine Soft.region0 [0, 1, 2, 3, 4, 5, 6, 7, 8, 9, 10, 11, 12, 13] [] (by kernel_rfl) (by kernel_rfl) (by kernel_rfl) (by kernel_rfl) ?_; change Soft.wpSoft _ _ _ _ _ [_, _, _, _, _, _, _, _, _, _, _, _, _, _] _; (repeat (refine Soft.soft_step (fun K hK => ?_); go_simp; (try go_bits); first | (refine hK _ ?_; clear hK K) | (apply Exists.intro; refine ⟨fun x => ?_, hK _ ?_⟩; (first | (go_at_call 112; with_reducible exact (C1.out _)) | (go_at_call 112; with_reducible exact (C2.out _))); clear hK K))); refine Soft.soft_nil ?_; intro xw; change wpList _ _ _ [] _ _)
      change wpList _ _ _ [] _ _
      go_wp2_with fail
      (refine Soft.region0 [0, 1, 2, 3, 4, 5, 6, 7, 8, 9, 10, 11, 12, 13, 14, 15] [] (by kernel_rfl) (by kernel_rfl) (by kernel_rfl) (by kernel_rfl) ?_; change Soft.wpSoft _ _ _ _ _ [_, _, _, _, _, _, _, _, _, _, _, _, _, _, _, _] _; (repeat (refine Soft.soft_step (fun K hK => ?_); go_simp; (try go_bits); first | (refine hK _ ?_; clear hK K) | (apply Exists.intro; refine ⟨fun x => ?_, hK _ ?_⟩; (first | (go_at_call 112; with_reducible exact (C3.out _)) | (go_at_call 112; with_reducible exact (C4.out _))); clear hK K))); refine Soft.soft_nil ?_; intro xw; change wpList _ _ _ [] _ _)
      change wpList _ _ _ [] _ _
      go_wp2_with fail
      refine bodyPost_ret (v := .agg #[.int .i64 ((⟨A, B⟩ : Rg)).lo, .int .i64 ((⟨A, B⟩ : Rg)).hi]) (by simp [results, Tryz.results84, go_sem, EA.out, EB.out]) rfl ?_
      refine ⟨rfl, ?_⟩
      (repeat (first | with_reducible exact bel_refl _ | with_reducible refine bel_alloc ?_ _ | with_reducible refine bel_bw _ ?_ | with_reducible refine bel_drew ?_ | with_reducible refine bel_drewN _ ?_ | ((with_reducible refine bel_set ?_ ?_ _); rotate_left; focus (first | (simp; done) | omega | (simp; omega))) | refine bel_step ?_ (by with_reducible assumption)))
    · have EA := Lib.hid (show A = q1 by have := hA.out; omega)
      have EB := Lib.hid (show B = -q3 by have := hB.out; omega)
      go_enter Tryz.func84, Tryz.ntmps84
      go_wp2_with fail
      (refine Soft.region0 [0, 1, 2, 3, 4, 5, 6, 7, 8, 9, 10, 11, 12, 13] [] (by kernel_rfl) (by kernel_rfl) (by kernel_rfl) (by kernel_rfl) ?_; change Soft.wpSoft _ _ _ _ _ [_, _, _, _, _, _, _, _, _, _, _, _, _, _] _; (repeat (refine Soft.soft_step (fun K hK => ?_); go_simp; (try go_bits); first | (refine hK _ ?_; clear hK K) | (apply Exists.intro; refine ⟨fun x => ?_, hK _ ?_⟩; (first | (go_at_call 112; with_reducible exact (C1.out _)) | (go_at_call 112; with_reducible exact (C2.out _))); clear hK K))); refine Soft.soft_nil ?_; intro xw; change wpList _ _ _ [] _ _)
      change wpList _ _ _ [] _ _
      go_wp2_with fail
      (refine Soft.region0 [0, 1, 2, 3, 4, 5, 6, 7, 8, 9, 10, 11, 12, 13, 14, 15] [] (by kernel_rfl) (by kernel_rfl) (by kernel_rfl) (by kernel_rfl) ?_; change Soft.wpSoft _ _ _ _ _ [_, _, _, _, _, _, _, _, _, _, _, _, _, _, _, _] _; (repeat (refine Soft.soft_step (fun K hK => ?_); go_simp; (try go_bits); first | (refine hK _ ?_; clear hK K) | (apply Exists.intro; refine ⟨fun x => ?_, hK _ ?_⟩; (first | (go_at_call 112; with_reducible exact (C3.out _)) | (go_at_call 112; with_reducible exact (C4.out _))); clear hK K))); refine Soft.soft_nil ?_; intro xw; change wpList _ _ _ [] _ _)
      change wpList _ _ _ [] _ _
      go_wp2_with fail
      refine bodyPost_ret (v := .agg #[.int .i64 ((⟨A, B⟩ : Rg)).lo, .int .i64 ((⟨A, B⟩ : Rg)).hi]) (by simp [results, Tryz.results84, go_sem, EA.out, EB.out]) rfl ?_
      refine ⟨rfl, ?_⟩
      (repeat (first | with_reducible exact bel_refl _ | with_reducible refine bel_alloc ?_ _ | with_reducible refine bel_bw _ ?_ | with_reducible refine bel_drew ?_ | with_reducible refine bel_drewN _ ?_ | ((with_reducible refine bel_set ?_ ?_ _); rotate_left; focus (first | (simp; done) | omega | (simp; omega))) | refine bel_step ?_ (by with_reducible assumption)))
  · omega

theorem R2_Litres (m d : Rg) (w : World) :
    Calls Tryz.prog 79 #[.agg #[.int .i64 (m).lo, .int .i64 (m).hi], .agg #[.int .i64 (d).lo, .int .i64 (d).hi]] w fun e w' => e = .returned (.tuple #[.agg #[.int .i64 (litE m d).lo, .int .i64 (litE m d).hi], .int .i64 (massErr m d)]) ∧ Below w.heap.size w w' := by
  obtain ⟨e0, _⟩ | ⟨e0, _⟩ := rangeErr_cases m
  · by_cases c : isDen d
    · have HK := Lib.hid (show massErr m d = 0 by unfold massErr; rw [if_pos e0, if_pos c])
      have HV := Lib.hid (show litE m d = litS m d from if_pos HK.out)
      have H1 := Lib.hid e0; have HC := Lib.hid c; clear c
      go_enter Tryz.func79, Tryz.ntmps79
      go_wp2_with (first | (go_at_call 83; (with_reducible refine (R1_CheckRange m _).mono ?_); rintro e w_ ⟨rfl, hb_⟩; obtain ⟨y1, rfl⟩ := Soft.BW.mk hb_; clear hb_) | (go_at_call 69; (with_reducible refine (R2_density d _ true (decide_eq_true HC.out).symm).mono ?_); rintro e w_ ⟨rfl, hb_⟩; obtain ⟨y2, rfl⟩ := Soft.BW.mk hb_; clear hb_) | (go_at_call 84; (with_reducible refine (R2_litres m d _ H1.out HC.out).mono ?_); rintro e w_ ⟨rfl, hb_⟩; obtain ⟨y3, rfl⟩ := Soft.BW.mk hb_; clear hb_))
      rw [HV.out, HK.out]
      refine bodyPost_ret (v := .tuple #[.agg #[.int .i64 (litS m d).lo, .int .i64 (litS m d).hi], .int .i64 0]) (by simp [results, Tryz.results79, go_sem]) rfl ?_
      refine ⟨rfl, ?_⟩
      (repeat (first | with_reducible exact bel_refl _ | with_reducible refine bel_alloc ?_ _ | with_reducible refine bel_bw _ ?_ | with_reducible refine bel_drew ?_ | with_reducible refine bel_drewN _ ?_ | ((with_reducible refine bel_set ?_ ?_ _); rotate_left; focus (first | (simp; done) | omega | (simp; omega))) | refine bel_step ?_ (by with_reducible assumption)))
    · have HK := Lib.hid (show massErr m d = 22 by unfold massErr; rw [if_pos e0, if_neg c])
      have HV := Lib.hid (show litE m d = ⟨0, 0⟩ from if_neg (by rw [HK.out]; omega))
      have HC := Lib.hid c; clear c
      go_enter Tryz.func79, Tryz.ntmps79
      go_wp2_with (first | (go_at_call 83; (with_reducible refine (R1_CheckRange m _).mono ?_); rintro e w_ ⟨rfl, hb_⟩; obtain ⟨y1, rfl⟩ := Soft.BW.mk hb_; clear hb_) | (go_at_call 69; (with_reducible refine (R2_density d _ false (decide_eq_false HC.out).symm).mono ?_); rintro e w_ ⟨rfl, hb_⟩; obtain ⟨y2, rfl⟩ := Soft.BW.mk hb_; clear hb_))
      rw [HV.out, HK.out]
      refine bodyPost_ret (v := .tuple #[.agg #[.int .i64 ((⟨0, 0⟩ : Rg)).lo, .int .i64 ((⟨0, 0⟩ : Rg)).hi], .int .i64 22]) (by simp [results, Tryz.results79, go_sem]) rfl ?_
      refine ⟨rfl, ?_⟩
      (repeat (first | with_reducible exact bel_refl _ | with_reducible refine bel_alloc ?_ _ | with_reducible refine bel_bw _ ?_ | with_reducible refine bel_drew ?_ | with_reducible refine bel_drewN _ ?_ | ((with_reducible refine bel_set ?_ ?_ _); rotate_left; focus (first | (simp; done) | omega | (simp; omega))) | refine bel_step ?_ (by with_reducible assumption)))
  · have HK := Lib.hid (show massErr m d = 10 by unfold massErr; rw [if_neg (by omega)])
    have HV := Lib.hid (show litE m d = ⟨0, 0⟩ from if_neg (by rw [HK.out]; omega))
    go_enter Tryz.func79, Tryz.ntmps79
    go_wp2_with (first | (go_at_call 83; (with_reducible refine (R1_CheckRange m _).mono ?_); rintro e w_ ⟨rfl, hb_⟩; obtain ⟨y1, rfl⟩ := Soft.BW.mk hb_; clear hb_))
    rw [HV.out, HK.out]
    refine bodyPost_ret (v := .tuple #[.agg #[.int .i64 ((⟨0, 0⟩ : Rg)).lo, .int .i64 ((⟨0, 0⟩ : Rg)).hi], .int .i64 10]) (by simp [results, Tryz.results79, go_sem]) rfl ?_
    refine ⟨rfl, ?_⟩
    (repeat (first | with_reducible exact bel_refl _ | with_reducible refine bel_alloc ?_ _ | with_reducible refine bel_bw _ ?_ | with_reducible refine bel_drew ?_ | with_reducible refine bel_drewN _ ?_ | ((with_reducible refine bel_set ?_ ?_ _); rotate_left; focus (first | (simp; done) | omega | (simp; omega))) | refine bel_step ?_ (by with_reducible assumption)))

end Go.Proofs.YtbjdgaeikihjbaaGreat
