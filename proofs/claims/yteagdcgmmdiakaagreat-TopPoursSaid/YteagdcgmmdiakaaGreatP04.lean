/-
  hold: inverse, for both ways of a table.
  areTables, isMonotone, CheckHold and CheckTank.
  Conditions: each theorem's own premises.
-/
import Derived.Test.YteagdcgmmdiakaaGreatP03
import Derived.Laws.EntriesVeiled
import Derived.Laws.Tables
namespace Go.Proofs.YteagdcgmmdiakaaGreat
set_option linter.unusedSimpArgs false
set_option linter.unusedVariables false
open Go.RowKit
set_option maxRecDepth 100000
set_option maxHeartbeats 1000000
attribute [local go_sem] Instr.field asAgg Soft.upon Soft.BW.cell_if Soft.BW.frozen_if Soft.cell_alloc_if Soft.frozen_alloc_if

/-- Two tests of places: the ahead ones are a beginning, the behind ones an end. -/
structure Ways (ahead behind : Int → Bool) (a b : Int) : Prop where
  up : ∀ x y, a ≤ x → x ≤ y → y ≤ b → behind x = true → behind y = true
  dn : ∀ x y, a ≤ x → x ≤ y → y ≤ b → ahead y = true → ahead x = true

theorem TabOk.ends {ps : List Pt} (h : TabOk ps) : 0 ≤ firstX ps ∧ firstX ps ≤ lastX ps ∧ lastX ps ≤ 1000000 := by
  have hpos := h.pos
  obtain ⟨a1, _⟩ := h.all 0 (by omega)
  obtain ⟨_, b1, _⟩ := h.all (ps.length - 1) (by omega)
  have key : ∀ k, k < ps.length → (pt ps 0).x ≤ (pt ps k).x := by
    intro k
    induction k with
    | zero => intro _; exact Int.le_refl _
    | succ k ih =>
      intro hk
      obtain ⟨_, _, _, _, _, h6⟩ := h.all (k + 1) hk
      have := ih (by omega)
      rcases h6 with h6 | h6
      · omega
      · rw [show k + 1 - 1 = k by omega] at h6; omega
  exact ⟨a1, key _ (by omega), b1⟩


theorem inverse_down (t : Tb) (v : Rg) (w : World) (ht : t.At w) (hok : TabOk t.ps) (hw : Ways (moreB t.ps v) (lessB t.ps v) (firstX t.ps) (lastX t.ps)) :
    Calls Tryz.prog 29 #[.agg #[.slice (t).p (t).n (t).c], .agg #[.int .i64 (v).lo, .int .i64 (v).hi], .int .i64 (-1)] w fun e w' =>
      e = .returned (.tuple #[.agg #[.int .i64 ((invS (moreB t.ps v) (lessB t.ps v) (firstX t.ps) (lastX t.ps)).1).lo, .int .i64 ((invS (moreB t.ps v) (lessB t.ps v) (firstX t.ps) (lastX t.ps)).1).hi], .bool (invS (moreB t.ps v) (lessB t.ps v) (firstX t.ps) (lastX t.ps)).2]) ∧ Below w.heap.size w w' := by
  have hn : 1 ≤ t.n := by rw [← ht.1]; exact hok.pos
  obtain ⟨e1, e2, e3⟩ := hok.ends
  by_cases cA : moreB t.ps v (lastX t.ps) = true
  · have HV := Lib.hid (show invS (moreB t.ps v) (lessB t.ps v) (firstX t.ps) (lastX t.ps) = (⟨0, 0⟩, false) from if_pos (.inl cA))
    have HA := Lib.hid cA; clear cA hok hw
    go_enter Tryz.func29, Tryz.ntmps29
    go_wp2_with (first | (go_at_call 65; (with_reducible refine (hold_domain t _ (by repeat (first | exact ht | refine Tb.At.alloc ?_ _ | refine Tb.At.bw ?_ _)) hn).mono ?_); rintro e w_ ⟨rfl, hb_⟩; obtain ⟨y1, rfl⟩ := Soft.BW.mk hb_; clear hb_) | (go_at_call 74; (with_reducible refine (inverse_more t v _ _ _ _ (by repeat (first | exact ht | refine Tb.At.alloc ?_ _ | refine Tb.At.bw ?_ _)) (by simp only [HasBlk, Soft.BW.heap_if, Soft.heap_alloc_if, Soft.heap_new, Soft.heap_new1, Soft.heap_new2, Soft.heap_new3, Soft.heap_new4, Soft.heap_new5]) (by simp only [HasBlk, Soft.BW.heap_if, Soft.heap_alloc_if, Soft.heap_new, Soft.heap_new1, Soft.heap_new2, Soft.heap_new3, Soft.heap_new4, Soft.heap_new5]) true HA.out.symm).mono ?_); rintro e w_ ⟨rfl, hb_⟩; obtain ⟨y2, rfl⟩ := Soft.BW.mk hb_; clear hb_))
    rw [HV.out]
    refine bodyPost_ret (v := .tuple #[.agg #[.int .i64 ((⟨0, 0⟩ : Rg)).lo, .int .i64 ((⟨0, 0⟩ : Rg)).hi], .bool false]) (by simp [results, Tryz.results29, go_sem]) rfl ?_
    refine ⟨rfl, ?_⟩
    (repeat (first | with_reducible exact bel_refl _ | with_reducible refine bel_alloc ?_ _ | with_reducible refine bel_bw _ ?_ | with_reducible refine bel_drew ?_ | with_reducible refine bel_drewN _ ?_ | ((with_reducible refine bel_set ?_ ?_ _); rotate_left; focus (first | (simp; done) | omega | (simp; omega))) | refine bel_step ?_ (by with_reducible assumption)))
  · have cA' : moreB t.ps v (lastX t.ps) = false := by simpa using cA
    by_cases cB : lessB t.ps v (firstX t.ps) = true
    · have HV := Lib.hid (show invS (moreB t.ps v) (lessB t.ps v) (firstX t.ps) (lastX t.ps) = (⟨0, 0⟩, false) from if_pos (.inr cB))
      have HA := Lib.hid cA'; have HB := Lib.hid cB; clear cA cA' cB hok hw
      go_enter Tryz.func29, Tryz.ntmps29
      go_wp2_with (first | (go_at_call 65; (with_reducible refine (hold_domain t _ (by repeat (first | exact ht | refine Tb.At.alloc ?_ _ | refine Tb.At.bw ?_ _)) hn).mono ?_); rintro e w_ ⟨rfl, hb_⟩; obtain ⟨y1, rfl⟩ := Soft.BW.mk hb_; clear hb_) | (go_at_call 74; (with_reducible refine (inverse_more t v _ _ _ _ (by repeat (first | exact ht | refine Tb.At.alloc ?_ _ | refine Tb.At.bw ?_ _)) (by simp only [HasBlk, Soft.BW.heap_if, Soft.heap_alloc_if, Soft.heap_new, Soft.heap_new1, Soft.heap_new2, Soft.heap_new3, Soft.heap_new4, Soft.heap_new5]) (by simp only [HasBlk, Soft.BW.heap_if, Soft.heap_alloc_if, Soft.heap_new, Soft.heap_new1, Soft.heap_new2, Soft.heap_new3, Soft.heap_new4, Soft.heap_new5]) false HA.out.symm).mono ?_); rintro e w_ ⟨rfl, hb_⟩; obtain ⟨y2, rfl⟩ := Soft.BW.mk hb_; clear hb_) | (go_at_call 75; (with_reducible refine (inverse_less t v _ _ _ _ (by repeat (first | exact ht | refine Tb.At.alloc ?_ _ | refine Tb.At.bw ?_ _)) (by simp only [HasBlk, Soft.BW.heap_if, Soft.heap_alloc_if, Soft.heap_new, Soft.heap_new1, Soft.heap_new2, Soft.heap_new3, Soft.heap_new4, Soft.heap_new5]) (by simp only [HasBlk, Soft.BW.heap_if, Soft.heap_alloc_if, Soft.heap_new, Soft.heap_new1, Soft.heap_new2, Soft.heap_new3, Soft.heap_new4, Soft.heap_new5]) true HB.out.symm).mono ?_); rintro e w_ ⟨rfl, hb_⟩; obtain ⟨y3, rfl⟩ := Soft.BW.mk hb_; clear hb_))
      rw [HV.out]
      refine bodyPost_ret (v := .tuple #[.agg #[.int .i64 ((⟨0, 0⟩ : Rg)).lo, .int .i64 ((⟨0, 0⟩ : Rg)).hi], .bool false]) (by simp [results, Tryz.results29, go_sem]) rfl ?_
      refine ⟨rfl, ?_⟩
      (repeat (first | with_reducible exact bel_refl _ | with_reducible refine bel_alloc ?_ _ | with_reducible refine bel_bw _ ?_ | with_reducible refine bel_drew ?_ | with_reducible refine bel_drewN _ ?_ | ((with_reducible refine bel_set ?_ ?_ _); rotate_left; focus (first | (simp; done) | omega | (simp; omega))) | refine bel_step ?_ (by with_reducible assumption)))
    · have cB' : lessB t.ps v (firstX t.ps) = false := by simpa using cB
      have HV := Lib.hid (show invS (moreB t.ps v) (lessB t.ps v) (firstX t.ps) (lastX t.ps) = (⟨max (searchS (fun x => !moreB t.ps v x) (firstX t.ps) (lastX t.ps) - 1) (firstX t.ps), min (searchS (lessB t.ps v) (firstX t.ps) (lastX t.ps)) (lastX t.ps)⟩, true) from if_neg (by simp [cA', cB']))
      obtain ⟨s1, s2, s3, s4⟩ := searchS_spec (q := fun x => !moreB t.ps v x) (a := firstX t.ps) (b := lastX t.ps) (by omega) (fun x y h1 h2 h3 hx => by
        have := hw.dn x y h1 h2 h3
        cases hy : moreB t.ps v y
        · rfl
        · simp only [this hy] at hx; cases hx)
      obtain ⟨r1, r2, r3, r4⟩ := searchS_spec (q := lessB t.ps v) (a := firstX t.ps) (b := lastX t.ps) (by omega) hw.up
      have HA := Lib.hid cA'; have HB := Lib.hid cB'; have S3 := Lib.hid s3; have S4 := Lib.hid s4; have R3 := Lib.hid r3; have R4 := Lib.hid r4
      clear cA cA' cB cB' hok hw s3 s4 r3 r4
      generalize hlo : searchS (fun x => !moreB t.ps v x) (firstX t.ps) (lastX t.ps) = lo at *
      generalize hhi : searchS (lessB t.ps v) (firstX t.ps) (lastX t.ps) = hi at *
      clear hlo hhi
      go_enter Tryz.func29, Tryz.ntmps29
      go_wp2_with (first | (go_at_call 65; (with_reducible refine (hold_domain t _ (by repeat (first | exact ht | refine Tb.At.alloc ?_ _ | refine Tb.At.bw ?_ _)) hn).mono ?_); rintro e w_ ⟨rfl, hb_⟩; obtain ⟨y1, rfl⟩ := Soft.BW.mk hb_; clear hb_) | (go_at_call 74; (with_reducible refine (inverse_more t v _ _ _ _ (by repeat (first | exact ht | refine Tb.At.alloc ?_ _ | refine Tb.At.bw ?_ _)) (by simp only [HasBlk, Soft.BW.heap_if, Soft.heap_alloc_if, Soft.heap_new, Soft.heap_new1, Soft.heap_new2, Soft.heap_new3, Soft.heap_new4, Soft.heap_new5]) (by simp only [HasBlk, Soft.BW.heap_if, Soft.heap_alloc_if, Soft.heap_new, Soft.heap_new1, Soft.heap_new2, Soft.heap_new3, Soft.heap_new4, Soft.heap_new5]) false HA.out.symm).mono ?_); rintro e w_ ⟨rfl, hb_⟩; obtain ⟨y2, rfl⟩ := Soft.BW.mk hb_; clear hb_) | (go_at_call 75; (with_reducible refine (inverse_less t v _ _ _ _ (by repeat (first | exact ht | refine Tb.At.alloc ?_ _ | refine Tb.At.bw ?_ _)) (by simp only [HasBlk, Soft.BW.heap_if, Soft.heap_alloc_if, Soft.heap_new, Soft.heap_new1, Soft.heap_new2, Soft.heap_new3, Soft.heap_new4, Soft.heap_new5]) (by simp only [HasBlk, Soft.BW.heap_if, Soft.heap_alloc_if, Soft.heap_new, Soft.heap_new1, Soft.heap_new2, Soft.heap_new3, Soft.heap_new4, Soft.heap_new5]) false HB.out.symm).mono ?_); rintro e w_ ⟨rfl, hb_⟩; obtain ⟨y3, rfl⟩ := Soft.BW.mk hb_; clear hb_) | (go_at_call 76; (with_reducible refine (search_not ⟨y1.w.heap.size, 0, none⟩ (fun x => !moreB t.ps v x) (firstX t.ps) (lastX t.ps) lo _ (by omega) (by omega) (by omega) s1 s2 S3.out S4.out (fun x w' _ _ hb => inverse_not_more t v w.heap.size (w.heap.size + 1) y1.w.heap.size x w' (Tb.At.same (by repeat (first | exact ht | refine Tb.At.alloc ?_ _ | refine Tb.At.bw ?_ _)) hb) (HasBlk.below (by simp only [HasBlk, Soft.BW.heap_if, Soft.heap_alloc_if, Soft.heap_new, Soft.heap_new1, Soft.heap_new2, Soft.heap_new3, Soft.heap_new4, Soft.heap_new5]) hb) (HasBlk.below (by simp only [HasBlk, Soft.BW.heap_if, Soft.heap_alloc_if, Soft.heap_new, Soft.heap_new1, Soft.heap_new2, Soft.heap_new3, Soft.heap_new4, Soft.heap_new5]) hb) (HasBlk.below (by simp only [HasBlk, Soft.BW.heap_if, Soft.heap_alloc_if, Soft.heap_new, Soft.heap_new1, Soft.heap_new2, Soft.heap_new3, Soft.heap_new4, Soft.heap_new5]) hb) _ rfl)).mono ?_); rintro e w_ ⟨rfl, hb_⟩; obtain ⟨y4, rfl⟩ := Soft.BW.mk hb_; clear hb_) | (go_at_call 76; (with_reducible refine (search_less ⟨w.heap.size, 0, none⟩ ⟨w.heap.size + 1, 0, none⟩ (lessB t.ps v) (firstX t.ps) (lastX t.ps) hi _ (by omega) (by omega) (by omega) r1 r2 R3.out R4.out (fun x w' _ _ hb => inverse_less t v w.heap.size (w.heap.size + 1) x w' (Tb.At.same (by repeat (first | exact ht | refine Tb.At.alloc ?_ _ | refine Tb.At.bw ?_ _)) hb) (HasBlk.below (by simp only [HasBlk, Soft.BW.heap_if, Soft.heap_alloc_if, Soft.heap_new, Soft.heap_new1, Soft.heap_new2, Soft.heap_new3, Soft.heap_new4, Soft.heap_new5]) hb) (HasBlk.below (by simp only [HasBlk, Soft.BW.heap_if, Soft.heap_alloc_if, Soft.heap_new, Soft.heap_new1, Soft.heap_new2, Soft.heap_new3, Soft.heap_new4, Soft.heap_new5]) hb) _ rfl)).mono ?_); rintro e w_ ⟨rfl, hb_⟩; obtain ⟨y5, rfl⟩ := Soft.BW.mk hb_; clear hb_))
      all_goals
        rw [HV.out]
        refine bodyPost_ret (v := .tuple #[.agg #[.int .i64 ((⟨max (lo - 1) (firstX t.ps), min hi (lastX t.ps)⟩ : Rg)).lo, .int .i64 ((⟨max (lo - 1) (firstX t.ps), min hi (lastX t.ps)⟩ : Rg)).hi], .bool true]) (by simp [results, Tryz.results29, go_sem]; omega) rfl ?_
        refine ⟨rfl, ?_⟩
        (repeat (first | with_reducible exact bel_refl _ | with_reducible refine bel_alloc ?_ _ | with_reducible refine bel_bw _ ?_ | with_reducible refine bel_drew ?_ | with_reducible refine bel_drewN _ ?_ | ((with_reducible refine bel_set ?_ ?_ _); rotate_left; focus (first | (simp; done) | omega | (simp; omega))) | refine bel_step ?_ (by with_reducible assumption)))
theorem inverse_up (t : Tb) (v : Rg) (w : World) (ht : t.At w) (hok : TabOk t.ps) (hw : Ways (lessB t.ps v) (moreB t.ps v) (firstX t.ps) (lastX t.ps)) :
    Calls Tryz.prog 29 #[.agg #[.slice (t).p (t).n (t).c], .agg #[.int .i64 (v).lo, .int .i64 (v).hi], .int .i64 1] w fun e w' =>
      e = .returned (.tuple #[.agg #[.int .i64 ((invS (lessB t.ps v) (moreB t.ps v) (firstX t.ps) (lastX t.ps)).1).lo, .int .i64 ((invS (lessB t.ps v) (moreB t.ps v) (firstX t.ps) (lastX t.ps)).1).hi], .bool (invS (lessB t.ps v) (moreB t.ps v) (firstX t.ps) (lastX t.ps)).2]) ∧ Below w.heap.size w w' := by
  have hn : 1 ≤ t.n := by rw [← ht.1]; exact hok.pos
  obtain ⟨e1, e2, e3⟩ := hok.ends
  by_cases cA : lessB t.ps v (lastX t.ps) = true
  · have HV := Lib.hid (show invS (lessB t.ps v) (moreB t.ps v) (firstX t.ps) (lastX t.ps) = (⟨0, 0⟩, false) from if_pos (.inl cA))
    have HA := Lib.hid cA; clear cA hok hw
    go_enter Tryz.func29, Tryz.ntmps29
    go_wp2_with (first | (go_at_call 65; (with_reducible refine (hold_domain t _ (by repeat (first | exact ht | refine Tb.At.alloc ?_ _ | refine Tb.At.bw ?_ _)) hn).mono ?_); rintro e w_ ⟨rfl, hb_⟩; obtain ⟨y1, rfl⟩ := Soft.BW.mk hb_; clear hb_) | (go_at_call 75; (with_reducible refine (inverse_less t v _ _ _ _ (by repeat (first | exact ht | refine Tb.At.alloc ?_ _ | refine Tb.At.bw ?_ _)) (by simp only [HasBlk, Soft.BW.heap_if, Soft.heap_alloc_if, Soft.heap_new, Soft.heap_new1, Soft.heap_new2, Soft.heap_new3, Soft.heap_new4, Soft.heap_new5]) (by simp only [HasBlk, Soft.BW.heap_if, Soft.heap_alloc_if, Soft.heap_new, Soft.heap_new1, Soft.heap_new2, Soft.heap_new3, Soft.heap_new4, Soft.heap_new5]) true HA.out.symm).mono ?_); rintro e w_ ⟨rfl, hb_⟩; obtain ⟨y2, rfl⟩ := Soft.BW.mk hb_; clear hb_))
    rw [HV.out]
    refine bodyPost_ret (v := .tuple #[.agg #[.int .i64 ((⟨0, 0⟩ : Rg)).lo, .int .i64 ((⟨0, 0⟩ : Rg)).hi], .bool false]) (by simp [results, Tryz.results29, go_sem]) rfl ?_
    refine ⟨rfl, ?_⟩
    (repeat (first | with_reducible exact bel_refl _ | with_reducible refine bel_alloc ?_ _ | with_reducible refine bel_bw _ ?_ | with_reducible refine bel_drew ?_ | with_reducible refine bel_drewN _ ?_ | ((with_reducible refine bel_set ?_ ?_ _); rotate_left; focus (first | (simp; done) | omega | (simp; omega))) | refine bel_step ?_ (by with_reducible assumption)))
  · have cA' : lessB t.ps v (lastX t.ps) = false := by simpa using cA
    by_cases cB : moreB t.ps v (firstX t.ps) = true
    · have HV := Lib.hid (show invS (lessB t.ps v) (moreB t.ps v) (firstX t.ps) (lastX t.ps) = (⟨0, 0⟩, false) from if_pos (.inr cB))
      have HA := Lib.hid cA'; have HB := Lib.hid cB; clear cA cA' cB hok hw
      go_enter Tryz.func29, Tryz.ntmps29
      go_wp2_with (first | (go_at_call 65; (with_reducible refine (hold_domain t _ (by repeat (first | exact ht | refine Tb.At.alloc ?_ _ | refine Tb.At.bw ?_ _)) hn).mono ?_); rintro e w_ ⟨rfl, hb_⟩; obtain ⟨y1, rfl⟩ := Soft.BW.mk hb_; clear hb_) | (go_at_call 75; (with_reducible refine (inverse_less t v _ _ _ _ (by repeat (first | exact ht | refine Tb.At.alloc ?_ _ | refine Tb.At.bw ?_ _)) (by simp only [HasBlk, Soft.BW.heap_if, Soft.heap_alloc_if, Soft.heap_new, Soft.heap_new1, Soft.heap_new2, Soft.heap_new3, Soft.heap_new4, Soft.heap_new5]) (by simp only [HasBlk, Soft.BW.heap_if, Soft.heap_alloc_if, Soft.heap_new, Soft.heap_new1, Soft.heap_new2, Soft.heap_new3, Soft.heap_new4, Soft.heap_new5]) false HA.out.symm).mono ?_); rintro e w_ ⟨rfl, hb_⟩; obtain ⟨y2, rfl⟩ := Soft.BW.mk hb_; clear hb_) | (go_at_call 74; (with_reducible refine (inverse_more t v _ _ _ _ (by repeat (first | exact ht | refine Tb.At.alloc ?_ _ | refine Tb.At.bw ?_ _)) (by simp only [HasBlk, Soft.BW.heap_if, Soft.heap_alloc_if, Soft.heap_new, Soft.heap_new1, Soft.heap_new2, Soft.heap_new3, Soft.heap_new4, Soft.heap_new5]) (by simp only [HasBlk, Soft.BW.heap_if, Soft.heap_alloc_if, Soft.heap_new, Soft.heap_new1, Soft.heap_new2, Soft.heap_new3, Soft.heap_new4, Soft.heap_new5]) true HB.out.symm).mono ?_); rintro e w_ ⟨rfl, hb_⟩; obtain ⟨y3, rfl⟩ := Soft.BW.mk hb_; clear hb_))
      rw [HV.out]
      refine bodyPost_ret (v := .tuple #[.agg #[.int .i64 ((⟨0, 0⟩ : Rg)).lo, .int .i64 ((⟨0, 0⟩ : Rg)).hi], .bool false]) (by simp [results, Tryz.results29, go_sem]) rfl ?_
      refine ⟨rfl, ?_⟩
      (repeat (first | with_reducible exact bel_refl _ | with_reducible refine bel_alloc ?_ _ | with_reducible refine bel_bw _ ?_ | with_reducible refine bel_drew ?_ | with_reducible refine bel_drewN _ ?_ | ((with_reducible refine bel_set ?_ ?_ _); rotate_left; focus (first | (simp; done) | omega | (simp; omega))) | refine bel_step ?_ (by with_reducible assumption)))
    · have cB' : moreB t.ps v (firstX t.ps) = false := by simpa using cB
      have HV := Lib.hid (show invS (lessB t.ps v) (moreB t.ps v) (firstX t.ps) (lastX t.ps) = (⟨max (searchS (fun x => !lessB t.ps v x) (firstX t.ps) (lastX t.ps) - 1) (firstX t.ps), min (searchS (moreB t.ps v) (firstX t.ps) (lastX t.ps)) (lastX t.ps)⟩, true) from if_neg (by simp [cA', cB']))
      obtain ⟨s1, s2, s3, s4⟩ := searchS_spec (q := fun x => !lessB t.ps v x) (a := firstX t.ps) (b := lastX t.ps) (by omega) (fun x y h1 h2 h3 hx => by
        have := hw.dn x y h1 h2 h3
        cases hy : lessB t.ps v y
        · rfl
        · simp only [this hy] at hx; cases hx)
      obtain ⟨r1, r2, r3, r4⟩ := searchS_spec (q := moreB t.ps v) (a := firstX t.ps) (b := lastX t.ps) (by omega) hw.up
      have HA := Lib.hid cA'; have HB := Lib.hid cB'; have S3 := Lib.hid s3; have S4 := Lib.hid s4; have R3 := Lib.hid r3; have R4 := Lib.hid r4
      clear cA cA' cB cB' hok hw s3 s4 r3 r4
      generalize hlo : searchS (fun x => !lessB t.ps v x) (firstX t.ps) (lastX t.ps) = lo at *
      generalize hhi : searchS (moreB t.ps v) (firstX t.ps) (lastX t.ps) = hi at *
      clear hlo hhi
      go_enter Tryz.func29, Tryz.ntmps29
      go_wp2_with (first | (go_at_call 65; (with_reducible refine (hold_domain t _ (by repeat (first | exact ht | refine Tb.At.alloc ?_ _ | refine Tb.At.bw ?_ _)) hn).mono ?_); rintro e w_ ⟨rfl, hb_⟩; obtain ⟨y1, rfl⟩ := Soft.BW.mk hb_; clear hb_) | (go_at_call 75; (with_reducible refine (inverse_less t v _ _ _ _ (by repeat (first | exact ht | refine Tb.At.alloc ?_ _ | refine Tb.At.bw ?_ _)) (by simp only [HasBlk, Soft.BW.heap_if, Soft.heap_alloc_if, Soft.heap_new, Soft.heap_new1, Soft.heap_new2, Soft.heap_new3, Soft.heap_new4, Soft.heap_new5]) (by simp only [HasBlk, Soft.BW.heap_if, Soft.heap_alloc_if, Soft.heap_new, Soft.heap_new1, Soft.heap_new2, Soft.heap_new3, Soft.heap_new4, Soft.heap_new5]) false HA.out.symm).mono ?_); rintro e w_ ⟨rfl, hb_⟩; obtain ⟨y2, rfl⟩ := Soft.BW.mk hb_; clear hb_) | (go_at_call 74; (with_reducible refine (inverse_more t v _ _ _ _ (by repeat (first | exact ht | refine Tb.At.alloc ?_ _ | refine Tb.At.bw ?_ _)) (by simp only [HasBlk, Soft.BW.heap_if, Soft.heap_alloc_if, Soft.heap_new, Soft.heap_new1, Soft.heap_new2, Soft.heap_new3, Soft.heap_new4, Soft.heap_new5]) (by simp only [HasBlk, Soft.BW.heap_if, Soft.heap_alloc_if, Soft.heap_new, Soft.heap_new1, Soft.heap_new2, Soft.heap_new3, Soft.heap_new4, Soft.heap_new5]) false HB.out.symm).mono ?_); rintro e w_ ⟨rfl, hb_⟩; obtain ⟨y3, rfl⟩ := Soft.BW.mk hb_; clear hb_) | (go_at_call 76; (with_reducible refine (search_not ⟨y1.w.heap.size, 0, none⟩ (fun x => !lessB t.ps v x) (firstX t.ps) (lastX t.ps) lo _ (by omega) (by omega) (by omega) s1 s2 S3.out S4.out (fun x w' _ _ hb => inverse_not_less t v w.heap.size (w.heap.size + 1) y1.w.heap.size x w' (Tb.At.same (by repeat (first | exact ht | refine Tb.At.alloc ?_ _ | refine Tb.At.bw ?_ _)) hb) (HasBlk.below (by simp only [HasBlk, Soft.BW.heap_if, Soft.heap_alloc_if, Soft.heap_new, Soft.heap_new1, Soft.heap_new2, Soft.heap_new3, Soft.heap_new4, Soft.heap_new5]) hb) (HasBlk.below (by simp only [HasBlk, Soft.BW.heap_if, Soft.heap_alloc_if, Soft.heap_new, Soft.heap_new1, Soft.heap_new2, Soft.heap_new3, Soft.heap_new4, Soft.heap_new5]) hb) (HasBlk.below (by simp only [HasBlk, Soft.BW.heap_if, Soft.heap_alloc_if, Soft.heap_new, Soft.heap_new1, Soft.heap_new2, Soft.heap_new3, Soft.heap_new4, Soft.heap_new5]) hb) _ rfl)).mono ?_); rintro e w_ ⟨rfl, hb_⟩; obtain ⟨y4, rfl⟩ := Soft.BW.mk hb_; clear hb_) | (go_at_call 76; (with_reducible refine (search_more ⟨w.heap.size, 0, none⟩ ⟨w.heap.size + 1, 0, none⟩ (moreB t.ps v) (firstX t.ps) (lastX t.ps) hi _ (by omega) (by omega) (by omega) r1 r2 R3.out R4.out (fun x w' _ _ hb => inverse_more t v w.heap.size (w.heap.size + 1) x w' (Tb.At.same (by repeat (first | exact ht | refine Tb.At.alloc ?_ _ | refine Tb.At.bw ?_ _)) hb) (HasBlk.below (by simp only [HasBlk, Soft.BW.heap_if, Soft.heap_alloc_if, Soft.heap_new, Soft.heap_new1, Soft.heap_new2, Soft.heap_new3, Soft.heap_new4, Soft.heap_new5]) hb) (HasBlk.below (by simp only [HasBlk, Soft.BW.heap_if, Soft.heap_alloc_if, Soft.heap_new, Soft.heap_new1, Soft.heap_new2, Soft.heap_new3, Soft.heap_new4, Soft.heap_new5]) hb) _ rfl)).mono ?_); rintro e w_ ⟨rfl, hb_⟩; obtain ⟨y5, rfl⟩ := Soft.BW.mk hb_; clear hb_))
      all_goals
        rw [HV.out]
        refine bodyPost_ret (v := .tuple #[.agg #[.int .i64 ((⟨max (lo - 1) (firstX t.ps), min hi (lastX t.ps)⟩ : Rg)).lo, .int .i64 ((⟨max (lo - 1) (firstX t.ps), min hi (lastX t.ps)⟩ : Rg)).hi], .bool true]) (by simp [results, Tryz.results29, go_sem]; omega) rfl ?_
        refine ⟨rfl, ?_⟩
        (repeat (first | with_reducible exact bel_refl _ | with_reducible refine bel_alloc ?_ _ | with_reducible refine bel_bw _ ?_ | with_reducible refine bel_drew ?_ | with_reducible refine bel_drewN _ ?_ | ((with_reducible refine bel_set ?_ ?_ _); rotate_left; focus (first | (simp; done) | omega | (simp; omega))) | refine bel_step ?_ (by with_reducible assumption)))

end Go.Proofs.YteagdcgmmdiakaaGreat

namespace Go.Proofs.YteagdcgmmdiakaaGreat
set_option linter.unusedSimpArgs false
set_option linter.unusedVariables false
open Go.RowKit
attribute [local go_sem] Soft.upon Soft.BW.cell_if Soft.BW.frozen_if Soft.cell_alloc_if Soft.frozen_alloc_if

/-- A table with two points at least, and no number below 0. -/
structure Tab2 (ps : List Pt) : Prop where
  ok : TabOk ps
  two : 2 ≤ ps.length
  pos : ¬hasNeg ps
theorem tab2_iff (ps : List Pt) : Tab2 ps ↔ TabOk ps ∧ 2 ≤ ps.length ∧ ¬hasNeg ps := ⟨fun h => ⟨h.ok, h.two, h.pos⟩, fun h => ⟨h.1, h.2.1, h.2.2⟩⟩
instance (ps : List Pt) : Decidable (Tab2 ps) := decidable_of_iff _ (tab2_iff ps).symm
def sameEnds (ps qs : List Pt) : Prop := firstX ps = firstX qs ∧ lastX ps = lastX qs
instance (ps qs : List Pt) : Decidable (sameEnds ps qs) := inferInstanceAs (Decidable (_ ∧ _))
/-- The three tables of a compartment. -/
def tabs3 (a b c : List Pt) : Prop := Tab2 a ∧ (Tab2 b ∧ sameEnds b a) ∧ (Tab2 c ∧ sameEnds c a)
instance (a b c : List Pt) : Decidable (tabs3 a b c) := inferInstanceAs (Decidable (_ ∧ _ ∧ _))

def pick3 (a b c : Tb) (k : Nat) : Tb := if k = 0 then a else if k = 1 then b else c

set_option maxRecDepth 100000 in
set_option maxHeartbeats 4000000 in
theorem hold_areTables (a b c : Tb) (Bl : Nat) (w : World) (ha : a.At w) (hb : b.At w) (hc : c.At w) (hl : HasBlk w Bl #[.slice (a).p (a).n (a).c, .slice (b).p (b).n (b).c, .slice (c).p (c).n (c).c] 24) (v : Bool) (hv : v = decide (tabs3 a.ps b.ps c.ps)) :
    Calls Tryz.prog 78 #[.slice (some ⟨Bl, 0, none⟩) 3 3] w fun e w' => e = .returned (.bool v) ∧ Below w.heap.size w w' := by
  have HV := Lib.hid hv; clear hv
  have hT : ∀ k, k < 3 → (pick3 a b c k).At w ∧ w.cell? ⟨Bl, k, none⟩ = some (.slice (pick3 a b c k).p (pick3 a b c k).n (pick3 a b c k).c) := fun k hk => by
    have hcell := hl.cell
    match k, hk with
    | 0, _ => exact ⟨ha, hcell 0⟩
    | 1, _ => exact ⟨hb, hcell 1⟩
    | 2, _ => exact ⟨hc, hcell 2⟩
  have HT := Lib.hid hT; clear hT
  have hlt := hl.lt
  have HBAD := Lib.hid (show ∀ k, k < 3 → ¬(Tab2 (pick3 a b c k).ps ∧ sameEnds (pick3 a b c k).ps a.ps) → v = false from fun k hk h => by
    rw [HV.out]
    refine decide_eq_false (fun h' => h ?_)
    match k, hk with
    | 0, _ => exact ⟨h'.1, rfl, rfl⟩
    | 1, _ => exact h'.2.1
    | 2, _ => exact h'.2.2)
  have HGOOD := Lib.hid (show (∀ k, k < 3 → Tab2 (pick3 a b c k).ps ∧ sameEnds (pick3 a b c k).ps a.ps) → v = true from fun h => by
    rw [HV.out]
    exact decide_eq_true ⟨(h 0 (by omega)).1, h 1 (by omega), h 2 (by omega)⟩)
  have hT0 := HT.out 0 (by omega)
  clear hl HV
  have HA0 := Lib.hid ha
  clear ha hb hc
  go_enter Tryz.func78, Tryz.ntmps78
  go_wp2_with fail
  go_loopw [11] (fun i wr => ∃ k : Nat, k ≤ 3 ∧ i = .int .i64 k ∧ (∀ j, j < k → Tab2 (pick3 a b c j).ps ∧ sameEnds (pick3 a b c j).ps a.ps) ∧ Below w.heap.size w wr) (fun i _ => 3 - (intOf i).toNat)
  case atStart => exact ⟨0, by omega, rfl, fun j hj => by omega, Below.refl _ _⟩
  case round =>
    obtain ⟨k, hk, rfl, hall, hB⟩ := hrel
    have HALL := Lib.hid hall; clear hall
    by_cases hlt3 : k < 3
    · obtain ⟨hat, hck⟩ := HT.out k hlt3
      have hck' := (hB.cell (p := ⟨Bl, k, none⟩) hlt).trans hck
      have hc0' := (hB.cell (p := ⟨Bl, 0, none⟩) hlt).trans hT0.2
      have hatr := hat.same hB
      have ha0r := HA0.out.same hB
      have lBl := Soft.LtH.mk (b := Bl) (w := wr) (Nat.lt_of_lt_of_le hlt hB.size)
      have HB := Lib.hid hB; clear hB hck
      have hBAD := Lib.hid (HBAD.out k hlt3)
      have hNEXT := Lib.hid (show Tab2 (pick3 a b c k).ps ∧ sameEnds (pick3 a b c k).ps a.ps → ∀ j, j < k + 1 → Tab2 (pick3 a b c j).ps ∧ sameEnds (pick3 a b c j).ps a.ps from fun h j hj => by
        by_cases e : j = k
        · rw [e]; exact h
        · exact HALL.out j (by omega))
      have ha2 : k ≠ 0 → Tab2 a.ps := fun h => (HALL.out 0 (by omega)).1
      have hk0 : k = 0 → pick3 a b c k = a := fun h => by rw [h]; rfl
      have HK0 := Lib.hid hk0; clear hk0
      have HA2 := Lib.hid ha2; clear ha2
      generalize pick3 a b c k = t at *
      have e0 : pick3 a b c 0 = a := rfl
      rw [e0] at hc0'
      clear e0 hT0
      by_cases h1 : TabOk t.ps
      · have hte : tabErr t.ps = 0 := if_pos h1
        have H1 := Lib.hid h1; clear h1
        by_cases h2 : 2 ≤ t.n
        · by_cases h3 : hasNeg t.ps
          · have H3 := Lib.hid h3; clear h3
            have HVF := Lib.hid (hBAD.out (fun h => h.1.pos H3.out))
            go_wp2_with (first | (go_at_call 52; (with_reducible refine (fix_CheckTable t _ (by repeat (first | exact hatr | refine Tb.At.alloc ?_ _ | refine Tb.At.bw ?_ _))).mono ?_); rintro e w_ ⟨rfl, hb_⟩; obtain ⟨y1, rfl⟩ := Soft.BW.mk hb_; clear hb_) | (go_at_call 94; (with_reducible refine (containsNeg t _ (by repeat (first | exact hatr | refine Tb.At.alloc ?_ _ | refine Tb.At.bw ?_ _)) true (decide_eq_true H3.out).symm).mono ?_); rintro e w_ ⟨rfl, hb_⟩; obtain ⟨y2, rfl⟩ := Soft.BW.mk hb_; clear hb_))
            go_ret
            refine ⟨ret_bool HVF.out.symm, ?_⟩
            refine bel_step HB.out ?_
            (repeat (first | with_reducible exact bel_refl _ | with_reducible refine bel_alloc ?_ _ | with_reducible refine bel_bw _ ?_ | with_reducible refine bel_drew ?_ | with_reducible refine bel_drewN _ ?_ | ((with_reducible refine bel_set ?_ ?_ _); rotate_left; focus (first | (simp; done) | omega | (simp; omega))) | refine bel_step ?_ (by with_reducible assumption)))
          · have H3 := Lib.hid h3; clear h3
            have htab : Tab2 t.ps := ⟨H1.out, by rw [hatr.1]; exact h2, H3.out⟩
            have hna : Tab2 a.ps := by
              by_cases hk0 : k = 0
              · rw [← HK0.out hk0]; exact htab
              · exact HA2.out hk0
            have HTAB := Lib.hid htab; clear htab
            have hn1 : 1 ≤ t.n := by omega
            have hn2 : 1 ≤ a.n := by rw [← ha0r.1]; exact hna.ok.pos
            clear hna
            by_cases h4 : firstX t.ps = firstX a.ps
            · have d4 : (firstX t.ps != firstX a.ps) = false := by rw [h4]; simp
              have H4 := Lib.hid h4; clear h4
              by_cases h5 : lastX t.ps = lastX a.ps
              · have d5 : (lastX t.ps != lastX a.ps) = false := by rw [h5]; simp
                have H5 := Lib.hid h5; clear h5
                have HN := Lib.hid (hNEXT.out ⟨HTAB.out, H4.out, H5.out⟩)
                go_wp2_with (first | (go_at_call 52; (with_reducible refine (fix_CheckTable t _ (by repeat (first | exact hatr | refine Tb.At.alloc ?_ _ | refine Tb.At.bw ?_ _))).mono ?_); rintro e w_ ⟨rfl, hb_⟩; obtain ⟨y1, rfl⟩ := Soft.BW.mk hb_; clear hb_) | (go_at_call 94; (with_reducible refine (containsNeg t _ (by repeat (first | exact hatr | refine Tb.At.alloc ?_ _ | refine Tb.At.bw ?_ _)) false (decide_eq_false H3.out).symm).mono ?_); rintro e w_ ⟨rfl, hb_⟩; obtain ⟨y2, rfl⟩ := Soft.BW.mk hb_; clear hb_) | (go_at_call 65; (with_reducible refine (hold_domain t _ (by repeat (first | exact hatr | refine Tb.At.alloc ?_ _ | refine Tb.At.bw ?_ _)) hn1).mono ?_); rintro e w_ ⟨rfl, hb_⟩; obtain ⟨y3, rfl⟩ := Soft.BW.mk hb_; clear hb_) | (go_at_call 65; (with_reducible refine (hold_domain a _ (by repeat (first | exact ha0r | refine Tb.At.alloc ?_ _ | refine Tb.At.bw ?_ _)) hn2).mono ?_); rintro e w_ ⟨rfl, hb_⟩; obtain ⟨y4, rfl⟩ := Soft.BW.mk hb_; clear hb_))
                go_roundw
                case rel =>
                  refine ⟨k + 1, by omega, by simp, HN.out, ?_⟩
                  refine bel_step HB.out ?_
                  (repeat (first | with_reducible exact bel_refl _ | with_reducible refine bel_alloc ?_ _ | with_reducible refine bel_bw _ ?_ | with_reducible refine bel_drew ?_ | with_reducible refine bel_drewN _ ?_ | ((with_reducible refine bel_set ?_ ?_ _); rotate_left; focus (first | (simp; done) | omega | (simp; omega))) | refine bel_step ?_ (by with_reducible assumption)))
                case measure => simp [intOf]; omega
              · have d5 : (lastX t.ps != lastX a.ps) = true := bne_iff_ne.2 h5
                have HVF := Lib.hid (hBAD.out (fun h => h5 h.2.2))
                clear h5
                go_wp2_with (first | (go_at_call 52; (with_reducible refine (fix_CheckTable t _ (by repeat (first | exact hatr | refine Tb.At.alloc ?_ _ | refine Tb.At.bw ?_ _))).mono ?_); rintro e w_ ⟨rfl, hb_⟩; obtain ⟨y1, rfl⟩ := Soft.BW.mk hb_; clear hb_) | (go_at_call 94; (with_reducible refine (containsNeg t _ (by repeat (first | exact hatr | refine Tb.At.alloc ?_ _ | refine Tb.At.bw ?_ _)) false (decide_eq_false H3.out).symm).mono ?_); rintro e w_ ⟨rfl, hb_⟩; obtain ⟨y2, rfl⟩ := Soft.BW.mk hb_; clear hb_) | (go_at_call 65; (with_reducible refine (hold_domain t _ (by repeat (first | exact hatr | refine Tb.At.alloc ?_ _ | refine Tb.At.bw ?_ _)) hn1).mono ?_); rintro e w_ ⟨rfl, hb_⟩; obtain ⟨y3, rfl⟩ := Soft.BW.mk hb_; clear hb_) | (go_at_call 65; (with_reducible refine (hold_domain a _ (by repeat (first | exact ha0r | refine Tb.At.alloc ?_ _ | refine Tb.At.bw ?_ _)) hn2).mono ?_); rintro e w_ ⟨rfl, hb_⟩; obtain ⟨y4, rfl⟩ := Soft.BW.mk hb_; clear hb_))
                go_ret
                refine ⟨ret_bool HVF.out.symm, ?_⟩
                refine bel_step HB.out ?_
                (repeat (first | with_reducible exact bel_refl _ | with_reducible refine bel_alloc ?_ _ | with_reducible refine bel_bw _ ?_ | with_reducible refine bel_drew ?_ | with_reducible refine bel_drewN _ ?_ | ((with_reducible refine bel_set ?_ ?_ _); rotate_left; focus (first | (simp; done) | omega | (simp; omega))) | refine bel_step ?_ (by with_reducible assumption)))
            · have d4 : (firstX t.ps != firstX a.ps) = true := bne_iff_ne.2 h4
              have HVF := Lib.hid (hBAD.out (fun h => h4 h.2.1))
              clear h4
              go_wp2_with (first | (go_at_call 52; (with_reducible refine (fix_CheckTable t _ (by repeat (first | exact hatr | refine Tb.At.alloc ?_ _ | refine Tb.At.bw ?_ _))).mono ?_); rintro e w_ ⟨rfl, hb_⟩; obtain ⟨y1, rfl⟩ := Soft.BW.mk hb_; clear hb_) | (go_at_call 94; (with_reducible refine (containsNeg t _ (by repeat (first | exact hatr | refine Tb.At.alloc ?_ _ | refine Tb.At.bw ?_ _)) false (decide_eq_false H3.out).symm).mono ?_); rintro e w_ ⟨rfl, hb_⟩; obtain ⟨y2, rfl⟩ := Soft.BW.mk hb_; clear hb_) | (go_at_call 65; (with_reducible refine (hold_domain t _ (by repeat (first | exact hatr | refine Tb.At.alloc ?_ _ | refine Tb.At.bw ?_ _)) hn1).mono ?_); rintro e w_ ⟨rfl, hb_⟩; obtain ⟨y3, rfl⟩ := Soft.BW.mk hb_; clear hb_) | (go_at_call 65; (with_reducible refine (hold_domain a _ (by repeat (first | exact ha0r | refine Tb.At.alloc ?_ _ | refine Tb.At.bw ?_ _)) hn2).mono ?_); rintro e w_ ⟨rfl, hb_⟩; obtain ⟨y4, rfl⟩ := Soft.BW.mk hb_; clear hb_))
              go_ret
              refine ⟨ret_bool HVF.out.symm, ?_⟩
              refine bel_step HB.out ?_
              (repeat (first | with_reducible exact bel_refl _ | with_reducible refine bel_alloc ?_ _ | with_reducible refine bel_bw _ ?_ | with_reducible refine bel_drew ?_ | with_reducible refine bel_drewN _ ?_ | ((with_reducible refine bel_set ?_ ?_ _); rotate_left; focus (first | (simp; done) | omega | (simp; omega))) | refine bel_step ?_ (by with_reducible assumption)))
        · have HVF := Lib.hid (hBAD.out (fun h => h2 (by rw [← hatr.1]; exact h.1.two)))
          have h2' : (t.n : Int) < 2 := by omega
          go_wp2_with (go_at_call 52; (with_reducible refine (fix_CheckTable t _ (by repeat (first | exact hatr | refine Tb.At.alloc ?_ _ | refine Tb.At.bw ?_ _))).mono ?_); rintro e w_ ⟨rfl, hb_⟩; obtain ⟨y1, rfl⟩ := Soft.BW.mk hb_; clear hb_)
          go_ret
          refine ⟨ret_bool HVF.out.symm, ?_⟩
          refine bel_step HB.out ?_
          (repeat (first | with_reducible exact bel_refl _ | with_reducible refine bel_alloc ?_ _ | with_reducible refine bel_bw _ ?_ | with_reducible refine bel_drew ?_ | with_reducible refine bel_drewN _ ?_ | ((with_reducible refine bel_set ?_ ?_ _); rotate_left; focus (first | (simp; done) | omega | (simp; omega))) | refine bel_step ?_ (by with_reducible assumption)))
      · have hte : tabErr t.ps = 11 := if_neg h1
        have HVF := Lib.hid (hBAD.out (fun h => h1 h.1.ok))
        clear h1
        go_wp2_with (go_at_call 52; (with_reducible refine (fix_CheckTable t _ (by repeat (first | exact hatr | refine Tb.At.alloc ?_ _ | refine Tb.At.bw ?_ _))).mono ?_); rintro e w_ ⟨rfl, hb_⟩; obtain ⟨y1, rfl⟩ := Soft.BW.mk hb_; clear hb_)
        go_ret
        refine ⟨ret_bool HVF.out.symm, ?_⟩
        refine bel_step HB.out ?_
        (repeat (first | with_reducible exact bel_refl _ | with_reducible refine bel_alloc ?_ _ | with_reducible refine bel_bw _ ?_ | with_reducible refine bel_drew ?_ | with_reducible refine bel_drewN _ ?_ | ((with_reducible refine bel_set ?_ ?_ _); rotate_left; focus (first | (simp; done) | omega | (simp; omega))) | refine bel_step ?_ (by with_reducible assumption)))
    · obtain rfl : k = 3 := by omega
      have HB := Lib.hid hB; clear hB
      have HVT := Lib.hid (HGOOD.out HALL.out)
      go_wp2_with fail
      go_ret
      exact ⟨ret_bool HVT.out.symm, HB.out⟩


/-- Nothing goes against the sign. -/
def monoAt (ps : List Pt) (s : Int) (k : Nat) : Prop := 0 ≤ s * ((pt ps (k + 1)).lo - (pt ps k).lo) ∧ 0 ≤ s * ((pt ps (k + 1)).hi - (pt ps k).hi)
def mono (ps : List Pt) (s : Int) : Prop := ∀ k, k < ps.length - 1 → monoAt ps s k
instance (ps : List Pt) (s : Int) (k : Nat) : Decidable (monoAt ps s k) := inferInstanceAs (Decidable (_ ∧ _))
instance (ps : List Pt) (s : Int) : Decidable (mono ps s) := decidable_of_iff (∀ k, k < ps.length - 1 → monoAt ps s k) Iff.rfl

set_option maxRecDepth 100000 in
set_option maxHeartbeats 4000000 in
theorem hold_isMonotone (t : Tb) (s : Int) (hs : s = 1 ∨ s = -1) (w : World) (ht : t.At w) (h2 : Tab2 t.ps) (v : Bool) (hv : v = decide (mono t.ps s)) :
    Calls Tryz.prog 79 #[.agg #[.slice (t).p (t).n (t).c], .int .i64 s] w fun e w' => e = .returned (.bool v) ∧ Below w.heap.size w w' := by
  have HBAD := Lib.hid (show ∀ k, k < t.ps.length - 1 → ¬monoAt t.ps s k → v = false from fun k hk h => by rw [hv]; exact decide_eq_false (fun h' => h (h' k hk)))
  have HGOOD := Lib.hid (show (∀ k, k < t.ps.length - 1 → monoAt t.ps s k) → v = true from fun h => by rw [hv]; exact decide_eq_true h)
  clear hv
  obtain ⟨p, n, c, ps⟩ := t
  have ht' := ht
  obtain ⟨e1, e2, e3, e4, e5⟩ := ht'
  dsimp only at *
  obtain ⟨b, o, rfl, hbw, _⟩ := e5 (by have := h2.two; omega)
  have hn2 : 2 ≤ n := by have := h2.two; omega
  rw [e1] at HBAD HGOOD
  have HL := Lib.hid e1; clear e1 e5
  have HT2 := Lib.hid h2; clear h2
  have HS := Lib.hid hs; clear hs
  have hc1 : c ≠ 1 := by omega
  go_enter Tryz.func79, Tryz.ntmps79
  go_wp2_with fail
  go_loopw [12] (fun i wr => ∃ k : Nat, k ≤ n - 1 ∧ i = .int .i64 k ∧ (∀ j, j < k → monoAt ps s j) ∧ Below (w.heap.size + 1) (w.alloc (.cells #[.slice (some ⟨b, o, none⟩) n c] 24)) wr) (fun i _ => n - 1 - (intOf i).toNat)
  case atStart => exact ⟨0, by omega, rfl, fun j hj => by omega, Below.refl _ _⟩
  case round =>
    obtain ⟨k, hk, rfl, hall, hB⟩ := hrel
    have HALL := Lib.hid hall; clear hall
    have hbox : wr.cell? ⟨w.heap.size, 0, none⟩ = some (.slice (some ⟨b, o, none⟩) n c) := by
      rw [hB.cell (by simp)]; simp
    have hsz : w.heap.size < wr.heap.size := by have := hB.size; simp at this; omega
    have l0 := Soft.LtH.mk (b := w.heap.size) (w := wr) hsz
    have lb := Soft.LtH.mk (b := b) (w := wr) (by omega)
    by_cases hlt : k < n - 1
    · have htr : Tb.At wr ⟨some ⟨b, o, none⟩, n, c, ps⟩ := (ht.alloc (.cells #[.slice (some ⟨b, o, none⟩) n c] 24)).belowAt hB (fun b' o' e => by cases e; omega)
      obtain ⟨_, _, _, _, h5⟩ := htr
      obtain ⟨b', o', e, _, hc⟩ := h5 (by dsimp only; omega)
      cases e
      dsimp only at *
      obtain ⟨c1, c2, c3⟩ := hc k (by omega)
      obtain ⟨d1, d2, d3⟩ := hc (k + 1) (by omega)
      rw [show o + (k + 1) * 3 = o + 3 + k * 3 by omega] at d1 d2 d3
      clear hc h5
      have i1 : k < n := by omega
      have HB := Lib.hid hB; clear hB
      have hok1 := HT2.out.ok.all k (by have := HL.out; omega)
      have hok2 := HT2.out.ok.all (k + 1) (by have := HL.out; omega)
      have HBD := Lib.hid (HBAD.out k hlt)
      have HNX := Lib.hid (show monoAt ps s k → ∀ j, j < k + 1 → monoAt ps s j from fun h j hj => by
        by_cases e : j = k
        · rw [e]; exact h
        · exact HALL.out j (by omega))
      unfold monoAt at HBD HNX
      obtain ⟨_, _, p1, p2, p3, _⟩ := hok1
      obtain ⟨_, _, p4, p5, p6, _⟩ := hok2
      generalize pt ps (k + 1) = q at *
      generalize pt ps k = r at *
      rcases HS.out with hs | hs
      all_goals
        subst hs
        clear HS
        go_wp2_with fail
        all_goals first
          | (go_ret; refine ⟨ret_bool (HBD.out (by omega)).symm, ?_⟩; refine (bel_alloc (bel_refl w) _).trans ((HB.out.mono (by omega)).trans ?_); refine Below.alloc (Below.alloc (Below.refl _ _) (by omega) _) (by simp; omega) _)
          | (go_roundw; (case rel => exact ⟨k + 1, by omega, by simp, HNX.out (by omega), HB.out.trans (Below.alloc (Below.alloc (Below.refl _ _) (by omega) _) (by simp; omega) _)⟩); (case measure => simp [intOf]; omega))
    · obtain rfl : k = n - 1 := by omega
      have HB := Lib.hid hB; clear hB
      have HVT := Lib.hid (HGOOD.out HALL.out)
      go_wp2_with fail
      go_ret
      exact ⟨ret_bool HVT.out.symm, (bel_alloc (bel_refl w) _).trans (HB.out.mono (by omega))⟩


/-- A valid hold. -/
structure HoldOk (h : Ho) : Prop where
  id : 1 ≤ h.id ∧ h.id ≤ 9
  along : isPart h.along (-1000000) 1000000
  tabs : tabs3 h.vol.ps h.mom.ps h.hei.ps
  mv : mono h.vol.ps (-1)
  mh : mono h.hei.ps (-1)
  tri : isPart h.tri 0 1000000000
  unt : isPart h.unt 0 1000000000
  v0 : isPart h.v0 0 1000000000
  h0 : isPart h.h0 0 1000000000
theorem holdOk_iff (h : Ho) : HoldOk h ↔ (1 ≤ h.id ∧ h.id ≤ 9) ∧ isPart h.along (-1000000) 1000000 ∧ tabs3 h.vol.ps h.mom.ps h.hei.ps ∧ mono h.vol.ps (-1) ∧ mono h.hei.ps (-1) ∧ isPart h.tri 0 1000000000 ∧ isPart h.unt 0 1000000000 ∧ isPart h.v0 0 1000000000 ∧ isPart h.h0 0 1000000000 :=
  ⟨fun h => ⟨h.id, h.along, h.tabs, h.mv, h.mh, h.tri, h.unt, h.v0, h.h0⟩, fun ⟨a, b, c, d, e, f, g, i, j⟩ => ⟨a, b, c, d, e, f, g, i, j⟩⟩
instance (h : Ho) : Decidable (HoldOk h) := decidable_of_iff _ (holdOk_iff h).symm
def holdErr (h : Ho) : Int := if HoldOk h then 0 else 20

def pick4 (a b c d : Rg) (k : Nat) : Rg := if k = 0 then a else if k = 1 then b else if k = 2 then c else d


set_option maxRecDepth 100000 in
set_option maxHeartbeats 4000000 in
theorem hold_CheckHold (h : Ho) (w : World) (hh : h.At w) :
    Calls Tryz.prog 32 #[.agg #[.int .i64 (h).id, .int .i64 ((h).along).lo, .int .i64 ((h).along).hi, .slice ((h).vol).p ((h).vol).n ((h).vol).c, .slice ((h).mom).p ((h).mom).n ((h).mom).c, .slice ((h).hei).p ((h).hei).n ((h).hei).c, .int .i64 ((h).tri).lo, .int .i64 ((h).tri).hi, .int .i64 ((h).unt).lo, .int .i64 ((h).unt).hi, .int .i64 ((h).v0).lo, .int .i64 ((h).v0).hi, .int .i64 ((h).h0).lo, .int .i64 ((h).h0).hi]] w fun e w' => e = .returned (.int .i64 (holdErr h)) ∧ Below w.heap.size w w' := by
  obtain ⟨hv, hm, hz⟩ := hh
  by_cases c1 : 1 ≤ h.id ∧ h.id ≤ 9
  · by_cases c2 : isPart h.along (-1000000) 1000000
    · by_cases c3 : tabs3 h.vol.ps h.mom.ps h.hei.ps
      · by_cases c4 : mono h.vol.ps (-1)
        · by_cases c5 : mono h.hei.ps (-1)
          · have hT1 : Tab2 h.vol.ps := c3.1
            have hT3 : Tab2 h.hei.ps := c3.2.2.1
            have C1 := Lib.hid c1; have C2 := Lib.hid c2; have C3 := Lib.hid c3; have C4 := Lib.hid c4; have C5 := Lib.hid c5; clear c1 c2 c3 c4 c5
            go_enter Tryz.func32, Tryz.ntmps32
            go_wp2_with (first | (go_at_call 70; (with_reducible refine (hold_isWithin _ _ _ _ true (decide_eq_true C1.out).symm).mono ?_); rintro e w_ ⟨rfl, hw_⟩; subst w_) | (go_at_call 67; (with_reducible refine (hold_isPart h.along _ _ _ true (decide_eq_true C2.out).symm).mono ?_); rintro e w_ ⟨rfl, hb_⟩; obtain ⟨y1, rfl⟩ := Soft.BW.mk hb_; clear hb_) | (go_at_call 78; (with_reducible refine (hold_areTables h.vol h.mom h.hei _ _ (by repeat (first | exact hv | refine Tb.At.alloc ?_ _ | refine Tb.At.bw ?_ _)) (by repeat (first | exact hm | refine Tb.At.alloc ?_ _ | refine Tb.At.bw ?_ _)) (by repeat (first | exact hz | refine Tb.At.alloc ?_ _ | refine Tb.At.bw ?_ _)) (by simp only [HasBlk, Soft.BW.heap_if, Soft.heap_alloc_if, Soft.heap_new, Soft.heap_new1, Soft.heap_new2, Soft.heap_new3, Soft.heap_new4, Soft.heap_new5]) true (decide_eq_true C3.out).symm).mono ?_); rintro e w_ ⟨rfl, hb_⟩; obtain ⟨y2, rfl⟩ := Soft.BW.mk hb_; clear hb_) | (go_at_call 79; (with_reducible refine (hold_isMonotone h.vol (-1) (.inr rfl) _ (by repeat (first | exact hv | refine Tb.At.alloc ?_ _ | refine Tb.At.bw ?_ _)) hT1 true (decide_eq_true C4.out).symm).mono ?_); rintro e w_ ⟨rfl, hb_⟩; obtain ⟨y3, rfl⟩ := Soft.BW.mk hb_; clear hb_) | (go_at_call 79; (with_reducible refine (hold_isMonotone h.hei (-1) (.inr rfl) _ (by repeat (first | exact hz | refine Tb.At.alloc ?_ _ | refine Tb.At.bw ?_ _)) hT3 true (decide_eq_true C5.out).symm).mono ?_); rintro e w_ ⟨rfl, hb_⟩; obtain ⟨y4, rfl⟩ := Soft.BW.mk hb_; clear hb_))
            have hblk := Soft.heap_new y4.w (.cells #[.int .i64 (h.tri).lo, .int .i64 (h.tri).hi, .int .i64 (h.unt).lo, .int .i64 (h.unt).hi, .int .i64 (h.v0).lo, .int .i64 (h.v0).hi, .int .i64 (h.h0).lo, .int .i64 (h.h0).hi] 27)
            have hbel : Below w.heap.size w (y4.w.alloc (.cells #[.int .i64 (h.tri).lo, .int .i64 (h.tri).hi, .int .i64 (h.unt).lo, .int .i64 (h.unt).hi, .int .i64 (h.v0).lo, .int .i64 (h.v0).hi, .int .i64 (h.h0).lo, .int .i64 (h.h0).hi] 27)) := by (repeat (first | with_reducible exact bel_refl _ | with_reducible refine bel_alloc ?_ _ | with_reducible refine bel_bw _ ?_ | with_reducible refine bel_drew ?_ | with_reducible refine bel_drewN _ ?_ | ((with_reducible refine bel_set ?_ ?_ _); rotate_left; focus (first | (simp; done) | omega | (simp; omega))) | refine bel_step ?_ (by with_reducible assumption)))
            generalize hW : y4.w.alloc (.cells #[.int .i64 (h.tri).lo, .int .i64 (h.tri).hi, .int .i64 (h.unt).lo, .int .i64 (h.unt).hi, .int .i64 (h.v0).lo, .int .i64 (h.v0).hi, .int .i64 (h.h0).lo, .int .i64 (h.h0).hi] 27) = W0 at *
            have hlt4 : y4.w.heap.size < W0.heap.size := (Array.getElem?_eq_some_iff.1 hblk).1
            clear hW
            generalize y4.w.heap.size = Bs at *
            have hcell := HasBlk.cell hblk
            have HCELL := Lib.hid (show ∀ k, k < 4 → W0.cell? ⟨Bs, k * 2, none⟩ = some (.int .i64 (pick4 h.tri h.unt h.v0 h.h0 k).lo) ∧ W0.cell? ⟨Bs, k * 2 + 1, none⟩ = some (.int .i64 (pick4 h.tri h.unt h.v0 h.h0 k).hi) from fun k hk => by
              match k, hk with
              | 0, _ => exact ⟨hcell 0, hcell 1⟩
              | 1, _ => exact ⟨hcell 2, hcell 3⟩
              | 2, _ => exact ⟨hcell 4, hcell 5⟩
              | 3, _ => exact ⟨hcell 6, hcell 7⟩)
            clear hcell hblk
            have HBAD := Lib.hid (show ∀ k, k < 4 → ¬isPart (pick4 h.tri h.unt h.v0 h.h0 k) 0 1000000000 → holdErr h = 20 from fun k hk hp => if_neg (fun hh => hp (by
              match k, hk with
              | 0, _ => exact hh.tri
              | 1, _ => exact hh.unt
              | 2, _ => exact hh.v0
              | 3, _ => exact hh.h0)))
            have HGOOD := Lib.hid (show (∀ k, k < 4 → isPart (pick4 h.tri h.unt h.v0 h.h0 k) 0 1000000000) → holdErr h = 0 from fun hp => if_pos ⟨C1.out, C2.out, C3.out, C4.out, C5.out, hp 0 (by omega), hp 1 (by omega), hp 2 (by omega), hp 3 (by omega)⟩)
            go_loopw [48] (fun i wr => ∃ k : Nat, k ≤ 4 ∧ i = .int .i64 k ∧ (∀ j, j < k → isPart (pick4 h.tri h.unt h.v0 h.h0 j) 0 1000000000) ∧ Below W0.heap.size W0 wr) (fun i _ => 4 - (intOf i).toNat)
            case atStart => exact ⟨0, by omega, rfl, fun j hj => by omega, Below.refl _ _⟩
            case round =>
              obtain ⟨k, hk, rfl, hall, hB⟩ := hrel
              have HALL := Lib.hid hall; clear hall
              by_cases hlt : k < 4
              · obtain ⟨e1, e2⟩ := HCELL.out k hlt
                rw [← hB.cell (p := ⟨Bs, _, none⟩) hlt4] at e1 e2
                have lBs := Soft.LtH.mk (b := Bs) (w := wr) (Nat.lt_of_lt_of_le hlt4 hB.size)
                have HB := Lib.hid hB; clear hB
                have HBD := Lib.hid (HBAD.out k hlt)
                have HNX := Lib.hid (show isPart (pick4 h.tri h.unt h.v0 h.h0 k) 0 1000000000 → ∀ j, j < k + 1 → isPart (pick4 h.tri h.unt h.v0 h.h0 j) 0 1000000000 from fun hp j hj => by
                  by_cases e : j = k
                  · rw [e]; exact hp
                  · exact HALL.out j (by omega))
                generalize pick4 h.tri h.unt h.v0 h.h0 k = r at *
                by_cases hp : isPart r 0 1000000000
                · have HP := Lib.hid hp; clear hp
                  go_wp2_with (go_at_call 67; (with_reducible refine (hold_isPart r _ _ _ true (decide_eq_true HP.out).symm).mono ?_); rintro e w_ ⟨rfl, hb_⟩; obtain ⟨z1, rfl⟩ := Soft.BW.mk hb_; clear hb_)
                  go_roundw
                  case rel =>
                    refine ⟨k + 1, by omega, by simp, HNX.out HP.out, HB.out.trans (Below.mono (B := wr.heap.size) ?_ HB.out.size)⟩
                    (repeat (first | with_reducible exact bel_refl _ | with_reducible refine bel_alloc ?_ _ | with_reducible refine bel_bw _ ?_ | with_reducible refine bel_drew ?_ | with_reducible refine bel_drewN _ ?_ | ((with_reducible refine bel_set ?_ ?_ _); rotate_left; focus (first | (simp; done) | omega | (simp; omega))) | refine bel_step ?_ (by with_reducible assumption)))
                  case measure => simp [intOf]; omega
                · have HP := Lib.hid hp; clear hp
                  go_wp2_with (go_at_call 67; (with_reducible refine (hold_isPart r _ _ _ false (decide_eq_false HP.out).symm).mono ?_); rintro e w_ ⟨rfl, hb_⟩; obtain ⟨z1, rfl⟩ := Soft.BW.mk hb_; clear hb_)
                  go_ret
                  refine ⟨ret_int (HBD.out HP.out).symm, ?_⟩
                  refine bel_step (bel_step hbel HB.out) ?_
                  (repeat (first | with_reducible exact bel_refl _ | with_reducible refine bel_alloc ?_ _ | with_reducible refine bel_bw _ ?_ | with_reducible refine bel_drew ?_ | with_reducible refine bel_drewN _ ?_ | ((with_reducible refine bel_set ?_ ?_ _); rotate_left; focus (first | (simp; done) | omega | (simp; omega))) | refine bel_step ?_ (by with_reducible assumption)))
              · obtain rfl : k = 4 := by omega
                have HB := Lib.hid hB; clear hB
                go_wp2_with fail
                go_ret
                exact ⟨ret_int (HGOOD.out HALL.out).symm, bel_step hbel HB.out⟩
          · have HE := Lib.hid (show holdErr h = 20 from if_neg (fun h => c5 h.mh))
            have hT1 : Tab2 h.vol.ps := c3.1
            have hT3 : Tab2 h.hei.ps := c3.2.2.1
            have C1 := Lib.hid c1; have C2 := Lib.hid c2; have C3 := Lib.hid c3; have C4 := Lib.hid c4; have C5 := Lib.hid c5; clear c1 c2 c3 c4 c5
            go_enter Tryz.func32, Tryz.ntmps32
            go_wp2_with (first | (go_at_call 70; (with_reducible refine (hold_isWithin _ _ _ _ true (decide_eq_true C1.out).symm).mono ?_); rintro e w_ ⟨rfl, hw_⟩; subst w_) | (go_at_call 67; (with_reducible refine (hold_isPart h.along _ _ _ true (decide_eq_true C2.out).symm).mono ?_); rintro e w_ ⟨rfl, hb_⟩; obtain ⟨y1, rfl⟩ := Soft.BW.mk hb_; clear hb_) | (go_at_call 78; (with_reducible refine (hold_areTables h.vol h.mom h.hei _ _ (by repeat (first | exact hv | refine Tb.At.alloc ?_ _ | refine Tb.At.bw ?_ _)) (by repeat (first | exact hm | refine Tb.At.alloc ?_ _ | refine Tb.At.bw ?_ _)) (by repeat (first | exact hz | refine Tb.At.alloc ?_ _ | refine Tb.At.bw ?_ _)) (by simp only [HasBlk, Soft.BW.heap_if, Soft.heap_alloc_if, Soft.heap_new, Soft.heap_new1, Soft.heap_new2, Soft.heap_new3, Soft.heap_new4, Soft.heap_new5]) true (decide_eq_true C3.out).symm).mono ?_); rintro e w_ ⟨rfl, hb_⟩; obtain ⟨y2, rfl⟩ := Soft.BW.mk hb_; clear hb_) | (go_at_call 79; (with_reducible refine (hold_isMonotone h.vol (-1) (.inr rfl) _ (by repeat (first | exact hv | refine Tb.At.alloc ?_ _ | refine Tb.At.bw ?_ _)) hT1 true (decide_eq_true C4.out).symm).mono ?_); rintro e w_ ⟨rfl, hb_⟩; obtain ⟨y3, rfl⟩ := Soft.BW.mk hb_; clear hb_) | (go_at_call 79; (with_reducible refine (hold_isMonotone h.hei (-1) (.inr rfl) _ (by repeat (first | exact hz | refine Tb.At.alloc ?_ _ | refine Tb.At.bw ?_ _)) hT3 false (decide_eq_false C5.out).symm).mono ?_); rintro e w_ ⟨rfl, hb_⟩; obtain ⟨y4, rfl⟩ := Soft.BW.mk hb_; clear hb_))
            go_ret
            refine ⟨ret_int HE.out.symm, ?_⟩
            (repeat (first | with_reducible exact bel_refl _ | with_reducible refine bel_alloc ?_ _ | with_reducible refine bel_bw _ ?_ | with_reducible refine bel_drew ?_ | with_reducible refine bel_drewN _ ?_ | ((with_reducible refine bel_set ?_ ?_ _); rotate_left; focus (first | (simp; done) | omega | (simp; omega))) | refine bel_step ?_ (by with_reducible assumption)))
        · have HE := Lib.hid (show holdErr h = 20 from if_neg (fun h => c4 h.mv))
          have hT1 : Tab2 h.vol.ps := c3.1
          have hT3 : Tab2 h.hei.ps := c3.2.2.1
          have C1 := Lib.hid c1; have C2 := Lib.hid c2; have C3 := Lib.hid c3; have C4 := Lib.hid c4; clear c1 c2 c3 c4
          go_enter Tryz.func32, Tryz.ntmps32
          go_wp2_with (first | (go_at_call 70; (with_reducible refine (hold_isWithin _ _ _ _ true (decide_eq_true C1.out).symm).mono ?_); rintro e w_ ⟨rfl, hw_⟩; subst w_) | (go_at_call 67; (with_reducible refine (hold_isPart h.along _ _ _ true (decide_eq_true C2.out).symm).mono ?_); rintro e w_ ⟨rfl, hb_⟩; obtain ⟨y1, rfl⟩ := Soft.BW.mk hb_; clear hb_) | (go_at_call 78; (with_reducible refine (hold_areTables h.vol h.mom h.hei _ _ (by repeat (first | exact hv | refine Tb.At.alloc ?_ _ | refine Tb.At.bw ?_ _)) (by repeat (first | exact hm | refine Tb.At.alloc ?_ _ | refine Tb.At.bw ?_ _)) (by repeat (first | exact hz | refine Tb.At.alloc ?_ _ | refine Tb.At.bw ?_ _)) (by simp only [HasBlk, Soft.BW.heap_if, Soft.heap_alloc_if, Soft.heap_new, Soft.heap_new1, Soft.heap_new2, Soft.heap_new3, Soft.heap_new4, Soft.heap_new5]) true (decide_eq_true C3.out).symm).mono ?_); rintro e w_ ⟨rfl, hb_⟩; obtain ⟨y2, rfl⟩ := Soft.BW.mk hb_; clear hb_) | (go_at_call 79; (with_reducible refine (hold_isMonotone h.vol (-1) (.inr rfl) _ (by repeat (first | exact hv | refine Tb.At.alloc ?_ _ | refine Tb.At.bw ?_ _)) hT1 false (decide_eq_false C4.out).symm).mono ?_); rintro e w_ ⟨rfl, hb_⟩; obtain ⟨y3, rfl⟩ := Soft.BW.mk hb_; clear hb_))
          go_ret
          refine ⟨ret_int HE.out.symm, ?_⟩
          (repeat (first | with_reducible exact bel_refl _ | with_reducible refine bel_alloc ?_ _ | with_reducible refine bel_bw _ ?_ | with_reducible refine bel_drew ?_ | with_reducible refine bel_drewN _ ?_ | ((with_reducible refine bel_set ?_ ?_ _); rotate_left; focus (first | (simp; done) | omega | (simp; omega))) | refine bel_step ?_ (by with_reducible assumption)))
      · have HE := Lib.hid (show holdErr h = 20 from if_neg (fun h => c3 h.tabs))
        have C1 := Lib.hid c1; have C2 := Lib.hid c2; have C3 := Lib.hid c3; clear c1 c2 c3
        go_enter Tryz.func32, Tryz.ntmps32
        go_wp2_with (first | (go_at_call 70; (with_reducible refine (hold_isWithin _ _ _ _ true (decide_eq_true C1.out).symm).mono ?_); rintro e w_ ⟨rfl, hw_⟩; subst w_) | (go_at_call 67; (with_reducible refine (hold_isPart h.along _ _ _ true (decide_eq_true C2.out).symm).mono ?_); rintro e w_ ⟨rfl, hb_⟩; obtain ⟨y1, rfl⟩ := Soft.BW.mk hb_; clear hb_) | (go_at_call 78; (with_reducible refine (hold_areTables h.vol h.mom h.hei _ _ (by repeat (first | exact hv | refine Tb.At.alloc ?_ _ | refine Tb.At.bw ?_ _)) (by repeat (first | exact hm | refine Tb.At.alloc ?_ _ | refine Tb.At.bw ?_ _)) (by repeat (first | exact hz | refine Tb.At.alloc ?_ _ | refine Tb.At.bw ?_ _)) (by simp only [HasBlk, Soft.BW.heap_if, Soft.heap_alloc_if, Soft.heap_new, Soft.heap_new1, Soft.heap_new2, Soft.heap_new3, Soft.heap_new4, Soft.heap_new5]) false (decide_eq_false C3.out).symm).mono ?_); rintro e w_ ⟨rfl, hb_⟩; obtain ⟨y2, rfl⟩ := Soft.BW.mk hb_; clear hb_))
        go_ret
        refine ⟨ret_int HE.out.symm, ?_⟩
        (repeat (first | with_reducible exact bel_refl _ | with_reducible refine bel_alloc ?_ _ | with_reducible refine bel_bw _ ?_ | with_reducible refine bel_drew ?_ | with_reducible refine bel_drewN _ ?_ | ((with_reducible refine bel_set ?_ ?_ _); rotate_left; focus (first | (simp; done) | omega | (simp; omega))) | refine bel_step ?_ (by with_reducible assumption)))
    · have HE := Lib.hid (show holdErr h = 20 from if_neg (fun h => c2 h.along))
      have C1 := Lib.hid c1; have C2 := Lib.hid c2; clear c1 c2
      go_enter Tryz.func32, Tryz.ntmps32
      go_wp2_with (first | (go_at_call 70; (with_reducible refine (hold_isWithin _ _ _ _ true (decide_eq_true C1.out).symm).mono ?_); rintro e w_ ⟨rfl, hw_⟩; subst w_) | (go_at_call 67; (with_reducible refine (hold_isPart h.along _ _ _ false (decide_eq_false C2.out).symm).mono ?_); rintro e w_ ⟨rfl, hb_⟩; obtain ⟨y1, rfl⟩ := Soft.BW.mk hb_; clear hb_))
      go_ret
      refine ⟨ret_int HE.out.symm, ?_⟩
      (repeat (first | with_reducible exact bel_refl _ | with_reducible refine bel_alloc ?_ _ | with_reducible refine bel_bw _ ?_ | with_reducible refine bel_drew ?_ | with_reducible refine bel_drewN _ ?_ | ((with_reducible refine bel_set ?_ ?_ _); rotate_left; focus (first | (simp; done) | omega | (simp; omega))) | refine bel_step ?_ (by with_reducible assumption)))
  · have HE := Lib.hid (show holdErr h = 20 from if_neg (fun h => c1 h.id))
    have C1 := Lib.hid c1; clear c1
    go_enter Tryz.func32, Tryz.ntmps32
    go_wp2_with (go_at_call 70; (with_reducible refine (hold_isWithin _ _ _ _ false (decide_eq_false C1.out).symm).mono ?_); rintro e w_ ⟨rfl, hw_⟩; subst w_)
    go_ret
    refine ⟨ret_int HE.out.symm, ?_⟩
    (repeat (first | with_reducible exact bel_refl _ | with_reducible refine bel_alloc ?_ _ | with_reducible refine bel_bw _ ?_ | with_reducible refine bel_drew ?_ | with_reducible refine bel_drewN _ ?_ | ((with_reducible refine bel_set ?_ ?_ _); rotate_left; focus (first | (simp; done) | omega | (simp; omega))) | refine bel_step ?_ (by with_reducible assumption)))

end Go.Proofs.YteagdcgmmdiakaaGreat
