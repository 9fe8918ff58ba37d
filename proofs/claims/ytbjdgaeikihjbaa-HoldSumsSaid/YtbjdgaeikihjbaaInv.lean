/-
  hold: inverse, for both ways of a table.
  Conditions: each theorem's own premises.
-/
import Derived.Test.YtbjdgaeikihjbaaSearch
import Derived.Laws.EntriesVeiled
import Derived.Laws.Tables
namespace Go.Proofs.Ytbjdgaeikihjbaa
set_option linter.unusedSimpArgs false
set_option linter.unusedVariables false
open Go.RowKit
set_option maxRecDepth 100000
set_option maxHeartbeats 1000000
attribute [local go_sem] Instr.field asAgg Soft.upon Soft.BW.cell_if Soft.BW.frozen_if Soft.cell_alloc_if Soft.frozen_alloc_if

/-- Two tests of places: the ahead ones are a beginning, the behind ones an end. -/
structure Ways (ahead behind : Int → Bool) (a b : Int) : Prop where
  up : ∀ x y, a ≤ x → x ≤ y → y ≤ b → behind x = true → behind y = true
  dn : ∀ x y, a ≤ x → x ≤ y → y ≤ b → ahead y = true → ahead x = true

theorem TabOk.ends {ps : List Pt} (h : TabOk ps) : 0 ≤ firstX ps ∧ firstX ps ≤ lastX ps ∧ lastX ps ≤ 1000000 := by
  have hpos := h.pos
  obtain ⟨a1, _⟩ := h.all 0 (by omega)
  obtain ⟨_, b1, _⟩ := h.all (ps.length - 1) (by omega)
  have key : ∀ k, k < ps.length → (pt ps 0).x ≤ (pt ps k).x := by
    intro k
    induction k with
    | zero => intro _; exact Int.le_refl _
    | succ k ih =>
      intro hk
      obtain ⟨_, _, _, _, _, h6⟩ := h.all (k + 1) hk
      have := ih (by omega)
      rcases h6 with h6 | h6
      · omega
      · rw [show k + 1 - 1 = k by omega] at h6; omega
  exact ⟨a1, key _ (by omega), b1⟩


theorem inverse_down (t : Tb) (v : Rg) (w : World) (ht : t.At w) (hok : TabOk t.ps) (hw : Ways (moreB t.ps v) (lessB t.ps v) (firstX t.ps) (lastX t.ps)) :
    Calls Try.prog 73 #[.agg #[.slice (t).p (t).n (t).c], .agg #[.int .i64 (v).lo, .int .i64 (v).hi], .int .i64 (-1)] w fun e w' =>
      e = .returned (.tuple #[.agg #[.int .i64 ((invS (moreB t.ps v) (lessB t.ps v) (firstX t.ps) (lastX t.ps)).1).lo, .int .i64 ((invS (moreB t.ps v) (lessB t.ps v) (firstX t.ps) (lastX t.ps)).1).hi], .bool (invS (moreB t.ps v) (lessB t.ps v) (firstX t.ps) (lastX t.ps)).2]) ∧ Below w.heap.size w w' := by
  have hn : 1 ≤ t.n := by rw [← ht.1]; exact hok.pos
  obtain ⟨e1, e2, e3⟩ := hok.ends
  by_cases cA : moreB t.ps v (lastX t.ps) = true
  · have HV := Lib.hid (show invS (moreB t.ps v) (lessB t.ps v) (firstX t.ps) (lastX t.ps) = (⟨0, 0⟩, false) from if_pos (.inl cA))
    have HA := Lib.hid cA; clear cA hok hw
    go_enter Try.func73, Try.ntmps73
    go_wp2_with (first | (go_at_call 101; (with_reducible refine (hold_domain t _ (by repeat (first | exact ht | refine Tb.At.alloc ?_ _ | refine Tb.At.bw ?_ _)) hn).mono ?_); rintro e w_ ⟨rfl, hb_⟩; obtain ⟨y1, rfl⟩ := Soft.BW.mk hb_; clear hb_) | (go_at_call 117; (with_reducible refine (inverse_more t v _ _ _ _ (by repeat (first | exact ht | refine Tb.At.alloc ?_ _ | refine Tb.At.bw ?_ _)) (by simp only [HasBlk, Soft.BW.heap_if, Soft.heap_alloc_if, Soft.heap_new, Soft.heap_new1, Soft.heap_new2, Soft.heap_new3, Soft.heap_new4, Soft.heap_new5]) (by simp only [HasBlk, Soft.BW.heap_if, Soft.heap_alloc_if, Soft.heap_new, Soft.heap_new1, Soft.heap_new2, Soft.heap_new3, Soft.heap_new4, Soft.heap_new5]) true HA.out.symm).mono ?_); rintro e w_ ⟨rfl, hb_⟩; obtain ⟨y2, rfl⟩ := Soft.BW.mk hb_; clear hb_))
    rw [HV.out]
    refine bodyPost_ret (v := .tuple #[.agg #[.int .i64 ((⟨0, 0⟩ : Rg)).lo, .int .i64 ((⟨0, 0⟩ : Rg)).hi], .bool false]) (by simp [results, Try.results73, go_sem]) rfl ?_
    refine ⟨rfl, ?_⟩
    (repeat (first | with_reducible exact bel_refl _ | with_reducible refine bel_alloc ?_ _ | with_reducible refine bel_bw _ ?_ | with_reducible refine bel_drew ?_ | with_reducible refine bel_drewN _ ?_ | ((with_reducible refine bel_set ?_ ?_ _); rotate_left; focus (first | (simp; done) | omega | (simp; omega))) | refine bel_step ?_ (by with_reducible assumption)))
  · have cA' : moreB t.ps v (lastX t.ps) = false := by simpa using cA
    by_cases cB : lessB t.ps v (firstX t.ps) = true
    · have HV := Lib.hid (show invS (moreB t.ps v) (lessB t.ps v) (firstX t.ps) (lastX t.ps) = (⟨0, 0⟩, false) from if_pos (.inr cB))
      have HA := Lib.hid cA'; have HB := Lib.hid cB; clear cA cA' cB hok hw
      go_enter Try.func73, Try.ntmps73
      go_wp2_with (first | (go_at_call 101; (with_reducible refine (hold_domain t _ (by repeat (first | exact ht | refine Tb.At.alloc ?_ _ | refine Tb.At.bw ?_ _)) hn).mono ?_); rintro e w_ ⟨rfl, hb_⟩; obtain ⟨y1, rfl⟩ := Soft.BW.mk hb_; clear hb_) | (go_at_call 117; (with_reducible refine (inverse_more t v _ _ _ _ (by repeat (first | exact ht | refine Tb.At.alloc ?_ _ | refine Tb.At.bw ?_ _)) (by simp only [HasBlk, Soft.BW.heap_if, Soft.heap_alloc_if, Soft.heap_new, Soft.heap_new1, Soft.heap_new2, Soft.heap_new3, Soft.heap_new4, Soft.heap_new5]) (by simp only [HasBlk, Soft.BW.heap_if, Soft.heap_alloc_if, Soft.heap_new, Soft.heap_new1, Soft.heap_new2, Soft.heap_new3, Soft.heap_new4, Soft.heap_new5]) false HA.out.symm).mono ?_); rintro e w_ ⟨rfl, hb_⟩; obtain ⟨y2, rfl⟩ := Soft.BW.mk hb_; clear hb_) | (go_at_call 118; (with_reducible refine (inverse_less t v _ _ _ _ (by repeat (first | exact ht | refine Tb.At.alloc ?_ _ | refine Tb.At.bw ?_ _)) (by simp only [HasBlk, Soft.BW.heap_if, Soft.heap_alloc_if, Soft.heap_new, Soft.heap_new1, Soft.heap_new2, Soft.heap_new3, Soft.heap_new4, Soft.heap_new5]) (by simp only [HasBlk, Soft.BW.heap_if, Soft.heap_alloc_if, Soft.heap_new, Soft.heap_new1, Soft.heap_new2, Soft.heap_new3, Soft.heap_new4, Soft.heap_new5]) true HB.out.symm).mono ?_); rintro e w_ ⟨rfl, hb_⟩; obtain ⟨y3, rfl⟩ := Soft.BW.mk hb_; clear hb_))
      rw [HV.out]
      refine bodyPost_ret (v := .tuple #[.agg #[.int .i64 ((⟨0, 0⟩ : Rg)).lo, .int .i64 ((⟨0, 0⟩ : Rg)).hi], .bool false]) (by simp [results, Try.results73, go_sem]) rfl ?_
      refine ⟨rfl, ?_⟩
      (repeat (first | with_reducible exact bel_refl _ | with_reducible refine bel_alloc ?_ _ | with_reducible refine bel_bw _ ?_ | with_reducible refine bel_drew ?_ | with_reducible refine bel_drewN _ ?_ | ((with_reducible refine bel_set ?_ ?_ _); rotate_left; focus (first | (simp; done) | omega | (simp; omega))) | refine bel_step ?_ (by with_reducible assumption)))
    · have cB' : lessB t.ps v (firstX t.ps) = false := by simpa using cB
      have HV := Lib.hid (show invS (moreB t.ps v) (lessB t.ps v) (firstX t.ps) (lastX t.ps) = (⟨max (searchS (fun x => !moreB t.ps v x) (firstX t.ps) (lastX t.ps) - 1) (firstX t.ps), min (searchS (lessB t.ps v) (firstX t.ps) (lastX t.ps)) (lastX t.ps)⟩, true) from if_neg (by simp [cA', cB']))
      obtain ⟨s1, s2, s3, s4⟩ := searchS_spec (q := fun x => !moreB t.ps v x) (a := firstX t.ps) (b := lastX t.ps) (by omega) (fun x y h1 h2 h3 hx => by
        have := hw.dn x y h1 h2 h3
        cases hy : moreB t.ps v y
        · rfl
        · simp only [this hy] at hx; cases hx)
      obtain ⟨r1, r2, r3, r4⟩ := searchS_spec (q := lessB t.ps v) (a := firstX t.ps) (b := lastX t.ps) (by omega) hw.up
      have HA := Lib.hid cA'; have HB := Lib.hid cB'; have S3 := Lib.hid s3; have S4 := Lib.hid s4; have R3 := Lib.hid r3; have R4 := Lib.hid r4
      clear cA cA' cB cB' hok hw s3 s4 r3 r4
      generalize hlo : searchS (fun x => !moreB t.ps v x) (firstX t.ps) (lastX t.ps) = lo at *
      generalize hhi : searchS (lessB t.ps v) (firstX t.ps) (lastX t.ps) = hi at *
      clear hlo hhi
      go_enter Try.func73, Try.ntmps73
      go_wp2_with (first | (go_at_call 101; (with_reducible refine (hold_domain t _ (by repeat (first | exact ht | refine Tb.At.alloc ?_ _ | refine Tb.At.bw ?_ _)) hn).mono ?_); rintro e w_ ⟨rfl, hb_⟩; obtain ⟨y1, rfl⟩ := Soft.BW.mk hb_; clear hb_) | (go_at_call 117; (with_reducible refine (inverse_more t v _ _ _ _ (by repeat (first | exact ht | refine Tb.At.alloc ?_ _ | refine Tb.At.bw ?_ _)) (by simp only [HasBlk, Soft.BW.heap_if, Soft.heap_alloc_if, Soft.heap_new, Soft.heap_new1, Soft.heap_new2, Soft.heap_new3, Soft.heap_new4, Soft.heap_new5]) (by simp only [HasBlk, Soft.BW.heap_if, Soft.heap_alloc_if, Soft.heap_new, Soft.heap_new1, Soft.heap_new2, Soft.heap_new3, Soft.heap_new4, Soft.heap_new5]) false HA.out.symm).mono ?_); rintro e w_ ⟨rfl, hb_⟩; obtain ⟨y2, rfl⟩ := Soft.BW.mk hb_; clear hb_) | (go_at_call 118; (with_reducible refine (inverse_less t v _ _ _ _ (by repeat (first | exact ht | refine Tb.At.alloc ?_ _ | refine Tb.At.bw ?_ _)) (by simp only [HasBlk, Soft.BW.heap_if, Soft.heap_alloc_if, Soft.heap_new, Soft.heap_new1, Soft.heap_new2, Soft.heap_new3, Soft.heap_new4, Soft.heap_new5]) (by simp only [HasBlk, Soft.BW.heap_if, Soft.heap_alloc_if, Soft.heap_new, Soft.heap_new1, Soft.heap_new2, Soft.heap_new3, Soft.heap_new4, Soft.heap_new5]) false HB.out.symm).mono ?_); rintro e w_ ⟨rfl, hb_⟩; obtain ⟨y3, rfl⟩ := Soft.BW.mk hb_; clear hb_) | (go_at_call 119; (with_reducible refine (search_not ⟨y1.w.heap.size, 0, none⟩ (fun x => !moreB t.ps v x) (firstX t.ps) (lastX t.ps) lo _ (by omega) (by omega) (by omega) s1 s2 S3.out S4.out (fun x w' _ _ hb => inverse_not_more t v w.heap.size (w.heap.size + 1) y1.w.heap.size x w' (Tb.At.same (by repeat (first | exact ht | refine Tb.At.alloc ?_ _ | refine Tb.At.bw ?_ _)) hb) (HasBlk.below (by simp only [HasBlk, Soft.BW.heap_if, Soft.heap_alloc_if, Soft.heap_new, Soft.heap_new1, Soft.heap_new2, Soft.heap_new3, Soft.heap_new4, Soft.heap_new5]) hb) (HasBlk.below (by simp only [HasBlk, Soft.BW.heap_if, Soft.heap_alloc_if, Soft.heap_new, Soft.heap_new1, Soft.heap_new2, Soft.heap_new3, Soft.heap_new4, Soft.heap_new5]) hb) (HasBlk.below (by simp only [HasBlk, Soft.BW.heap_if, Soft.heap_alloc_if, Soft.heap_new, Soft.heap_new1, Soft.heap_new2, Soft.heap_new3, Soft.heap_new4, Soft.heap_new5]) hb) _ rfl)).mono ?_); rintro e w_ ⟨rfl, hb_⟩; obtain ⟨y4, rfl⟩ := Soft.BW.mk hb_; clear hb_) | (go_at_call 119; (with_reducible refine (search_less ⟨w.heap.size, 0, none⟩ ⟨w.heap.size + 1, 0, none⟩ (lessB t.ps v) (firstX t.ps) (lastX t.ps) hi _ (by omega) (by omega) (by omega) r1 r2 R3.out R4.out (fun x w' _ _ hb => inverse_less t v w.heap.size (w.heap.size + 1) x w' (Tb.At.same (by repeat (first | exact ht | refine Tb.At.alloc ?_ _ | refine Tb.At.bw ?_ _)) hb) (HasBlk.below (by simp only [HasBlk, Soft.BW.heap_if, Soft.heap_alloc_if, Soft.heap_new, Soft.heap_new1, Soft.heap_new2, Soft.heap_new3, Soft.heap_new4, Soft.heap_new5]) hb) (HasBlk.below (by simp only [HasBlk, Soft.BW.heap_if, Soft.heap_alloc_if, Soft.heap_new, Soft.heap_new1, Soft.heap_new2, Soft.heap_new3, Soft.heap_new4, Soft.heap_new5]) hb) _ rfl)).mono ?_); rintro e w_ ⟨rfl, hb_⟩; obtain ⟨y5, rfl⟩ := Soft.BW.mk hb_; clear hb_))
      all_goals
        rw [HV.out]
        refine bodyPost_ret (v := .tuple #[.agg #[.int .i64 ((⟨max (lo - 1) (firstX t.ps), min hi (lastX t.ps)⟩ : Rg)).lo, .int .i64 ((⟨max (lo - 1) (firstX t.ps), min hi (lastX t.ps)⟩ : Rg)).hi], .bool true]) (by simp [results, Try.results73, go_sem]; omega) rfl ?_
        refine ⟨rfl, ?_⟩
        (repeat (first | with_reducible exact bel_refl _ | with_reducible refine bel_alloc ?_ _ | with_reducible refine bel_bw _ ?_ | with_reducible refine bel_drew ?_ | with_reducible refine bel_drewN _ ?_ | ((with_reducible refine bel_set ?_ ?_ _); rotate_left; focus (first | (simp; done) | omega | (simp; omega))) | refine bel_step ?_ (by with_reducible assumption)))
theorem inverse_up (t : Tb) (v : Rg) (w : World) (ht : t.At w) (hok : TabOk t.ps) (hw : Ways (lessB t.ps v) (moreB t.ps v) (firstX t.ps) (lastX t.ps)) :
    Calls Try.prog 73 #[.agg #[.slice (t).p (t).n (t).c], .agg #[.int .i64 (v).lo, .int .i64 (v).hi], .int .i64 1] w fun e w' =>
      e = .returned (.tuple #[.agg #[.int .i64 ((invS (lessB t.ps v) (moreB t.ps v) (firstX t.ps) (lastX t.ps)).1).lo, .int .i64 ((invS (lessB t.ps v) (moreB t.ps v) (firstX t.ps) (lastX t.ps)).1).hi], .bool (invS (lessB t.ps v) (moreB t.ps v) (firstX t.ps) (lastX t.ps)).2]) ∧ Below w.heap.size w w' := by
  have hn : 1 ≤ t.n := by rw [← ht.1]; exact hok.pos
  obtain ⟨e1, e2, e3⟩ := hok.ends
  by_cases cA : lessB t.ps v (lastX t.ps) = true
  · have HV := Lib.hid (show invS (lessB t.ps v) (moreB t.ps v) (firstX t.ps) (lastX t.ps) = (⟨0, 0⟩, false) from if_pos (.inl cA))
    have HA := Lib.hid cA; clear cA hok hw
    go_enter Try.func73, Try.ntmps73
    go_wp2_with (first | (go_at_call 101; (with_reducible refine (hold_domain t _ (by repeat (first | exact ht | refine Tb.At.alloc ?_ _ | refine Tb.At.bw ?_ _)) hn).mono ?_); rintro e w_ ⟨rfl, hb_⟩; obtain ⟨y1, rfl⟩ := Soft.BW.mk hb_; clear hb_) | (go_at_call 118; (with_reducible refine (inverse_less t v _ _ _ _ (by repeat (first | exact ht | refine Tb.At.alloc ?_ _ | refine Tb.At.bw ?_ _)) (by simp only [HasBlk, Soft.BW.heap_if, Soft.heap_alloc_if, Soft.heap_new, Soft.heap_new1, Soft.heap_new2, Soft.heap_new3, Soft.heap_new4, Soft.heap_new5]) (by simp only [HasBlk, Soft.BW.heap_if, Soft.heap_alloc_if, Soft.heap_new, Soft.heap_new1, Soft.heap_new2, Soft.heap_new3, Soft.heap_new4, Soft.heap_new5]) true HA.out.symm).mono ?_); rintro e w_ ⟨rfl, hb_⟩; obtain ⟨y2, rfl⟩ := Soft.BW.mk hb_; clear hb_))
    rw [HV.out]
    refine bodyPost_ret (v := .tuple #[.agg #[.int .i64 ((⟨0, 0⟩ : Rg)).lo, .int .i64 ((⟨0, 0⟩ : Rg)).hi], .bool false]) (by simp [results, Try.results73, go_sem]) rfl ?_
    refine ⟨rfl, ?_⟩
    (repeat (first | with_reducible exact bel_refl _ | with_reducible refine bel_alloc ?_ _ | with_reducible refine bel_bw _ ?_ | with_reducible refine bel_drew ?_ | with_reducible refine bel_drewN _ ?_ | ((with_reducible refine bel_set ?_ ?_ _); rotate_left; focus (first | (simp; done) | omega | (simp; omega))) | refine bel_step ?_ (by with_reducible assumption)))
  · have cA' : lessB t.ps v (lastX t.ps) = false := by simpa using cA
    by_cases cB : moreB t.ps v (firstX t.ps) = true
    · have HV := Lib.hid (show invS (lessB t.ps v) (moreB t.ps v) (firstX t.ps) (lastX t.ps) = (⟨0, 0⟩, false) from if_pos (.inr cB))
      have HA := Lib.hid cA'; have HB := Lib.hid cB; clear cA cA' cB hok hw
      go_enter Try.func73, Try.ntmps73
      go_wp2_with (first | (go_at_call 101; (with_reducible refine (hold_domain t _ (by repeat (first | exact ht | refine Tb.At.alloc ?_ _ | refine Tb.At.bw ?_ _)) hn).mono ?_); rintro e w_ ⟨rfl, hb_⟩; obtain ⟨y1, rfl⟩ := Soft.BW.mk hb_; clear hb_) | (go_at_call 118; (with_reducible refine (inverse_less t v _ _ _ _ (by repeat (first | exact ht | refine Tb.At.alloc ?_ _ | refine Tb.At.bw ?_ _)) (by simp only [HasBlk, Soft.BW.heap_if, Soft.heap_alloc_if, Soft.heap_new, Soft.heap_new1, Soft.heap_new2, Soft.heap_new3, Soft.heap_new4, Soft.heap_new5]) (by simp only [HasBlk, Soft.BW.heap_if, Soft.heap_alloc_if, Soft.heap_new, Soft.heap_new1, Soft.heap_new2, Soft.heap_new3, Soft.heap_new4, Soft.heap_new5]) false HA.out.symm).mono ?_); rintro e w_ ⟨rfl, hb_⟩; obtain ⟨y2, rfl⟩ := Soft.BW.mk hb_; clear hb_) | (go_at_call 117; (with_reducible refine (inverse_more t v _ _ _ _ (by repeat (first | exact ht | refine Tb.At.alloc ?_ _ | refine Tb.At.bw ?_ _)) (by simp only [HasBlk, Soft.BW.heap_if, Soft.heap_alloc_if, Soft.heap_new, Soft.heap_new1, Soft.heap_new2, Soft.heap_new3, Soft.heap_new4, Soft.heap_new5]) (by simp only [HasBlk, Soft.BW.heap_if, Soft.heap_alloc_if, Soft.heap_new, Soft.heap_new1, Soft.heap_new2, Soft.heap_new3, Soft.heap_new4, Soft.heap_new5]) true HB.out.symm).mono ?_); rintro e w_ ⟨rfl, hb_⟩; obtain ⟨y3, rfl⟩ := Soft.BW.mk hb_; clear hb_))
      rw [HV.out]
      refine bodyPost_ret (v := .tuple #[.agg #[.int .i64 ((⟨0, 0⟩ : Rg)).lo, .int .i64 ((⟨0, 0⟩ : Rg)).hi], .bool false]) (by simp [results, Try.results73, go_sem]) rfl ?_
      refine ⟨rfl, ?_⟩
      (repeat (first | with_reducible exact bel_refl _ | with_reducible refine bel_alloc ?_ _ | with_reducible refine bel_bw _ ?_ | with_reducible refine bel_drew ?_ | with_reducible refine bel_drewN _ ?_ | ((with_reducible refine bel_set ?_ ?_ _); rotate_left; focus (first | (simp; done) | omega | (simp; omega))) | refine bel_step ?_ (by with_reducible assumption)))
    · have cB' : moreB t.ps v (firstX t.ps) = false := by simpa using cB
      have HV := Lib.hid (show invS (lessB t.ps v) (moreB t.ps v) (firstX t.ps) (lastX t.ps) = (⟨max (searchS (fun x => !lessB t.ps v x) (firstX t.ps) (lastX t.ps) - 1) (firstX t.ps), min (searchS (moreB t.ps v) (firstX t.ps) (lastX t.ps)) (lastX t.ps)⟩, true) from if_neg (by simp [cA', cB']))
      obtain ⟨s1, s2, s3, s4⟩ := searchS_spec (q := fun x => !lessB t.ps v x) (a := firstX t.ps) (b := lastX t.ps) (by omega) (fun x y h1 h2 h3 hx => by
        have := hw.dn x y h1 h2 h3
        cases hy : lessB t.ps v y
        · rfl
        · simp only [this hy] at hx; cases hx)
      obtain ⟨r1, r2, r3, r4⟩ := searchS_spec (q := moreB t.ps v) (a := firstX t.ps) (b := lastX t.ps) (by omega) hw.up
      have HA := Lib.hid cA'; have HB := Lib.hid cB'; have S3 := Lib.hid s3; have S4 := Lib.hid s4; have R3 := Lib.hid r3; have R4 := Lib.hid r4
      clear cA cA' cB cB' hok hw s3 s4 r3 r4
      generalize hlo : searchS (fun x => !lessB t.ps v x) (firstX t.ps) (lastX t.ps) = lo at *
      generalize hhi : searchS (moreB t.ps v) (firstX t.ps) (lastX t.ps) = hi at *
      clear hlo hhi
      go_enter Try.func73, Try.ntmps73
      go_wp2_with (first | (go_at_call 101; (with_reducible refine (hold_domain t _ (by repeat (first | exact ht | refine Tb.At.alloc ?_ _ | refine Tb.At.bw ?_ _)) hn).mono ?_); rintro e w_ ⟨rfl, hb_⟩; obtain ⟨y1, rfl⟩ := Soft.BW.mk hb_; clear hb_) | (go_at_call 118; (with_reducible refine (inverse_less t v _ _ _ _ (by repeat (first | exact ht | refine Tb.At.alloc ?_ _ | refine Tb.At.bw ?_ _)) (by simp only [HasBlk, Soft.BW.heap_if, Soft.heap_alloc_if, Soft.heap_new, Soft.heap_new1, Soft.heap_new2, Soft.heap_new3, Soft.heap_new4, Soft.heap_new5]) (by simp only [HasBlk, Soft.BW.heap_if, Soft.heap_alloc_if, Soft.heap_new, Soft.heap_new1, Soft.heap_new2, Soft.heap_new3, Soft.heap_new4, Soft.heap_new5]) false HA.out.symm).mono ?_); rintro e w_ ⟨rfl, hb_⟩; obtain ⟨y2, rfl⟩ := Soft.BW.mk hb_; clear hb_) | (go_at_call 117; (with_reducible refine (inverse_more t v _ _ _ _ (by repeat (first | exact ht | refine Tb.At.alloc ?_ _ | refine Tb.At.bw ?_ _)) (by simp only [HasBlk, Soft.BW.heap_if, Soft.heap_alloc_if, Soft.heap_new, Soft.heap_new1, Soft.heap_new2, Soft.heap_new3, Soft.heap_new4, Soft.heap_new5]) (by simp only [HasBlk, Soft.BW.heap_if, Soft.heap_alloc_if, Soft.heap_new, Soft.heap_new1, Soft.heap_new2, Soft.heap_new3, Soft.heap_new4, Soft.heap_new5]) false HB.out.symm).mono ?_); rintro e w_ ⟨rfl, hb_⟩; obtain ⟨y3, rfl⟩ := Soft.BW.mk hb_; clear hb_) | (go_at_call 119; (with_reducible refine (search_not ⟨y1.w.heap.size, 0, none⟩ (fun x => !lessB t.ps v x) (firstX t.ps) (lastX t.ps) lo _ (by omega) (by omega) (by omega) s1 s2 S3.out S4.out (fun x w' _ _ hb => inverse_not_less t v w.heap.size (w.heap.size + 1) y1.w.heap.size x w' (Tb.At.same (by repeat (first | exact ht | refine Tb.At.alloc ?_ _ | refine Tb.At.bw ?_ _)) hb) (HasBlk.below (by simp only [HasBlk, Soft.BW.heap_if, Soft.heap_alloc_if, Soft.heap_new, Soft.heap_new1, Soft.heap_new2, Soft.heap_new3, Soft.heap_new4, Soft.heap_new5]) hb) (HasBlk.below (by simp only [HasBlk, Soft.BW.heap_if, Soft.heap_alloc_if, Soft.heap_new, Soft.heap_new1, Soft.heap_new2, Soft.heap_new3, Soft.heap_new4, Soft.heap_new5]) hb) (HasBlk.below (by simp only [HasBlk, Soft.BW.heap_if, Soft.heap_alloc_if, Soft.heap_new, Soft.heap_new1, Soft.heap_new2, Soft.heap_new3, Soft.heap_new4, Soft.heap_new5]) hb) _ rfl)).mono ?_); rintro e w_ ⟨rfl, hb_⟩; obtain ⟨y4, rfl⟩ := Soft.BW.mk hb_; clear hb_) | (go_at_call 119; (with_reducible refine (search_more ⟨w.heap.size, 0, none⟩ ⟨w.heap.size + 1, 0, none⟩ (moreB t.ps v) (firstX t.ps) (lastX t.ps) hi _ (by omega) (by omega) (by omega) r1 r2 R3.out R4.out (fun x w' _ _ hb => inverse_more t v w.heap.size (w.heap.size + 1) x w' (Tb.At.same (by repeat (first | exact ht | refine Tb.At.alloc ?_ _ | refine Tb.At.bw ?_ _)) hb) (HasBlk.below (by simp only [HasBlk, Soft.BW.heap_if, Soft.heap_alloc_if, Soft.heap_new, Soft.heap_new1, Soft.heap_new2, Soft.heap_new3, Soft.heap_new4, Soft.heap_new5]) hb) (HasBlk.below (by simp only [HasBlk, Soft.BW.heap_if, Soft.heap_alloc_if, Soft.heap_new, Soft.heap_new1, Soft.heap_new2, Soft.heap_new3, Soft.heap_new4, Soft.heap_new5]) hb) _ rfl)).mono ?_); rintro e w_ ⟨rfl, hb_⟩; obtain ⟨y5, rfl⟩ := Soft.BW.mk hb_; clear hb_))
      all_goals
        rw [HV.out]
        refine bodyPost_ret (v := .tuple #[.agg #[.int .i64 ((⟨max (lo - 1) (firstX t.ps), min hi (lastX t.ps)⟩ : Rg)).lo, .int .i64 ((⟨max (lo - 1) (firstX t.ps), min hi (lastX t.ps)⟩ : Rg)).hi], .bool true]) (by simp [results, Try.results73, go_sem]; omega) rfl ?_
        refine ⟨rfl, ?_⟩
        (repeat (first | with_reducible exact bel_refl _ | with_reducible refine bel_alloc ?_ _ | with_reducible refine bel_bw _ ?_ | with_reducible refine bel_drew ?_ | with_reducible refine bel_drewN _ ?_ | ((with_reducible refine bel_set ?_ ?_ _); rotate_left; focus (first | (simp; done) | omega | (simp; omega))) | refine bel_step ?_ (by with_reducible assumption)))

end Go.Proofs.Ytbjdgaeikihjbaa
