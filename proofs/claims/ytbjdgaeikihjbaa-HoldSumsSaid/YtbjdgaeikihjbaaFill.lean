/-
  What a state means; fix.Over without its error; CheckFill.
  Conditions: each theorem's own premises.
-/
import Derived.Test.YtbjdgaeikihjbaaCheck
import Derived.Laws.EntriesVeiled
import Derived.Laws.Tables
namespace Go.Proofs.Ytbjdgaeikihjbaa
set_option linter.unusedSimpArgs false
set_option linter.unusedVariables false
open Go.RowKit
attribute [local go_sem] Soft.upon Soft.BW.cell_if Soft.BW.frozen_if Soft.cell_alloc_if Soft.frozen_alloc_if

theorem setRow_alloc (w : World) (old cs : Array Value) (t : TypeId) : (w.alloc (.cells old t)).setRow w.heap.size cs = w.alloc (.cells cs t) := by
  unfold World.setRow World.alloc
  simp only [World.mk.injEq, and_true]
  apply Array.ext_getElem?
  intro i
  rw [Array.getElem?_modify, Array.getElem?_push, Array.getElem?_push]
  by_cases h : i = w.heap.size
  · subst h; simp
  · simp [h, Ne.symm h]


set_option maxHeartbeats 2000000 in
theorem hold_states (w : World) :
    Calls Try.prog 113 #[] w fun e w' => e = .returned (.agg #[.bool true, .bool false, .bool false, .func (.func 141) #[] #[], .bool true, .bool true, .bool false, .func (.func 142) #[] #[], .bool true, .bool true, .bool false, .func (.func 143) #[] #[], .bool true, .bool false, .bool true, .func (.func 144) #[] #[], .bool true, .bool false, .bool true, .func (.func 141) #[] #[], .bool true, .bool false, .bool true, .func (.func 141) #[] #[]]) ∧ Below w.heap.size w w' := by
  go_enter Try.func113, Try.ntmps113
  go_wp2_with (refine wpList_store_row rfl _ _ _ rfl _ _ rfl rfl _ _ (Soft.heap_new _ _) (by kernel_rfl) rfl (by kernel_rfl) ?_; rw [setRow_alloc])
  exact bodyPost_ret (results_cell_row rfl _ _ _ _ _ _ (.array 6 121) rfl (Soft.heap_new _ _) (by kernel_rfl) rfl (by kernel_rfl)) rfl ⟨rfl, bel_alloc (bel_refl _) _⟩


/-- What a state means: known, filled, free; and its moment's function. -/
def stIs (n : Int) (k fl fr : Bool) (m : Value) : Prop :=
  (n = 0 ∧ k = true ∧ fl = false ∧ fr = false ∧ m = .func (.func 141) #[] #[]) ∨ (n = 1 ∧ k = true ∧ fl = true ∧ fr = false ∧ m = .func (.func 142) #[] #[]) ∨
  (n = 2 ∧ k = true ∧ fl = true ∧ fr = false ∧ m = .func (.func 143) #[] #[]) ∨ (n = 3 ∧ k = true ∧ fl = false ∧ fr = true ∧ m = .func (.func 144) #[] #[]) ∨
  (n = 4 ∧ k = true ∧ fl = false ∧ fr = true ∧ m = .func (.func 141) #[] #[]) ∨ (n = 5 ∧ k = true ∧ fl = false ∧ fr = true ∧ m = .func (.func 141) #[] #[]) ∨
  (¬(0 ≤ n ∧ n ≤ 5) ∧ k = false ∧ fl = false ∧ fr = false ∧ m = .nilFunc)


set_option maxHeartbeats 20000000 in
theorem hold_stateOf (n : Int) (k fl fr : Bool) (m : Value) (w : World) (h : stIs n k fl fr m) :
    Calls Try.prog 70 #[.int .i64 n] w fun e w' => e = .returned (.agg #[.bool k, .bool fl, .bool fr, m]) ∧ Below w.heap.size w w' := by
  rcases h with ⟨rfl, rfl, rfl, rfl, rfl⟩ | ⟨rfl, rfl, rfl, rfl, rfl⟩ | ⟨rfl, rfl, rfl, rfl, rfl⟩ | ⟨rfl, rfl, rfl, rfl, rfl⟩ | ⟨rfl, rfl, rfl, rfl, rfl⟩ | ⟨rfl, rfl, rfl, rfl, rfl⟩ | ⟨hn, rfl, rfl, rfl, rfl⟩
  · go_enter Try.func70, Try.ntmps70
    go_wp2_with (first | (go_at_call 113; (with_reducible refine (hold_states _).mono ?_); rintro e w_ ⟨rfl, hb_⟩; obtain ⟨y1, rfl⟩ := Soft.BW.mk hb_; clear hb_) | (go_at_call 88; (with_reducible refine (hold_isWithin _ _ _ _ true (by simp)).mono ?_); rintro e w_ ⟨rfl, hw_⟩; subst w_) | (refine wpList_store_row rfl 147 _ _ rfl _ _ rfl rfl _ _ (Soft.heap_new _ _) (by kernel_rfl) rfl (by kernel_rfl) ?_; rw [setRow_alloc]))
    refine bodyPost_ret (v := .agg #[.bool true, .bool false, .bool false, .func (.func 141) #[] #[]]) (by simp [results, Try.results70, go_sem]) rfl ?_
    refine ⟨rfl, ?_⟩
    (repeat (first | with_reducible exact bel_refl _ | with_reducible refine bel_alloc ?_ _ | with_reducible refine bel_bw _ ?_ | with_reducible refine bel_drew ?_ | with_reducible refine bel_drewN _ ?_ | ((with_reducible refine bel_set ?_ ?_ _); rotate_left; focus (first | (simp; done) | omega | (simp; omega))) | refine bel_step ?_ (by with_reducible assumption)))
  · go_enter Try.func70, Try.ntmps70
    go_wp2_with (first | (go_at_call 113; (with_reducible refine (hold_states _).mono ?_); rintro e w_ ⟨rfl, hb_⟩; obtain ⟨y1, rfl⟩ := Soft.BW.mk hb_; clear hb_) | (go_at_call 88; (with_reducible refine (hold_isWithin _ _ _ _ true (by simp)).mono ?_); rintro e w_ ⟨rfl, hw_⟩; subst w_) | (refine wpList_store_row rfl 147 _ _ rfl _ _ rfl rfl _ _ (Soft.heap_new _ _) (by kernel_rfl) rfl (by kernel_rfl) ?_; rw [setRow_alloc]))
    refine bodyPost_ret (v := .agg #[.bool true, .bool true, .bool false, .func (.func 142) #[] #[]]) (by simp [results, Try.results70, go_sem]) rfl ?_
    refine ⟨rfl, ?_⟩
    (repeat (first | with_reducible exact bel_refl _ | with_reducible refine bel_alloc ?_ _ | with_reducible refine bel_bw _ ?_ | with_reducible refine bel_drew ?_ | with_reducible refine bel_drewN _ ?_ | ((with_reducible refine bel_set ?_ ?_ _); rotate_left; focus (first | (simp; done) | omega | (simp; omega))) | refine bel_step ?_ (by with_reducible assumption)))
  · go_enter Try.func70, Try.ntmps70
    go_wp2_with (first | (go_at_call 113; (with_reducible refine (hold_states _).mono ?_); rintro e w_ ⟨rfl, hb_⟩; obtain ⟨y1, rfl⟩ := Soft.BW.mk hb_; clear hb_) | (go_at_call 88; (with_reducible refine (hold_isWithin _ _ _ _ true (by simp)).mono ?_); rintro e w_ ⟨rfl, hw_⟩; subst w_) | (refine wpList_store_row rfl 147 _ _ rfl _ _ rfl rfl _ _ (Soft.heap_new _ _) (by kernel_rfl) rfl (by kernel_rfl) ?_; rw [setRow_alloc]))
    refine bodyPost_ret (v := .agg #[.bool true, .bool true, .bool false, .func (.func 143) #[] #[]]) (by simp [results, Try.results70, go_sem]) rfl ?_
    refine ⟨rfl, ?_⟩
    (repeat (first | with_reducible exact bel_refl _ | with_reducible refine bel_alloc ?_ _ | with_reducible refine bel_bw _ ?_ | with_reducible refine bel_drew ?_ | with_reducible refine bel_drewN _ ?_ | ((with_reducible refine bel_set ?_ ?_ _); rotate_left; focus (first | (simp; done) | omega | (simp; omega))) | refine bel_step ?_ (by with_reducible assumption)))
  · go_enter Try.func70, Try.ntmps70
    go_wp2_with (first | (go_at_call 113; (with_reducible refine (hold_states _).mono ?_); rintro e w_ ⟨rfl, hb_⟩; obtain ⟨y1, rfl⟩ := Soft.BW.mk hb_; clear hb_) | (go_at_call 88; (with_reducible refine (hold_isWithin _ _ _ _ true (by simp)).mono ?_); rintro e w_ ⟨rfl, hw_⟩; subst w_) | (refine wpList_store_row rfl 147 _ _ rfl _ _ rfl rfl _ _ (Soft.heap_new _ _) (by kernel_rfl) rfl (by kernel_rfl) ?_; rw [setRow_alloc]))
    refine bodyPost_ret (v := .agg #[.bool true, .bool false, .bool true, .func (.func 144) #[] #[]]) (by simp [results, Try.results70, go_sem]) rfl ?_
    refine ⟨rfl, ?_⟩
    (repeat (first | with_reducible exact bel_refl _ | with_reducible refine bel_alloc ?_ _ | with_reducible refine bel_bw _ ?_ | with_reducible refine bel_drew ?_ | with_reducible refine bel_drewN _ ?_ | ((with_reducible refine bel_set ?_ ?_ _); rotate_left; focus (first | (simp; done) | omega | (simp; omega))) | refine bel_step ?_ (by with_reducible assumption)))
  · go_enter Try.func70, Try.ntmps70
    go_wp2_with (first | (go_at_call 113; (with_reducible refine (hold_states _).mono ?_); rintro e w_ ⟨rfl, hb_⟩; obtain ⟨y1, rfl⟩ := Soft.BW.mk hb_; clear hb_) | (go_at_call 88; (with_reducible refine (hold_isWithin _ _ _ _ true (by simp)).mono ?_); rintro e w_ ⟨rfl, hw_⟩; subst w_) | (refine wpList_store_row rfl 147 _ _ rfl _ _ rfl rfl _ _ (Soft.heap_new _ _) (by kernel_rfl) rfl (by kernel_rfl) ?_; rw [setRow_alloc]))
    refine bodyPost_ret (v := .agg #[.bool true, .bool false, .bool true, .func (.func 141) #[] #[]]) (by simp [results, Try.results70, go_sem]) rfl ?_
    refine ⟨rfl, ?_⟩
    (repeat (first | with_reducible exact bel_refl _ | with_reducible refine bel_alloc ?_ _ | with_reducible refine bel_bw _ ?_ | with_reducible refine bel_drew ?_ | with_reducible refine bel_drewN _ ?_ | ((with_reducible refine bel_set ?_ ?_ _); rotate_left; focus (first | (simp; done) | omega | (simp; omega))) | refine bel_step ?_ (by with_reducible assumption)))
  · go_enter Try.func70, Try.ntmps70
    go_wp2_with (first | (go_at_call 113; (with_reducible refine (hold_states _).mono ?_); rintro e w_ ⟨rfl, hb_⟩; obtain ⟨y1, rfl⟩ := Soft.BW.mk hb_; clear hb_) | (go_at_call 88; (with_reducible refine (hold_isWithin _ _ _ _ true (by simp)).mono ?_); rintro e w_ ⟨rfl, hw_⟩; subst w_) | (refine wpList_store_row rfl 147 _ _ rfl _ _ rfl rfl _ _ (Soft.heap_new _ _) (by kernel_rfl) rfl (by kernel_rfl) ?_; rw [setRow_alloc]))
    refine bodyPost_ret (v := .agg #[.bool true, .bool false, .bool true, .func (.func 141) #[] #[]]) (by simp [results, Try.results70, go_sem]) rfl ?_
    refine ⟨rfl, ?_⟩
    (repeat (first | with_reducible exact bel_refl _ | with_reducible refine bel_alloc ?_ _ | with_reducible refine bel_bw _ ?_ | with_reducible refine bel_drew ?_ | with_reducible refine bel_drewN _ ?_ | ((with_reducible refine bel_set ?_ ?_ _); rotate_left; focus (first | (simp; done) | omega | (simp; omega))) | refine bel_step ?_ (by with_reducible assumption)))
  · have HN := Lib.hid hn; clear hn
    go_enter Try.func70, Try.ntmps70
    go_wp2_with (first | (go_at_call 113; (with_reducible refine (hold_states _).mono ?_); rintro e w_ ⟨rfl, hb_⟩; obtain ⟨y1, rfl⟩ := Soft.BW.mk hb_; clear hb_) | (go_at_call 88; (with_reducible refine (hold_isWithin _ _ _ _ false (decide_eq_false HN.out).symm).mono ?_); rintro e w_ ⟨rfl, hw_⟩; subst w_) | (refine wpList_store_row rfl 147 _ _ rfl _ _ rfl rfl _ _ (Soft.heap_new _ _) (by kernel_rfl) rfl (by kernel_rfl) ?_; rw [setRow_alloc]))
    refine bodyPost_ret (v := .agg #[.bool false, .bool false, .bool false, .nilFunc]) (by simp [results, Try.results70, go_sem]) rfl ?_
    refine ⟨rfl, ?_⟩
    (repeat (first | with_reducible exact bel_refl _ | with_reducible refine bel_alloc ?_ _ | with_reducible refine bel_bw _ ?_ | with_reducible refine bel_drew ?_ | with_reducible refine bel_drewN _ ?_ | ((with_reducible refine bel_set ?_ ?_ _); rotate_left; focus (first | (simp; done) | omega | (simp; omega))) | refine bel_step ?_ (by with_reducible assumption)))

theorem hold_over (t : Tb) (r : Rg) (w : World) (ht : t.At w) :
    Calls Try.prog 107 #[.agg #[.slice (t).p (t).n (t).c], .agg #[.int .i64 (r).lo, .int .i64 (r).hi]] w fun e w' => e = .returned (.agg #[.int .i64 ((overE t.ps r).1).lo, .int .i64 ((overE t.ps r).1).hi]) ∧ Below w.heap.size w w' := by
  go_enter Try.func107, Try.ntmps107
  go_wp2_with (go_at_call 140; (with_reducible refine (fix_Over t r _ (by repeat (first | exact ht | refine Tb.At.alloc ?_ _ | refine Tb.At.bw ?_ _))).mono ?_); rintro e w_ ⟨rfl, hb_⟩; obtain ⟨y1, rfl⟩ := Soft.BW.mk hb_; clear hb_)
  refine bodyPost_ret (v := .agg #[.int .i64 ((overE t.ps r).1).lo, .int .i64 ((overE t.ps r).1).hi]) (by simp [results, Try.results107, go_sem]) rfl ?_
  refine ⟨rfl, ?_⟩
  (repeat (first | with_reducible exact bel_refl _ | with_reducible refine bel_alloc ?_ _ | with_reducible refine bel_bw _ ?_ | with_reducible refine bel_drew ?_ | with_reducible refine bel_drewN _ ?_ | ((with_reducible refine bel_set ?_ ?_ _); rotate_left; focus (first | (simp; done) | omega | (simp; omega))) | refine bel_step ?_ (by with_reducible assumption)))

end Go.Proofs.Ytbjdgaeikihjbaa
