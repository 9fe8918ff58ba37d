/-
  What a state means; fix.Over without its error; CheckFill.
  CheckFill.
  Plain facts of the values of a table: their bounds, and that the lower one is at most the upper one.
  Plain facts of monotone tables: their values go the same way, and the tests of inverse with them.
  Conditions: each theorem's own premises.
-/
import Derived.Test.YteagdcgmmdiakaaGreatP04
import Derived.Laws.EntriesVeiled
import Derived.Laws.Tables
namespace Go.Proofs.YteagdcgmmdiakaaGreat
set_option linter.unusedSimpArgs false
set_option linter.unusedVariables false
open Go.RowKit
attribute [local go_sem] Soft.upon Soft.BW.cell_if Soft.BW.frozen_if Soft.cell_alloc_if Soft.frozen_alloc_if

theorem setRow_alloc (w : World) (old cs : Array Value) (t : TypeId) : (w.alloc (.cells old t)).setRow w.heap.size cs = w.alloc (.cells cs t) := by
  unfold World.setRow World.alloc
  simp only [World.mk.injEq, and_true]
  apply Array.ext_getElem?
  intro i
  rw [Array.getElem?_modify, Array.getElem?_push, Array.getElem?_push]
  by_cases h : i = w.heap.size
  · subst h; simp
  · simp [h, Ne.symm h]


set_option maxHeartbeats 2000000 in
theorem hold_states (w : World) :
    Calls Tryz.prog 69 #[] w fun e w' => e = .returned (.agg #[.bool true, .bool false, .bool false, .func (.func 134) #[] #[], .bool true, .bool true, .bool false, .func (.func 135) #[] #[], .bool true, .bool true, .bool false, .func (.func 136) #[] #[], .bool true, .bool false, .bool true, .func (.func 137) #[] #[], .bool true, .bool false, .bool true, .func (.func 134) #[] #[], .bool true, .bool false, .bool true, .func (.func 134) #[] #[]]) ∧ Below w.heap.size w w' := by
  go_enter Tryz.func69, Tryz.ntmps69
  go_wp2_with (refine wpList_store_row rfl _ _ _ rfl _ _ rfl rfl _ _ (Soft.heap_new _ _) (by kernel_rfl) rfl (by kernel_rfl) ?_; rw [setRow_alloc])
  exact bodyPost_ret (results_cell_row rfl _ _ _ _ _ _ (.array 6 90) rfl (Soft.heap_new _ _) (by kernel_rfl) rfl (by kernel_rfl)) rfl ⟨rfl, bel_alloc (bel_refl _) _⟩


/-- What a state means: known, filled, free; and its moment's function. -/
def stIs (n : Int) (k fl fr : Bool) (m : Value) : Prop :=
  (n = 0 ∧ k = true ∧ fl = false ∧ fr = false ∧ m = .func (.func 134) #[] #[]) ∨ (n = 1 ∧ k = true ∧ fl = true ∧ fr = false ∧ m = .func (.func 135) #[] #[]) ∨
  (n = 2 ∧ k = true ∧ fl = true ∧ fr = false ∧ m = .func (.func 136) #[] #[]) ∨ (n = 3 ∧ k = true ∧ fl = false ∧ fr = true ∧ m = .func (.func 137) #[] #[]) ∨
  (n = 4 ∧ k = true ∧ fl = false ∧ fr = true ∧ m = .func (.func 134) #[] #[]) ∨ (n = 5 ∧ k = true ∧ fl = false ∧ fr = true ∧ m = .func (.func 134) #[] #[]) ∨
  (¬(0 ≤ n ∧ n ≤ 5) ∧ k = false ∧ fl = false ∧ fr = false ∧ m = .nilFunc)


set_option maxHeartbeats 20000000 in
theorem hold_stateOf (n : Int) (k fl fr : Bool) (m : Value) (w : World) (h : stIs n k fl fr m) :
    Calls Tryz.prog 26 #[.int .i64 n] w fun e w' => e = .returned (.agg #[.bool k, .bool fl, .bool fr, m]) ∧ Below w.heap.size w w' := by
  rcases h with ⟨rfl, rfl, rfl, rfl, rfl⟩ | ⟨rfl, rfl, rfl, rfl, rfl⟩ | ⟨rfl, rfl, rfl, rfl, rfl⟩ | ⟨rfl, rfl, rfl, rfl, rfl⟩ | ⟨rfl, rfl, rfl, rfl, rfl⟩ | ⟨rfl, rfl, rfl, rfl, rfl⟩ | ⟨hn, rfl, rfl, rfl, rfl⟩
  · go_enter Tryz.func26, Tryz.ntmps26
    go_wp2_with (first | (go_at_call 69; (with_reducible refine (hold_states _).mono ?_); rintro e w_ ⟨rfl, hb_⟩; obtain ⟨y1, rfl⟩ := Soft.BW.mk hb_; clear hb_) | (go_at_call 70; (with_reducible refine (hold_isWithin _ _ _ _ true (by simp)).mono ?_); rintro e w_ ⟨rfl, hw_⟩; subst w_) | (refine wpList_store_row rfl 133 _ _ rfl _ _ rfl rfl _ _ (Soft.heap_new _ _) (by kernel_rfl) rfl (by kernel_rfl) ?_; rw [setRow_alloc]))
    refine bodyPost_ret (v := .agg #[.bool true, .bool false, .bool false, .func (.func 134) #[] #[]]) (by simp [results, Tryz.results26, go_sem]) rfl ?_
    refine ⟨rfl, ?_⟩
    (repeat (first | with_reducible exact bel_refl _ | with_reducible refine bel_alloc ?_ _ | with_reducible refine bel_bw _ ?_ | with_reducible refine bel_drew ?_ | with_reducible refine bel_drewN _ ?_ | ((with_reducible refine bel_set ?_ ?_ _); rotate_left; focus (first | (simp; done) | omega | (simp; omega))) | refine bel_step ?_ (by with_reducible assumption)))
  · go_enter Tryz.func26, Tryz.ntmps26
    go_wp2_with (first | (go_at_call 69; (with_reducible refine (hold_states _).mono ?_); rintro e w_ ⟨rfl, hb_⟩; obtain ⟨y1, rfl⟩ := Soft.BW.mk hb_; clear hb_) | (go_at_call 70; (with_reducible refine (hold_isWithin _ _ _ _ true (by simp)).mono ?_); rintro e w_ ⟨rfl, hw_⟩; subst w_) | (refine wpList_store_row rfl 133 _ _ rfl _ _ rfl rfl _ _ (Soft.heap_new _ _) (by kernel_rfl) rfl (by kernel_rfl) ?_; rw [setRow_alloc]))
    refine bodyPost_ret (v := .agg #[.bool true, .bool true, .bool false, .func (.func 135) #[] #[]]) (by simp [results, Tryz.results26, go_sem]) rfl ?_
    refine ⟨rfl, ?_⟩
    (repeat (first | with_reducible exact bel_refl _ | with_reducible refine bel_alloc ?_ _ | with_reducible refine bel_bw _ ?_ | with_reducible refine bel_drew ?_ | with_reducible refine bel_drewN _ ?_ | ((with_reducible refine bel_set ?_ ?_ _); rotate_left; focus (first | (simp; done) | omega | (simp; omega))) | refine bel_step ?_ (by with_reducible assumption)))
  · go_enter Tryz.func26, Tryz.ntmps26
    go_wp2_with (first | (go_at_call 69; (with_reducible refine (hold_states _).mono ?_); rintro e w_ ⟨rfl, hb_⟩; obtain ⟨y1, rfl⟩ := Soft.BW.mk hb_; clear hb_) | (go_at_call 70; (with_reducible refine (hold_isWithin _ _ _ _ true (by simp)).mono ?_); rintro e w_ ⟨rfl, hw_⟩; subst w_) | (refine wpList_store_row rfl 133 _ _ rfl _ _ rfl rfl _ _ (Soft.heap_new _ _) (by kernel_rfl) rfl (by kernel_rfl) ?_; rw [setRow_alloc]))
    refine bodyPost_ret (v := .agg #[.bool true, .bool true, .bool false, .func (.func 136) #[] #[]]) (by simp [results, Tryz.results26, go_sem]) rfl ?_
    refine ⟨rfl, ?_⟩
    (repeat (first | with_reducible exact bel_refl _ | with_reducible refine bel_alloc ?_ _ | with_reducible refine bel_bw _ ?_ | with_reducible refine bel_drew ?_ | with_reducible refine bel_drewN _ ?_ | ((with_reducible refine bel_set ?_ ?_ _); rotate_left; focus (first | (simp; done) | omega | (simp; omega))) | refine bel_step ?_ (by with_reducible assumption)))
  · go_enter Tryz.func26, Tryz.ntmps26
    go_wp2_with (first | (go_at_call 69; (with_reducible refine (hold_states _).mono ?_); rintro e w_ ⟨rfl, hb_⟩; obtain ⟨y1, rfl⟩ := Soft.BW.mk hb_; clear hb_) | (go_at_call 70; (with_reducible refine (hold_isWithin _ _ _ _ true (by simp)).mono ?_); rintro e w_ ⟨rfl, hw_⟩; subst w_) | (refine wpList_store_row rfl 133 _ _ rfl _ _ rfl rfl _ _ (Soft.heap_new _ _) (by kernel_rfl) rfl (by kernel_rfl) ?_; rw [setRow_alloc]))
    refine bodyPost_ret (v := .agg #[.bool true, .bool false, .bool true, .func (.func 137) #[] #[]]) (by simp [results, Tryz.results26, go_sem]) rfl ?_
    refine ⟨rfl, ?_⟩
    (repeat (first | with_reducible exact bel_refl _ | with_reducible refine bel_alloc ?_ _ | with_reducible refine bel_bw _ ?_ | with_reducible refine bel_drew ?_ | with_reducible refine bel_drewN _ ?_ | ((with_reducible refine bel_set ?_ ?_ _); rotate_left; focus (first | (simp; done) | omega | (simp; omega))) | refine bel_step ?_ (by with_reducible assumption)))
  · go_enter Tryz.func26, Tryz.ntmps26
    go_wp2_with (first | (go_at_call 69; (with_reducible refine (hold_states _).mono ?_); rintro e w_ ⟨rfl, hb_⟩; obtain ⟨y1, rfl⟩ := Soft.BW.mk hb_; clear hb_) | (go_at_call 70; (with_reducible refine (hold_isWithin _ _ _ _ true (by simp)).mono ?_); rintro e w_ ⟨rfl, hw_⟩; subst w_) | (refine wpList_store_row rfl 133 _ _ rfl _ _ rfl rfl _ _ (Soft.heap_new _ _) (by kernel_rfl) rfl (by kernel_rfl) ?_; rw [setRow_alloc]))
    refine bodyPost_ret (v := .agg #[.bool true, .bool false, .bool true, .func (.func 134) #[] #[]]) (by simp [results, Tryz.results26, go_sem]) rfl ?_
    refine ⟨rfl, ?_⟩
    (repeat (first | with_reducible exact bel_refl _ | with_reducible refine bel_alloc ?_ _ | with_reducible refine bel_bw _ ?_ | with_reducible refine bel_drew ?_ | with_reducible refine bel_drewN _ ?_ | ((with_reducible refine bel_set ?_ ?_ _); rotate_left; focus (first | (simp; done) | omega | (simp; omega))) | refine bel_step ?_ (by with_reducible assumption)))
  · go_enter Tryz.func26, Tryz.ntmps26
    go_wp2_with (first | (go_at_call 69; (with_reducible refine (hold_states _).mono ?_); rintro e w_ ⟨rfl, hb_⟩; obtain ⟨y1, rfl⟩ := Soft.BW.mk hb_; clear hb_) | (go_at_call 70; (with_reducible refine (hold_isWithin _ _ _ _ true (by simp)).mono ?_); rintro e w_ ⟨rfl, hw_⟩; subst w_) | (refine wpList_store_row rfl 133 _ _ rfl _ _ rfl rfl _ _ (Soft.heap_new _ _) (by kernel_rfl) rfl (by kernel_rfl) ?_; rw [setRow_alloc]))
    refine bodyPost_ret (v := .agg #[.bool true, .bool false, .bool true, .func (.func 134) #[] #[]]) (by simp [results, Tryz.results26, go_sem]) rfl ?_
    refine ⟨rfl, ?_⟩
    (repeat (first | with_reducible exact bel_refl _ | with_reducible refine bel_alloc ?_ _ | with_reducible refine bel_bw _ ?_ | with_reducible refine bel_drew ?_ | with_reducible refine bel_drewN _ ?_ | ((with_reducible refine bel_set ?_ ?_ _); rotate_left; focus (first | (simp; done) | omega | (simp; omega))) | refine bel_step ?_ (by with_reducible assumption)))
  · have HN := Lib.hid hn; clear hn
    go_enter Tryz.func26, Tryz.ntmps26
    go_wp2_with (first | (go_at_call 69; (with_reducible refine (hold_states _).mono ?_); rintro e w_ ⟨rfl, hb_⟩; obtain ⟨y1, rfl⟩ := Soft.BW.mk hb_; clear hb_) | (go_at_call 70; (with_reducible refine (hold_isWithin _ _ _ _ false (decide_eq_false HN.out).symm).mono ?_); rintro e w_ ⟨rfl, hw_⟩; subst w_) | (refine wpList_store_row rfl 133 _ _ rfl _ _ rfl rfl _ _ (Soft.heap_new _ _) (by kernel_rfl) rfl (by kernel_rfl) ?_; rw [setRow_alloc]))
    refine bodyPost_ret (v := .agg #[.bool false, .bool false, .bool false, .nilFunc]) (by simp [results, Tryz.results26, go_sem]) rfl ?_
    refine ⟨rfl, ?_⟩
    (repeat (first | with_reducible exact bel_refl _ | with_reducible refine bel_alloc ?_ _ | with_reducible refine bel_bw _ ?_ | with_reducible refine bel_drew ?_ | with_reducible refine bel_drewN _ ?_ | ((with_reducible refine bel_set ?_ ?_ _); rotate_left; focus (first | (simp; done) | omega | (simp; omega))) | refine bel_step ?_ (by with_reducible assumption)))

theorem hold_over (t : Tb) (r : Rg) (w : World) (ht : t.At w) :
    Calls Tryz.prog 85 #[.agg #[.slice (t).p (t).n (t).c], .agg #[.int .i64 (r).lo, .int .i64 (r).hi]] w fun e w' => e = .returned (.agg #[.int .i64 ((overE t.ps r).1).lo, .int .i64 ((overE t.ps r).1).hi]) ∧ Below w.heap.size w w' := by
  go_enter Tryz.func85, Tryz.ntmps85
  go_wp2_with (go_at_call 141; (with_reducible refine (fix_Over t r _ (by repeat (first | exact ht | refine Tb.At.alloc ?_ _ | refine Tb.At.bw ?_ _))).mono ?_); rintro e w_ ⟨rfl, hb_⟩; obtain ⟨y1, rfl⟩ := Soft.BW.mk hb_; clear hb_)
  refine bodyPost_ret (v := .agg #[.int .i64 ((overE t.ps r).1).lo, .int .i64 ((overE t.ps r).1).hi]) (by simp [results, Tryz.results85, go_sem]) rfl ?_
  refine ⟨rfl, ?_⟩
  (repeat (first | with_reducible exact bel_refl _ | with_reducible refine bel_alloc ?_ _ | with_reducible refine bel_bw _ ?_ | with_reducible refine bel_drew ?_ | with_reducible refine bel_drewN _ ?_ | ((with_reducible refine bel_set ?_ ?_ _); rotate_left; focus (first | (simp; done) | omega | (simp; omega))) | refine bel_step ?_ (by with_reducible assumption)))

end Go.Proofs.YteagdcgmmdiakaaGreat

namespace Go.Proofs.YteagdcgmmdiakaaGreat
set_option linter.unusedSimpArgs false
set_option linter.unusedVariables false
open Go.RowKit
attribute [local go_sem] Soft.upon Soft.BW.cell_if Soft.BW.frozen_if Soft.cell_alloc_if Soft.frozen_alloc_if

/-- What a valid fill of a hold is. -/
def FillIn (h : Ho) (f : Fi) : Prop := f.hold = h.id ∧ ((f.state = 0 ∧ f.ull = ⟨0, 0⟩ ∧ f.den = ⟨0, 0⟩) ∨ ((f.state = 1 ∨ f.state = 2) ∧ f.ull = ⟨0, 0⟩ ∧ isDen f.den) ∨ ((3 ≤ f.state ∧ f.state ≤ 5) ∧ isPart f.ull (firstX h.vol.ps) (lastX h.vol.ps) ∧ isDen f.den))
instance (h : Ho) (f : Fi) : Decidable (FillIn h f) := inferInstanceAs (Decidable (_ ∧ _))
def fillErr (h : Ho) (f : Fi) : Int := if HoldOk h then (if FillIn h f then 0 else 22) else 20

theorem st_class (n : Int) : (n = 0 ∧ ∃ m : FuncId, stIs n true false false (.func (.func m) #[] #[])) ∨ ((n = 1 ∨ n = 2) ∧ ∃ m : FuncId, stIs n true true false (.func (.func m) #[] #[])) ∨ ((3 ≤ n ∧ n ≤ 5) ∧ ∃ m : FuncId, stIs n true false true (.func (.func m) #[] #[])) ∨ (¬(0 ≤ n ∧ n ≤ 5) ∧ stIs n false false false .nilFunc) := by
  by_cases h0 : n = 0
  · subst h0; exact .inl ⟨rfl, _, .inl ⟨rfl, rfl, rfl, rfl, rfl⟩⟩
  by_cases h1 : n = 1
  · subst h1; exact .inr (.inl ⟨.inl rfl, _, .inr (.inl ⟨rfl, rfl, rfl, rfl, rfl⟩)⟩)
  by_cases h2 : n = 2
  · subst h2; exact .inr (.inl ⟨.inr rfl, _, .inr (.inr (.inl ⟨rfl, rfl, rfl, rfl, rfl⟩))⟩)
  by_cases h3 : n = 3
  · subst h3; exact .inr (.inr (.inl ⟨by omega, _, .inr (.inr (.inr (.inl ⟨rfl, rfl, rfl, rfl, rfl⟩)))⟩))
  by_cases h4 : n = 4
  · subst h4; exact .inr (.inr (.inl ⟨by omega, _, .inr (.inr (.inr (.inr (.inl ⟨rfl, rfl, rfl, rfl, rfl⟩))))⟩))
  by_cases h5 : n = 5
  · subst h5; exact .inr (.inr (.inl ⟨by omega, _, .inr (.inr (.inr (.inr (.inr (.inl ⟨rfl, rfl, rfl, rfl, rfl⟩)))))⟩))
  · exact .inr (.inr (.inr ⟨by omega, .inr (.inr (.inr (.inr (.inr (.inr ⟨by omega, rfl, rfl, rfl, rfl⟩)))))⟩))

theorem rg_iff (a : Rg) (x y : Int) : a = ⟨x, y⟩ ↔ a.lo = x ∧ a.hi = y := by
  cases a; simp
theorem fillErr_val (h : Ho) (f : Fi) (h0 : HoldOk h) (e : Int)
    (hp : (e = 0 ∧ (f.hold = h.id ∧ ((f.state = 0 ∧ (f.ull.lo = 0 ∧ f.ull.hi = 0) ∧ (f.den.lo = 0 ∧ f.den.hi = 0)) ∨ ((f.state = 1 ∨ f.state = 2) ∧ (f.ull.lo = 0 ∧ f.ull.hi = 0) ∧ isPart f.den 100 2000) ∨ ((3 ≤ f.state ∧ f.state ≤ 5) ∧ isPart f.ull (firstX h.vol.ps) (lastX h.vol.ps) ∧ isPart f.den 100 2000)))) ∨
      (e = 22 ∧ ¬(f.hold = h.id ∧ ((f.state = 0 ∧ (f.ull.lo = 0 ∧ f.ull.hi = 0) ∧ (f.den.lo = 0 ∧ f.den.hi = 0)) ∨ ((f.state = 1 ∨ f.state = 2) ∧ (f.ull.lo = 0 ∧ f.ull.hi = 0) ∧ isPart f.den 100 2000) ∨ ((3 ≤ f.state ∧ f.state ≤ 5) ∧ isPart f.ull (firstX h.vol.ps) (lastX h.vol.ps) ∧ isPart f.den 100 2000))))) : e = fillErr h f := by
  unfold fillErr
  rw [if_pos h0]
  rw [← rg_iff, ← rg_iff] at hp
  rcases hp with ⟨rfl, hp⟩ | ⟨rfl, hp⟩
  · exact (if_pos hp).symm
  · exact (if_neg hp).symm


set_option maxRecDepth 100000 in
set_option maxHeartbeats 8000000 in
theorem hold_CheckFill (h : Ho) (f : Fi) (w : World) (hh : h.At w) :
    Calls Tryz.prog 24 #[.agg #[.int .i64 (h).id, .int .i64 ((h).along).lo, .int .i64 ((h).along).hi, .slice ((h).vol).p ((h).vol).n ((h).vol).c, .slice ((h).mom).p ((h).mom).n ((h).mom).c, .slice ((h).hei).p ((h).hei).n ((h).hei).c, .int .i64 ((h).tri).lo, .int .i64 ((h).tri).hi, .int .i64 ((h).unt).lo, .int .i64 ((h).unt).hi, .int .i64 ((h).v0).lo, .int .i64 ((h).v0).hi, .int .i64 ((h).h0).lo, .int .i64 ((h).h0).hi], .agg #[.int .i64 (f).hold, .int .i64 (f).state, .int .i64 ((f).ull).lo, .int .i64 ((f).ull).hi, .int .i64 ((f).den).lo, .int .i64 ((f).den).hi]] w fun e w' => e = .returned (.int .i64 (fillErr h f)) ∧ Below w.heap.size w w' := by
  by_cases h0 : HoldOk h
  · have hE : holdErr h = 0 := if_pos h0
    have hv := hh.1
    have hn : 1 ≤ h.vol.n := by rw [← hv.1]; exact h0.tabs.1.ok.pos
    have H0 := Lib.hid h0; clear h0
    rcases st_class f.state with ⟨hc, m, hst⟩ | ⟨hc, m, hst⟩ | ⟨hc, m, hst⟩ | ⟨hc, hst⟩
    · have HST := Lib.hid hst; clear hst
      have d2 : (f.state == 0) = true := by rw [hc]; rfl
      have HC := Lib.hid hc; clear hc
      go_enter Tryz.func24, Tryz.ntmps24
      go_wp2_with (first | (go_at_call 32; (with_reducible refine (hold_CheckHold h _ (by with_reducible repeat (first | exact hh | refine Ho.At.alloc ?_ _ | refine Ho.At.bw ?_ _ | refine Tk.At.alloc ?_ _ | refine Tk.At.bw ?_ _))).mono ?_); rintro e w_ ⟨rfl, hb_⟩; obtain ⟨y1, rfl⟩ := Soft.BW.mk hb_; clear hb_) | (go_at_call 26; (with_reducible refine (hold_stateOf f.state _ _ _ _ _ HST.out).mono ?_); rintro e w_ ⟨rfl, hb_⟩; obtain ⟨y2, rfl⟩ := Soft.BW.mk hb_; clear hb_) | (go_at_call 65; (with_reducible refine (hold_domain h.vol _ (by repeat (first | exact hv | refine Tb.At.alloc ?_ _ | refine Tb.At.bw ?_ _)) hn).mono ?_); rintro e w_ ⟨rfl, hb_⟩; obtain ⟨y3, rfl⟩ := Soft.BW.mk hb_; clear hb_))
      all_goals
      go_ret
      refine ⟨ret_int (fillErr_val h f H0.out _ ?_), ?_⟩
      rotate_left
      (repeat (first | with_reducible exact bel_refl _ | with_reducible refine bel_alloc ?_ _ | with_reducible refine bel_bw _ ?_ | with_reducible refine bel_drew ?_ | with_reducible refine bel_drewN _ ?_ | ((with_reducible refine bel_set ?_ ?_ _); rotate_left; focus (first | (simp; done) | omega | (simp; omega))) | refine bel_step ?_ (by with_reducible assumption)))
      have hc_ := HC.out
      (try simp only [Bool.not_eq_true', Bool.not_eq_false', decide_eq_true_eq, decide_eq_false_iff_not, true_and, and_true] at *)
      simp only [isDen, isPart] at *
      omega
    · have HST := Lib.hid hst; clear hst
      have d2 : (f.state == 0) = false := by rcases hc with h | h <;> rw [h] <;> rfl
      have HC := Lib.hid hc; clear hc
      go_enter Tryz.func24, Tryz.ntmps24
      go_wp2_with (first | (go_at_call 32; (with_reducible refine (hold_CheckHold h _ (by with_reducible repeat (first | exact hh | refine Ho.At.alloc ?_ _ | refine Ho.At.bw ?_ _ | refine Tk.At.alloc ?_ _ | refine Tk.At.bw ?_ _))).mono ?_); rintro e w_ ⟨rfl, hb_⟩; obtain ⟨y1, rfl⟩ := Soft.BW.mk hb_; clear hb_) | (go_at_call 26; (with_reducible refine (hold_stateOf f.state _ _ _ _ _ HST.out).mono ?_); rintro e w_ ⟨rfl, hb_⟩; obtain ⟨y2, rfl⟩ := Soft.BW.mk hb_; clear hb_) | (go_at_call 65; (with_reducible refine (hold_domain h.vol _ (by repeat (first | exact hv | refine Tb.At.alloc ?_ _ | refine Tb.At.bw ?_ _)) hn).mono ?_); rintro e w_ ⟨rfl, hb_⟩; obtain ⟨y3, rfl⟩ := Soft.BW.mk hb_; clear hb_) | (go_at_call 66; (with_reducible refine (hold_isDensity f.den _ _ rfl).mono ?_); rintro e w_ ⟨rfl, hb_⟩; obtain ⟨y4, rfl⟩ := Soft.BW.mk hb_; clear hb_))
      all_goals
      go_ret
      refine ⟨ret_int (fillErr_val h f H0.out _ ?_), ?_⟩
      rotate_left
      (repeat (first | with_reducible exact bel_refl _ | with_reducible refine bel_alloc ?_ _ | with_reducible refine bel_bw _ ?_ | with_reducible refine bel_drew ?_ | with_reducible refine bel_drewN _ ?_ | ((with_reducible refine bel_set ?_ ?_ _); rotate_left; focus (first | (simp; done) | omega | (simp; omega))) | refine bel_step ?_ (by with_reducible assumption)))
      have hc_ := HC.out
      (try simp only [Bool.not_eq_true', Bool.not_eq_false', decide_eq_true_eq, decide_eq_false_iff_not, true_and, and_true] at *)
      simp only [isDen, isPart] at *
      omega
    · have HST := Lib.hid hst; clear hst
      have d2 : (f.state == 0) = false := by
        apply beq_false_of_ne; omega
      have HC := Lib.hid hc; clear hc
      go_enter Tryz.func24, Tryz.ntmps24
      go_wp2_with (first | (go_at_call 32; (with_reducible refine (hold_CheckHold h _ (by with_reducible repeat (first | exact hh | refine Ho.At.alloc ?_ _ | refine Ho.At.bw ?_ _ | refine Tk.At.alloc ?_ _ | refine Tk.At.bw ?_ _))).mono ?_); rintro e w_ ⟨rfl, hb_⟩; obtain ⟨y1, rfl⟩ := Soft.BW.mk hb_; clear hb_) | (go_at_call 26; (with_reducible refine (hold_stateOf f.state _ _ _ _ _ HST.out).mono ?_); rintro e w_ ⟨rfl, hb_⟩; obtain ⟨y2, rfl⟩ := Soft.BW.mk hb_; clear hb_) | (go_at_call 65; (with_reducible refine (hold_domain h.vol _ (by repeat (first | exact hv | refine Tb.At.alloc ?_ _ | refine Tb.At.bw ?_ _)) hn).mono ?_); rintro e w_ ⟨rfl, hb_⟩; obtain ⟨y3, rfl⟩ := Soft.BW.mk hb_; clear hb_) | (go_at_call 66; (with_reducible refine (hold_isDensity f.den _ _ rfl).mono ?_); rintro e w_ ⟨rfl, hb_⟩; obtain ⟨y4, rfl⟩ := Soft.BW.mk hb_; clear hb_) | (go_at_call 67; (with_reducible refine (hold_isPart f.ull _ _ _ _ rfl).mono ?_); rintro e w_ ⟨rfl, hb_⟩; obtain ⟨y5, rfl⟩ := Soft.BW.mk hb_; clear hb_))
      all_goals
      go_ret
      refine ⟨ret_int (fillErr_val h f H0.out _ ?_), ?_⟩
      rotate_left
      (repeat (first | with_reducible exact bel_refl _ | with_reducible refine bel_alloc ?_ _ | with_reducible refine bel_bw _ ?_ | with_reducible refine bel_drew ?_ | with_reducible refine bel_drewN _ ?_ | ((with_reducible refine bel_set ?_ ?_ _); rotate_left; focus (first | (simp; done) | omega | (simp; omega))) | refine bel_step ?_ (by with_reducible assumption)))
      have hc_ := HC.out
      (try simp only [Bool.not_eq_true', Bool.not_eq_false', decide_eq_true_eq, decide_eq_false_iff_not, true_and, and_true] at *)
      simp only [isDen, isPart] at *
      omega
    · have HST := Lib.hid hst; clear hst
      have HC := Lib.hid hc; clear hc
      go_enter Tryz.func24, Tryz.ntmps24
      go_wp2_with (first | (go_at_call 32; (with_reducible refine (hold_CheckHold h _ (by with_reducible repeat (first | exact hh | refine Ho.At.alloc ?_ _ | refine Ho.At.bw ?_ _ | refine Tk.At.alloc ?_ _ | refine Tk.At.bw ?_ _))).mono ?_); rintro e w_ ⟨rfl, hb_⟩; obtain ⟨y1, rfl⟩ := Soft.BW.mk hb_; clear hb_) | (go_at_call 26; (with_reducible refine (hold_stateOf f.state _ _ _ _ _ HST.out).mono ?_); rintro e w_ ⟨rfl, hb_⟩; obtain ⟨y2, rfl⟩ := Soft.BW.mk hb_; clear hb_) | (go_at_call 65; (with_reducible refine (hold_domain h.vol _ (by repeat (first | exact hv | refine Tb.At.alloc ?_ _ | refine Tb.At.bw ?_ _)) hn).mono ?_); rintro e w_ ⟨rfl, hb_⟩; obtain ⟨y3, rfl⟩ := Soft.BW.mk hb_; clear hb_))
      all_goals
      go_ret
      refine ⟨ret_int (fillErr_val h f H0.out _ ?_), ?_⟩
      rotate_left
      (repeat (first | with_reducible exact bel_refl _ | with_reducible refine bel_alloc ?_ _ | with_reducible refine bel_bw _ ?_ | with_reducible refine bel_drew ?_ | with_reducible refine bel_drewN _ ?_ | ((with_reducible refine bel_set ?_ ?_ _); rotate_left; focus (first | (simp; done) | omega | (simp; omega))) | refine bel_step ?_ (by with_reducible assumption)))
      have hc_ := HC.out
      (try simp only [Bool.not_eq_true', Bool.not_eq_false', decide_eq_true_eq, decide_eq_false_iff_not, true_and, and_true] at *)
      simp only [isDen, isPart] at *
      omega
  · have hE : holdErr h = 20 := if_neg h0
    have hE' : fillErr h f = 20 := if_neg h0
    have HE := Lib.hid hE'; clear h0 hE'
    go_enter Tryz.func24, Tryz.ntmps24
    go_wp2_with (go_at_call 32; (with_reducible refine (hold_CheckHold h _ (by with_reducible repeat (first | exact hh | refine Ho.At.alloc ?_ _ | refine Ho.At.bw ?_ _ | refine Tk.At.alloc ?_ _ | refine Tk.At.bw ?_ _))).mono ?_); rintro e w_ ⟨rfl, hb_⟩; obtain ⟨y1, rfl⟩ := Soft.BW.mk hb_; clear hb_)
    go_ret
    refine ⟨ret_int HE.out.symm, ?_⟩
    (repeat (first | with_reducible exact bel_refl _ | with_reducible refine bel_alloc ?_ _ | with_reducible refine bel_bw _ ?_ | with_reducible refine bel_drew ?_ | with_reducible refine bel_drewN _ ?_ | ((with_reducible refine bel_set ?_ ?_ _); rotate_left; focus (first | (simp; done) | omega | (simp; omega))) | refine bel_step ?_ (by with_reducible assumption)))

end Go.Proofs.YteagdcgmmdiakaaGreat

namespace Go.Proofs.YteagdcgmmdiakaaGreat
set_option linter.unusedSimpArgs false
set_option linter.unusedVariables false
open Go.RowKit

/-- A range's numbers lie within bounds. -/
structure RgIn (r : Rg) (L U : Int) : Prop where
  a : L ≤ r.lo
  b : r.lo ≤ r.hi
  c : r.hi ≤ U

/-- The number at a place of a line between two points, times their distance. -/
def lin (a b : Pt) (y z x : Int) : Int := y * (b.x - x) + z * (x - a.x)
theorem lin_mono (a b : Pt) (y z y' z' x : Int) (h1 : a.x ≤ x) (h2 : x ≤ b.x) (hy : y ≤ y') (hz : z ≤ z') : lin a b y z x ≤ lin a b y' z' x := by
  unfold lin
  have a1 := Int.mul_le_mul_of_nonneg_right hy (show 0 ≤ b.x - x by omega)
  have a2 := Int.mul_le_mul_of_nonneg_right hz (show 0 ≤ x - a.x by omega)
  omega
theorem lin_same (a b : Pt) (y x : Int) : lin a b y y x = y * (b.x - a.x) := by
  unfold lin
  rw [← Int.mul_add]
  congr 1
  omega
theorem segLo_le (a b : Pt) (x : Int) (h : a.x < b.x) : segLo a b x * (b.x - a.x) ≤ lin a b a.lo b.lo x := Int.ediv_mul_le _ (by omega)
theorem segHi_ge (a b : Pt) (x : Int) (h : a.x < b.x) : lin a b a.hi b.hi x ≤ segHi a b x * (b.x - a.x) := by
  have h := Int.ediv_mul_le (-(a.hi * (b.x - x) + b.hi * (x - a.x))) (show b.x - a.x ≠ 0 by omega)
  unfold segHi lin
  rw [Int.neg_mul]
  omega
theorem segLo_ge (a b : Pt) (x : Int) (L : Int) (h : a.x < b.x) (hl : L * (b.x - a.x) ≤ lin a b a.lo b.lo x) : L ≤ segLo a b x := Int.le_ediv_of_mul_le (by omega) hl
theorem segHi_le (a b : Pt) (x : Int) (U : Int) (h : a.x < b.x) (hl : lin a b a.hi b.hi x ≤ U * (b.x - a.x)) : segHi a b x ≤ U := by
  have h := Int.le_ediv_of_mul_le (c := b.x - a.x) (a := -U) (b := -(lin a b a.hi b.hi x)) (by omega) (by rw [Int.neg_mul]; omega)
  unfold segHi
  unfold lin at h
  omega
theorem le_of_mul {p q d : Int} (hd : 0 < d) (h : p * d ≤ q * d) : p ≤ q := Int.le_of_mul_le_mul_right h hd

theorem seg_in (a b : Pt) (x L U : Int) (hp : PieceOk a b) (h1 : a.x ≤ x) (h2 : x ≤ b.x) (la : L ≤ a.lo) (lb : L ≤ b.lo) (ua : a.hi ≤ U) (ub : b.hi ≤ U) : RgIn ⟨segLo a b x, segHi a b x⟩ L U := by
  have hlt := hp.lt
  refine ⟨segLo_ge a b x L hlt ?_, ?_, segHi_le a b x U hlt ?_⟩
  · rw [← lin_same a b L x]; exact lin_mono a b _ _ _ _ x h1 h2 la lb
  · refine le_of_mul (d := b.x - a.x) (by omega) ?_
    exact Int.le_trans (segLo_le a b x hlt) (Int.le_trans (lin_mono a b _ _ _ _ x h1 h2 hp.ale hp.ble) (segHi_ge a b x hlt))
  · rw [← lin_same a b U x]; exact lin_mono a b _ _ _ _ x h1 h2 ua ub

theorem atS_in {ps : List Pt} (hok : TabOk ps) {x : Int} (h1 : firstX ps ≤ x) (h2 : x ≤ lastX ps) (L U : Int) (hL : ∀ k, k < ps.length → L ≤ (pt ps k).lo ∧ (pt ps k).hi ≤ U) : RgIn (atS ps x) L U := by
  obtain ⟨a1, _, a3⟩ := kOf_spec hok h1 h2
  have hany := hok.any a1
  have hpos := hok.pos
  unfold atS pcAt
  generalize hk : kOf ps x = k at *
  by_cases hl : ps.length = 1
  · have hp : pieceAt ps k = (pt ps 0, pt ps 0) := if_pos hl
    rw [hp, if_pos rfl]
    obtain ⟨b1, b2⟩ := hL 0 (by omega)
    obtain ⟨_, _, b3, _⟩ := hok.all 0 (by omega)
    exact ⟨b1, b3, b2⟩
  · have hp : pieceAt ps k = (pt ps k, pt ps (k + 1)) := if_neg hl
    have hk2 : k + 1 < ps.length := by unfold nPieces at a1; rw [if_neg hl] at a1; omega
    have hok' := hok.piece hk2
    rw [hp] at a3 ⊢
    have hne : ¬(pt ps k = pt ps (k + 1)) := fun e => by have := hok'.lt; rw [e] at this; omega
    dsimp only
    rw [if_neg hne]
    obtain ⟨b1, b2⟩ := hL k (by omega)
    obtain ⟨c1, c2⟩ := hL (k + 1) hk2
    exact seg_in _ _ x L U hok' a3.1 a3.2 b1 c1 b2 c2

theorem gTake_in {g r : Rg} {L U : Int} (hg : RgIn g L U) (hr : RgIn r L U) : RgIn (gTake (some g) r) L U := by
  obtain ⟨a1, a2, a3⟩ := hg
  obtain ⟨b1, b2, b3⟩ := hr
  refine ⟨?_, ?_, ?_⟩ <;> (simp only [gTake, gAdd]; omega)
theorem gTake0_in {r : Rg} {L U : Int} (hr : RgIn r L U) : RgIn (gTake none r) L U := by
  obtain ⟨b1, b2, b3⟩ := hr
  refine ⟨?_, ?_, ?_⟩ <;> (simp only [gTake, gAdd]; omega)

theorem overS_in {ps : List Pt} (hok : TabOk ps) {r : Rg} (h1 : firstX ps ≤ r.lo) (h2 : r.lo ≤ r.hi) (h3 : r.hi ≤ lastX ps) (L U : Int) (hL : ∀ k, k < ps.length → L ≤ (pt ps k).lo ∧ (pt ps k).hi ≤ U) : RgIn (overS ps r) L U := by
  have key : ∀ k, k ≤ ps.length → RgIn (overG ps r k) L U := by
    intro k
    induction k with
    | zero =>
      intro _
      exact gTake_in (gTake0_in (atS_in hok h1 (by omega) L U hL)) (atS_in hok (by omega) h3 L U hL)
    | succ k ih =>
      intro hk
      rw [overG_succ ps r k (by omega)]
      unfold overStep
      by_cases hc : r.lo ≤ (pt ps k).x ∧ (pt ps k).x ≤ r.hi
      · rw [if_pos hc]
        exact gTake_in (ih (by omega)) (atS_in hok (by omega) (by omega) L U hL)
      · rw [if_neg hc]; exact ih (by omega)
  exact key _ (Nat.le_refl _)

theorem overE_in {ps : List Pt} {r : Rg} (L U : Int) (h0 : L ≤ 0) (h1 : 0 ≤ U) (hL : TabOk ps → ∀ k, k < ps.length → L ≤ (pt ps k).lo ∧ (pt ps k).hi ≤ U) : RgIn (overE ps r).1 L U := by
  unfold overE
  by_cases hok : TabOk ps
  · rw [if_pos hok]
    rcases rangeErr_cases r with ⟨e, h2, _⟩ | ⟨e, _⟩
    · rw [if_pos e]
      by_cases hin : firstX ps ≤ r.lo ∧ r.hi ≤ lastX ps
      · rw [if_pos hin]; exact overS_in hok hin.1 h2 hin.2 L U (hL hok)
      · rw [if_neg hin]; exact ⟨h0, Int.le_refl _, h1⟩
    · rw [if_neg (by omega)]; exact ⟨h0, Int.le_refl _, h1⟩
  · rw [if_neg hok]; exact ⟨h0, Int.le_refl _, h1⟩

/-- The values of any table, and those of a table without numbers below 0. -/
theorem overE_any (ps : List Pt) (r : Rg) : RgIn (overE ps r).1 (-1000000000) 1000000000 :=
  overE_in _ _ (by omega) (by omega) (fun hok k hk => by obtain ⟨_, _, _, a, b, _⟩ := hok.all k hk; exact ⟨a, b⟩)
theorem overE_pos {ps : List Pt} (h : Tab2 ps) (r : Rg) : RgIn (overE ps r).1 0 1000000000 :=
  overE_in _ _ (by omega) (by omega) (fun hok k hk => by
    obtain ⟨_, _, _, a, b, _⟩ := hok.all k hk
    refine ⟨?_, b⟩
    have := h.pos
    unfold hasNeg at this
    apply Classical.byContradiction
    intro hc
    exact this ⟨k, hk, by omega⟩)
theorem atE_any (ps : List Pt) (x : Int) : RgIn (atE ps x).1 (-1000000000) 1000000000 := by
  unfold atE
  by_cases hok : TabOk ps
  · rw [if_pos hok]
    by_cases hin : firstX ps ≤ x ∧ x ≤ lastX ps
    · rw [if_pos hin]; exact atS_in hok hin.1 hin.2 _ _ (fun k hk => by obtain ⟨_, _, _, a, b, _⟩ := hok.all k hk; exact ⟨a, b⟩)
    · rw [if_neg hin]; exact ⟨by decide, by decide, by decide⟩
  · rw [if_neg hok]; exact ⟨by decide, by decide, by decide⟩

end Go.Proofs.YteagdcgmmdiakaaGreat

namespace Go.Proofs.YteagdcgmmdiakaaGreat
set_option linter.unusedSimpArgs false
set_option linter.unusedVariables false
open Go.RowKit

theorem TabOk.lt {ps : List Pt} (h : TabOk ps) : ∀ (j i : Nat), i < j → j < ps.length → (pt ps i).x < (pt ps j).x
  | 0, _, hij, _ => by omega
  | j + 1, i, hij, hj => by
    obtain ⟨_, _, _, _, _, h6⟩ := h.all (j + 1) hj
    rw [show j + 1 - 1 = j by omega] at h6
    rcases h6 with h6 | h6
    · omega
    · by_cases e : i = j
      · rw [e]; exact h6
      · have := TabOk.lt h j i (by omega) (by omega); omega

theorem seg_start (a b : Pt) (h : a.x < b.x) : segLo a b a.x = a.lo ∧ segHi a b a.x = a.hi := by
  unfold segLo segHi
  have e : a.x - a.x = 0 := by omega
  rw [e, Int.mul_zero, Int.mul_zero, Int.add_zero, Int.add_zero, ← Int.neg_mul, Int.mul_ediv_cancel _ (by omega), Int.mul_ediv_cancel _ (by omega), Int.neg_neg]
  exact ⟨rfl, rfl⟩
theorem seg_end (a b : Pt) (h : a.x < b.x) : segLo a b b.x = b.lo ∧ segHi a b b.x = b.hi := by
  unfold segLo segHi
  have e : b.x - b.x = 0 := by omega
  rw [e, Int.mul_zero, Int.mul_zero, Int.zero_add, Int.zero_add, ← Int.neg_mul, Int.mul_ediv_cancel _ (by omega), Int.mul_ediv_cancel _ (by omega), Int.neg_neg]
  exact ⟨rfl, rfl⟩

/-- The value at a place of a piece, whichever piece it is seen from. -/
theorem atS_seg {ps : List Pt} (hok : TabOk ps) {k : Nat} (hk : k + 1 < ps.length) {x : Int} (h1 : (pt ps k).x ≤ x) (h2 : x ≤ (pt ps (k + 1)).x) :
    atS ps x = ⟨segLo (pt ps k) (pt ps (k + 1)) x, segHi (pt ps k) (pt ps (k + 1)) x⟩ := by
  have hf : firstX ps ≤ x := by
    by_cases e : k = 0
    · subst e; exact h1
    · have := hok.lt k 0 (by omega) (by omega); show (pt ps 0).x ≤ x; omega
  have hl : x ≤ lastX ps := by
    by_cases e : k + 1 = ps.length - 1
    · show x ≤ (pt ps (ps.length - 1)).x; rw [← e]; exact h2
    · have := hok.lt (ps.length - 1) (k + 1) (by omega) (by omega); show x ≤ (pt ps (ps.length - 1)).x; omega
  obtain ⟨a1, a2, a3⟩ := kOf_spec hok hf hl
  have hlen : ¬ps.length = 1 := by omega
  have hpa : ∀ j, pieceAt ps j = (pt ps j, pt ps (j + 1)) := fun j => if_neg hlen
  have hnp : nPieces ps = ps.length - 1 := if_neg hlen
  have hk1 : kOf ps x ≤ k := by
    apply Classical.byContradiction; intro hc
    exact a2 k (by omega) (by rw [hpa]; exact ⟨h1, h2⟩)
  have hv : ∀ j, j + 1 < ps.length → pcAt (pieceAt ps j) x = ⟨segLo (pt ps j) (pt ps (j + 1)) x, segHi (pt ps j) (pt ps (j + 1)) x⟩ := fun j hj => by
    rw [hpa]
    have := hok.lt (j + 1) j (by omega) hj
    exact if_neg (fun e => by dsimp only at e; rw [e] at this; omega)
  unfold atS
  by_cases e : kOf ps x = k
  · rw [e]; exact hv k hk
  · have ha3 : x ≤ (pt ps (kOf ps x + 1)).x := by rw [hpa] at a3; exact a3.2
    generalize kOf ps x = j at *
    have ej : j + 1 = k := by
      apply Classical.byContradiction; intro hc
      have := hok.lt k (j + 1) (by omega) (by omega)
      omega
    rw [hv j (by omega)]
    subst ej
    have ex : x = (pt ps (j + 1)).x := by omega
    subst ex
    obtain ⟨p1, p2⟩ := seg_end (pt ps j) (pt ps (j + 1)) (hok.lt (j + 1) j (by omega) (by omega))
    obtain ⟨q1, q2⟩ := seg_start (pt ps (j + 1)) (pt ps (j + 1 + 1)) (hok.lt (j + 1 + 1) (j + 1) (by omega) hk)
    rw [p1, p2, q1, q2]

theorem lin_step (a b : Pt) (y z x x' : Int) (hx : x ≤ x') : (y ≤ z → lin a b y z x ≤ lin a b y z x') ∧ (z ≤ y → lin a b y z x' ≤ lin a b y z x) := by
  unfold lin
  have e1 : y * (b.x - x) = y * (b.x - x') + y * (x' - x) := by rw [← Int.mul_add]; congr 1; omega
  have e2 : z * (x' - a.x) = z * (x - a.x) + z * (x' - x) := by rw [← Int.mul_add]; congr 1; omega
  constructor
  · intro h
    have := Int.mul_le_mul_of_nonneg_right h (show 0 ≤ x' - x by omega)
    omega
  · intro h
    have := Int.mul_le_mul_of_nonneg_right h (show 0 ≤ x' - x by omega)
    omega

theorem segLo_step (a b : Pt) (x x' : Int) (h : a.x < b.x) (hx : x ≤ x') : (a.lo ≤ b.lo → segLo a b x ≤ segLo a b x') ∧ (b.lo ≤ a.lo → segLo a b x' ≤ segLo a b x) :=
  ⟨fun hl => Int.ediv_le_ediv (by omega) ((lin_step a b a.lo b.lo x x' hx).1 hl), fun hl => Int.ediv_le_ediv (by omega) ((lin_step a b a.lo b.lo x x' hx).2 hl)⟩
theorem segHi_step (a b : Pt) (x x' : Int) (h : a.x < b.x) (hx : x ≤ x') : (a.hi ≤ b.hi → segHi a b x ≤ segHi a b x') ∧ (b.hi ≤ a.hi → segHi a b x' ≤ segHi a b x) := by
  unfold segHi
  constructor
  · intro hl
    have := Int.ediv_le_ediv (c := b.x - a.x) (by omega) (Int.neg_le_neg ((lin_step a b a.hi b.hi x x' hx).1 hl))
    unfold lin at this
    omega
  · intro hl
    have := Int.ediv_le_ediv (c := b.x - a.x) (by omega) (Int.neg_le_neg ((lin_step a b a.hi b.hi x x' hx).2 hl))
    unfold lin at this
    omega

/-- One number goes a way to another. -/
def goes (s a b : Int) : Prop := 0 ≤ s * (b - a)
theorem goes_iff {s : Int} (hs : s = 1 ∨ s = -1) (a b : Int) : goes s a b ↔ (s = 1 ∧ a ≤ b) ∨ (s = -1 ∧ b ≤ a) := by
  unfold goes
  rcases hs with rfl | rfl <;> omega

theorem pt_mono {ps : List Pt} {s : Int} (hs : s = 1 ∨ s = -1) (hm : mono ps s) : ∀ (j i : Nat), i ≤ j → j < ps.length → goes s (pt ps i).lo (pt ps j).lo ∧ goes s (pt ps i).hi (pt ps j).hi
  | 0, i, hij, _ => by
    obtain rfl : i = 0 := by omega
    rw [goes_iff hs, goes_iff hs]; omega
  | j + 1, i, hij, hj => by
    by_cases e : i = j + 1
    · rw [e, goes_iff hs, goes_iff hs]; omega
    · obtain ⟨a1, a2⟩ := pt_mono hs hm j i (by omega) (by omega)
      obtain ⟨b1, b2⟩ := hm j (by omega)
      change goes s _ _ at b1
      change goes s _ _ at b2
      simp only [goes_iff hs] at *
      omega

theorem seg_goes {s : Int} (hs : s = 1 ∨ s = -1) (a b : Pt) (x x' : Int) (h : a.x < b.x) (hx : x ≤ x') (h1 : goes s a.lo b.lo) (h2 : goes s a.hi b.hi) :
    goes s (segLo a b x) (segLo a b x') ∧ goes s (segHi a b x) (segHi a b x') := by
  obtain ⟨c1, c2⟩ := segLo_step a b x x' h hx
  obtain ⟨d1, d2⟩ := segHi_step a b x x' h hx
  simp only [goes_iff hs] at *
  rcases h1 with ⟨e, h1⟩ | ⟨e, h1⟩ <;> rcases h2 with ⟨e', h2⟩ | ⟨e', h2⟩
  · exact ⟨.inl ⟨e, c1 h1⟩, .inl ⟨e, d1 h2⟩⟩
  · omega
  · omega
  · exact ⟨.inr ⟨e, c2 h1⟩, .inr ⟨e, d2 h2⟩⟩

theorem piece_of {ps : List Pt} (hok : TabOk ps) (h2 : 2 ≤ ps.length) {x : Int} (h1 : firstX ps ≤ x) (h3 : x ≤ lastX ps) : ∃ k, k + 1 < ps.length ∧ (pt ps k).x ≤ x ∧ x ≤ (pt ps (k + 1)).x := by
  obtain ⟨k, hk, hp⟩ := piece_exists hok h1 h3
  have hlen : ¬ps.length = 1 := by omega
  rw [show pieceAt ps k = (pt ps k, pt ps (k + 1)) from if_neg hlen] at hp
  rw [show nPieces ps = ps.length - 1 from if_neg hlen] at hk
  exact ⟨k, by omega, hp.1, hp.2⟩

theorem atS_mono {ps : List Pt} {s : Int} (hs : s = 1 ∨ s = -1) (ht : Tab2 ps) (hm : mono ps s) {x y : Int} (h1 : firstX ps ≤ x) (hxy : x ≤ y) (h3 : y ≤ lastX ps) :
    goes s (atS ps x).lo (atS ps y).lo ∧ goes s (atS ps x).hi (atS ps y).hi := by
  have hok := ht.ok
  obtain ⟨k, k1, k2, k3⟩ := piece_of hok ht.two h1 (show x ≤ lastX ps by omega)
  obtain ⟨l, l1, l2, l3⟩ := piece_of hok ht.two (show firstX ps ≤ y by omega) h3
  have hklt := hok.lt (k + 1) k (by omega) k1
  have hllt := hok.lt (l + 1) l (by omega) l1
  obtain ⟨g1, g2⟩ := pt_mono hs hm (k + 1) k (by omega) k1
  obtain ⟨m1, m2⟩ := pt_mono hs hm (l + 1) l (by omega) l1
  by_cases e : k = l
  · subst e
    rw [atS_seg hok k1 k2 k3, atS_seg hok k1 l2 l3]
    exact seg_goes hs _ _ x y hklt hxy g1 g2
  · by_cases e2 : k < l
    · rw [atS_seg hok k1 k2 k3, atS_seg hok l1 l2 l3]
      obtain ⟨n1, n2⟩ := pt_mono hs hm l (k + 1) (by omega) (by omega)
      obtain ⟨a1, a2⟩ := seg_goes hs _ _ x _ hklt k3 g1 g2
      obtain ⟨b1, b2⟩ := seg_goes hs _ _ _ y hllt l2 m1 m2
      obtain ⟨p1, p2⟩ := seg_end _ _ hklt
      obtain ⟨q1, q2⟩ := seg_start _ _ hllt
      rw [p1] at a1; rw [p2] at a2; rw [q1] at b1; rw [q2] at b2
      simp only [goes_iff hs] at *
      omega
    · have exy : x = y := by
        by_cases e3 : l + 1 = k
        · subst e3; omega
        · have := hok.lt k (l + 1) (by omega) (by omega); omega
      rw [exy, goes_iff hs, goes_iff hs]; omega

theorem atE_in {ps : List Pt} (hok : TabOk ps) {x : Int} (h1 : firstX ps ≤ x) (h2 : x ≤ lastX ps) : (atE ps x).1 = atS ps x := by
  unfold atE; rw [if_pos hok, if_pos ⟨h1, h2⟩]

/-- The tests of a table that falls, and of one that rises. -/
theorem ways_down {ps : List Pt} (ht : Tab2 ps) (hm : mono ps (-1)) (v : Rg) : Ways (moreB ps v) (lessB ps v) (firstX ps) (lastX ps) := by
  constructor
  · intro x y h1 h2 h3 hx
    obtain ⟨_, a2⟩ := atS_mono (.inr rfl) ht hm h1 h2 h3
    rw [goes_iff (.inr rfl)] at a2
    simp only [lessB, decide_eq_true_eq] at hx ⊢
    rw [atE_in ht.ok (by omega) (by omega)] at hx ⊢
    omega
  · intro x y h1 h2 h3 hx
    obtain ⟨a1, _⟩ := atS_mono (.inr rfl) ht hm h1 h2 h3
    rw [goes_iff (.inr rfl)] at a1
    simp only [moreB, decide_eq_true_eq] at hx ⊢
    rw [atE_in ht.ok (by omega) (by omega)] at hx ⊢
    omega
theorem ways_up {ps : List Pt} (ht : Tab2 ps) (hm : mono ps 1) (v : Rg) : Ways (lessB ps v) (moreB ps v) (firstX ps) (lastX ps) := by
  constructor
  · intro x y h1 h2 h3 hx
    obtain ⟨a1, _⟩ := atS_mono (.inl rfl) ht hm h1 h2 h3
    rw [goes_iff (.inl rfl)] at a1
    simp only [moreB, decide_eq_true_eq] at hx ⊢
    rw [atE_in ht.ok (by omega) (by omega)] at hx ⊢
    omega
  · intro x y h1 h2 h3 hx
    obtain ⟨_, a2⟩ := atS_mono (.inl rfl) ht hm h1 h2 h3
    rw [goes_iff (.inl rfl)] at a2
    simp only [lessB, decide_eq_true_eq] at hx ⊢
    rw [atE_in ht.ok (by omega) (by omega)] at hx ⊢
    omega

end Go.Proofs.YteagdcgmmdiakaaGreat
