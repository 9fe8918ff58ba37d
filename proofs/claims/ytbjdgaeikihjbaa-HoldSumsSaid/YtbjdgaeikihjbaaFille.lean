/-
  CheckFill.
  Conditions: each theorem's own premises.
-/
import Derived.Test.YtbjdgaeikihjbaaFill
namespace Go.Proofs.Ytbjdgaeikihjbaa
set_option linter.unusedSimpArgs false
set_option linter.unusedVariables false
open Go.RowKit
attribute [local go_sem] Soft.upon Soft.BW.cell_if Soft.BW.frozen_if Soft.cell_alloc_if Soft.frozen_alloc_if

/-- What a valid fill of a hold is. -/
def FillIn (h : Ho) (f : Fi) : Prop := f.hold = h.id ∧ ((f.state = 0 ∧ f.ull = ⟨0, 0⟩ ∧ f.den = ⟨0, 0⟩) ∨ ((f.state = 1 ∨ f.state = 2) ∧ f.ull = ⟨0, 0⟩ ∧ isDen f.den) ∨ ((3 ≤ f.state ∧ f.state ≤ 5) ∧ isPart f.ull (firstX h.vol.ps) (lastX h.vol.ps) ∧ isDen f.den))
instance (h : Ho) (f : Fi) : Decidable (FillIn h f) := inferInstanceAs (Decidable (_ ∧ _))
def fillErr (h : Ho) (f : Fi) : Int := if HoldOk h then (if FillIn h f then 0 else 22) else 20

theorem st_class (n : Int) : (n = 0 ∧ ∃ m : FuncId, stIs n true false false (.func (.func m) #[] #[])) ∨ ((n = 1 ∨ n = 2) ∧ ∃ m : FuncId, stIs n true true false (.func (.func m) #[] #[])) ∨ ((3 ≤ n ∧ n ≤ 5) ∧ ∃ m : FuncId, stIs n true false true (.func (.func m) #[] #[])) ∨ (¬(0 ≤ n ∧ n ≤ 5) ∧ stIs n false false false .nilFunc) := by
  by_cases h0 : n = 0
  · subst h0; exact .inl ⟨rfl, _, .inl ⟨rfl, rfl, rfl, rfl, rfl⟩⟩
  by_cases h1 : n = 1
  · subst h1; exact .inr (.inl ⟨.inl rfl, _, .inr (.inl ⟨rfl, rfl, rfl, rfl, rfl⟩)⟩)
  by_cases h2 : n = 2
  · subst h2; exact .inr (.inl ⟨.inr rfl, _, .inr (.inr (.inl ⟨rfl, rfl, rfl, rfl, rfl⟩))⟩)
  by_cases h3 : n = 3
  · subst h3; exact .inr (.inr (.inl ⟨by omega, _, .inr (.inr (.inr (.inl ⟨rfl, rfl, rfl, rfl, rfl⟩)))⟩))
  by_cases h4 : n = 4
  · subst h4; exact .inr (.inr (.inl ⟨by omega, _, .inr (.inr (.inr (.inr (.inl ⟨rfl, rfl, rfl, rfl, rfl⟩))))⟩))
  by_cases h5 : n = 5
  · subst h5; exact .inr (.inr (.inl ⟨by omega, _, .inr (.inr (.inr (.inr (.inr (.inl ⟨rfl, rfl, rfl, rfl, rfl⟩)))))⟩))
  · exact .inr (.inr (.inr ⟨by omega, .inr (.inr (.inr (.inr (.inr (.inr ⟨by omega, rfl, rfl, rfl, rfl⟩)))))⟩))

theorem rg_iff (a : Rg) (x y : Int) : a = ⟨x, y⟩ ↔ a.lo = x ∧ a.hi = y := by
  cases a; simp
theorem fillErr_val (h : Ho) (f : Fi) (h0 : HoldOk h) (e : Int)
    (hp : (e = 0 ∧ (f.hold = h.id ∧ ((f.state = 0 ∧ (f.ull.lo = 0 ∧ f.ull.hi = 0) ∧ (f.den.lo = 0 ∧ f.den.hi = 0)) ∨ ((f.state = 1 ∨ f.state = 2) ∧ (f.ull.lo = 0 ∧ f.ull.hi = 0) ∧ isPart f.den 100 2000) ∨ ((3 ≤ f.state ∧ f.state ≤ 5) ∧ isPart f.ull (firstX h.vol.ps) (lastX h.vol.ps) ∧ isPart f.den 100 2000)))) ∨
      (e = 22 ∧ ¬(f.hold = h.id ∧ ((f.state = 0 ∧ (f.ull.lo = 0 ∧ f.ull.hi = 0) ∧ (f.den.lo = 0 ∧ f.den.hi = 0)) ∨ ((f.state = 1 ∨ f.state = 2) ∧ (f.ull.lo = 0 ∧ f.ull.hi = 0) ∧ isPart f.den 100 2000) ∨ ((3 ≤ f.state ∧ f.state ≤ 5) ∧ isPart f.ull (firstX h.vol.ps) (lastX h.vol.ps) ∧ isPart f.den 100 2000))))) : e = fillErr h f := by
  unfold fillErr
  rw [if_pos h0]
  rw [← rg_iff, ← rg_iff] at hp
  rcases hp with ⟨rfl, hp⟩ | ⟨rfl, hp⟩
  · exact (if_pos hp).symm
  · exact (if_neg hp).symm


set_option maxRecDepth 100000 in
set_option maxHeartbeats 8000000 in
theorem hold_CheckFill (h : Ho) (f : Fi) (w : World) (hh : h.At w) :
    Calls Try.prog 68 #[.agg #[.int .i64 (h).id, .int .i64 ((h).along).lo, .int .i64 ((h).along).hi, .slice ((h).vol).p ((h).vol).n ((h).vol).c, .slice ((h).mom).p ((h).mom).n ((h).mom).c, .slice ((h).hei).p ((h).hei).n ((h).hei).c, .int .i64 ((h).tri).lo, .int .i64 ((h).tri).hi, .int .i64 ((h).unt).lo, .int .i64 ((h).unt).hi, .int .i64 ((h).v0).lo, .int .i64 ((h).v0).hi, .int .i64 ((h).h0).lo, .int .i64 ((h).h0).hi], .agg #[.int .i64 (f).hold, .int .i64 (f).state, .int .i64 ((f).ull).lo, .int .i64 ((f).ull).hi, .int .i64 ((f).den).lo, .int .i64 ((f).den).hi]] w fun e w' => e = .returned (.int .i64 (fillErr h f)) ∧ Below w.heap.size w w' := by
  by_cases h0 : HoldOk h
  · have hE : holdErr h = 0 := if_pos h0
    have hv := hh.1
    have hn : 1 ≤ h.vol.n := by rw [← hv.1]; exact h0.tabs.1.ok.pos
    have H0 := Lib.hid h0; clear h0
    rcases st_class f.state with ⟨hc, m, hst⟩ | ⟨hc, m, hst⟩ | ⟨hc, m, hst⟩ | ⟨hc, hst⟩
    · have HST := Lib.hid hst; clear hst
      have d2 : (f.state == 0) = true := by rw [hc]; rfl
      have HC := Lib.hid hc; clear hc
      go_enter Try.func68, Try.ntmps68
      go_wp2_with (first | (go_at_call 83; (with_reducible refine (hold_CheckHold h _ (by with_reducible repeat (first | exact hh | refine Ho.At.alloc ?_ _ | refine Ho.At.bw ?_ _ | refine Tk.At.alloc ?_ _ | refine Tk.At.bw ?_ _))).mono ?_); rintro e w_ ⟨rfl, hb_⟩; obtain ⟨y1, rfl⟩ := Soft.BW.mk hb_; clear hb_) | (go_at_call 70; (with_reducible refine (hold_stateOf f.state _ _ _ _ _ HST.out).mono ?_); rintro e w_ ⟨rfl, hb_⟩; obtain ⟨y2, rfl⟩ := Soft.BW.mk hb_; clear hb_) | (go_at_call 101; (with_reducible refine (hold_domain h.vol _ (by repeat (first | exact hv | refine Tb.At.alloc ?_ _ | refine Tb.At.bw ?_ _)) hn).mono ?_); rintro e w_ ⟨rfl, hb_⟩; obtain ⟨y3, rfl⟩ := Soft.BW.mk hb_; clear hb_))
      all_goals
      go_ret
      refine ⟨ret_int (fillErr_val h f H0.out _ ?_), ?_⟩
      rotate_left
      (repeat (first | with_reducible exact bel_refl _ | with_reducible refine bel_alloc ?_ _ | with_reducible refine bel_bw _ ?_ | with_reducible refine bel_drew ?_ | with_reducible refine bel_drewN _ ?_ | ((with_reducible refine bel_set ?_ ?_ _); rotate_left; focus (first | (simp; done) | omega | (simp; omega))) | refine bel_step ?_ (by with_reducible assumption)))
      have hc_ := HC.out
      (try simp only [Bool.not_eq_true', Bool.not_eq_false', decide_eq_true_eq, decide_eq_false_iff_not, true_and, and_true] at *)
      simp only [isDen, isPart] at *
      omega
    · have HST := Lib.hid hst; clear hst
      have d2 : (f.state == 0) = false := by rcases hc with h | h <;> rw [h] <;> rfl
      have HC := Lib.hid hc; clear hc
      go_enter Try.func68, Try.ntmps68
      go_wp2_with (first | (go_at_call 83; (with_reducible refine (hold_CheckHold h _ (by with_reducible repeat (first | exact hh | refine Ho.At.alloc ?_ _ | refine Ho.At.bw ?_ _ | refine Tk.At.alloc ?_ _ | refine Tk.At.bw ?_ _))).mono ?_); rintro e w_ ⟨rfl, hb_⟩; obtain ⟨y1, rfl⟩ := Soft.BW.mk hb_; clear hb_) | (go_at_call 70; (with_reducible refine (hold_stateOf f.state _ _ _ _ _ HST.out).mono ?_); rintro e w_ ⟨rfl, hb_⟩; obtain ⟨y2, rfl⟩ := Soft.BW.mk hb_; clear hb_) | (go_at_call 101; (with_reducible refine (hold_domain h.vol _ (by repeat (first | exact hv | refine Tb.At.alloc ?_ _ | refine Tb.At.bw ?_ _)) hn).mono ?_); rintro e w_ ⟨rfl, hb_⟩; obtain ⟨y3, rfl⟩ := Soft.BW.mk hb_; clear hb_) | (go_at_call 111; (with_reducible refine (hold_isDensity f.den _ _ rfl).mono ?_); rintro e w_ ⟨rfl, hb_⟩; obtain ⟨y4, rfl⟩ := Soft.BW.mk hb_; clear hb_))
      all_goals
      go_ret
      refine ⟨ret_int (fillErr_val h f H0.out _ ?_), ?_⟩
      rotate_left
      (repeat (first | with_reducible exact bel_refl _ | with_reducible refine bel_alloc ?_ _ | with_reducible refine bel_bw _ ?_ | with_reducible refine bel_drew ?_ | with_reducible refine bel_drewN _ ?_ | ((with_reducible refine bel_set ?_ ?_ _); rotate_left; focus (first | (simp; done) | omega | (simp; omega))) | refine bel_step ?_ (by with_reducible assumption)))
      have hc_ := HC.out
      (try simp only [Bool.not_eq_true', Bool.not_eq_false', decide_eq_true_eq, decide_eq_false_iff_not, true_and, and_true] at *)
      simp only [isDen, isPart] at *
      omega
    · have HST := Lib.hid hst; clear hst
      have d2 : (f.state == 0) = false := by
        apply beq_false_of_ne; omega
      have HC := Lib.hid hc; clear hc
      go_enter Try.func68, Try.ntmps68
      go_wp2_with (first | (go_at_call 83; (with_reducible refine (hold_CheckHold h _ (by with_reducible repeat (first | exact hh | refine Ho.At.alloc ?_ _ | refine Ho.At.bw ?_ _ | refine Tk.At.alloc ?_ _ | refine Tk.At.bw ?_ _))).mono ?_); rintro e w_ ⟨rfl, hb_⟩; obtain ⟨y1, rfl⟩ := Soft.BW.mk hb_; clear hb_) | (go_at_call 70; (with_reducible refine (hold_stateOf f.state _ _ _ _ _ HST.out).mono ?_); rintro e w_ ⟨rfl, hb_⟩; obtain ⟨y2, rfl⟩ := Soft.BW.mk hb_; clear hb_) | (go_at_call 101; (with_reducible refine (hold_domain h.vol _ (by repeat (first | exact hv | refine Tb.At.alloc ?_ _ | refine Tb.At.bw ?_ _)) hn).mono ?_); rintro e w_ ⟨rfl, hb_⟩; obtain ⟨y3, rfl⟩ := Soft.BW.mk hb_; clear hb_) | (go_at_call 111; (with_reducible refine (hold_isDensity f.den _ _ rfl).mono ?_); rintro e w_ ⟨rfl, hb_⟩; obtain ⟨y4, rfl⟩ := Soft.BW.mk hb_; clear hb_) | (go_at_call 112; (with_reducible refine (hold_isPart f.ull _ _ _ _ rfl).mono ?_); rintro e w_ ⟨rfl, hb_⟩; obtain ⟨y5, rfl⟩ := Soft.BW.mk hb_; clear hb_))
      all_goals
      go_ret
      refine ⟨ret_int (fillErr_val h f H0.out _ ?_), ?_⟩
      rotate_left
      (repeat (first | with_reducible exact bel_refl _ | with_reducible refine bel_alloc ?_ _ | with_reducible refine bel_bw _ ?_ | with_reducible refine bel_drew ?_ | with_reducible refine bel_drewN _ ?_ | ((with_reducible refine bel_set ?_ ?_ _); rotate_left; focus (first | (simp; done) | omega | (simp; omega))) | refine bel_step ?_ (by with_reducible assumption)))
      have hc_ := HC.out
      (try simp only [Bool.not_eq_true', Bool.not_eq_false', decide_eq_true_eq, decide_eq_false_iff_not, true_and, and_true] at *)
      simp only [isDen, isPart] at *
      omega
    · have HST := Lib.hid hst; clear hst
      have HC := Lib.hid hc; clear hc
      go_enter Try.func68, Try.ntmps68
      go_wp2_with (first | (go_at_call 83; (with_reducible refine (hold_CheckHold h _ (by with_reducible repeat (first | exact hh | refine Ho.At.alloc ?_ _ | refine Ho.At.bw ?_ _ | refine Tk.At.alloc ?_ _ | refine Tk.At.bw ?_ _))).mono ?_); rintro e w_ ⟨rfl, hb_⟩; obtain ⟨y1, rfl⟩ := Soft.BW.mk hb_; clear hb_) | (go_at_call 70; (with_reducible refine (hold_stateOf f.state _ _ _ _ _ HST.out).mono ?_); rintro e w_ ⟨rfl, hb_⟩; obtain ⟨y2, rfl⟩ := Soft.BW.mk hb_; clear hb_) | (go_at_call 101; (with_reducible refine (hold_domain h.vol _ (by repeat (first | exact hv | refine Tb.At.alloc ?_ _ | refine Tb.At.bw ?_ _)) hn).mono ?_); rintro e w_ ⟨rfl, hb_⟩; obtain ⟨y3, rfl⟩ := Soft.BW.mk hb_; clear hb_))
      all_goals
      go_ret
      refine ⟨ret_int (fillErr_val h f H0.out _ ?_), ?_⟩
      rotate_left
      (repeat (first | with_reducible exact bel_refl _ | with_reducible refine bel_alloc ?_ _ | with_reducible refine bel_bw _ ?_ | with_reducible refine bel_drew ?_ | with_reducible refine bel_drewN _ ?_ | ((with_reducible refine bel_set ?_ ?_ _); rotate_left; focus (first | (simp; done) | omega | (simp; omega))) | refine bel_step ?_ (by with_reducible assumption)))
      have hc_ := HC.out
      (try simp only [Bool.not_eq_true', Bool.not_eq_false', decide_eq_true_eq, decide_eq_false_iff_not, true_and, and_true] at *)
      simp only [isDen, isPart] at *
      omega
  · have hE : holdErr h = 20 := if_neg h0
    have hE' : fillErr h f = 20 := if_neg h0
    have HE := Lib.hid hE'; clear h0 hE'
    go_enter Try.func68, Try.ntmps68
    go_wp2_with (go_at_call 83; (with_reducible refine (hold_CheckHold h _ (by with_reducible repeat (first | exact hh | refine Ho.At.alloc ?_ _ | refine Ho.At.bw ?_ _ | refine Tk.At.alloc ?_ _ | refine Tk.At.bw ?_ _))).mono ?_); rintro e w_ ⟨rfl, hb_⟩; obtain ⟨y1, rfl⟩ := Soft.BW.mk hb_; clear hb_)
    go_ret
    refine ⟨ret_int HE.out.symm, ?_⟩
    (repeat (first | with_reducible exact bel_refl _ | with_reducible refine bel_alloc ?_ _ | with_reducible refine bel_bw _ ?_ | with_reducible refine bel_drew ?_ | with_reducible refine bel_drewN _ ?_ | ((with_reducible refine bel_set ?_ ?_ _); rotate_left; focus (first | (simp; done) | omega | (simp; omega))) | refine bel_step ?_ (by with_reducible assumption)))

end Go.Proofs.Ytbjdgaeikihjbaa
