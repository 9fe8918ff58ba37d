/-
  hold: search, and inverse's closures.
  Conditions: each theorem's own premises.
-/
import Derived.Test.YtbjdgaeikihjbaaAt
import Derived.Test.YtbjdgaeikihjbaaTabs
namespace Go.Proofs.Ytbjdgaeikihjbaa
set_option linter.unusedSimpArgs false
set_option linter.unusedVariables false
open Go.RowKit
set_option maxRecDepth 100000
set_option maxHeartbeats 1000000
attribute [local go_sem] Instr.field asAgg Soft.upon Soft.BW.cell_if Soft.BW.frozen_if Soft.cell_alloc_if Soft.frozen_alloc_if


theorem search_less (p v : Addr) (q : Int → Bool) (a b r : Int) (w : World) (ha : -1000000000 ≤ a) (hb : b ≤ 1000000000) (hab : a ≤ b + 1) (h1 : a ≤ r) (h2 : r ≤ b + 1)
    (hno : ∀ x, a ≤ x → x < r → q x = false) (hyes : ∀ x, r ≤ x → x ≤ b → q x = true)
    (hq : ∀ (x : Int) (w' : World), a ≤ x → x ≤ b → Below w.heap.size w w' → Calls Try.prog 118 #[.int .i64 x, .pointer (some p), .pointer (some v)] w' fun e w'' => e = .returned (.bool (q x)) ∧ Below w'.heap.size w' w'') :
    Calls Try.prog 119 #[.int .i64 a, .int .i64 b, .func (.func 118) #[] #[.pointer (some p), .pointer (some v)]] w fun e w' => e = .returned (.int .i64 r) ∧ Below w.heap.size w w' := by
  have HNO := Lib.hid hno; have HYES := Lib.hid hyes; have HQ := Lib.hid hq
  clear hno hyes hq
  go_enter Try.func119, Try.ntmps119
  go_wp2_with fail
  go_loopw [0, 1] (fun i j wr => ∃ c d : Int, a ≤ c ∧ c ≤ r ∧ r ≤ d ∧ d ≤ b + 1 ∧ i = .int .i64 c ∧ j = .int .i64 d ∧ Below w.heap.size w wr) (fun i j _ => (intOf j - intOf i).toNat)
  case atStart => exact ⟨a, b + 1, by omega, h1, h2, by omega, rfl, rfl, Below.refl _ _⟩
  case round =>
    obtain ⟨c, d, hc1, hc2, hd1, hd2, rfl, rfl, hB⟩ := hrel
    by_cases hlt : c < d
    · have hm : (d - c).tdiv 2 = (d - c) / 2 := Int.tdiv_eq_ediv_of_nonneg (by omega)
      have HB := Lib.hid hB; clear hB
      have hm1 : c ≤ c + (d - c) / 2 := by omega
      have hm2 : c + (d - c) / 2 < d := by omega
      generalize hmid : (d - c) / 2 = h at *
      clear hmid
      by_cases hx : q (c + h) = true
      · have hr : r ≤ c + h := by
          apply Classical.byContradiction; intro hn
          have := HNO.out (c + h) (by omega) (by omega)
          rw [this] at hx; cases hx
        have HX := Lib.hid (HQ.out (c + h) wr (by omega) (by omega) HB.out)
        rw [hx] at HX
        clear hx
        go_wp2_with (go_at_call 118; (with_reducible refine (HX.out).mono ?_); rintro e w_ ⟨rfl, hb_⟩; obtain ⟨y1, rfl⟩ := Soft.BW.mk hb_; clear hb_)
        go_roundw
        case rel => exact ⟨c, c + h, by omega, by omega, by omega, by omega, rfl, rfl, HB.out.trans (y1.below.mono HB.out.size)⟩
        case measure => simp [intOf]; omega
      · have hx' : q (c + h) = false := by simpa using hx
        clear hx
        have hr : c + h < r := by
          apply Classical.byContradiction; intro hn
          have := HYES.out (c + h) (by omega) (by omega)
          rw [this] at hx'; cases hx'
        have HX := Lib.hid (HQ.out (c + h) wr (by omega) (by omega) HB.out)
        rw [hx'] at HX
        clear hx'
        go_wp2_with (go_at_call 118; (with_reducible refine (HX.out).mono ?_); rintro e w_ ⟨rfl, hb_⟩; obtain ⟨y1, rfl⟩ := Soft.BW.mk hb_; clear hb_)
        go_roundw
        case rel => exact ⟨c + h + 1, d, by omega, by omega, by omega, by omega, by simp, rfl, HB.out.trans (y1.below.mono HB.out.size)⟩
        case measure => simp [intOf]; omega
    · obtain rfl : c = r := by omega
      have HB := Lib.hid hB; clear hB
      go_wp2_with fail
      go_ret
      exact ⟨rfl, HB.out⟩
theorem search_more (p v : Addr) (q : Int → Bool) (a b r : Int) (w : World) (ha : -1000000000 ≤ a) (hb : b ≤ 1000000000) (hab : a ≤ b + 1) (h1 : a ≤ r) (h2 : r ≤ b + 1)
    (hno : ∀ x, a ≤ x → x < r → q x = false) (hyes : ∀ x, r ≤ x → x ≤ b → q x = true)
    (hq : ∀ (x : Int) (w' : World), a ≤ x → x ≤ b → Below w.heap.size w w' → Calls Try.prog 117 #[.int .i64 x, .pointer (some p), .pointer (some v)] w' fun e w'' => e = .returned (.bool (q x)) ∧ Below w'.heap.size w' w'') :
    Calls Try.prog 119 #[.int .i64 a, .int .i64 b, .func (.func 117) #[] #[.pointer (some p), .pointer (some v)]] w fun e w' => e = .returned (.int .i64 r) ∧ Below w.heap.size w w' := by
  have HNO := Lib.hid hno; have HYES := Lib.hid hyes; have HQ := Lib.hid hq
  clear hno hyes hq
  go_enter Try.func119, Try.ntmps119
  go_wp2_with fail
  go_loopw [0, 1] (fun i j wr => ∃ c d : Int, a ≤ c ∧ c ≤ r ∧ r ≤ d ∧ d ≤ b + 1 ∧ i = .int .i64 c ∧ j = .int .i64 d ∧ Below w.heap.size w wr) (fun i j _ => (intOf j - intOf i).toNat)
  case atStart => exact ⟨a, b + 1, by omega, h1, h2, by omega, rfl, rfl, Below.refl _ _⟩
  case round =>
    obtain ⟨c, d, hc1, hc2, hd1, hd2, rfl, rfl, hB⟩ := hrel
    by_cases hlt : c < d
    · have hm : (d - c).tdiv 2 = (d - c) / 2 := Int.tdiv_eq_ediv_of_nonneg (by omega)
      have HB := Lib.hid hB; clear hB
      have hm1 : c ≤ c + (d - c) / 2 := by omega
      have hm2 : c + (d - c) / 2 < d := by omega
      generalize hmid : (d - c) / 2 = h at *
      clear hmid
      by_cases hx : q (c + h) = true
      · have hr : r ≤ c + h := by
          apply Classical.byContradiction; intro hn
          have := HNO.out (c + h) (by omega) (by omega)
          rw [this] at hx; cases hx
        have HX := Lib.hid (HQ.out (c + h) wr (by omega) (by omega) HB.out)
        rw [hx] at HX
        clear hx
        go_wp2_with (go_at_call 117; (with_reducible refine (HX.out).mono ?_); rintro e w_ ⟨rfl, hb_⟩; obtain ⟨y1, rfl⟩ := Soft.BW.mk hb_; clear hb_)
        go_roundw
        case rel => exact ⟨c, c + h, by omega, by omega, by omega, by omega, rfl, rfl, HB.out.trans (y1.below.mono HB.out.size)⟩
        case measure => simp [intOf]; omega
      · have hx' : q (c + h) = false := by simpa using hx
        clear hx
        have hr : c + h < r := by
          apply Classical.byContradiction; intro hn
          have := HYES.out (c + h) (by omega) (by omega)
          rw [this] at hx'; cases hx'
        have HX := Lib.hid (HQ.out (c + h) wr (by omega) (by omega) HB.out)
        rw [hx'] at HX
        clear hx'
        go_wp2_with (go_at_call 117; (with_reducible refine (HX.out).mono ?_); rintro e w_ ⟨rfl, hb_⟩; obtain ⟨y1, rfl⟩ := Soft.BW.mk hb_; clear hb_)
        go_roundw
        case rel => exact ⟨c + h + 1, d, by omega, by omega, by omega, by omega, by simp, rfl, HB.out.trans (y1.below.mono HB.out.size)⟩
        case measure => simp [intOf]; omega
    · obtain rfl : c = r := by omega
      have HB := Lib.hid hB; clear hB
      go_wp2_with fail
      go_ret
      exact ⟨rfl, HB.out⟩
theorem search_not (p : Addr) (q : Int → Bool) (a b r : Int) (w : World) (ha : -1000000000 ≤ a) (hb : b ≤ 1000000000) (hab : a ≤ b + 1) (h1 : a ≤ r) (h2 : r ≤ b + 1)
    (hno : ∀ x, a ≤ x → x < r → q x = false) (hyes : ∀ x, r ≤ x → x ≤ b → q x = true)
    (hq : ∀ (x : Int) (w' : World), a ≤ x → x ≤ b → Below w.heap.size w w' → Calls Try.prog 120 #[.int .i64 x, .pointer (some p)] w' fun e w'' => e = .returned (.bool (q x)) ∧ Below w'.heap.size w' w'') :
    Calls Try.prog 119 #[.int .i64 a, .int .i64 b, .func (.func 120) #[] #[.pointer (some p)]] w fun e w' => e = .returned (.int .i64 r) ∧ Below w.heap.size w w' := by
  have HNO := Lib.hid hno; have HYES := Lib.hid hyes; have HQ := Lib.hid hq
  clear hno hyes hq
  go_enter Try.func119, Try.ntmps119
  go_wp2_with fail
  go_loopw [0, 1] (fun i j wr => ∃ c d : Int, a ≤ c ∧ c ≤ r ∧ r ≤ d ∧ d ≤ b + 1 ∧ i = .int .i64 c ∧ j = .int .i64 d ∧ Below w.heap.size w wr) (fun i j _ => (intOf j - intOf i).toNat)
  case atStart => exact ⟨a, b + 1, by omega, h1, h2, by omega, rfl, rfl, Below.refl _ _⟩
  case round =>
    obtain ⟨c, d, hc1, hc2, hd1, hd2, rfl, rfl, hB⟩ := hrel
    by_cases hlt : c < d
    · have hm : (d - c).tdiv 2 = (d - c) / 2 := Int.tdiv_eq_ediv_of_nonneg (by omega)
      have HB := Lib.hid hB; clear hB
      have hm1 : c ≤ c + (d - c) / 2 := by omega
      have hm2 : c + (d - c) / 2 < d := by omega
      generalize hmid : (d - c) / 2 = h at *
      clear hmid
      by_cases hx : q (c + h) = true
      · have hr : r ≤ c + h := by
          apply Classical.byContradiction; intro hn
          have := HNO.out (c + h) (by omega) (by omega)
          rw [this] at hx; cases hx
        have HX := Lib.hid (HQ.out (c + h) wr (by omega) (by omega) HB.out)
        rw [hx] at HX
        clear hx
        go_wp2_with (go_at_call 120; (with_reducible refine (HX.out).mono ?_); rintro e w_ ⟨rfl, hb_⟩; obtain ⟨y1, rfl⟩ := Soft.BW.mk hb_; clear hb_)
        go_roundw
        case rel => exact ⟨c, c + h, by omega, by omega, by omega, by omega, rfl, rfl, HB.out.trans (y1.below.mono HB.out.size)⟩
        case measure => simp [intOf]; omega
      · have hx' : q (c + h) = false := by simpa using hx
        clear hx
        have hr : c + h < r := by
          apply Classical.byContradiction; intro hn
          have := HYES.out (c + h) (by omega) (by omega)
          rw [this] at hx'; cases hx'
        have HX := Lib.hid (HQ.out (c + h) wr (by omega) (by omega) HB.out)
        rw [hx'] at HX
        clear hx'
        go_wp2_with (go_at_call 120; (with_reducible refine (HX.out).mono ?_); rintro e w_ ⟨rfl, hb_⟩; obtain ⟨y1, rfl⟩ := Soft.BW.mk hb_; clear hb_)
        go_roundw
        case rel => exact ⟨c + h + 1, d, by omega, by omega, by omega, by omega, by simp, rfl, HB.out.trans (y1.below.mono HB.out.size)⟩
        case measure => simp [intOf]; omega
    · obtain rfl : c = r := by omega
      have HB := Lib.hid hB; clear hB
      go_wp2_with fail
      go_ret
      exact ⟨rfl, HB.out⟩
theorem search_worst (p v : Addr) (q : Int → Bool) (a b r : Int) (w : World) (ha : -1000000000 ≤ a) (hb : b ≤ 1000000000) (hab : a ≤ b + 1) (h1 : a ≤ r) (h2 : r ≤ b + 1)
    (hno : ∀ x, a ≤ x → x < r → q x = false) (hyes : ∀ x, r ≤ x → x ≤ b → q x = true)
    (hq : ∀ (x : Int) (w' : World), a ≤ x → x ≤ b → Below w.heap.size w w' → Calls Try.prog 127 #[.int .i64 x, .pointer (some p), .pointer (some v)] w' fun e w'' => e = .returned (.bool (q x)) ∧ Below w'.heap.size w' w'') :
    Calls Try.prog 119 #[.int .i64 a, .int .i64 b, .func (.func 127) #[] #[.pointer (some p), .pointer (some v)]] w fun e w' => e = .returned (.int .i64 r) ∧ Below w.heap.size w w' := by
  have HNO := Lib.hid hno; have HYES := Lib.hid hyes; have HQ := Lib.hid hq
  clear hno hyes hq
  go_enter Try.func119, Try.ntmps119
  go_wp2_with fail
  go_loopw [0, 1] (fun i j wr => ∃ c d : Int, a ≤ c ∧ c ≤ r ∧ r ≤ d ∧ d ≤ b + 1 ∧ i = .int .i64 c ∧ j = .int .i64 d ∧ Below w.heap.size w wr) (fun i j _ => (intOf j - intOf i).toNat)
  case atStart => exact ⟨a, b + 1, by omega, h1, h2, by omega, rfl, rfl, Below.refl _ _⟩
  case round =>
    obtain ⟨c, d, hc1, hc2, hd1, hd2, rfl, rfl, hB⟩ := hrel
    by_cases hlt : c < d
    · have hm : (d - c).tdiv 2 = (d - c) / 2 := Int.tdiv_eq_ediv_of_nonneg (by omega)
      have HB := Lib.hid hB; clear hB
      have hm1 : c ≤ c + (d - c) / 2 := by omega
      have hm2 : c + (d - c) / 2 < d := by omega
      generalize hmid : (d - c) / 2 = h at *
      clear hmid
      by_cases hx : q (c + h) = true
      · have hr : r ≤ c + h := by
          apply Classical.byContradiction; intro hn
          have := HNO.out (c + h) (by omega) (by omega)
          rw [this] at hx; cases hx
        have HX := Lib.hid (HQ.out (c + h) wr (by omega) (by omega) HB.out)
        rw [hx] at HX
        clear hx
        go_wp2_with (go_at_call 127; (with_reducible refine (HX.out).mono ?_); rintro e w_ ⟨rfl, hb_⟩; obtain ⟨y1, rfl⟩ := Soft.BW.mk hb_; clear hb_)
        go_roundw
        case rel => exact ⟨c, c + h, by omega, by omega, by omega, by omega, rfl, rfl, HB.out.trans (y1.below.mono HB.out.size)⟩
        case measure => simp [intOf]; omega
      · have hx' : q (c + h) = false := by simpa using hx
        clear hx
        have hr : c + h < r := by
          apply Classical.byContradiction; intro hn
          have := HYES.out (c + h) (by omega) (by omega)
          rw [this] at hx'; cases hx'
        have HX := Lib.hid (HQ.out (c + h) wr (by omega) (by omega) HB.out)
        rw [hx'] at HX
        clear hx'
        go_wp2_with (go_at_call 127; (with_reducible refine (HX.out).mono ?_); rintro e w_ ⟨rfl, hb_⟩; obtain ⟨y1, rfl⟩ := Soft.BW.mk hb_; clear hb_)
        go_roundw
        case rel => exact ⟨c + h + 1, d, by omega, by omega, by omega, by omega, by simp, rfl, HB.out.trans (y1.below.mono HB.out.size)⟩
        case measure => simp [intOf]; omega
    · obtain rfl : c = r := by omega
      have HB := Lib.hid hB; clear hB
      go_wp2_with fail
      go_ret
      exact ⟨rfl, HB.out⟩

def moreB (ps : List Pt) (v : Rg) (x : Int) : Bool := decide (v.hi < (atE ps x).1.lo)
def lessB (ps : List Pt) (v : Rg) (x : Int) : Bool := decide ((atE ps x).1.hi < v.lo)

theorem inverse_more (t : Tb) (v : Rg) (Bt Bv : Nat) (x : Int) (w : World) (ht : t.At w) (hT : HasBlk w Bt #[.slice (t).p (t).n (t).c] 33) (hV : HasBlk w Bv #[.int .i64 (v).lo, .int .i64 (v).hi] 30) (r : Bool) (hr : r = moreB t.ps v x) :
    Calls Try.prog 117 #[.int .i64 x, .pointer (some ⟨Bt, 0, none⟩), .pointer (some ⟨Bv, 0, none⟩)] w fun e w' => e = .returned (.bool r) ∧ Below w.heap.size w w' := by
  have c1 := hT.cell 0
  have c2 := hV.cell 0
  have c3 := hV.cell 1
  have l1 := Soft.LtH.mk (w := w) hT.lt
  have l2 := Soft.LtH.mk (w := w) hV.lt
  simp at c1 c2 c3
  clear hT hV
  have HR := Lib.hid hr; clear hr
  go_enter Try.func117, Try.ntmps117
  go_wp2_with (go_at_call 86; (with_reducible refine (fix_At t x _ (by repeat (first | exact ht | refine Tb.At.alloc ?_ _ | refine Tb.At.bw ?_ _))).mono ?_); rintro e w_ ⟨rfl, hb_⟩; obtain ⟨y1, rfl⟩ := Soft.BW.mk hb_; clear hb_)
  go_ret
  refine ⟨ret_bool ?_, ?_⟩
  · rw [HR.out]; rfl
  · (repeat (first | with_reducible exact bel_refl _ | with_reducible refine bel_alloc ?_ _ | with_reducible refine bel_bw _ ?_ | with_reducible refine bel_drew ?_ | with_reducible refine bel_drewN _ ?_ | ((with_reducible refine bel_set ?_ ?_ _); rotate_left; focus (first | (simp; done) | omega | (simp; omega))) | refine bel_step ?_ (by with_reducible assumption)))

theorem inverse_less (t : Tb) (v : Rg) (Bt Bv : Nat) (x : Int) (w : World) (ht : t.At w) (hT : HasBlk w Bt #[.slice (t).p (t).n (t).c] 33) (hV : HasBlk w Bv #[.int .i64 (v).lo, .int .i64 (v).hi] 30) (r : Bool) (hr : r = lessB t.ps v x) :
    Calls Try.prog 118 #[.int .i64 x, .pointer (some ⟨Bt, 0, none⟩), .pointer (some ⟨Bv, 0, none⟩)] w fun e w' => e = .returned (.bool r) ∧ Below w.heap.size w w' := by
  have c1 := hT.cell 0
  have c2 := hV.cell 0
  have c3 := hV.cell 1
  have l1 := Soft.LtH.mk (w := w) hT.lt
  have l2 := Soft.LtH.mk (w := w) hV.lt
  simp at c1 c2 c3
  clear hT hV
  have HR := Lib.hid hr; clear hr
  go_enter Try.func118, Try.ntmps118
  go_wp2_with (go_at_call 86; (with_reducible refine (fix_At t x _ (by repeat (first | exact ht | refine Tb.At.alloc ?_ _ | refine Tb.At.bw ?_ _))).mono ?_); rintro e w_ ⟨rfl, hb_⟩; obtain ⟨y1, rfl⟩ := Soft.BW.mk hb_; clear hb_)
  go_ret
  refine ⟨ret_bool ?_, ?_⟩
  · rw [HR.out]; rfl
  · (repeat (first | with_reducible exact bel_refl _ | with_reducible refine bel_alloc ?_ _ | with_reducible refine bel_bw _ ?_ | with_reducible refine bel_drew ?_ | with_reducible refine bel_drewN _ ?_ | ((with_reducible refine bel_set ?_ ?_ _); rotate_left; focus (first | (simp; done) | omega | (simp; omega))) | refine bel_step ?_ (by with_reducible assumption)))

theorem inverse_not_more (t : Tb) (v : Rg) (Bt Bv Bf : Nat) (x : Int) (w : World) (ht : t.At w) (hT : HasBlk w Bt #[.slice (t).p (t).n (t).c] 33) (hV : HasBlk w Bv #[.int .i64 (v).lo, .int .i64 (v).hi] 30)
    (hF : HasBlk w Bf #[.func (.func 117) #[] #[.pointer (some ⟨Bt, 0, none⟩), .pointer (some ⟨Bv, 0, none⟩)]] 52) (r : Bool) (hr : r = !moreB t.ps v x) :
    Calls Try.prog 120 #[.int .i64 x, .pointer (some ⟨Bf, 0, none⟩)] w fun e w' => e = .returned (.bool r) ∧ Below w.heap.size w w' := by
  have c1 := hF.cell 0
  simp at c1
  have HR := Lib.hid hr; clear hr
  go_enter Try.func120, Try.ntmps120
  go_wp2_with (go_at_call 117; (with_reducible refine (inverse_more t v _ _ _ _ ht hT hV _ rfl).mono ?_); rintro e w_ ⟨rfl, hb_⟩; obtain ⟨y1, rfl⟩ := Soft.BW.mk hb_; clear hb_)
  go_ret
  refine ⟨ret_bool ?_, ?_⟩
  · rw [HR.out]
  · (repeat (first | with_reducible exact bel_refl _ | with_reducible refine bel_alloc ?_ _ | with_reducible refine bel_bw _ ?_ | with_reducible refine bel_drew ?_ | with_reducible refine bel_drewN _ ?_ | ((with_reducible refine bel_set ?_ ?_ _); rotate_left; focus (first | (simp; done) | omega | (simp; omega))) | refine bel_step ?_ (by with_reducible assumption)))
theorem inverse_not_less (t : Tb) (v : Rg) (Bt Bv Bf : Nat) (x : Int) (w : World) (ht : t.At w) (hT : HasBlk w Bt #[.slice (t).p (t).n (t).c] 33) (hV : HasBlk w Bv #[.int .i64 (v).lo, .int .i64 (v).hi] 30)
    (hF : HasBlk w Bf #[.func (.func 118) #[] #[.pointer (some ⟨Bt, 0, none⟩), .pointer (some ⟨Bv, 0, none⟩)]] 52) (r : Bool) (hr : r = !lessB t.ps v x) :
    Calls Try.prog 120 #[.int .i64 x, .pointer (some ⟨Bf, 0, none⟩)] w fun e w' => e = .returned (.bool r) ∧ Below w.heap.size w w' := by
  have c1 := hF.cell 0
  simp at c1
  have HR := Lib.hid hr; clear hr
  go_enter Try.func120, Try.ntmps120
  go_wp2_with (go_at_call 118; (with_reducible refine (inverse_less t v _ _ _ _ ht hT hV _ rfl).mono ?_); rintro e w_ ⟨rfl, hb_⟩; obtain ⟨y1, rfl⟩ := Soft.BW.mk hb_; clear hb_)
  go_ret
  refine ⟨ret_bool ?_, ?_⟩
  · rw [HR.out]
  · (repeat (first | with_reducible exact bel_refl _ | with_reducible refine bel_alloc ?_ _ | with_reducible refine bel_bw _ ?_ | with_reducible refine bel_drew ?_ | with_reducible refine bel_drewN _ ?_ | ((with_reducible refine bel_set ?_ ?_ _); rotate_left; focus (first | (simp; done) | omega | (simp; omega))) | refine bel_step ?_ (by with_reducible assumption)))

/-- The first place, from a on, of which a test is true. -/
def firstS (q : Int → Bool) : Nat → Int → Int
  | 0, a => a
  | n + 1, a => if q a then a else firstS q n (a + 1)
def searchS (q : Int → Bool) (a b : Int) : Int := firstS q (b + 1 - a).toNat a

theorem firstS_spec (q : Int → Bool) : ∀ (n : Nat) (a : Int), a ≤ firstS q n a ∧ firstS q n a ≤ a + n ∧ (∀ x, a ≤ x → x < firstS q n a → q x = false) ∧ (firstS q n a < a + n → q (firstS q n a) = true)
  | 0, a => ⟨Int.le_refl _, by simp [firstS], fun x h1 h2 => by simp [firstS] at h2; omega, fun h => by simp [firstS] at h⟩
  | n + 1, a => by
    unfold firstS
    by_cases h : q a = true
    · rw [if_pos h]; exact ⟨Int.le_refl _, by omega, fun x h1 h2 => by omega, fun _ => h⟩
    · rw [if_neg h]
      obtain ⟨a1, a2, a3, a4⟩ := firstS_spec q n (a + 1)
      refine ⟨by omega, by omega, fun x h1 h2 => ?_, fun hh => a4 (by omega)⟩
      by_cases e : x = a
      · rw [e]; simpa using h
      · exact a3 x (by omega) h2

theorem searchS_spec {q : Int → Bool} {a b : Int} (hab : a ≤ b + 1) (hm : ∀ x y, a ≤ x → x ≤ y → y ≤ b → q x = true → q y = true) :
    a ≤ searchS q a b ∧ searchS q a b ≤ b + 1 ∧ (∀ x, a ≤ x → x < searchS q a b → q x = false) ∧ (∀ x, searchS q a b ≤ x → x ≤ b → q x = true) := by
  obtain ⟨a1, a2, a3, a4⟩ := firstS_spec q (b + 1 - a).toNat a
  change a ≤ searchS q a b at a1
  change searchS q a b ≤ _ at a2
  change ∀ x, a ≤ x → x < searchS q a b → _ at a3
  change searchS q a b < _ → q (searchS q a b) = true at a4
  exact ⟨a1, by omega, a3, fun x h1 h2 => hm _ _ a1 h1 h2 (a4 (by omega))⟩

def invS (ahead behind : Int → Bool) (first last : Int) : Rg × Bool :=
  if ahead last = true ∨ behind first = true then (⟨0, 0⟩, false) else (⟨max (searchS (fun x => !ahead x) first last - 1) first, min (searchS behind first last) last⟩, true)

end Go.Proofs.Ytbjdgaeikihjbaa
