/-
  The reference's Inverse.
  Conditions: each theorem's own premises.
-/
import Derived.Test.YtbjdgaeikihjbaaGreatRfi
import Derived.Test.YtbjdgaeikihjbaaGreatPour
import Derived.Test.YtbjdgaeikihjbaaGreatFirs
namespace Go.Proofs.YtbjdgaeikihjbaaGreat
set_option linter.unusedSimpArgs false
set_option linter.unusedVariables false
open Go.RowKit
set_option maxRecDepth 100000
set_option maxHeartbeats 4000000
attribute [local go_sem] Instr.field asAgg Soft.upon Soft.BW.cell_if Soft.BW.frozen_if Soft.cell_alloc_if Soft.frozen_alloc_if

/-- What the inverse is, as two searches find it. -/
theorem inv_spec {ahead behind : Int → Bool} {a b : Int} (hw : Ways ahead behind a b) (hab : a ≤ b) (n1 : ahead b = false) (n2 : behind a = false) :
    ∃ L H, invS ahead behind a b = (⟨L, H⟩, true) ∧ (ahead a = false → L = a) ∧ (behind b = false → H = b) ∧
      (ahead a = true → a ≤ L ∧ L < b ∧ ∀ x, a ≤ x → x ≤ b → ahead x = decide (x ≤ L)) ∧
      (behind b = true → a < H ∧ H ≤ b ∧ ∀ x, a ≤ x → x ≤ b → behind x = decide (H ≤ x)) := by
  have e : invS ahead behind a b = (⟨max (searchS (fun x => !ahead x) a b - 1) a, min (searchS behind a b) b⟩, true) := if_neg (by simp [n1, n2])
  obtain ⟨s1, s2, s3, s4⟩ := searchS_spec (q := fun x => !ahead x) (a := a) (b := b) (by omega) (fun x y h1 h2 h3 hx => by
    have := hw.dn x y h1 h2 h3
    cases hy : ahead y
    · rfl
    · simp only [this hy] at hx; cases hx)
  obtain ⟨r1, r2, r3, r4⟩ := searchS_spec (q := behind) (a := a) (b := b) (by omega) hw.up
  generalize searchS (fun x => !ahead x) a b = S at *
  generalize searchS behind a b = R at *
  refine ⟨_, _, e, ?_, ?_, ?_, ?_⟩
  · intro h
    have : S ≤ a := by
      apply Classical.byContradiction
      intro hc
      have := s3 a (by omega) (by omega)
      simp [h] at this
    omega
  · intro h
    have : b < R := by
      apply Classical.byContradiction
      intro hc
      have := r4 b (by omega) (by omega)
      rw [h] at this; cases this
    omega
  · intro h
    have h5 : a < S := by
      apply Classical.byContradiction
      intro hc
      have := s4 a (by omega) (by omega)
      simp [h] at this
    have h6 : S ≤ b := by
      apply Classical.byContradiction
      intro hc
      have := s3 b (by omega) (by omega)
      simp [n1] at this
    refine ⟨by omega, by omega, fun x hx1 hx2 => ?_⟩
    by_cases c : x < S
    · have := s3 x hx1 c
      rw [decide_eq_true (show x ≤ max (S - 1) a by omega)]
      simpa using this
    · have := s4 x (by omega) hx2
      rw [decide_eq_false (show ¬x ≤ max (S - 1) a by omega)]
      simpa using this
  · intro h
    have h5 : a < R := by
      apply Classical.byContradiction
      intro hc
      have := r4 a (by omega) (by omega)
      rw [n2] at this; cases this
    have h6 : R ≤ b := by
      apply Classical.byContradiction
      intro hc
      have := r3 b (by omega) (by omega)
      rw [h] at this; cases this
    refine ⟨by omega, by omega, fun x hx1 hx2 => ?_⟩
    by_cases c : x < R
    · rw [decide_eq_false (show ¬min R b ≤ x by omega)]; exact r3 x hx1 c
    · rw [decide_eq_true (show min R b ≤ x by omega)]; exact r4 x (by omega) hx2

theorem R2_Inverse_down (t : Tb) (r : Rg) (w : World) (ht : t.At w) (h2 : Tab2 t.ps) (hw : Ways (moreB t.ps r) (lessB t.ps r) (firstX t.ps) (lastX t.ps)) :
    Calls Tryz.prog 80 #[.agg #[.slice (t).p (t).n (t).c], .agg #[.int .i64 (r).lo, .int .i64 (r).hi], .bool true] w fun e w' => e = .returned (.tuple #[.agg #[.int .i64 ((invDown t.ps r).1).lo, .int .i64 ((invDown t.ps r).1).hi], .bool (invDown t.ps r).2]) ∧ Below w.heap.size w w' := by
  have hn : 1 ≤ t.n := by rw [← ht.1]; exact h2.ok.pos
  obtain ⟨e1, e2, e3⟩ := h2.ok.ends
  have CF := Lib.hid (fun W hW => R2_First t W hW hn)
  have CL := Lib.hid (fun W hW => R2_Last t W hW hn)
  have CA := Lib.hid (fun x v W hW (hx : firstX t.ps ≤ x ∧ x ≤ lastX t.ps) hv => R2_beside t r x true W hW h2 hx v hv)
  have CB := Lib.hid (fun x v W hW (hx : firstX t.ps ≤ x ∧ x ≤ lastX t.ps) hv => R2_beside t r x false W hW h2 hx v hv)
  unfold invDown
  clear h2
  simp only [if_true, Bool.false_eq_true, if_false] at CA CB
  generalize moreB t.ps r = ahead at *
  generalize lessB t.ps r = behind at *
  generalize firstX t.ps = a at *
  generalize lastX t.ps = b at *
  have HW := Lib.hid hw
  clear hw
  cases n1 : ahead b
  · cases n2 : behind a
    · obtain ⟨L, H, hE, f1, f2, f3, f4⟩ := inv_spec HW.out e2 n1 n2
      rw [hE]
      have N1 := Lib.hid n1.symm
      have N2 := Lib.hid n2.symm
      clear hE n1 n2
      cases g1 : ahead a
      · have G1 := Lib.hid g1.symm
        have EC := Lib.hid (f1 g1).symm
        clear f1 f3 g1
        cases g2 : behind b
        · have G2 := Lib.hid g2.symm
          have ED := Lib.hid (f2 g2).symm
          clear f2 f4 g2
          go_enter Tryz.func80, Tryz.ntmps80
          go_wp2_with (first | (go_at_call 98; (with_reducible refine (CF.out _ (by repeat (first | exact ht | refine Tb.At.alloc ?_ _ | refine Tb.At.bw ?_ _))).mono ?_); rintro e w_ ⟨rfl, hb_⟩; obtain ⟨y1, rfl⟩ := Soft.BW.mk hb_; clear hb_) | (go_at_call 90; (with_reducible refine (CL.out _ (by repeat (first | exact ht | refine Tb.At.alloc ?_ _ | refine Tb.At.bw ?_ _))).mono ?_); rintro e w_ ⟨rfl, hb_⟩; obtain ⟨y2, rfl⟩ := Soft.BW.mk hb_; clear hb_) | (go_at_call 110; (with_reducible refine (CA.out b false _ (by repeat (first | exact ht | refine Tb.At.alloc ?_ _ | refine Tb.At.bw ?_ _)) (by omega) N1.out).mono ?_); rintro e w_ ⟨rfl, hb_⟩; obtain ⟨y3, rfl⟩ := Soft.BW.mk hb_; clear hb_) | (go_at_call 110; (with_reducible refine (CB.out a false _ (by repeat (first | exact ht | refine Tb.At.alloc ?_ _ | refine Tb.At.bw ?_ _)) (by omega) N2.out).mono ?_); rintro e w_ ⟨rfl, hb_⟩; obtain ⟨y4, rfl⟩ := Soft.BW.mk hb_; clear hb_) | (go_at_call 110; (with_reducible refine (CA.out a false _ (by repeat (first | exact ht | refine Tb.At.alloc ?_ _ | refine Tb.At.bw ?_ _)) (by omega) G1.out).mono ?_); rintro e w_ ⟨rfl, hb_⟩; obtain ⟨y5, rfl⟩ := Soft.BW.mk hb_; clear hb_) | (go_at_call 110; (with_reducible refine (CB.out b false _ (by repeat (first | exact ht | refine Tb.At.alloc ?_ _ | refine Tb.At.bw ?_ _)) (by omega) G2.out).mono ?_); rintro e w_ ⟨rfl, hb_⟩; obtain ⟨y6, rfl⟩ := Soft.BW.mk hb_; clear hb_))
          rw [← EC.out, ← ED.out]
          refine bodyPost_ret (v := .tuple #[.agg #[.int .i64 a, .int .i64 b], .bool true]) (by simp [results, Tryz.results80, go_sem]) rfl ?_
          refine ⟨rfl, ?_⟩
          (repeat (first | with_reducible exact bel_refl _ | with_reducible refine bel_alloc ?_ _ | with_reducible refine bel_bw _ ?_ | with_reducible refine bel_drew ?_ | with_reducible refine bel_drewN _ ?_ | ((with_reducible refine bel_set ?_ ?_ _); rotate_left; focus (first | (simp; done) | omega | (simp; omega))) | refine bel_step ?_ (by with_reducible assumption)))
        · have G2 := Lib.hid g2.symm
          obtain ⟨j1, j2, F4⟩ := f4 g2
          replace F4 := Lib.hid F4
          clear f2 f4 g2
          go_enter Tryz.func80, Tryz.ntmps80
          go_wp2_with (first | (go_at_call 98; (with_reducible refine (CF.out _ (by repeat (first | exact ht | refine Tb.At.alloc ?_ _ | refine Tb.At.bw ?_ _))).mono ?_); rintro e w_ ⟨rfl, hb_⟩; obtain ⟨y1, rfl⟩ := Soft.BW.mk hb_; clear hb_) | (go_at_call 90; (with_reducible refine (CL.out _ (by repeat (first | exact ht | refine Tb.At.alloc ?_ _ | refine Tb.At.bw ?_ _))).mono ?_); rintro e w_ ⟨rfl, hb_⟩; obtain ⟨y2, rfl⟩ := Soft.BW.mk hb_; clear hb_) | (go_at_call 110; (with_reducible refine (CA.out b false _ (by repeat (first | exact ht | refine Tb.At.alloc ?_ _ | refine Tb.At.bw ?_ _)) (by omega) N1.out).mono ?_); rintro e w_ ⟨rfl, hb_⟩; obtain ⟨y3, rfl⟩ := Soft.BW.mk hb_; clear hb_) | (go_at_call 110; (with_reducible refine (CB.out a false _ (by repeat (first | exact ht | refine Tb.At.alloc ?_ _ | refine Tb.At.bw ?_ _)) (by omega) N2.out).mono ?_); rintro e w_ ⟨rfl, hb_⟩; obtain ⟨y4, rfl⟩ := Soft.BW.mk hb_; clear hb_) | (go_at_call 110; (with_reducible refine (CA.out a false _ (by repeat (first | exact ht | refine Tb.At.alloc ?_ _ | refine Tb.At.bw ?_ _)) (by omega) G1.out).mono ?_); rintro e w_ ⟨rfl, hb_⟩; obtain ⟨y5, rfl⟩ := Soft.BW.mk hb_; clear hb_) | (go_at_call 110; (with_reducible refine (CB.out b true _ (by repeat (first | exact ht | refine Tb.At.alloc ?_ _ | refine Tb.At.bw ?_ _)) (by omega) G2.out).mono ?_); rintro e w_ ⟨rfl, hb_⟩; obtain ⟨y6, rfl⟩ := Soft.BW.mk hb_; clear hb_))
          go_loopw [14, 15] (fun i j wr => ∃ c2 d2 : Int, a ≤ c2 ∧ c2 < H ∧ H ≤ d2 ∧ d2 ≤ b ∧ i = .int .i64 c2 ∧ j = .int .i64 d2 ∧ Below (y4.w.alloc (.cells #[.int .i64 a, .int .i64 b] 23)).heap.size (y4.w.alloc (.cells #[.int .i64 a, .int .i64 b] 23)) wr) (fun i j _ => (intOf j - intOf i).toNat)
          case atStart => exact ⟨a, b, by omega, by omega, by omega, by omega, rfl, rfl, y5.below.trans (y6.below.mono y5.below.size)⟩
          case round =>
            obtain ⟨c2, d2, hc1, hc2, hd1, hd2, rfl, rfl, hB2⟩ := hrel
            obtain ⟨u, rfl⟩ := Soft.BW.mk hB2
            clear hB2
            by_cases hlt2 : 1 < d2 - c2
            · have hm : (d2 - c2).tdiv 2 = (d2 - c2) / 2 := Int.tdiv_eq_ediv_of_nonneg (by omega)
              have hm1 : c2 < c2 + (d2 - c2) / 2 := by omega
              have hm2 : c2 + (d2 - c2) / 2 < d2 := by omega
              generalize hmid : (d2 - c2) / 2 = h2 at *
              clear hmid
              by_cases hx : H ≤ c2 + h2
              · have HX := Lib.hid (show true = behind (c2 + h2) by rw [F4.out _ (by omega) (by omega)]; exact (decide_eq_true hx).symm)
                go_wp2_with (first | (go_at_call 110; (with_reducible refine (CB.out (c2 + h2) true _ (by repeat (first | exact ht | refine Tb.At.alloc ?_ _ | refine Tb.At.bw ?_ _)) (by omega) HX.out).mono ?_); rintro e w_ ⟨rfl, hb_⟩; obtain ⟨v1, rfl⟩ := Soft.BW.mk hb_; clear hb_))
                go_roundw
                case rel => exact ⟨c2, c2 + h2, by omega, by omega, by omega, by omega, rfl, rfl, u.below.trans (v1.below.mono u.below.size)⟩
                case measure => simp [intOf]; omega
              · have HX := Lib.hid (show false = behind (c2 + h2) by rw [F4.out _ (by omega) (by omega)]; exact (decide_eq_false hx).symm)
                go_wp2_with (first | (go_at_call 110; (with_reducible refine (CB.out (c2 + h2) false _ (by repeat (first | exact ht | refine Tb.At.alloc ?_ _ | refine Tb.At.bw ?_ _)) (by omega) HX.out).mono ?_); rintro e w_ ⟨rfl, hb_⟩; obtain ⟨v1, rfl⟩ := Soft.BW.mk hb_; clear hb_))
                go_roundw
                case rel => exact ⟨c2 + h2, d2, by omega, by omega, by omega, by omega, rfl, rfl, u.below.trans (v1.below.mono u.below.size)⟩
                case measure => simp [intOf]; omega
            · have ED := Lib.hid (show d2 = H by omega)
              obtain ⟨u2, eu, eu2⟩ : ∃ x' : Soft.BW (y4.w.alloc (.cells #[.int .i64 a, .int .i64 d2] 23)), u.w.setCell ⟨y4.w.heap.size, 1, none⟩ (.int .i64 d2) = x'.w ∧ x'.w.heap.size = u.w.heap.size := bwPut u 1 (.int .i64 d2) _ rfl
              go_wp2_with fail
              rw [← EC.out, ← ED.out]
              refine bodyPost_ret (v := .tuple #[.agg #[.int .i64 a, .int .i64 d2], .bool true]) (by simp [results, Tryz.results80, go_sem]) rfl ?_
              refine ⟨rfl, ?_⟩
              (repeat (first | with_reducible exact bel_refl _ | with_reducible refine bel_alloc ?_ _ | with_reducible refine bel_bw _ ?_ | with_reducible refine bel_drew ?_ | with_reducible refine bel_drewN _ ?_ | ((with_reducible refine bel_set ?_ ?_ _); rotate_left; focus (first | (simp; done) | omega | (simp; omega))) | refine bel_step ?_ (by with_reducible assumption)))
      · have G1 := Lib.hid g1.symm
        obtain ⟨i1, i2, F3⟩ := f3 g1
        replace F3 := Lib.hid F3
        clear f1 f3 g1
        cases g2 : behind b
        · have G2 := Lib.hid g2.symm
          have ED := Lib.hid (f2 g2).symm
          clear f2 f4 g2
          go_enter Tryz.func80, Tryz.ntmps80
          go_wp2_with (first | (go_at_call 98; (with_reducible refine (CF.out _ (by repeat (first | exact ht | refine Tb.At.alloc ?_ _ | refine Tb.At.bw ?_ _))).mono ?_); rintro e w_ ⟨rfl, hb_⟩; obtain ⟨y1, rfl⟩ := Soft.BW.mk hb_; clear hb_) | (go_at_call 90; (with_reducible refine (CL.out _ (by repeat (first | exact ht | refine Tb.At.alloc ?_ _ | refine Tb.At.bw ?_ _))).mono ?_); rintro e w_ ⟨rfl, hb_⟩; obtain ⟨y2, rfl⟩ := Soft.BW.mk hb_; clear hb_) | (go_at_call 110; (with_reducible refine (CA.out b false _ (by repeat (first | exact ht | refine Tb.At.alloc ?_ _ | refine Tb.At.bw ?_ _)) (by omega) N1.out).mono ?_); rintro e w_ ⟨rfl, hb_⟩; obtain ⟨y3, rfl⟩ := Soft.BW.mk hb_; clear hb_) | (go_at_call 110; (with_reducible refine (CB.out a false _ (by repeat (first | exact ht | refine Tb.At.alloc ?_ _ | refine Tb.At.bw ?_ _)) (by omega) N2.out).mono ?_); rintro e w_ ⟨rfl, hb_⟩; obtain ⟨y4, rfl⟩ := Soft.BW.mk hb_; clear hb_) | (go_at_call 110; (with_reducible refine (CA.out a true _ (by repeat (first | exact ht | refine Tb.At.alloc ?_ _ | refine Tb.At.bw ?_ _)) (by omega) G1.out).mono ?_); rintro e w_ ⟨rfl, hb_⟩; obtain ⟨y5, rfl⟩ := Soft.BW.mk hb_; clear hb_) | (go_at_call 110; (with_reducible refine (CB.out b false _ (by repeat (first | exact ht | refine Tb.At.alloc ?_ _ | refine Tb.At.bw ?_ _)) (by omega) G2.out).mono ?_); rintro e w_ ⟨rfl, hb_⟩; obtain ⟨y6, rfl⟩ := Soft.BW.mk hb_; clear hb_))
          go_loopw [11, 12] (fun i j wr => ∃ c d : Int, a ≤ c ∧ c ≤ L ∧ L < d ∧ d ≤ b ∧ i = .int .i64 c ∧ j = .int .i64 d ∧ Below (y4.w.alloc (.cells #[.int .i64 a, .int .i64 b] 23)).heap.size (y4.w.alloc (.cells #[.int .i64 a, .int .i64 b] 23)) wr) (fun i j _ => (intOf j - intOf i).toNat)
          case atStart => exact ⟨a, b, by omega, by omega, by omega, by omega, rfl, rfl, y5.below⟩
          case round =>
            obtain ⟨c, d, hc1, hc2, hd1, hd2, rfl, rfl, hB⟩ := hrel
            clear y5
            obtain ⟨z, rfl⟩ := Soft.BW.mk hB
            clear hB
            by_cases hlt : 1 < d - c
            · have hm : (d - c).tdiv 2 = (d - c) / 2 := Int.tdiv_eq_ediv_of_nonneg (by omega)
              have hm1 : c < c + (d - c) / 2 := by omega
              have hm2 : c + (d - c) / 2 < d := by omega
              generalize hmid : (d - c) / 2 = h at *
              clear hmid
              by_cases hx : c + h ≤ L
              · have HX := Lib.hid (show true = ahead (c + h) by rw [F3.out _ (by omega) (by omega)]; exact (decide_eq_true hx).symm)
                go_wp2_with (first | (go_at_call 110; (with_reducible refine (CA.out (c + h) true _ (by repeat (first | exact ht | refine Tb.At.alloc ?_ _ | refine Tb.At.bw ?_ _)) (by omega) HX.out).mono ?_); rintro e w_ ⟨rfl, hb_⟩; obtain ⟨v1, rfl⟩ := Soft.BW.mk hb_; clear hb_))
                go_roundw
                case rel => exact ⟨c + h, d, by omega, by omega, by omega, by omega, rfl, rfl, z.below.trans (v1.below.mono z.below.size)⟩
                case measure => simp [intOf]; omega
              · have HX := Lib.hid (show false = ahead (c + h) by rw [F3.out _ (by omega) (by omega)]; exact (decide_eq_false hx).symm)
                go_wp2_with (first | (go_at_call 110; (with_reducible refine (CA.out (c + h) false _ (by repeat (first | exact ht | refine Tb.At.alloc ?_ _ | refine Tb.At.bw ?_ _)) (by omega) HX.out).mono ?_); rintro e w_ ⟨rfl, hb_⟩; obtain ⟨v1, rfl⟩ := Soft.BW.mk hb_; clear hb_))
                go_roundw
                case rel => exact ⟨c, c + h, by omega, by omega, by omega, by omega, rfl, rfl, z.below.trans (v1.below.mono z.below.size)⟩
                case measure => simp [intOf]; omega
            · have EC := Lib.hid (show c = L by omega)
              obtain ⟨z2, ez, ez2⟩ : ∃ x' : Soft.BW (y4.w.alloc (.cells #[.int .i64 c, .int .i64 b] 23)), z.w.setCell ⟨y4.w.heap.size, 0, none⟩ (.int .i64 c) = x'.w ∧ x'.w.heap.size = z.w.heap.size := bwPut z 0 (.int .i64 c) _ rfl
              go_wp2_with (first | (go_at_call 98; (with_reducible refine (CF.out _ (by repeat (first | exact ht | refine Tb.At.alloc ?_ _ | refine Tb.At.bw ?_ _))).mono ?_); rintro e w_ ⟨rfl, hb_⟩; obtain ⟨y1, rfl⟩ := Soft.BW.mk hb_; clear hb_) | (go_at_call 90; (with_reducible refine (CL.out _ (by repeat (first | exact ht | refine Tb.At.alloc ?_ _ | refine Tb.At.bw ?_ _))).mono ?_); rintro e w_ ⟨rfl, hb_⟩; obtain ⟨y2, rfl⟩ := Soft.BW.mk hb_; clear hb_) | (go_at_call 110; (with_reducible refine (CA.out b false _ (by repeat (first | exact ht | refine Tb.At.alloc ?_ _ | refine Tb.At.bw ?_ _)) (by omega) N1.out).mono ?_); rintro e w_ ⟨rfl, hb_⟩; obtain ⟨y3, rfl⟩ := Soft.BW.mk hb_; clear hb_) | (go_at_call 110; (with_reducible refine (CB.out a false _ (by repeat (first | exact ht | refine Tb.At.alloc ?_ _ | refine Tb.At.bw ?_ _)) (by omega) N2.out).mono ?_); rintro e w_ ⟨rfl, hb_⟩; obtain ⟨y4, rfl⟩ := Soft.BW.mk hb_; clear hb_) | (go_at_call 110; (with_reducible refine (CA.out a true _ (by repeat (first | exact ht | refine Tb.At.alloc ?_ _ | refine Tb.At.bw ?_ _)) (by omega) G1.out).mono ?_); rintro e w_ ⟨rfl, hb_⟩; obtain ⟨y5, rfl⟩ := Soft.BW.mk hb_; clear hb_) | (go_at_call 110; (with_reducible refine (CB.out b false _ (by repeat (first | exact ht | refine Tb.At.alloc ?_ _ | refine Tb.At.bw ?_ _)) (by omega) G2.out).mono ?_); rintro e w_ ⟨rfl, hb_⟩; obtain ⟨y6, rfl⟩ := Soft.BW.mk hb_; clear hb_))
              rw [← EC.out, ← ED.out]
              refine bodyPost_ret (v := .tuple #[.agg #[.int .i64 c, .int .i64 b], .bool true]) (by simp [results, Tryz.results80, go_sem]) rfl ?_
              refine ⟨rfl, ?_⟩
              (repeat (first | with_reducible exact bel_refl _ | with_reducible refine bel_alloc ?_ _ | with_reducible refine bel_bw _ ?_ | with_reducible refine bel_drew ?_ | with_reducible refine bel_drewN _ ?_ | ((with_reducible refine bel_set ?_ ?_ _); rotate_left; focus (first | (simp; done) | omega | (simp; omega))) | refine bel_step ?_ (by with_reducible assumption)))
        · have G2 := Lib.hid g2.symm
          obtain ⟨j1, j2, F4⟩ := f4 g2
          replace F4 := Lib.hid F4
          clear f2 f4 g2
          go_enter Tryz.func80, Tryz.ntmps80
          go_wp2_with (first | (go_at_call 98; (with_reducible refine (CF.out _ (by repeat (first | exact ht | refine Tb.At.alloc ?_ _ | refine Tb.At.bw ?_ _))).mono ?_); rintro e w_ ⟨rfl, hb_⟩; obtain ⟨y1, rfl⟩ := Soft.BW.mk hb_; clear hb_) | (go_at_call 90; (with_reducible refine (CL.out _ (by repeat (first | exact ht | refine Tb.At.alloc ?_ _ | refine Tb.At.bw ?_ _))).mono ?_); rintro e w_ ⟨rfl, hb_⟩; obtain ⟨y2, rfl⟩ := Soft.BW.mk hb_; clear hb_) | (go_at_call 110; (with_reducible refine (CA.out b false _ (by repeat (first | exact ht | refine Tb.At.alloc ?_ _ | refine Tb.At.bw ?_ _)) (by omega) N1.out).mono ?_); rintro e w_ ⟨rfl, hb_⟩; obtain ⟨y3, rfl⟩ := Soft.BW.mk hb_; clear hb_) | (go_at_call 110; (with_reducible refine (CB.out a false _ (by repeat (first | exact ht | refine Tb.At.alloc ?_ _ | refine Tb.At.bw ?_ _)) (by omega) N2.out).mono ?_); rintro e w_ ⟨rfl, hb_⟩; obtain ⟨y4, rfl⟩ := Soft.BW.mk hb_; clear hb_) | (go_at_call 110; (with_reducible refine (CA.out a true _ (by repeat (first | exact ht | refine Tb.At.alloc ?_ _ | refine Tb.At.bw ?_ _)) (by omega) G1.out).mono ?_); rintro e w_ ⟨rfl, hb_⟩; obtain ⟨y5, rfl⟩ := Soft.BW.mk hb_; clear hb_) | (go_at_call 110; (with_reducible refine (CB.out b true _ (by repeat (first | exact ht | refine Tb.At.alloc ?_ _ | refine Tb.At.bw ?_ _)) (by omega) G2.out).mono ?_); rintro e w_ ⟨rfl, hb_⟩; obtain ⟨y6, rfl⟩ := Soft.BW.mk hb_; clear hb_))
          go_loopw [11, 12] (fun i j wr => ∃ c d : Int, a ≤ c ∧ c ≤ L ∧ L < d ∧ d ≤ b ∧ i = .int .i64 c ∧ j = .int .i64 d ∧ Below (y4.w.alloc (.cells #[.int .i64 a, .int .i64 b] 23)).heap.size (y4.w.alloc (.cells #[.int .i64 a, .int .i64 b] 23)) wr) (fun i j _ => (intOf j - intOf i).toNat)
          case atStart => exact ⟨a, b, by omega, by omega, by omega, by omega, rfl, rfl, y5.below⟩
          case round =>
            obtain ⟨c, d, hc1, hc2, hd1, hd2, rfl, rfl, hB⟩ := hrel
            clear y5
            obtain ⟨z, rfl⟩ := Soft.BW.mk hB
            clear hB
            by_cases hlt : 1 < d - c
            · have hm : (d - c).tdiv 2 = (d - c) / 2 := Int.tdiv_eq_ediv_of_nonneg (by omega)
              have hm1 : c < c + (d - c) / 2 := by omega
              have hm2 : c + (d - c) / 2 < d := by omega
              generalize hmid : (d - c) / 2 = h at *
              clear hmid
              by_cases hx : c + h ≤ L
              · have HX := Lib.hid (show true = ahead (c + h) by rw [F3.out _ (by omega) (by omega)]; exact (decide_eq_true hx).symm)
                go_wp2_with (first | (go_at_call 110; (with_reducible refine (CA.out (c + h) true _ (by repeat (first | exact ht | refine Tb.At.alloc ?_ _ | refine Tb.At.bw ?_ _)) (by omega) HX.out).mono ?_); rintro e w_ ⟨rfl, hb_⟩; obtain ⟨v1, rfl⟩ := Soft.BW.mk hb_; clear hb_))
                go_roundw
                case rel => exact ⟨c + h, d, by omega, by omega, by omega, by omega, rfl, rfl, z.below.trans (v1.below.mono z.below.size)⟩
                case measure => simp [intOf]; omega
              · have HX := Lib.hid (show false = ahead (c + h) by rw [F3.out _ (by omega) (by omega)]; exact (decide_eq_false hx).symm)
                go_wp2_with (first | (go_at_call 110; (with_reducible refine (CA.out (c + h) false _ (by repeat (first | exact ht | refine Tb.At.alloc ?_ _ | refine Tb.At.bw ?_ _)) (by omega) HX.out).mono ?_); rintro e w_ ⟨rfl, hb_⟩; obtain ⟨v1, rfl⟩ := Soft.BW.mk hb_; clear hb_))
                go_roundw
                case rel => exact ⟨c, c + h, by omega, by omega, by omega, by omega, rfl, rfl, z.below.trans (v1.below.mono z.below.size)⟩
                case measure => simp [intOf]; omega
            · have EC := Lib.hid (show c = L by omega)
              obtain ⟨z2, ez, ez2⟩ : ∃ x' : Soft.BW (y4.w.alloc (.cells #[.int .i64 c, .int .i64 b] 23)), z.w.setCell ⟨y4.w.heap.size, 0, none⟩ (.int .i64 c) = x'.w ∧ x'.w.heap.size = z.w.heap.size := bwPut z 0 (.int .i64 c) _ rfl
              go_wp2_with (first | (go_at_call 98; (with_reducible refine (CF.out _ (by repeat (first | exact ht | refine Tb.At.alloc ?_ _ | refine Tb.At.bw ?_ _))).mono ?_); rintro e w_ ⟨rfl, hb_⟩; obtain ⟨y1, rfl⟩ := Soft.BW.mk hb_; clear hb_) | (go_at_call 90; (with_reducible refine (CL.out _ (by repeat (first | exact ht | refine Tb.At.alloc ?_ _ | refine Tb.At.bw ?_ _))).mono ?_); rintro e w_ ⟨rfl, hb_⟩; obtain ⟨y2, rfl⟩ := Soft.BW.mk hb_; clear hb_) | (go_at_call 110; (with_reducible refine (CA.out b false _ (by repeat (first | exact ht | refine Tb.At.alloc ?_ _ | refine Tb.At.bw ?_ _)) (by omega) N1.out).mono ?_); rintro e w_ ⟨rfl, hb_⟩; obtain ⟨y3, rfl⟩ := Soft.BW.mk hb_; clear hb_) | (go_at_call 110; (with_reducible refine (CB.out a false _ (by repeat (first | exact ht | refine Tb.At.alloc ?_ _ | refine Tb.At.bw ?_ _)) (by omega) N2.out).mono ?_); rintro e w_ ⟨rfl, hb_⟩; obtain ⟨y4, rfl⟩ := Soft.BW.mk hb_; clear hb_) | (go_at_call 110; (with_reducible refine (CA.out a true _ (by repeat (first | exact ht | refine Tb.At.alloc ?_ _ | refine Tb.At.bw ?_ _)) (by omega) G1.out).mono ?_); rintro e w_ ⟨rfl, hb_⟩; obtain ⟨y5, rfl⟩ := Soft.BW.mk hb_; clear hb_) | (go_at_call 110; (with_reducible refine (CB.out b true _ (by repeat (first | exact ht | refine Tb.At.alloc ?_ _ | refine Tb.At.bw ?_ _)) (by omega) G2.out).mono ?_); rintro e w_ ⟨rfl, hb_⟩; obtain ⟨y6, rfl⟩ := Soft.BW.mk hb_; clear hb_))
              go_loopw [14, 15] (fun i j wr => ∃ c2 d2 : Int, a ≤ c2 ∧ c2 < H ∧ H ≤ d2 ∧ d2 ≤ b ∧ i = .int .i64 c2 ∧ j = .int .i64 d2 ∧ Below (y4.w.alloc (.cells #[.int .i64 c, .int .i64 b] 23)).heap.size (y4.w.alloc (.cells #[.int .i64 c, .int .i64 b] 23)) wr) (fun i j _ => (intOf j - intOf i).toNat)
              case atStart => exact ⟨a, b, by omega, by omega, by omega, by omega, rfl, rfl, z2.below.trans (y6.below.mono z2.below.size)⟩
              case round =>
                obtain ⟨c2, d2, hc1, hc2, hd1, hd2, rfl, rfl, hB2⟩ := hrel
                obtain ⟨u, rfl⟩ := Soft.BW.mk hB2
                clear hB2
                by_cases hlt2 : 1 < d2 - c2
                · have hm : (d2 - c2).tdiv 2 = (d2 - c2) / 2 := Int.tdiv_eq_ediv_of_nonneg (by omega)
                  have hm1 : c2 < c2 + (d2 - c2) / 2 := by omega
                  have hm2 : c2 + (d2 - c2) / 2 < d2 := by omega
                  generalize hmid : (d2 - c2) / 2 = h2 at *
                  clear hmid
                  by_cases hx : H ≤ c2 + h2
                  · have HX := Lib.hid (show true = behind (c2 + h2) by rw [F4.out _ (by omega) (by omega)]; exact (decide_eq_true hx).symm)
                    go_wp2_with (first | (go_at_call 110; (with_reducible refine (CB.out (c2 + h2) true _ (by repeat (first | exact ht | refine Tb.At.alloc ?_ _ | refine Tb.At.bw ?_ _)) (by omega) HX.out).mono ?_); rintro e w_ ⟨rfl, hb_⟩; obtain ⟨v1, rfl⟩ := Soft.BW.mk hb_; clear hb_))
                    go_roundw
                    case rel => exact ⟨c2, c2 + h2, by omega, by omega, by omega, by omega, rfl, rfl, u.below.trans (v1.below.mono u.below.size)⟩
                    case measure => simp [intOf]; omega
                  · have HX := Lib.hid (show false = behind (c2 + h2) by rw [F4.out _ (by omega) (by omega)]; exact (decide_eq_false hx).symm)
                    go_wp2_with (first | (go_at_call 110; (with_reducible refine (CB.out (c2 + h2) false _ (by repeat (first | exact ht | refine Tb.At.alloc ?_ _ | refine Tb.At.bw ?_ _)) (by omega) HX.out).mono ?_); rintro e w_ ⟨rfl, hb_⟩; obtain ⟨v1, rfl⟩ := Soft.BW.mk hb_; clear hb_))
                    go_roundw
                    case rel => exact ⟨c2 + h2, d2, by omega, by omega, by omega, by omega, rfl, rfl, u.below.trans (v1.below.mono u.below.size)⟩
                    case measure => simp [intOf]; omega
                · have ED := Lib.hid (show d2 = H by omega)
                  obtain ⟨u2, eu, eu2⟩ : ∃ x' : Soft.BW (y4.w.alloc (.cells #[.int .i64 c, .int .i64 d2] 23)), u.w.setCell ⟨y4.w.heap.size, 1, none⟩ (.int .i64 d2) = x'.w ∧ x'.w.heap.size = u.w.heap.size := bwPut u 1 (.int .i64 d2) _ rfl
                  go_wp2_with fail
                  rw [← EC.out, ← ED.out]
                  refine bodyPost_ret (v := .tuple #[.agg #[.int .i64 c, .int .i64 d2], .bool true]) (by simp [results, Tryz.results80, go_sem]) rfl ?_
                  refine ⟨rfl, ?_⟩
                  (repeat (first | with_reducible exact bel_refl _ | with_reducible refine bel_alloc ?_ _ | with_reducible refine bel_bw _ ?_ | with_reducible refine bel_drew ?_ | with_reducible refine bel_drewN _ ?_ | ((with_reducible refine bel_set ?_ ?_ _); rotate_left; focus (first | (simp; done) | omega | (simp; omega))) | refine bel_step ?_ (by with_reducible assumption)))
    · have N1 := Lib.hid n1.symm
      have N2 := Lib.hid n2.symm
      rw [show invS ahead behind a b = (⟨0, 0⟩, false) from if_pos (.inr n2)]
      clear n1 n2
      go_enter Tryz.func80, Tryz.ntmps80
      go_wp2_with (first | (go_at_call 98; (with_reducible refine (CF.out _ (by repeat (first | exact ht | refine Tb.At.alloc ?_ _ | refine Tb.At.bw ?_ _))).mono ?_); rintro e w_ ⟨rfl, hb_⟩; obtain ⟨y1, rfl⟩ := Soft.BW.mk hb_; clear hb_) | (go_at_call 90; (with_reducible refine (CL.out _ (by repeat (first | exact ht | refine Tb.At.alloc ?_ _ | refine Tb.At.bw ?_ _))).mono ?_); rintro e w_ ⟨rfl, hb_⟩; obtain ⟨y2, rfl⟩ := Soft.BW.mk hb_; clear hb_) | (go_at_call 110; (with_reducible refine (CA.out b false _ (by repeat (first | exact ht | refine Tb.At.alloc ?_ _ | refine Tb.At.bw ?_ _)) (by omega) N1.out).mono ?_); rintro e w_ ⟨rfl, hb_⟩; obtain ⟨y3, rfl⟩ := Soft.BW.mk hb_; clear hb_) | (go_at_call 110; (with_reducible refine (CB.out a true _ (by repeat (first | exact ht | refine Tb.At.alloc ?_ _ | refine Tb.At.bw ?_ _)) (by omega) N2.out).mono ?_); rintro e w_ ⟨rfl, hb_⟩; obtain ⟨y4, rfl⟩ := Soft.BW.mk hb_; clear hb_))
      refine bodyPost_ret (v := .tuple #[.agg #[.int .i64 ((⟨0, 0⟩ : Rg)).lo, .int .i64 ((⟨0, 0⟩ : Rg)).hi], .bool false]) (by simp [results, Tryz.results80, go_sem]) rfl ?_
      refine ⟨rfl, ?_⟩
      (repeat (first | with_reducible exact bel_refl _ | with_reducible refine bel_alloc ?_ _ | with_reducible refine bel_bw _ ?_ | with_reducible refine bel_drew ?_ | with_reducible refine bel_drewN _ ?_ | ((with_reducible refine bel_set ?_ ?_ _); rotate_left; focus (first | (simp; done) | omega | (simp; omega))) | refine bel_step ?_ (by with_reducible assumption)))
  · have N1 := Lib.hid n1.symm
    rw [show invS ahead behind a b = (⟨0, 0⟩, false) from if_pos (.inl n1)]
    clear n1
    go_enter Tryz.func80, Tryz.ntmps80
    go_wp2_with (first | (go_at_call 98; (with_reducible refine (CF.out _ (by repeat (first | exact ht | refine Tb.At.alloc ?_ _ | refine Tb.At.bw ?_ _))).mono ?_); rintro e w_ ⟨rfl, hb_⟩; obtain ⟨y1, rfl⟩ := Soft.BW.mk hb_; clear hb_) | (go_at_call 90; (with_reducible refine (CL.out _ (by repeat (first | exact ht | refine Tb.At.alloc ?_ _ | refine Tb.At.bw ?_ _))).mono ?_); rintro e w_ ⟨rfl, hb_⟩; obtain ⟨y2, rfl⟩ := Soft.BW.mk hb_; clear hb_) | (go_at_call 110; (with_reducible refine (CA.out b true _ (by repeat (first | exact ht | refine Tb.At.alloc ?_ _ | refine Tb.At.bw ?_ _)) (by omega) N1.out).mono ?_); rintro e w_ ⟨rfl, hb_⟩; obtain ⟨y3, rfl⟩ := Soft.BW.mk hb_; clear hb_))
    refine bodyPost_ret (v := .tuple #[.agg #[.int .i64 ((⟨0, 0⟩ : Rg)).lo, .int .i64 ((⟨0, 0⟩ : Rg)).hi], .bool false]) (by simp [results, Tryz.results80, go_sem]) rfl ?_
    refine ⟨rfl, ?_⟩
    (repeat (first | with_reducible exact bel_refl _ | with_reducible refine bel_alloc ?_ _ | with_reducible refine bel_bw _ ?_ | with_reducible refine bel_drew ?_ | with_reducible refine bel_drewN _ ?_ | ((with_reducible refine bel_set ?_ ?_ _); rotate_left; focus (first | (simp; done) | omega | (simp; omega))) | refine bel_step ?_ (by with_reducible assumption)))
theorem R2_Inverse_up (t : Tb) (r : Rg) (w : World) (ht : t.At w) (h2 : Tab2 t.ps) (hw : Ways (lessB t.ps r) (moreB t.ps r) (firstX t.ps) (lastX t.ps)) :
    Calls Tryz.prog 80 #[.agg #[.slice (t).p (t).n (t).c], .agg #[.int .i64 (r).lo, .int .i64 (r).hi], .bool false] w fun e w' => e = .returned (.tuple #[.agg #[.int .i64 ((invUp t.ps r).1).lo, .int .i64 ((invUp t.ps r).1).hi], .bool (invUp t.ps r).2]) ∧ Below w.heap.size w w' := by
  have hn : 1 ≤ t.n := by rw [← ht.1]; exact h2.ok.pos
  obtain ⟨e1, e2, e3⟩ := h2.ok.ends
  have CF := Lib.hid (fun W hW => R2_First t W hW hn)
  have CL := Lib.hid (fun W hW => R2_Last t W hW hn)
  have CA := Lib.hid (fun x v W hW (hx : firstX t.ps ≤ x ∧ x ≤ lastX t.ps) hv => R2_beside t r x false W hW h2 hx v hv)
  have CB := Lib.hid (fun x v W hW (hx : firstX t.ps ≤ x ∧ x ≤ lastX t.ps) hv => R2_beside t r x true W hW h2 hx v hv)
  unfold invUp
  clear h2
  simp only [if_true, Bool.false_eq_true, if_false] at CA CB
  generalize lessB t.ps r = ahead at *
  generalize moreB t.ps r = behind at *
  generalize firstX t.ps = a at *
  generalize lastX t.ps = b at *
  have HW := Lib.hid hw
  clear hw
  cases n1 : ahead b
  · cases n2 : behind a
    · obtain ⟨L, H, hE, f1, f2, f3, f4⟩ := inv_spec HW.out e2 n1 n2
      rw [hE]
      have N1 := Lib.hid n1.symm
      have N2 := Lib.hid n2.symm
      clear hE n1 n2
      cases g1 : ahead a
      · have G1 := Lib.hid g1.symm
        have EC := Lib.hid (f1 g1).symm
        clear f1 f3 g1
        cases g2 : behind b
        · have G2 := Lib.hid g2.symm
          have ED := Lib.hid (f2 g2).symm
          clear f2 f4 g2
          go_enter Tryz.func80, Tryz.ntmps80
          go_wp2_with (first | (go_at_call 98; (with_reducible refine (CF.out _ (by repeat (first | exact ht | refine Tb.At.alloc ?_ _ | refine Tb.At.bw ?_ _))).mono ?_); rintro e w_ ⟨rfl, hb_⟩; obtain ⟨y1, rfl⟩ := Soft.BW.mk hb_; clear hb_) | (go_at_call 90; (with_reducible refine (CL.out _ (by repeat (first | exact ht | refine Tb.At.alloc ?_ _ | refine Tb.At.bw ?_ _))).mono ?_); rintro e w_ ⟨rfl, hb_⟩; obtain ⟨y2, rfl⟩ := Soft.BW.mk hb_; clear hb_) | (go_at_call 110; (with_reducible refine (CA.out b false _ (by repeat (first | exact ht | refine Tb.At.alloc ?_ _ | refine Tb.At.bw ?_ _)) (by omega) N1.out).mono ?_); rintro e w_ ⟨rfl, hb_⟩; obtain ⟨y3, rfl⟩ := Soft.BW.mk hb_; clear hb_) | (go_at_call 110; (with_reducible refine (CB.out a false _ (by repeat (first | exact ht | refine Tb.At.alloc ?_ _ | refine Tb.At.bw ?_ _)) (by omega) N2.out).mono ?_); rintro e w_ ⟨rfl, hb_⟩; obtain ⟨y4, rfl⟩ := Soft.BW.mk hb_; clear hb_) | (go_at_call 110; (with_reducible refine (CA.out a false _ (by repeat (first | exact ht | refine Tb.At.alloc ?_ _ | refine Tb.At.bw ?_ _)) (by omega) G1.out).mono ?_); rintro e w_ ⟨rfl, hb_⟩; obtain ⟨y5, rfl⟩ := Soft.BW.mk hb_; clear hb_) | (go_at_call 110; (with_reducible refine (CB.out b false _ (by repeat (first | exact ht | refine Tb.At.alloc ?_ _ | refine Tb.At.bw ?_ _)) (by omega) G2.out).mono ?_); rintro e w_ ⟨rfl, hb_⟩; obtain ⟨y6, rfl⟩ := Soft.BW.mk hb_; clear hb_))
          rw [← EC.out, ← ED.out]
          refine bodyPost_ret (v := .tuple #[.agg #[.int .i64 a, .int .i64 b], .bool true]) (by simp [results, Tryz.results80, go_sem]) rfl ?_
          refine ⟨rfl, ?_⟩
          (repeat (first | with_reducible exact bel_refl _ | with_reducible refine bel_alloc ?_ _ | with_reducible refine bel_bw _ ?_ | with_reducible refine bel_drew ?_ | with_reducible refine bel_drewN _ ?_ | ((with_reducible refine bel_set ?_ ?_ _); rotate_left; focus (first | (simp; done) | omega | (simp; omega))) | refine bel_step ?_ (by with_reducible assumption)))
        · have G2 := Lib.hid g2.symm
          obtain ⟨j1, j2, F4⟩ := f4 g2
          replace F4 := Lib.hid F4
          clear f2 f4 g2
          go_enter Tryz.func80, Tryz.ntmps80
          go_wp2_with (first | (go_at_call 98; (with_reducible refine (CF.out _ (by repeat (first | exact ht | refine Tb.At.alloc ?_ _ | refine Tb.At.bw ?_ _))).mono ?_); rintro e w_ ⟨rfl, hb_⟩; obtain ⟨y1, rfl⟩ := Soft.BW.mk hb_; clear hb_) | (go_at_call 90; (with_reducible refine (CL.out _ (by repeat (first | exact ht | refine Tb.At.alloc ?_ _ | refine Tb.At.bw ?_ _))).mono ?_); rintro e w_ ⟨rfl, hb_⟩; obtain ⟨y2, rfl⟩ := Soft.BW.mk hb_; clear hb_) | (go_at_call 110; (with_reducible refine (CA.out b false _ (by repeat (first | exact ht | refine Tb.At.alloc ?_ _ | refine Tb.At.bw ?_ _)) (by omega) N1.out).mono ?_); rintro e w_ ⟨rfl, hb_⟩; obtain ⟨y3, rfl⟩ := Soft.BW.mk hb_; clear hb_) | (go_at_call 110; (with_reducible refine (CB.out a false _ (by repeat (first | exact ht | refine Tb.At.alloc ?_ _ | refine Tb.At.bw ?_ _)) (by omega) N2.out).mono ?_); rintro e w_ ⟨rfl, hb_⟩; obtain ⟨y4, rfl⟩ := Soft.BW.mk hb_; clear hb_) | (go_at_call 110; (with_reducible refine (CA.out a false _ (by repeat (first | exact ht | refine Tb.At.alloc ?_ _ | refine Tb.At.bw ?_ _)) (by omega) G1.out).mono ?_); rintro e w_ ⟨rfl, hb_⟩; obtain ⟨y5, rfl⟩ := Soft.BW.mk hb_; clear hb_) | (go_at_call 110; (with_reducible refine (CB.out b true _ (by repeat (first | exact ht | refine Tb.At.alloc ?_ _ | refine Tb.At.bw ?_ _)) (by omega) G2.out).mono ?_); rintro e w_ ⟨rfl, hb_⟩; obtain ⟨y6, rfl⟩ := Soft.BW.mk hb_; clear hb_))
          go_loopw [14, 15] (fun i j wr => ∃ c2 d2 : Int, a ≤ c2 ∧ c2 < H ∧ H ≤ d2 ∧ d2 ≤ b ∧ i = .int .i64 c2 ∧ j = .int .i64 d2 ∧ Below (y4.w.alloc (.cells #[.int .i64 a, .int .i64 b] 23)).heap.size (y4.w.alloc (.cells #[.int .i64 a, .int .i64 b] 23)) wr) (fun i j _ => (intOf j - intOf i).toNat)
          case atStart => exact ⟨a, b, by omega, by omega, by omega, by omega, rfl, rfl, y5.below.trans (y6.below.mono y5.below.size)⟩
          case round =>
            obtain ⟨c2, d2, hc1, hc2, hd1, hd2, rfl, rfl, hB2⟩ := hrel
            obtain ⟨u, rfl⟩ := Soft.BW.mk hB2
            clear hB2
            by_cases hlt2 : 1 < d2 - c2
            · have hm : (d2 - c2).tdiv 2 = (d2 - c2) / 2 := Int.tdiv_eq_ediv_of_nonneg (by omega)
              have hm1 : c2 < c2 + (d2 - c2) / 2 := by omega
              have hm2 : c2 + (d2 - c2) / 2 < d2 := by omega
              generalize hmid : (d2 - c2) / 2 = h2 at *
              clear hmid
              by_cases hx : H ≤ c2 + h2
              · have HX := Lib.hid (show true = behind (c2 + h2) by rw [F4.out _ (by omega) (by omega)]; exact (decide_eq_true hx).symm)
                go_wp2_with (first | (go_at_call 110; (with_reducible refine (CB.out (c2 + h2) true _ (by repeat (first | exact ht | refine Tb.At.alloc ?_ _ | refine Tb.At.bw ?_ _)) (by omega) HX.out).mono ?_); rintro e w_ ⟨rfl, hb_⟩; obtain ⟨v1, rfl⟩ := Soft.BW.mk hb_; clear hb_))
                go_roundw
                case rel => exact ⟨c2, c2 + h2, by omega, by omega, by omega, by omega, rfl, rfl, u.below.trans (v1.below.mono u.below.size)⟩
                case measure => simp [intOf]; omega
              · have HX := Lib.hid (show false = behind (c2 + h2) by rw [F4.out _ (by omega) (by omega)]; exact (decide_eq_false hx).symm)
                go_wp2_with (first | (go_at_call 110; (with_reducible refine (CB.out (c2 + h2) false _ (by repeat (first | exact ht | refine Tb.At.alloc ?_ _ | refine Tb.At.bw ?_ _)) (by omega) HX.out).mono ?_); rintro e w_ ⟨rfl, hb_⟩; obtain ⟨v1, rfl⟩ := Soft.BW.mk hb_; clear hb_))
                go_roundw
                case rel => exact ⟨c2 + h2, d2, by omega, by omega, by omega, by omega, rfl, rfl, u.below.trans (v1.below.mono u.below.size)⟩
                case measure => simp [intOf]; omega
            · have ED := Lib.hid (show d2 = H by omega)
              obtain ⟨u2, eu, eu2⟩ : ∃ x' : Soft.BW (y4.w.alloc (.cells #[.int .i64 a, .int .i64 d2] 23)), u.w.setCell ⟨y4.w.heap.size, 1, none⟩ (.int .i64 d2) = x'.w ∧ x'.w.heap.size = u.w.heap.size := bwPut u 1 (.int .i64 d2) _ rfl
              go_wp2_with fail
              rw [← EC.out, ← ED.out]
              refine bodyPost_ret (v := .tuple #[.agg #[.int .i64 a, .int .i64 d2], .bool true]) (by simp [results, Tryz.results80, go_sem]) rfl ?_
              refine ⟨rfl, ?_⟩
              (repeat (first | with_reducible exact bel_refl _ | with_reducible refine bel_alloc ?_ _ | with_reducible refine bel_bw _ ?_ | with_reducible refine bel_drew ?_ | with_reducible refine bel_drewN _ ?_ | ((with_reducible refine bel_set ?_ ?_ _); rotate_left; focus (first | (simp; done) | omega | (simp; omega))) | refine bel_step ?_ (by with_reducible assumption)))
      · have G1 := Lib.hid g1.symm
        obtain ⟨i1, i2, F3⟩ := f3 g1
        replace F3 := Lib.hid F3
        clear f1 f3 g1
        cases g2 : behind b
        · have G2 := Lib.hid g2.symm
          have ED := Lib.hid (f2 g2).symm
          clear f2 f4 g2
          go_enter Tryz.func80, Tryz.ntmps80
          go_wp2_with (first | (go_at_call 98; (with_reducible refine (CF.out _ (by repeat (first | exact ht | refine Tb.At.alloc ?_ _ | refine Tb.At.bw ?_ _))).mono ?_); rintro e w_ ⟨rfl, hb_⟩; obtain ⟨y1, rfl⟩ := Soft.BW.mk hb_; clear hb_) | (go_at_call 90; (with_reducible refine (CL.out _ (by repeat (first | exact ht | refine Tb.At.alloc ?_ _ | refine Tb.At.bw ?_ _))).mono ?_); rintro e w_ ⟨rfl, hb_⟩; obtain ⟨y2, rfl⟩ := Soft.BW.mk hb_; clear hb_) | (go_at_call 110; (with_reducible refine (CA.out b false _ (by repeat (first | exact ht | refine Tb.At.alloc ?_ _ | refine Tb.At.bw ?_ _)) (by omega) N1.out).mono ?_); rintro e w_ ⟨rfl, hb_⟩; obtain ⟨y3, rfl⟩ := Soft.BW.mk hb_; clear hb_) | (go_at_call 110; (with_reducible refine (CB.out a false _ (by repeat (first | exact ht | refine Tb.At.alloc ?_ _ | refine Tb.At.bw ?_ _)) (by omega) N2.out).mono ?_); rintro e w_ ⟨rfl, hb_⟩; obtain ⟨y4, rfl⟩ := Soft.BW.mk hb_; clear hb_) | (go_at_call 110; (with_reducible refine (CA.out a true _ (by repeat (first | exact ht | refine Tb.At.alloc ?_ _ | refine Tb.At.bw ?_ _)) (by omega) G1.out).mono ?_); rintro e w_ ⟨rfl, hb_⟩; obtain ⟨y5, rfl⟩ := Soft.BW.mk hb_; clear hb_) | (go_at_call 110; (with_reducible refine (CB.out b false _ (by repeat (first | exact ht | refine Tb.At.alloc ?_ _ | refine Tb.At.bw ?_ _)) (by omega) G2.out).mono ?_); rintro e w_ ⟨rfl, hb_⟩; obtain ⟨y6, rfl⟩ := Soft.BW.mk hb_; clear hb_))
          go_loopw [11, 12] (fun i j wr => ∃ c d : Int, a ≤ c ∧ c ≤ L ∧ L < d ∧ d ≤ b ∧ i = .int .i64 c ∧ j = .int .i64 d ∧ Below (y4.w.alloc (.cells #[.int .i64 a, .int .i64 b] 23)).heap.size (y4.w.alloc (.cells #[.int .i64 a, .int .i64 b] 23)) wr) (fun i j _ => (intOf j - intOf i).toNat)
          case atStart => exact ⟨a, b, by omega, by omega, by omega, by omega, rfl, rfl, y5.below⟩
          case round =>
            obtain ⟨c, d, hc1, hc2, hd1, hd2, rfl, rfl, hB⟩ := hrel
            clear y5
            obtain ⟨z, rfl⟩ := Soft.BW.mk hB
            clear hB
            by_cases hlt : 1 < d - c
            · have hm : (d - c).tdiv 2 = (d - c) / 2 := Int.tdiv_eq_ediv_of_nonneg (by omega)
              have hm1 : c < c + (d - c) / 2 := by omega
              have hm2 : c + (d - c) / 2 < d := by omega
              generalize hmid : (d - c) / 2 = h at *
              clear hmid
              by_cases hx : c + h ≤ L
              · have HX := Lib.hid (show true = ahead (c + h) by rw [F3.out _ (by omega) (by omega)]; exact (decide_eq_true hx).symm)
                go_wp2_with (first | (go_at_call 110; (with_reducible refine (CA.out (c + h) true _ (by repeat (first | exact ht | refine Tb.At.alloc ?_ _ | refine Tb.At.bw ?_ _)) (by omega) HX.out).mono ?_); rintro e w_ ⟨rfl, hb_⟩; obtain ⟨v1, rfl⟩ := Soft.BW.mk hb_; clear hb_))
                go_roundw
                case rel => exact ⟨c + h, d, by omega, by omega, by omega, by omega, rfl, rfl, z.below.trans (v1.below.mono z.below.size)⟩
                case measure => simp [intOf]; omega
              · have HX := Lib.hid (show false = ahead (c + h) by rw [F3.out _ (by omega) (by omega)]; exact (decide_eq_false hx).symm)
                go_wp2_with (first | (go_at_call 110; (with_reducible refine (CA.out (c + h) false _ (by repeat (first | exact ht | refine Tb.At.alloc ?_ _ | refine Tb.At.bw ?_ _)) (by omega) HX.out).mono ?_); rintro e w_ ⟨rfl, hb_⟩; obtain ⟨v1, rfl⟩ := Soft.BW.mk hb_; clear hb_))
                go_roundw
                case rel => exact ⟨c, c + h, by omega, by omega, by omega, by omega, rfl, rfl, z.below.trans (v1.below.mono z.below.size)⟩
                case measure => simp [intOf]; omega
            · have EC := Lib.hid (show c = L by omega)
              obtain ⟨z2, ez, ez2⟩ : ∃ x' : Soft.BW (y4.w.alloc (.cells #[.int .i64 c, .int .i64 b] 23)), z.w.setCell ⟨y4.w.heap.size, 0, none⟩ (.int .i64 c) = x'.w ∧ x'.w.heap.size = z.w.heap.size := bwPut z 0 (.int .i64 c) _ rfl
              go_wp2_with (first | (go_at_call 98; (with_reducible refine (CF.out _ (by repeat (first | exact ht | refine Tb.At.alloc ?_ _ | refine Tb.At.bw ?_ _))).mono ?_); rintro e w_ ⟨rfl, hb_⟩; obtain ⟨y1, rfl⟩ := Soft.BW.mk hb_; clear hb_) | (go_at_call 90; (with_reducible refine (CL.out _ (by repeat (first | exact ht | refine Tb.At.alloc ?_ _ | refine Tb.At.bw ?_ _))).mono ?_); rintro e w_ ⟨rfl, hb_⟩; obtain ⟨y2, rfl⟩ := Soft.BW.mk hb_; clear hb_) | (go_at_call 110; (with_reducible refine (CA.out b false _ (by repeat (first | exact ht | refine Tb.At.alloc ?_ _ | refine Tb.At.bw ?_ _)) (by omega) N1.out).mono ?_); rintro e w_ ⟨rfl, hb_⟩; obtain ⟨y3, rfl⟩ := Soft.BW.mk hb_; clear hb_) | (go_at_call 110; (with_reducible refine (CB.out a false _ (by repeat (first | exact ht | refine Tb.At.alloc ?_ _ | refine Tb.At.bw ?_ _)) (by omega) N2.out).mono ?_); rintro e w_ ⟨rfl, hb_⟩; obtain ⟨y4, rfl⟩ := Soft.BW.mk hb_; clear hb_) | (go_at_call 110; (with_reducible refine (CA.out a true _ (by repeat (first | exact ht | refine Tb.At.alloc ?_ _ | refine Tb.At.bw ?_ _)) (by omega) G1.out).mono ?_); rintro e w_ ⟨rfl, hb_⟩; obtain ⟨y5, rfl⟩ := Soft.BW.mk hb_; clear hb_) | (go_at_call 110; (with_reducible refine (CB.out b false _ (by repeat (first | exact ht | refine Tb.At.alloc ?_ _ | refine Tb.At.bw ?_ _)) (by omega) G2.out).mono ?_); rintro e w_ ⟨rfl, hb_⟩; obtain ⟨y6, rfl⟩ := Soft.BW.mk hb_; clear hb_))
              rw [← EC.out, ← ED.out]
              refine bodyPost_ret (v := .tuple #[.agg #[.int .i64 c, .int .i64 b], .bool true]) (by simp [results, Tryz.results80, go_sem]) rfl ?_
              refine ⟨rfl, ?_⟩
              (repeat (first | with_reducible exact bel_refl _ | with_reducible refine bel_alloc ?_ _ | with_reducible refine bel_bw _ ?_ | with_reducible refine bel_drew ?_ | with_reducible refine bel_drewN _ ?_ | ((with_reducible refine bel_set ?_ ?_ _); rotate_left; focus (first | (simp; done) | omega | (simp; omega))) | refine bel_step ?_ (by with_reducible assumption)))
        · have G2 := Lib.hid g2.symm
          obtain ⟨j1, j2, F4⟩ := f4 g2
          replace F4 := Lib.hid F4
          clear f2 f4 g2
          go_enter Tryz.func80, Tryz.ntmps80
          go_wp2_with (first | (go_at_call 98; (with_reducible refine (CF.out _ (by repeat (first | exact ht | refine Tb.At.alloc ?_ _ | refine Tb.At.bw ?_ _))).mono ?_); rintro e w_ ⟨rfl, hb_⟩; obtain ⟨y1, rfl⟩ := Soft.BW.mk hb_; clear hb_) | (go_at_call 90; (with_reducible refine (CL.out _ (by repeat (first | exact ht | refine Tb.At.alloc ?_ _ | refine Tb.At.bw ?_ _))).mono ?_); rintro e w_ ⟨rfl, hb_⟩; obtain ⟨y2, rfl⟩ := Soft.BW.mk hb_; clear hb_) | (go_at_call 110; (with_reducible refine (CA.out b false _ (by repeat (first | exact ht | refine Tb.At.alloc ?_ _ | refine Tb.At.bw ?_ _)) (by omega) N1.out).mono ?_); rintro e w_ ⟨rfl, hb_⟩; obtain ⟨y3, rfl⟩ := Soft.BW.mk hb_; clear hb_) | (go_at_call 110; (with_reducible refine (CB.out a false _ (by repeat (first | exact ht | refine Tb.At.alloc ?_ _ | refine Tb.At.bw ?_ _)) (by omega) N2.out).mono ?_); rintro e w_ ⟨rfl, hb_⟩; obtain ⟨y4, rfl⟩ := Soft.BW.mk hb_; clear hb_) | (go_at_call 110; (with_reducible refine (CA.out a true _ (by repeat (first | exact ht | refine Tb.At.alloc ?_ _ | refine Tb.At.bw ?_ _)) (by omega) G1.out).mono ?_); rintro e w_ ⟨rfl, hb_⟩; obtain ⟨y5, rfl⟩ := Soft.BW.mk hb_; clear hb_) | (go_at_call 110; (with_reducible refine (CB.out b true _ (by repeat (first | exact ht | refine Tb.At.alloc ?_ _ | refine Tb.At.bw ?_ _)) (by omega) G2.out).mono ?_); rintro e w_ ⟨rfl, hb_⟩; obtain ⟨y6, rfl⟩ := Soft.BW.mk hb_; clear hb_))
          go_loopw [11, 12] (fun i j wr => ∃ c d : Int, a ≤ c ∧ c ≤ L ∧ L < d ∧ d ≤ b ∧ i = .int .i64 c ∧ j = .int .i64 d ∧ Below (y4.w.alloc (.cells #[.int .i64 a, .int .i64 b] 23)).heap.size (y4.w.alloc (.cells #[.int .i64 a, .int .i64 b] 23)) wr) (fun i j _ => (intOf j - intOf i).toNat)
          case atStart => exact ⟨a, b, by omega, by omega, by omega, by omega, rfl, rfl, y5.below⟩
          case round =>
            obtain ⟨c, d, hc1, hc2, hd1, hd2, rfl, rfl, hB⟩ := hrel
            clear y5
            obtain ⟨z, rfl⟩ := Soft.BW.mk hB
            clear hB
            by_cases hlt : 1 < d - c
            · have hm : (d - c).tdiv 2 = (d - c) / 2 := Int.tdiv_eq_ediv_of_nonneg (by omega)
              have hm1 : c < c + (d - c) / 2 := by omega
              have hm2 : c + (d - c) / 2 < d := by omega
              generalize hmid : (d - c) / 2 = h at *
              clear hmid
              by_cases hx : c + h ≤ L
              · have HX := Lib.hid (show true = ahead (c + h) by rw [F3.out _ (by omega) (by omega)]; exact (decide_eq_true hx).symm)
                go_wp2_with (first | (go_at_call 110; (with_reducible refine (CA.out (c + h) true _ (by repeat (first | exact ht | refine Tb.At.alloc ?_ _ | refine Tb.At.bw ?_ _)) (by omega) HX.out).mono ?_); rintro e w_ ⟨rfl, hb_⟩; obtain ⟨v1, rfl⟩ := Soft.BW.mk hb_; clear hb_))
                go_roundw
                case rel => exact ⟨c + h, d, by omega, by omega, by omega, by omega, rfl, rfl, z.below.trans (v1.below.mono z.below.size)⟩
                case measure => simp [intOf]; omega
              · have HX := Lib.hid (show false = ahead (c + h) by rw [F3.out _ (by omega) (by omega)]; exact (decide_eq_false hx).symm)
                go_wp2_with (first | (go_at_call 110; (with_reducible refine (CA.out (c + h) false _ (by repeat (first | exact ht | refine Tb.At.alloc ?_ _ | refine Tb.At.bw ?_ _)) (by omega) HX.out).mono ?_); rintro e w_ ⟨rfl, hb_⟩; obtain ⟨v1, rfl⟩ := Soft.BW.mk hb_; clear hb_))
                go_roundw
                case rel => exact ⟨c, c + h, by omega, by omega, by omega, by omega, rfl, rfl, z.below.trans (v1.below.mono z.below.size)⟩
                case measure => simp [intOf]; omega
            · have EC := Lib.hid (show c = L by omega)
              obtain ⟨z2, ez, ez2⟩ : ∃ x' : Soft.BW (y4.w.alloc (.cells #[.int .i64 c, .int .i64 b] 23)), z.w.setCell ⟨y4.w.heap.size, 0, none⟩ (.int .i64 c) = x'.w ∧ x'.w.heap.size = z.w.heap.size := bwPut z 0 (.int .i64 c) _ rfl
              go_wp2_with (first | (go_at_call 98; (with_reducible refine (CF.out _ (by repeat (first | exact ht | refine Tb.At.alloc ?_ _ | refine Tb.At.bw ?_ _))).mono ?_); rintro e w_ ⟨rfl, hb_⟩; obtain ⟨y1, rfl⟩ := Soft.BW.mk hb_; clear hb_) | (go_at_call 90; (with_reducible refine (CL.out _ (by repeat (first | exact ht | refine Tb.At.alloc ?_ _ | refine Tb.At.bw ?_ _))).mono ?_); rintro e w_ ⟨rfl, hb_⟩; obtain ⟨y2, rfl⟩ := Soft.BW.mk hb_; clear hb_) | (go_at_call 110; (with_reducible refine (CA.out b false _ (by repeat (first | exact ht | refine Tb.At.alloc ?_ _ | refine Tb.At.bw ?_ _)) (by omega) N1.out).mono ?_); rintro e w_ ⟨rfl, hb_⟩; obtain ⟨y3, rfl⟩ := Soft.BW.mk hb_; clear hb_) | (go_at_call 110; (with_reducible refine (CB.out a false _ (by repeat (first | exact ht | refine Tb.At.alloc ?_ _ | refine Tb.At.bw ?_ _)) (by omega) N2.out).mono ?_); rintro e w_ ⟨rfl, hb_⟩; obtain ⟨y4, rfl⟩ := Soft.BW.mk hb_; clear hb_) | (go_at_call 110; (with_reducible refine (CA.out a true _ (by repeat (first | exact ht | refine Tb.At.alloc ?_ _ | refine Tb.At.bw ?_ _)) (by omega) G1.out).mono ?_); rintro e w_ ⟨rfl, hb_⟩; obtain ⟨y5, rfl⟩ := Soft.BW.mk hb_; clear hb_) | (go_at_call 110; (with_reducible refine (CB.out b true _ (by repeat (first | exact ht | refine Tb.At.alloc ?_ _ | refine Tb.At.bw ?_ _)) (by omega) G2.out).mono ?_); rintro e w_ ⟨rfl, hb_⟩; obtain ⟨y6, rfl⟩ := Soft.BW.mk hb_; clear hb_))
              go_loopw [14, 15] (fun i j wr => ∃ c2 d2 : Int, a ≤ c2 ∧ c2 < H ∧ H ≤ d2 ∧ d2 ≤ b ∧ i = .int .i64 c2 ∧ j = .int .i64 d2 ∧ Below (y4.w.alloc (.cells #[.int .i64 c, .int .i64 b] 23)).heap.size (y4.w.alloc (.cells #[.int .i64 c, .int .i64 b] 23)) wr) (fun i j _ => (intOf j - intOf i).toNat)
              case atStart => exact ⟨a, b, by omega, by omega, by omega, by omega, rfl, rfl, z2.below.trans (y6.below.mono z2.below.size)⟩
              case round =>
                obtain ⟨c2, d2, hc1, hc2, hd1, hd2, rfl, rfl, hB2⟩ := hrel
                obtain ⟨u, rfl⟩ := Soft.BW.mk hB2
                clear hB2
                by_cases hlt2 : 1 < d2 - c2
                · have hm : (d2 - c2).tdiv 2 = (d2 - c2) / 2 := Int.tdiv_eq_ediv_of_nonneg (by omega)
                  have hm1 : c2 < c2 + (d2 - c2) / 2 := by omega
                  have hm2 : c2 + (d2 - c2) / 2 < d2 := by omega
                  generalize hmid : (d2 - c2) / 2 = h2 at *
                  clear hmid
                  by_cases hx : H ≤ c2 + h2
                  · have HX := Lib.hid (show true = behind (c2 + h2) by rw [F4.out _ (by omega) (by omega)]; exact (decide_eq_true hx).symm)
                    go_wp2_with (first | (go_at_call 110; (with_reducible refine (CB.out (c2 + h2) true _ (by repeat (first | exact ht | refine Tb.At.alloc ?_ _ | refine Tb.At.bw ?_ _)) (by omega) HX.out).mono ?_); rintro e w_ ⟨rfl, hb_⟩; obtain ⟨v1, rfl⟩ := Soft.BW.mk hb_; clear hb_))
                    go_roundw
                    case rel => exact ⟨c2, c2 + h2, by omega, by omega, by omega, by omega, rfl, rfl, u.below.trans (v1.below.mono u.below.size)⟩
                    case measure => simp [intOf]; omega
                  · have HX := Lib.hid (show false = behind (c2 + h2) by rw [F4.out _ (by omega) (by omega)]; exact (decide_eq_false hx).symm)
                    go_wp2_with (first | (go_at_call 110; (with_reducible refine (CB.out (c2 + h2) false _ (by repeat (first | exact ht | refine Tb.At.alloc ?_ _ | refine Tb.At.bw ?_ _)) (by omega) HX.out).mono ?_); rintro e w_ ⟨rfl, hb_⟩; obtain ⟨v1, rfl⟩ := Soft.BW.mk hb_; clear hb_))
                    go_roundw
                    case rel => exact ⟨c2 + h2, d2, by omega, by omega, by omega, by omega, rfl, rfl, u.below.trans (v1.below.mono u.below.size)⟩
                    case measure => simp [intOf]; omega
                · have ED := Lib.hid (show d2 = H by omega)
                  obtain ⟨u2, eu, eu2⟩ : ∃ x' : Soft.BW (y4.w.alloc (.cells #[.int .i64 c, .int .i64 d2] 23)), u.w.setCell ⟨y4.w.heap.size, 1, none⟩ (.int .i64 d2) = x'.w ∧ x'.w.heap.size = u.w.heap.size := bwPut u 1 (.int .i64 d2) _ rfl
                  go_wp2_with fail
                  rw [← EC.out, ← ED.out]
                  refine bodyPost_ret (v := .tuple #[.agg #[.int .i64 c, .int .i64 d2], .bool true]) (by simp [results, Tryz.results80, go_sem]) rfl ?_
                  refine ⟨rfl, ?_⟩
                  (repeat (first | with_reducible exact bel_refl _ | with_reducible refine bel_alloc ?_ _ | with_reducible refine bel_bw _ ?_ | with_reducible refine bel_drew ?_ | with_reducible refine bel_drewN _ ?_ | ((with_reducible refine bel_set ?_ ?_ _); rotate_left; focus (first | (simp; done) | omega | (simp; omega))) | refine bel_step ?_ (by with_reducible assumption)))
    · have N1 := Lib.hid n1.symm
      have N2 := Lib.hid n2.symm
      rw [show invS ahead behind a b = (⟨0, 0⟩, false) from if_pos (.inr n2)]
      clear n1 n2
      go_enter Tryz.func80, Tryz.ntmps80
      go_wp2_with (first | (go_at_call 98; (with_reducible refine (CF.out _ (by repeat (first | exact ht | refine Tb.At.alloc ?_ _ | refine Tb.At.bw ?_ _))).mono ?_); rintro e w_ ⟨rfl, hb_⟩; obtain ⟨y1, rfl⟩ := Soft.BW.mk hb_; clear hb_) | (go_at_call 90; (with_reducible refine (CL.out _ (by repeat (first | exact ht | refine Tb.At.alloc ?_ _ | refine Tb.At.bw ?_ _))).mono ?_); rintro e w_ ⟨rfl, hb_⟩; obtain ⟨y2, rfl⟩ := Soft.BW.mk hb_; clear hb_) | (go_at_call 110; (with_reducible refine (CA.out b false _ (by repeat (first | exact ht | refine Tb.At.alloc ?_ _ | refine Tb.At.bw ?_ _)) (by omega) N1.out).mono ?_); rintro e w_ ⟨rfl, hb_⟩; obtain ⟨y3, rfl⟩ := Soft.BW.mk hb_; clear hb_) | (go_at_call 110; (with_reducible refine (CB.out a true _ (by repeat (first | exact ht | refine Tb.At.alloc ?_ _ | refine Tb.At.bw ?_ _)) (by omega) N2.out).mono ?_); rintro e w_ ⟨rfl, hb_⟩; obtain ⟨y4, rfl⟩ := Soft.BW.mk hb_; clear hb_))
      refine bodyPost_ret (v := .tuple #[.agg #[.int .i64 ((⟨0, 0⟩ : Rg)).lo, .int .i64 ((⟨0, 0⟩ : Rg)).hi], .bool false]) (by simp [results, Tryz.results80, go_sem]) rfl ?_
      refine ⟨rfl, ?_⟩
      (repeat (first | with_reducible exact bel_refl _ | with_reducible refine bel_alloc ?_ _ | with_reducible refine bel_bw _ ?_ | with_reducible refine bel_drew ?_ | with_reducible refine bel_drewN _ ?_ | ((with_reducible refine bel_set ?_ ?_ _); rotate_left; focus (first | (simp; done) | omega | (simp; omega))) | refine bel_step ?_ (by with_reducible assumption)))
  · have N1 := Lib.hid n1.symm
    rw [show invS ahead behind a b = (⟨0, 0⟩, false) from if_pos (.inl n1)]
    clear n1
    go_enter Tryz.func80, Tryz.ntmps80
    go_wp2_with (first | (go_at_call 98; (with_reducible refine (CF.out _ (by repeat (first | exact ht | refine Tb.At.alloc ?_ _ | refine Tb.At.bw ?_ _))).mono ?_); rintro e w_ ⟨rfl, hb_⟩; obtain ⟨y1, rfl⟩ := Soft.BW.mk hb_; clear hb_) | (go_at_call 90; (with_reducible refine (CL.out _ (by repeat (first | exact ht | refine Tb.At.alloc ?_ _ | refine Tb.At.bw ?_ _))).mono ?_); rintro e w_ ⟨rfl, hb_⟩; obtain ⟨y2, rfl⟩ := Soft.BW.mk hb_; clear hb_) | (go_at_call 110; (with_reducible refine (CA.out b true _ (by repeat (first | exact ht | refine Tb.At.alloc ?_ _ | refine Tb.At.bw ?_ _)) (by omega) N1.out).mono ?_); rintro e w_ ⟨rfl, hb_⟩; obtain ⟨y3, rfl⟩ := Soft.BW.mk hb_; clear hb_))
    refine bodyPost_ret (v := .tuple #[.agg #[.int .i64 ((⟨0, 0⟩ : Rg)).lo, .int .i64 ((⟨0, 0⟩ : Rg)).hi], .bool false]) (by simp [results, Tryz.results80, go_sem]) rfl ?_
    refine ⟨rfl, ?_⟩
    (repeat (first | with_reducible exact bel_refl _ | with_reducible refine bel_alloc ?_ _ | with_reducible refine bel_bw _ ?_ | with_reducible refine bel_drew ?_ | with_reducible refine bel_drewN _ ?_ | ((with_reducible refine bel_set ?_ ?_ _); rotate_left; focus (first | (simp; done) | omega | (simp; omega))) | refine bel_step ?_ (by with_reducible assumption)))

end Go.Proofs.YtbjdgaeikihjbaaGreat
