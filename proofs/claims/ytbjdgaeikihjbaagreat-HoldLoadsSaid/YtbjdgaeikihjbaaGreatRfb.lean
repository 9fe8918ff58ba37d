/-
  The reference's small looks at ranges and tables: Valid, CheckRange, place, amount, density, places, floor, ValidTable, CheckTable, table.
  Conditions: each theorem's own premises.
-/
import Derived.Test.YtbjdgaeikihjbaaGreatRfa
import Derived.Test.YtbjdgaeikihjbaaGreatNorm
namespace Go.Proofs.YtbjdgaeikihjbaaGreat
set_option linter.unusedSimpArgs false
set_option linter.unusedVariables false
open Go.RowKit
set_option maxRecDepth 100000
set_option maxHeartbeats 4000000
attribute [local go_sem] Instr.field asAgg Soft.upon Soft.BW.cell_if Soft.BW.frozen_if Soft.cell_alloc_if Soft.frozen_alloc_if


theorem R1_ValidTable (t : Tb) (w : World) (ht : t.At w) (v : Bool) (hv : v = decide (TabOk t.ps)) :
    Calls Tryz.prog 117 #[.agg #[.slice t.p t.n t.c]] w fun e w' => e = .returned (.bool v) ∧ Below w.heap.size w w' := by
  by_cases hn : 1 ≤ t.n ∧ t.n ≤ 40
  · obtain ⟨p, n, c, ps⟩ := t
    obtain ⟨h1, h2, h3, h4, h5⟩ := ht
    obtain ⟨b, o, rfl, hb, hc⟩ := h5 (by dsimp only at *; omega)
    dsimp only at *
    obtain ⟨n1, n2⟩ := hn
    have HBAD := Lib.hid (show ∀ k, k < n ∧ ¬ptOk ps k → v = false from fun k ⟨hk, hp⟩ => by rw [hv]; exact decide_eq_false (fun h => hp (h.all k (by omega))))
    have HGOOD := Lib.hid (show (∀ k, k < n → ptOk ps k) → v = true from fun h => by rw [hv]; exact decide_eq_true ⟨by omega, by omega, fun k hk => h k (by omega)⟩)
    have hA : Below w.heap.size w (w.alloc (.cells #[.slice (some ⟨b, o, none⟩) n c] 26)) := (Below.refl _ _).alloc (Nat.le_refl _) _
    have H1 := Lib.hid h1; clear h1 h5
    have HC := Lib.hid hc; clear hc hv
    go_enter Tryz.func117, Tryz.ntmps117
    go_wp2_with fail
    go_loopw [18] (fun i wr => ∃ k : Nat, k ≤ n ∧ i = .int .i64 k ∧ (∀ j, j < k → ptOk ps j) ∧ Below (w.heap.size+1) (w.alloc (.cells #[.slice (some ⟨b, o, none⟩) n c] 26)) wr) (fun i _ => n - (intOf i).toNat)
    case atStart => exact ⟨0, by omega, rfl, fun j hj => by omega, Below.refl _ _⟩
    case round =>
      obtain ⟨k, hk, rfl, hall, hB⟩ := hrel
      have hbox : wr.cell? ⟨w.heap.size, 0, none⟩ = some (.slice (some ⟨b, o, none⟩) n c) := by
        rw [hB.cell (by simp)]; simp
      have hsz : w.heap.size < wr.heap.size := by have := hB.size; simp at this; omega
      have l0 := Soft.LtH.mk (b := w.heap.size) (w := wr) hsz
      have lb := Soft.LtH.mk (b := b) (w := wr) (by omega)
      have HALL := Lib.hid hall; clear hall
      by_cases hlt : k < n
      · obtain ⟨hx, hl, hh⟩ := HC.out k hlt
        rw [← World.cell?_alloc_lt w (.cells #[.slice (some ⟨b, o, none⟩) n c] 26) _ (by simpa using hb), ← hB.cell (by simp; omega)] at hx hl hh
        have HB := Lib.hid hB; clear hB
        have HPREV := Lib.hid (show 0 < k → wr.cell? ⟨b, o + (k - 1) * 3, none⟩ = some (.int .i64 (pt ps (k - 1)).x) from fun h0 => by
          obtain ⟨hx', _, _⟩ := HC.out (k - 1) (by omega)
          rw [← World.cell?_alloc_lt w (.cells #[.slice (some ⟨b, o, none⟩) n c] 26) _ (by simpa using hb), ← HB.out.cell (by simp; omega)] at hx'
          exact hx')
        have HBD := Lib.hid (show ¬ptOk ps k → v = false from fun h => HBAD.out k ⟨hlt, h⟩)
        have HNX := Lib.hid (show ptOk ps k → ∀ j, j < k + 1 → ptOk ps j from fun h j hj => by
          by_cases e : j = k
          · rw [e]; exact h
          · exact HALL.out j (by omega))
        unfold ptOk at HBD
        by_cases hk0 : k = 0
        · have HBD := Lib.hid (show ¬(0 ≤ (pt ps 0).x ∧ (pt ps 0).x ≤ 1000000 ∧ (pt ps 0).lo ≤ (pt ps 0).hi ∧ -1000000000 ≤ (pt ps 0).lo ∧ (pt ps 0).hi ≤ 1000000000) → v = false from fun h => by subst hk0; exact HBD.out (fun h' => h ⟨h'.1, h'.2.1, h'.2.2.1, h'.2.2.2.1, h'.2.2.2.2.1⟩))
          have HNX := Lib.hid (show (0 ≤ (pt ps 0).x ∧ (pt ps 0).x ≤ 1000000 ∧ (pt ps 0).lo ≤ (pt ps 0).hi ∧ -1000000000 ≤ (pt ps 0).lo ∧ (pt ps 0).hi ≤ 1000000000) → ∀ j, j < 0 + 1 → ptOk ps j from fun h => by subst hk0; exact HNX.out ⟨h.1, h.2.1, h.2.2.1, h.2.2.2.1, h.2.2.2.2, .inl rfl⟩)
          rw [hk0] at hx hl hh
          simp only [Nat.zero_mul, Nat.add_zero] at hx hl hh
          subst hk0
          clear HPREV HBAD HGOOD HALL
          generalize pt ps 0 = q at *
          by_cases e0 : q.x < 0
          · have d0 : decide (q.x < 0) = true := decide_eq_true e0
            have HBE := Lib.hid (HBD.out (by omega))
            clear HBD HNX
            go_wp2_with fail
            go_quiet (fail)
            go_wp2_with fail
            go_ret
            refine ⟨ret_bool HBE.out.symm, ?_⟩
            (repeat (first | with_reducible exact bel_refl _ | with_reducible refine bel_alloc ?_ _ | with_reducible refine bel_bw _ ?_ | with_reducible refine bel_drew ?_ | with_reducible refine bel_drewN _ ?_ | ((with_reducible refine bel_set ?_ ?_ _); rotate_left; focus (first | (simp; done) | omega | (simp; omega))) | refine bel_step ?_ (by with_reducible assumption)))
            exact hA.trans (HB.out.mono (by omega))
          · have d0 : decide (q.x < 0) = false := decide_eq_false e0
            by_cases e1 : 1000000 < q.x
            · have d1 : decide (1000000 < q.x) = true := decide_eq_true e1
              have HBE := Lib.hid (HBD.out (by omega))
              clear HBD HNX
              go_wp2_with fail
              go_quiet (fail)
              go_wp2_with fail
              go_ret
              refine ⟨ret_bool HBE.out.symm, ?_⟩
              (repeat (first | with_reducible exact bel_refl _ | with_reducible refine bel_alloc ?_ _ | with_reducible refine bel_bw _ ?_ | with_reducible refine bel_drew ?_ | with_reducible refine bel_drewN _ ?_ | ((with_reducible refine bel_set ?_ ?_ _); rotate_left; focus (first | (simp; done) | omega | (simp; omega))) | refine bel_step ?_ (by with_reducible assumption)))
              exact hA.trans (HB.out.mono (by omega))
            · have d1 : decide (1000000 < q.x) = false := decide_eq_false e1
              by_cases e2 : q.lo < -1000000000
              · have d2 : decide (q.lo < -1000000000) = true := decide_eq_true e2
                have HBE := Lib.hid (HBD.out (by omega))
                clear HBD HNX
                go_wp2_with fail
                go_quiet (fail)
                go_wp2_with fail
                go_ret
                refine ⟨ret_bool HBE.out.symm, ?_⟩
                (repeat (first | with_reducible exact bel_refl _ | with_reducible refine bel_alloc ?_ _ | with_reducible refine bel_bw _ ?_ | with_reducible refine bel_drew ?_ | with_reducible refine bel_drewN _ ?_ | ((with_reducible refine bel_set ?_ ?_ _); rotate_left; focus (first | (simp; done) | omega | (simp; omega))) | refine bel_step ?_ (by with_reducible assumption)))
                exact hA.trans (HB.out.mono (by omega))
              · have d2 : decide (q.lo < -1000000000) = false := decide_eq_false e2
                by_cases e3 : q.hi < q.lo
                · have d3 : decide (q.hi < q.lo) = true := decide_eq_true e3
                  have HBE := Lib.hid (HBD.out (by omega))
                  clear HBD HNX
                  go_wp2_with fail
                  go_quiet (fail)
                  go_wp2_with fail
                  go_ret
                  refine ⟨ret_bool HBE.out.symm, ?_⟩
                  (repeat (first | with_reducible exact bel_refl _ | with_reducible refine bel_alloc ?_ _ | with_reducible refine bel_bw _ ?_ | with_reducible refine bel_drew ?_ | with_reducible refine bel_drewN _ ?_ | ((with_reducible refine bel_set ?_ ?_ _); rotate_left; focus (first | (simp; done) | omega | (simp; omega))) | refine bel_step ?_ (by with_reducible assumption)))
                  exact hA.trans (HB.out.mono (by omega))
                · have d3 : decide (q.hi < q.lo) = false := decide_eq_false e3
                  by_cases e4 : 1000000000 < q.hi
                  · have d4 : decide (1000000000 < q.hi) = true := decide_eq_true e4
                    have HBE := Lib.hid (HBD.out (by omega))
                    clear HBD HNX
                    go_wp2_with fail
                    go_quiet (fail)
                    go_wp2_with fail
                    go_ret
                    refine ⟨ret_bool HBE.out.symm, ?_⟩
                    (repeat (first | with_reducible exact bel_refl _ | with_reducible refine bel_alloc ?_ _ | with_reducible refine bel_bw _ ?_ | with_reducible refine bel_drew ?_ | with_reducible refine bel_drewN _ ?_ | ((with_reducible refine bel_set ?_ ?_ _); rotate_left; focus (first | (simp; done) | omega | (simp; omega))) | refine bel_step ?_ (by with_reducible assumption)))
                    exact hA.trans (HB.out.mono (by omega))
                  · have d4 : decide (1000000000 < q.hi) = false := decide_eq_false e4
                    have HNE := Lib.hid (HNX.out (by omega))
                    clear HBD HNX
                    go_wp2_with fail
                    go_quiet (fail)
                    go_wp2_with fail
                    go_roundw
                    case rel =>
                      refine ⟨0 + 1, by omega, by simp, HNE.out, HB.out.trans (Below.mono (B := wr.heap.size) ?_ (by have := HB.out.size; simp at this; omega))⟩
                      (repeat (first | with_reducible exact bel_refl _ | with_reducible refine bel_alloc ?_ _ | with_reducible refine bel_bw _ ?_ | with_reducible refine bel_drew ?_ | with_reducible refine bel_drewN _ ?_ | ((with_reducible refine bel_set ?_ ?_ _); rotate_left; focus (first | (simp; done) | omega | (simp; omega))) | refine bel_step ?_ (by with_reducible assumption)))
                    case measure => simp [intOf]; omega
        · have hp := HPREV.out (by omega)
          have HBD := Lib.hid (show ¬(0 ≤ (pt ps k).x ∧ (pt ps k).x ≤ 1000000 ∧ (pt ps k).lo ≤ (pt ps k).hi ∧ -1000000000 ≤ (pt ps k).lo ∧ (pt ps k).hi ≤ 1000000000 ∧ (pt ps (k - 1)).x < (pt ps k).x) → v = false from fun h => HBD.out (fun h' => h ⟨h'.1, h'.2.1, h'.2.2.1, h'.2.2.2.1, h'.2.2.2.2.1, h'.2.2.2.2.2.resolve_left hk0⟩))
          have HNX := Lib.hid (show (0 ≤ (pt ps k).x ∧ (pt ps k).x ≤ 1000000 ∧ (pt ps k).lo ≤ (pt ps k).hi ∧ -1000000000 ≤ (pt ps k).lo ∧ (pt ps k).hi ≤ 1000000000 ∧ (pt ps (k - 1)).x < (pt ps k).x) → ∀ j, j < k + 1 → ptOk ps j from fun h => HNX.out ⟨h.1, h.2.1, h.2.2.1, h.2.2.2.1, h.2.2.2.2.1, .inr h.2.2.2.2.2⟩)
          clear HPREV HBAD HGOOD HALL
          generalize pt ps k = q at *
          generalize pt ps (k - 1) = r at *
          have j1 : (1 : Int) ≤ k := by omega
          have j2 : (k : Int) - 1 < n := by omega
          have j3 : ((k : Int) - 1).toNat = k - 1 := by omega
          have j4 : 0 < k := by omega
          have j5 : decide ((0 : Int) < (k : Int)) = true := decide_eq_true (by omega)
          have j6 : decide (0 < k) = true := decide_eq_true (by omega)
          by_cases e0 : q.x < 0
          · have d0 : decide (q.x < 0) = true := decide_eq_true e0
            have HBE := Lib.hid (HBD.out (by omega))
            clear HBD HNX
            go_wp2_with fail
            go_quiet (fail)
            go_wp2_with fail
            go_ret
            refine ⟨ret_bool HBE.out.symm, ?_⟩
            (repeat (first | with_reducible exact bel_refl _ | with_reducible refine bel_alloc ?_ _ | with_reducible refine bel_bw _ ?_ | with_reducible refine bel_drew ?_ | with_reducible refine bel_drewN _ ?_ | ((with_reducible refine bel_set ?_ ?_ _); rotate_left; focus (first | (simp; done) | omega | (simp; omega))) | refine bel_step ?_ (by with_reducible assumption)))
            exact hA.trans (HB.out.mono (by omega))
          · have d0 : decide (q.x < 0) = false := decide_eq_false e0
            by_cases e1 : 1000000 < q.x
            · have d1 : decide (1000000 < q.x) = true := decide_eq_true e1
              have HBE := Lib.hid (HBD.out (by omega))
              clear HBD HNX
              go_wp2_with fail
              go_quiet (fail)
              go_wp2_with fail
              go_ret
              refine ⟨ret_bool HBE.out.symm, ?_⟩
              (repeat (first | with_reducible exact bel_refl _ | with_reducible refine bel_alloc ?_ _ | with_reducible refine bel_bw _ ?_ | with_reducible refine bel_drew ?_ | with_reducible refine bel_drewN _ ?_ | ((with_reducible refine bel_set ?_ ?_ _); rotate_left; focus (first | (simp; done) | omega | (simp; omega))) | refine bel_step ?_ (by with_reducible assumption)))
              exact hA.trans (HB.out.mono (by omega))
            · have d1 : decide (1000000 < q.x) = false := decide_eq_false e1
              by_cases e2 : q.x ≤ r.x
              · have d2 : decide (q.x ≤ r.x) = true := decide_eq_true e2
                have HBE := Lib.hid (HBD.out (by omega))
                clear HBD HNX
                go_wp2_with fail
                go_quiet (fail)
                go_wp2_with fail
                go_ret
                refine ⟨ret_bool HBE.out.symm, ?_⟩
                (repeat (first | with_reducible exact bel_refl _ | with_reducible refine bel_alloc ?_ _ | with_reducible refine bel_bw _ ?_ | with_reducible refine bel_drew ?_ | with_reducible refine bel_drewN _ ?_ | ((with_reducible refine bel_set ?_ ?_ _); rotate_left; focus (first | (simp; done) | omega | (simp; omega))) | refine bel_step ?_ (by with_reducible assumption)))
                exact hA.trans (HB.out.mono (by omega))
              · have d2 : decide (q.x ≤ r.x) = false := decide_eq_false e2
                by_cases e3 : q.lo < -1000000000
                · have d3 : decide (q.lo < -1000000000) = true := decide_eq_true e3
                  have HBE := Lib.hid (HBD.out (by omega))
                  clear HBD HNX
                  go_wp2_with fail
                  go_quiet (fail)
                  go_wp2_with fail
                  go_ret
                  refine ⟨ret_bool HBE.out.symm, ?_⟩
                  (repeat (first | with_reducible exact bel_refl _ | with_reducible refine bel_alloc ?_ _ | with_reducible refine bel_bw _ ?_ | with_reducible refine bel_drew ?_ | with_reducible refine bel_drewN _ ?_ | ((with_reducible refine bel_set ?_ ?_ _); rotate_left; focus (first | (simp; done) | omega | (simp; omega))) | refine bel_step ?_ (by with_reducible assumption)))
                  exact hA.trans (HB.out.mono (by omega))
                · have d3 : decide (q.lo < -1000000000) = false := decide_eq_false e3
                  by_cases e4 : q.hi < q.lo
                  · have d4 : decide (q.hi < q.lo) = true := decide_eq_true e4
                    have HBE := Lib.hid (HBD.out (by omega))
                    clear HBD HNX
                    go_wp2_with fail
                    go_quiet (fail)
                    go_wp2_with fail
                    go_ret
                    refine ⟨ret_bool HBE.out.symm, ?_⟩
                    (repeat (first | with_reducible exact bel_refl _ | with_reducible refine bel_alloc ?_ _ | with_reducible refine bel_bw _ ?_ | with_reducible refine bel_drew ?_ | with_reducible refine bel_drewN _ ?_ | ((with_reducible refine bel_set ?_ ?_ _); rotate_left; focus (first | (simp; done) | omega | (simp; omega))) | refine bel_step ?_ (by with_reducible assumption)))
                    exact hA.trans (HB.out.mono (by omega))
                  · have d4 : decide (q.hi < q.lo) = false := decide_eq_false e4
                    by_cases e5 : 1000000000 < q.hi
                    · have d5 : decide (1000000000 < q.hi) = true := decide_eq_true e5
                      have HBE := Lib.hid (HBD.out (by omega))
                      clear HBD HNX
                      go_wp2_with fail
                      go_quiet (fail)
                      go_wp2_with fail
                      go_ret
                      refine ⟨ret_bool HBE.out.symm, ?_⟩
                      (repeat (first | with_reducible exact bel_refl _ | with_reducible refine bel_alloc ?_ _ | with_reducible refine bel_bw _ ?_ | with_reducible refine bel_drew ?_ | with_reducible refine bel_drewN _ ?_ | ((with_reducible refine bel_set ?_ ?_ _); rotate_left; focus (first | (simp; done) | omega | (simp; omega))) | refine bel_step ?_ (by with_reducible assumption)))
                      exact hA.trans (HB.out.mono (by omega))
                    · have d5 : decide (1000000000 < q.hi) = false := decide_eq_false e5
                      have HNE := Lib.hid (HNX.out (by omega))
                      clear HBD HNX
                      go_wp2_with fail
                      go_quiet (fail)
                      go_wp2_with fail
                      go_roundw
                      case rel =>
                        refine ⟨k + 1, by omega, by simp, HNE.out, HB.out.trans (Below.mono (B := wr.heap.size) ?_ (by have := HB.out.size; simp at this; omega))⟩
                        (repeat (first | with_reducible exact bel_refl _ | with_reducible refine bel_alloc ?_ _ | with_reducible refine bel_bw _ ?_ | with_reducible refine bel_drew ?_ | with_reducible refine bel_drewN _ ?_ | ((with_reducible refine bel_set ?_ ?_ _); rotate_left; focus (first | (simp; done) | omega | (simp; omega))) | refine bel_step ?_ (by with_reducible assumption)))
                      case measure => simp [intOf]; omega
      · obtain rfl : k = n := by omega
        have HB := Lib.hid hB; clear hB
        go_wp2_with fail
        go_ret
        refine ⟨ret_bool (HGOOD.out HALL.out).symm, ?_⟩
        exact hA.trans (HB.out.mono (by omega))
  · have hbad : v = false := by rw [hv]; exact decide_eq_false (fun h => hn (by have := h.pos; have := h.le; have := ht.1; omega))
    have HT := Lib.hid hbad; clear hbad hv
    have hn' : (t.n : Int) < 1 ∨ 40 < (t.n : Int) := by omega
    clear hn
    rcases hn' with hn | hn
    · go_enter Tryz.func117, Tryz.ntmps117
      go_wp2
      go_ret
      refine ⟨ret_bool HT.out.symm, ?_⟩
      (repeat (first | with_reducible exact bel_refl _ | with_reducible refine bel_alloc ?_ _ | with_reducible refine bel_bw _ ?_ | with_reducible refine bel_drew ?_ | with_reducible refine bel_drewN _ ?_ | ((with_reducible refine bel_set ?_ ?_ _); rotate_left; focus (first | (simp; done) | omega | (simp; omega))) | refine bel_step ?_ (by with_reducible assumption)))
    · have hn2 : ¬(t.n : Int) < 1 := by omega
      go_enter Tryz.func117, Tryz.ntmps117
      go_wp2
      go_ret
      refine ⟨ret_bool HT.out.symm, ?_⟩
      (repeat (first | with_reducible exact bel_refl _ | with_reducible refine bel_alloc ?_ _ | with_reducible refine bel_bw _ ?_ | with_reducible refine bel_drew ?_ | with_reducible refine bel_drewN _ ?_ | ((with_reducible refine bel_set ?_ ?_ _); rotate_left; focus (first | (simp; done) | omega | (simp; omega))) | refine bel_step ?_ (by with_reducible assumption)))

end Go.Proofs.YtbjdgaeikihjbaaGreat
