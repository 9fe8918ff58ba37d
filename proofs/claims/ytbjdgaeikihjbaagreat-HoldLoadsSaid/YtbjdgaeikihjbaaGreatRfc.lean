/-
  The reference's looks at tables: CheckTable, table, falls, rises, along.
  Conditions: each theorem's own premises.
-/
import Derived.Test.YtbjdgaeikihjbaaGreatRfb
import Derived.Test.YtbjdgaeikihjbaaGreatCheck
import Derived.Test.YtbjdgaeikihjbaaGreatNorm
namespace Go.Proofs.YtbjdgaeikihjbaaGreat
set_option linter.unusedSimpArgs false
set_option linter.unusedVariables false
open Go.RowKit
set_option maxRecDepth 100000
set_option maxHeartbeats 4000000
attribute [local go_sem] Instr.field asAgg Soft.upon Soft.BW.cell_if Soft.BW.frozen_if Soft.cell_alloc_if Soft.frozen_alloc_if

theorem R1_CheckTable (t : Tb) (w : World) (ht : t.At w) :
    Calls Tryz.prog 97 #[.agg #[.slice t.p t.n t.c]] w fun e w' => e = .returned (.int .i64 (tabErr t.ps)) ∧ Below w.heap.size w w' := by
  by_cases c : TabOk t.ps
  · have HC := Lib.hid (decide_eq_true c).symm
    have HV := Lib.hid (show tabErr t.ps = 0 from if_pos c); clear c
    go_enter Tryz.func97, Tryz.ntmps97
    go_wp2_with ((go_at_call 117; (with_reducible refine (R1_ValidTable t _ (by repeat (first | exact ht | refine Tb.At.alloc ?_ _ | refine Tb.At.bw ?_ _)) true HC.out).mono ?_); rintro e w_ ⟨rfl, hb_⟩; obtain ⟨y1, rfl⟩ := Soft.BW.mk hb_; clear hb_))
    go_ret
    refine ⟨ret_int HV.out.symm, ?_⟩
    (repeat (first | with_reducible exact bel_refl _ | with_reducible refine bel_alloc ?_ _ | with_reducible refine bel_bw _ ?_ | with_reducible refine bel_drew ?_ | with_reducible refine bel_drewN _ ?_ | ((with_reducible refine bel_set ?_ ?_ _); rotate_left; focus (first | (simp; done) | omega | (simp; omega))) | refine bel_step ?_ (by with_reducible assumption)))
  · have HC := Lib.hid (decide_eq_false c).symm
    have HV := Lib.hid (show tabErr t.ps = 11 from if_neg c); clear c
    go_enter Tryz.func97, Tryz.ntmps97
    go_wp2_with ((go_at_call 117; (with_reducible refine (R1_ValidTable t _ (by repeat (first | exact ht | refine Tb.At.alloc ?_ _ | refine Tb.At.bw ?_ _)) false HC.out).mono ?_); rintro e w_ ⟨rfl, hb_⟩; obtain ⟨y1, rfl⟩ := Soft.BW.mk hb_; clear hb_))
    go_ret
    refine ⟨ret_int HV.out.symm, ?_⟩
    (repeat (first | with_reducible exact bel_refl _ | with_reducible refine bel_alloc ?_ _ | with_reducible refine bel_bw _ ?_ | with_reducible refine bel_drew ?_ | with_reducible refine bel_drewN _ ?_ | ((with_reducible refine bel_set ?_ ?_ _); rotate_left; focus (first | (simp; done) | omega | (simp; omega))) | refine bel_step ?_ (by with_reducible assumption)))

theorem R2_table (t : Tb) (w : World) (ht : t.At w) (v : Bool) (hv : v = decide (Tab2 t.ps)) :
    Calls Tryz.prog 62 #[.agg #[.slice t.p t.n t.c]] w fun e w' => e = .returned (.bool v) ∧ Below w.heap.size w w' := by
  by_cases c : TabOk t.ps
  · have d0 : (tabErr t.ps != 0) = false := by rw [show tabErr t.ps = 0 from if_pos c]; rfl
    by_cases c2 : 2 ≤ t.ps.length
    · have HBAD := Lib.hid (show ∀ k, k < t.ps.length → (pt t.ps k).lo < 0 → v = false from fun k hk hl => by rw [hv]; exact decide_eq_false (fun h => h.pos ⟨k, hk, hl⟩))
      have HGOOD := Lib.hid (show (∀ k, k < t.ps.length → ¬(pt t.ps k).lo < 0) → v = true from fun h => by rw [hv]; exact decide_eq_true ⟨c, c2, fun ⟨k, hk, hl⟩ => h k hk hl⟩)
      have ht' := ht
      have hle := c.le
      have HCT : Hid (∀ W, t.At W → Calls Tryz.prog 97 #[.agg #[.slice t.p t.n t.c]] W fun e w' => e = .returned (.int .i64 (tabErr t.ps)) ∧ Below W.heap.size W w') := Lib.hid (fun W hW => R1_CheckTable t W hW)
      clear c hv
      generalize tabErr t.ps = te at *
      obtain ⟨p, n, c, ps⟩ := t
      obtain ⟨h1, h2, h3, h4, h5⟩ := ht'
      obtain ⟨b, o, rfl, hb, hc⟩ := h5 (by dsimp only at *; omega)
      dsimp only at *
      have hn2 : ¬(n : Int) < 2 := by omega
      have hn40 : n ≤ 40 := by omega
      rw [h1] at HBAD HGOOD
      have HL := Lib.hid h1
      have HC := Lib.hid hc
      clear h1 hc h5 c2 hle
      go_enter Tryz.func62, Tryz.ntmps62
      go_wp2_with ((go_at_call 97; (with_reducible refine (HCT.out _ (by repeat (first | exact ht | refine Tb.At.alloc ?_ _ | refine Tb.At.bw ?_ _))).mono ?_); rintro e w_ ⟨rfl, hb_⟩; obtain ⟨y1, rfl⟩ := Soft.BW.mk hb_; clear hb_))
      have hA : Below w.heap.size w y1.w := by (repeat (first | with_reducible exact bel_refl _ | with_reducible refine bel_alloc ?_ _ | with_reducible refine bel_bw _ ?_ | with_reducible refine bel_drew ?_ | with_reducible refine bel_drewN _ ?_ | ((with_reducible refine bel_set ?_ ?_ _); rotate_left; focus (first | (simp; done) | omega | (simp; omega))) | refine bel_step ?_ (by with_reducible assumption)))
      have hbx : y1.w.cell? ⟨w.heap.size, 0, none⟩ = some (.slice (some ⟨b, o, none⟩) n c) := by simp only [Soft.BW.cell_if]; simp
      have hsz := y1.below.size
      simp at hsz
      go_loopw [3] (fun i wr => ∃ k : Nat, k ≤ n ∧ i = .int .i64 k ∧ (∀ j, j < k → ¬(pt ps j).lo < 0) ∧ Below y1.w.heap.size y1.w wr) (fun i _ => n - (intOf i).toNat)
      case atStart => exact ⟨0, by omega, rfl, fun j hj => by omega, Below.refl _ _⟩
      case round =>
        obtain ⟨k, hk, rfl, hall, hB⟩ := hrel
        have HALL := Lib.hid hall; clear hall
        have l0 := Soft.LtH.mk (b := w.heap.size) (w := wr) (by have := hB.size; omega)
        have lb := Soft.LtH.mk (b := b) (w := wr) (by have := hB.size; omega)
        have hbox := (hB.cell (p := ⟨w.heap.size, 0, none⟩) (by dsimp only; omega)).trans hbx
        by_cases hlt : k < n
        · obtain ⟨_, hl, _⟩ := HC.out k hlt
          rw [← hA.cell (p := ⟨b, o + k * 3 + 1, none⟩) hb, ← hB.cell (by dsimp only; omega)] at hl
          have HB := Lib.hid hB; clear hB
          have HBD := Lib.hid (HBAD.out k hlt)
          have HNX := Lib.hid (show ¬(pt ps k).lo < 0 → ∀ j, j < k + 1 → ¬(pt ps j).lo < 0 from fun h j hj => by
            by_cases e : j = k
            · rw [e]; exact h
            · exact HALL.out j (by omega))
          generalize pt ps k = q at *
          by_cases e0 : q.lo < 0
          · have HE := Lib.hid (HBD.out e0)
            go_wp2_with fail
            go_ret
            exact ⟨ret_bool HE.out.symm, hA.trans (HB.out.mono (by omega))⟩
          · have HE := Lib.hid (HNX.out e0)
            go_wp2_with fail
            go_roundw
            case rel => exact ⟨k + 1, by omega, by simp, HE.out, HB.out⟩
            case measure => simp [intOf]; omega
        · obtain rfl : k = n := by omega
          have HB := Lib.hid hB; clear hB
          go_wp2_with fail
          go_ret
          exact ⟨ret_bool (HGOOD.out HALL.out).symm, hA.trans (HB.out.mono (by omega))⟩
    · have HV := Lib.hid (show v = false by rw [hv]; exact decide_eq_false (fun h => c2 h.two))
      have hn2 : (t.n : Int) < 2 := by have := ht.1; omega
      clear hv c c2
      go_enter Tryz.func62, Tryz.ntmps62
      go_wp2_with ((go_at_call 97; (with_reducible refine (R1_CheckTable t _ (by repeat (first | exact ht | refine Tb.At.alloc ?_ _ | refine Tb.At.bw ?_ _))).mono ?_); rintro e w_ ⟨rfl, hb_⟩; obtain ⟨y1, rfl⟩ := Soft.BW.mk hb_; clear hb_))
      go_ret
      refine ⟨ret_bool HV.out.symm, ?_⟩
      (repeat (first | with_reducible exact bel_refl _ | with_reducible refine bel_alloc ?_ _ | with_reducible refine bel_bw _ ?_ | with_reducible refine bel_drew ?_ | with_reducible refine bel_drewN _ ?_ | ((with_reducible refine bel_set ?_ ?_ _); rotate_left; focus (first | (simp; done) | omega | (simp; omega))) | refine bel_step ?_ (by with_reducible assumption)))
  · have HV := Lib.hid (show v = false by rw [hv]; exact decide_eq_false (fun h => c h.ok))
    have d0 : (tabErr t.ps != 0) = true := by rw [show tabErr t.ps = 11 from if_neg c]; rfl
    clear hv c
    go_enter Tryz.func62, Tryz.ntmps62
    go_wp2_with ((go_at_call 97; (with_reducible refine (R1_CheckTable t _ (by repeat (first | exact ht | refine Tb.At.alloc ?_ _ | refine Tb.At.bw ?_ _))).mono ?_); rintro e w_ ⟨rfl, hb_⟩; obtain ⟨y1, rfl⟩ := Soft.BW.mk hb_; clear hb_))
    go_ret
    refine ⟨ret_bool HV.out.symm, ?_⟩
    (repeat (first | with_reducible exact bel_refl _ | with_reducible refine bel_alloc ?_ _ | with_reducible refine bel_bw _ ?_ | with_reducible refine bel_drew ?_ | with_reducible refine bel_drewN _ ?_ | ((with_reducible refine bel_set ?_ ?_ _); rotate_left; focus (first | (simp; done) | omega | (simp; omega))) | refine bel_step ?_ (by with_reducible assumption)))

theorem R2_falls (t : Tb) (w : World) (ht : t.At w) (h2 : Tab2 t.ps) (v : Bool) (hv : v = decide (mono t.ps (-1))) :
    Calls Tryz.prog 64 #[.agg #[.slice t.p t.n t.c]] w fun e w' => e = .returned (.bool v) ∧ Below w.heap.size w w' := by
  have HBAD := Lib.hid (show ∀ k, k < t.ps.length - 1 → ¬monoAt t.ps (-1) k → v = false from fun k hk h => by rw [hv]; exact decide_eq_false (fun h' => h (h' k hk)))
  have HGOOD := Lib.hid (show (∀ k, k < t.ps.length - 1 → monoAt t.ps (-1) k) → v = true from fun h => by rw [hv]; exact decide_eq_true h)
  clear hv
  have ht' := ht
  have htwo := h2.two
  have hle := h2.ok.le
  clear h2
  obtain ⟨p, n, c, ps⟩ := t
  obtain ⟨h1, h2, h3, h4, h5⟩ := ht'
  dsimp only at *
  obtain ⟨b, o, rfl, hb, hc⟩ := h5 (by omega)
  rw [h1] at HBAD HGOOD
  have hn2 : 2 ≤ n := by omega
  have hn40 : n ≤ 40 := by omega
  have HL := Lib.hid h1
  have HC := Lib.hid hc
  clear h1 hc h5 htwo hle ht
  go_enter Tryz.func64, Tryz.ntmps64
  go_wp2_with fail
  go_loopw [3] (fun i wr => ∃ k : Nat, k ≤ n - 1 ∧ i = .int .i64 ((k : Int) + 1) ∧ (∀ j, j < k → monoAt ps (-1) j) ∧ Below (w.heap.size + 1) (w.alloc (.cells #[.slice (some ⟨b, o, none⟩) n c] 26)) wr) (fun i _ => n - (intOf i).toNat)
  case atStart => exact ⟨0, by omega, rfl, fun j hj => by omega, Below.refl _ _⟩
  case round =>
    obtain ⟨k, hk, rfl, hall, hB⟩ := hrel
    have HALL := Lib.hid hall; clear hall
    have hbox : wr.cell? ⟨w.heap.size, 0, none⟩ = some (.slice (some ⟨b, o, none⟩) n c) := by
      rw [hB.cell (by simp)]; simp
    have hsz : w.heap.size < wr.heap.size := by have := hB.size; simp at this; omega
    have l0 := Soft.LtH.mk (b := w.heap.size) (w := wr) hsz
    have lb := Soft.LtH.mk (b := b) (w := wr) (by omega)
    have hA : Below w.heap.size w (w.alloc (.cells #[.slice (some ⟨b, o, none⟩) n c] 26)) := (Below.refl _ _).alloc (Nat.le_refl _) _
    by_cases hlt : k < n - 1
    · obtain ⟨_, x1, x2⟩ := HC.out k (by omega)
      obtain ⟨_, z1, z2⟩ := HC.out (k + 1) (by omega)
      rw [← World.cell?_alloc_lt w (.cells #[.slice (some ⟨b, o, none⟩) n c] 26) _ (by simpa using hb), ← hB.cell (by simp; omega)] at x1 x2 z1 z2
      have HB := Lib.hid hB; clear hB
      have HBD := Lib.hid (HBAD.out k hlt)
      have HNX := Lib.hid (show monoAt ps (-1) k → ∀ j, j < k + 1 → monoAt ps (-1) j from fun h j hj => by
        by_cases e : j = k
        · rw [e]; exact h
        · exact HALL.out j (by omega))
      unfold monoAt at HBD HNX
      have i1 : (k : Int) + 1 < n := by omega
      have i2 : (k : Int) < n := by omega
      generalize pt ps (k + 1) = q at *
      generalize pt ps k = r at *
      by_cases e0 : r.lo < q.lo
      · have d0 : decide (r.lo < q.lo) = true := decide_eq_true e0
        have HE := Lib.hid (HBD.out (by omega))
        clear HBD HNX HBAD HGOOD HALL
        go_wp2_with fail
        go_quiet (fail)
        go_wp2_with fail
        go_ret
        refine ⟨ret_bool HE.out.symm, ?_⟩
        (repeat (first | with_reducible exact bel_refl _ | with_reducible refine bel_alloc ?_ _ | with_reducible refine bel_bw _ ?_ | with_reducible refine bel_drew ?_ | with_reducible refine bel_drewN _ ?_ | ((with_reducible refine bel_set ?_ ?_ _); rotate_left; focus (first | (simp; done) | omega | (simp; omega))) | refine bel_step ?_ (by with_reducible assumption)))
        exact hA.trans (HB.out.mono (by omega))
      · have d0 : decide (r.lo < q.lo) = false := decide_eq_false e0
        by_cases e1 : r.hi < q.hi
        · have d1 : decide (r.hi < q.hi) = true := decide_eq_true e1
          have HE := Lib.hid (HBD.out (by omega))
          clear HBD HNX HBAD HGOOD HALL
          go_wp2_with fail
          go_quiet (fail)
          go_wp2_with fail
          go_ret
          refine ⟨ret_bool HE.out.symm, ?_⟩
          (repeat (first | with_reducible exact bel_refl _ | with_reducible refine bel_alloc ?_ _ | with_reducible refine bel_bw _ ?_ | with_reducible refine bel_drew ?_ | with_reducible refine bel_drewN _ ?_ | ((with_reducible refine bel_set ?_ ?_ _); rotate_left; focus (first | (simp; done) | omega | (simp; omega))) | refine bel_step ?_ (by with_reducible assumption)))
          exact hA.trans (HB.out.mono (by omega))
        · have d1 : decide (r.hi < q.hi) = false := decide_eq_false e1
          have HE := Lib.hid (HNX.out (by omega))
          clear HBD HNX HBAD HGOOD HALL
          go_wp2_with fail
          go_quiet (fail)
          go_wp2_with fail
          go_roundw
          case rel => exact ⟨k + 1, by omega, by simp, HE.out, HB.out.trans (below_drewN (Below.refl _ _) _)⟩
          case measure => simp [intOf]; omega
    · obtain rfl : k = n - 1 := by omega
      have HB := Lib.hid hB; clear hB
      have hk2 : ((n - 1 : Nat) : Int) + 1 = n := by omega
      go_wp2_with fail
      go_ret
      exact ⟨ret_bool (HGOOD.out HALL.out).symm, hA.trans (HB.out.mono (by omega))⟩
theorem R2_rises (t : Tb) (w : World) (ht : t.At w) (h2 : Tab2 t.ps) (v : Bool) (hv : v = decide (mono t.ps (1))) :
    Calls Tryz.prog 89 #[.agg #[.slice t.p t.n t.c]] w fun e w' => e = .returned (.bool v) ∧ Below w.heap.size w w' := by
  have HBAD := Lib.hid (show ∀ k, k < t.ps.length - 1 → ¬monoAt t.ps (1) k → v = false from fun k hk h => by rw [hv]; exact decide_eq_false (fun h' => h (h' k hk)))
  have HGOOD := Lib.hid (show (∀ k, k < t.ps.length - 1 → monoAt t.ps (1) k) → v = true from fun h => by rw [hv]; exact decide_eq_true h)
  clear hv
  have ht' := ht
  have htwo := h2.two
  have hle := h2.ok.le
  clear h2
  obtain ⟨p, n, c, ps⟩ := t
  obtain ⟨h1, h2, h3, h4, h5⟩ := ht'
  dsimp only at *
  obtain ⟨b, o, rfl, hb, hc⟩ := h5 (by omega)
  rw [h1] at HBAD HGOOD
  have hn2 : 2 ≤ n := by omega
  have hn40 : n ≤ 40 := by omega
  have HL := Lib.hid h1
  have HC := Lib.hid hc
  clear h1 hc h5 htwo hle ht
  go_enter Tryz.func89, Tryz.ntmps89
  go_wp2_with fail
  go_loopw [3] (fun i wr => ∃ k : Nat, k ≤ n - 1 ∧ i = .int .i64 ((k : Int) + 1) ∧ (∀ j, j < k → monoAt ps (1) j) ∧ Below (w.heap.size + 1) (w.alloc (.cells #[.slice (some ⟨b, o, none⟩) n c] 26)) wr) (fun i _ => n - (intOf i).toNat)
  case atStart => exact ⟨0, by omega, rfl, fun j hj => by omega, Below.refl _ _⟩
  case round =>
    obtain ⟨k, hk, rfl, hall, hB⟩ := hrel
    have HALL := Lib.hid hall; clear hall
    have hbox : wr.cell? ⟨w.heap.size, 0, none⟩ = some (.slice (some ⟨b, o, none⟩) n c) := by
      rw [hB.cell (by simp)]; simp
    have hsz : w.heap.size < wr.heap.size := by have := hB.size; simp at this; omega
    have l0 := Soft.LtH.mk (b := w.heap.size) (w := wr) hsz
    have lb := Soft.LtH.mk (b := b) (w := wr) (by omega)
    have hA : Below w.heap.size w (w.alloc (.cells #[.slice (some ⟨b, o, none⟩) n c] 26)) := (Below.refl _ _).alloc (Nat.le_refl _) _
    by_cases hlt : k < n - 1
    · obtain ⟨_, x1, x2⟩ := HC.out k (by omega)
      obtain ⟨_, z1, z2⟩ := HC.out (k + 1) (by omega)
      rw [← World.cell?_alloc_lt w (.cells #[.slice (some ⟨b, o, none⟩) n c] 26) _ (by simpa using hb), ← hB.cell (by simp; omega)] at x1 x2 z1 z2
      have HB := Lib.hid hB; clear hB
      have HBD := Lib.hid (HBAD.out k hlt)
      have HNX := Lib.hid (show monoAt ps (1) k → ∀ j, j < k + 1 → monoAt ps (1) j from fun h j hj => by
        by_cases e : j = k
        · rw [e]; exact h
        · exact HALL.out j (by omega))
      unfold monoAt at HBD HNX
      have i1 : (k : Int) + 1 < n := by omega
      have i2 : (k : Int) < n := by omega
      generalize pt ps (k + 1) = q at *
      generalize pt ps k = r at *
      by_cases e0 : q.lo < r.lo
      · have d0 : decide (q.lo < r.lo) = true := decide_eq_true e0
        have HE := Lib.hid (HBD.out (by omega))
        clear HBD HNX HBAD HGOOD HALL
        go_wp2_with fail
        go_quiet (fail)
        go_wp2_with fail
        go_ret
        refine ⟨ret_bool HE.out.symm, ?_⟩
        (repeat (first | with_reducible exact bel_refl _ | with_reducible refine bel_alloc ?_ _ | with_reducible refine bel_bw _ ?_ | with_reducible refine bel_drew ?_ | with_reducible refine bel_drewN _ ?_ | ((with_reducible refine bel_set ?_ ?_ _); rotate_left; focus (first | (simp; done) | omega | (simp; omega))) | refine bel_step ?_ (by with_reducible assumption)))
        exact hA.trans (HB.out.mono (by omega))
      · have d0 : decide (q.lo < r.lo) = false := decide_eq_false e0
        by_cases e1 : q.hi < r.hi
        · have d1 : decide (q.hi < r.hi) = true := decide_eq_true e1
          have HE := Lib.hid (HBD.out (by omega))
          clear HBD HNX HBAD HGOOD HALL
          go_wp2_with fail
          go_quiet (fail)
          go_wp2_with fail
          go_ret
          refine ⟨ret_bool HE.out.symm, ?_⟩
          (repeat (first | with_reducible exact bel_refl _ | with_reducible refine bel_alloc ?_ _ | with_reducible refine bel_bw _ ?_ | with_reducible refine bel_drew ?_ | with_reducible refine bel_drewN _ ?_ | ((with_reducible refine bel_set ?_ ?_ _); rotate_left; focus (first | (simp; done) | omega | (simp; omega))) | refine bel_step ?_ (by with_reducible assumption)))
          exact hA.trans (HB.out.mono (by omega))
        · have d1 : decide (q.hi < r.hi) = false := decide_eq_false e1
          have HE := Lib.hid (HNX.out (by omega))
          clear HBD HNX HBAD HGOOD HALL
          go_wp2_with fail
          go_quiet (fail)
          go_wp2_with fail
          go_roundw
          case rel => exact ⟨k + 1, by omega, by simp, HE.out, HB.out.trans (below_drewN (Below.refl _ _) _)⟩
          case measure => simp [intOf]; omega
    · obtain rfl : k = n - 1 := by omega
      have HB := Lib.hid hB; clear hB
      have hk2 : ((n - 1 : Nat) : Int) + 1 = n := by omega
      go_wp2_with fail
      go_ret
      exact ⟨ret_bool (HGOOD.out HALL.out).symm, hA.trans (HB.out.mono (by omega))⟩

theorem R2_along (t u : Tb) (w : World) (ht : t.At w) (hu : u.At w) (h1 : 1 ≤ t.n) (h2 : 1 ≤ u.n) (v : Bool) (hv : v = decide (sameEnds u.ps t.ps)) :
    Calls Tryz.prog 63 #[.agg #[.slice t.p t.n t.c], .agg #[.slice u.p u.n u.c]] w fun e w' => e = .returned (.bool v) ∧ Below w.heap.size w w' := by
  have CF := Lib.hid (fun W hW => R2_First t W hW h1)
  have CG := Lib.hid (fun W hW => R2_First u W hW h2)
  have CL := Lib.hid (fun W hW => R2_Last t W hW h1)
  have CM := Lib.hid (fun W hW => R2_Last u W hW h2)
  have HV : Hid (v = decide (firstX u.ps = firstX t.ps ∧ lastX u.ps = lastX t.ps)) := Lib.hid hv
  clear hv
  generalize firstX t.ps = a at *
  generalize firstX u.ps = b at *
  generalize lastX t.ps = c at *
  generalize lastX u.ps = d at *
  by_cases e0 : a = b
  · have d0 : (a == b) = true := by rw [e0]; simp
    by_cases e1 : c = d
    · have d1 : (c == d) = true := by rw [e1]; simp
      have HW := Lib.hid (show v = true by rw [HV.out]; exact decide_eq_true ⟨e0.symm, e1.symm⟩)
      clear e0 e1 HV
      go_enter Tryz.func63, Tryz.ntmps63
      go_wp2_with fail
      (refine Soft.region0 [0, 1, 2, 3, 4, 5, 6, 7, 8, 9, 10, 11, 12] [] (by kernel_rfl) (by kernel_rfl) (by kernel_rfl) (by kernel_rfl) ?_; change Soft.wpSoft _ _ _ _ _ [_, _, _, _, _, _, _, _, _, _, _, _, _] _; (repeat (refine Soft.soft_step (fun K hK => ?_); go_simp; (try go_bits); first | (refine hK _ ?_; clear hK K) | (apply Exists.intro; refine ⟨fun x => ?_, hK _ ?_⟩; (first | (go_at_call 98; with_reducible exact (CF.out _ (by repeat (first | exact ht | refine Tb.At.alloc ?_ _ | refine Tb.At.bw ?_ _)))) | (go_at_call 98; with_reducible exact (CG.out _ (by repeat (first | exact hu | refine Tb.At.alloc ?_ _ | refine Tb.At.bw ?_ _)))) | (go_at_call 90; with_reducible exact (CL.out _ (by repeat (first | exact ht | refine Tb.At.alloc ?_ _ | refine Tb.At.bw ?_ _)))) | (go_at_call 90; with_reducible exact (CM.out _ (by repeat (first | exact hu | refine Tb.At.alloc ?_ _ | refine Tb.At.bw ?_ _))))); clear hK K))); refine Soft.soft_nil ?_; intro xw; change wpList _ _ _ [] _ _)
      change wpList _ _ _ [] _ _
      go_wp2_with fail
      go_ret
      refine ⟨ret_bool HW.out.symm, ?_⟩
      (repeat (first | with_reducible exact bel_refl _ | with_reducible refine bel_alloc ?_ _ | with_reducible refine bel_bw _ ?_ | with_reducible refine bel_drew ?_ | with_reducible refine bel_drewN _ ?_ | ((with_reducible refine bel_set ?_ ?_ _); rotate_left; focus (first | (simp; done) | omega | (simp; omega))) | refine bel_step ?_ (by with_reducible assumption)))
    · have d1 : (c == d) = false := by rw [beq_eq_false_iff_ne]; exact e1
      have HW := Lib.hid (show v = false by rw [HV.out]; exact decide_eq_false (fun g => e1 g.2.symm))
      clear e0 e1 HV
      go_enter Tryz.func63, Tryz.ntmps63
      go_wp2_with fail
      (refine Soft.region0 [0, 1, 2, 3, 4, 5, 6, 7, 8, 9, 10, 11, 12] [] (by kernel_rfl) (by kernel_rfl) (by kernel_rfl) (by kernel_rfl) ?_; change Soft.wpSoft _ _ _ _ _ [_, _, _, _, _, _, _, _, _, _, _, _, _] _; (repeat (refine Soft.soft_step (fun K hK => ?_); go_simp; (try go_bits); first | (refine hK _ ?_; clear hK K) | (apply Exists.intro; refine ⟨fun x => ?_, hK _ ?_⟩; (first | (go_at_call 98; with_reducible exact (CF.out _ (by repeat (first | exact ht | refine Tb.At.alloc ?_ _ | refine Tb.At.bw ?_ _)))) | (go_at_call 98; with_reducible exact (CG.out _ (by repeat (first | exact hu | refine Tb.At.alloc ?_ _ | refine Tb.At.bw ?_ _)))) | (go_at_call 90; with_reducible exact (CL.out _ (by repeat (first | exact ht | refine Tb.At.alloc ?_ _ | refine Tb.At.bw ?_ _)))) | (go_at_call 90; with_reducible exact (CM.out _ (by repeat (first | exact hu | refine Tb.At.alloc ?_ _ | refine Tb.At.bw ?_ _))))); clear hK K))); refine Soft.soft_nil ?_; intro xw; change wpList _ _ _ [] _ _)
      change wpList _ _ _ [] _ _
      go_wp2_with fail
      go_ret
      refine ⟨ret_bool HW.out.symm, ?_⟩
      (repeat (first | with_reducible exact bel_refl _ | with_reducible refine bel_alloc ?_ _ | with_reducible refine bel_bw _ ?_ | with_reducible refine bel_drew ?_ | with_reducible refine bel_drewN _ ?_ | ((with_reducible refine bel_set ?_ ?_ _); rotate_left; focus (first | (simp; done) | omega | (simp; omega))) | refine bel_step ?_ (by with_reducible assumption)))
  · have d0 : (a == b) = false := by rw [beq_eq_false_iff_ne]; exact e0
    have HW := Lib.hid (show v = false by rw [HV.out]; exact decide_eq_false (fun g => e0 g.1.symm))
    clear e0 HV
    go_enter Tryz.func63, Tryz.ntmps63
    go_wp2_with fail
    (refine Soft.region0 [0, 1, 2, 3, 4, 5, 6, 7, 8, 9, 10, 11, 12] [] (by kernel_rfl) (by kernel_rfl) (by kernel_rfl) (by kernel_rfl) ?_; change Soft.wpSoft _ _ _ _ _ [_, _, _, _, _, _, _, _, _, _, _, _, _] _; (repeat (refine Soft.soft_step (fun K hK => ?_); go_simp; (try go_bits); first | (refine hK _ ?_; clear hK K) | (apply Exists.intro; refine ⟨fun x => ?_, hK _ ?_⟩; (first | (go_at_call 98; with_reducible exact (CF.out _ (by repeat (first | exact ht | refine Tb.At.alloc ?_ _ | refine Tb.At.bw ?_ _)))) | (go_at_call 98; with_reducible exact (CG.out _ (by repeat (first | exact hu | refine Tb.At.alloc ?_ _ | refine Tb.At.bw ?_ _))))); clear hK K))); refine Soft.soft_nil ?_; intro xw; change wpList _ _ _ [] _ _)
    change wpList _ _ _ [] _ _
    go_wp2_with fail
    go_ret
    refine ⟨ret_bool HW.out.symm, ?_⟩
    (repeat (first | with_reducible exact bel_refl _ | with_reducible refine bel_alloc ?_ _ | with_reducible refine bel_bw _ ?_ | with_reducible refine bel_drew ?_ | with_reducible refine bel_drewN _ ?_ | ((with_reducible refine bel_set ?_ ?_ _); rotate_left; focus (first | (simp; done) | omega | (simp; omega))) | refine bel_step ?_ (by with_reducible assumption)))

end Go.Proofs.YtbjdgaeikihjbaaGreat
