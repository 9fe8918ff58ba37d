/-
  The reference's Over and over; what it says of a fill: volume, moment, height.
  Conditions: each theorem's own premises.
-/
import Derived.Test.YtbjdgaeikihjbaaGreatOvr
import Derived.Test.YtbjdgaeikihjbaaGreatRfl
import Derived.Test.YtbjdgaeikihjbaaGreatRfh
namespace Go.Proofs.YtbjdgaeikihjbaaGreat
set_option linter.unusedSimpArgs false
set_option linter.unusedVariables false
open Go.RowKit
set_option maxRecDepth 100000
set_option maxHeartbeats 4000000
attribute [local go_sem] Instr.field asAgg Soft.upon Soft.BW.cell_if Soft.BW.frozen_if Soft.cell_alloc_if Soft.frozen_alloc_if

/-- Both cells of a block that was laid before are stored. -/
theorem putTwo {N : World} {a b : Value} {t : TypeId} (x : Soft.BW (N.alloc (.cells #[a, b] t))) (o : Obj) (c d : Value) (k : Nat) (hk : k = N.heap.size) :
    Below (N.alloc (.cells #[c, d] t)).heap.size (N.alloc (.cells #[c, d] t)) (((x.w.alloc o).setCell ⟨k, 0, none⟩ c).setCell ⟨k, 1, none⟩ d) := by
  subst hk
  obtain ⟨x1, e1⟩ := Soft.BW.mk (w := N.alloc (.cells #[a, b] t)) (bel_alloc x.below o)
  rw [e1]
  obtain ⟨x2, e2, _⟩ := bwPut x1 0 c _ rfl
  rw [e2]
  obtain ⟨x3, e3, _⟩ := bwPut x2 1 d _ rfl
  rw [e3]
  exact x3.below

theorem R1_Over (t : Tb) (r : Rg) (w : World) (ht : t.At w) (h2 : Tab2 t.ps) (hp : isPart r (firstX t.ps) (lastX t.ps)) :
    Calls Tryz.prog 113 #[.agg #[.slice (t).p (t).n (t).c], .agg #[.int .i64 (r).lo, .int .i64 (r).hi]] w fun e w' => e = .returned (.tuple #[.agg #[.int .i64 ((overE t.ps r).1).lo, .int .i64 ((overE t.ps r).1).hi], .int .i64 0]) ∧ Below w.heap.size w w' := by
  have hn : 1 ≤ t.n := by rw [← ht.1]; exact h2.ok.pos
  rw [overS_ref h2 hp]
  have HT := Lib.hid (decide_eq_true h2.ok).symm
  obtain ⟨p1, p2, p3⟩ := hp
  have hends := h2.ok.ends
  have hr0 : rangeErr r = 0 := by unfold rangeErr; rw [if_neg (by omega)]
  have HR := Lib.hid (show true = decide (rangeErr r = 0) by rw [hr0]; rfl)
  have HXA := Lib.hid (decide_eq_true (show firstX t.ps ≤ r.lo ∧ r.lo ≤ lastX t.ps by omega)).symm
  have HXB := Lib.hid (decide_eq_true (show firstX t.ps ≤ r.hi ∧ r.hi ≤ lastX t.ps by omega)).symm
  have CA := Lib.hid (fun W hW => R1_at t r.lo W hW h2 ⟨p1, by omega⟩)
  have CB := Lib.hid (fun W hW => R1_at t r.hi W hW h2 ⟨by omega, p3⟩)
  have CT := Lib.hid (fun W hW => R1_ValidTable t W hW true HT.out)
  have CXA := Lib.hid (fun W hW => R1_inside t r.lo W hW hn true HXA.out)
  have CXB := Lib.hid (fun W hW => R1_inside t r.hi W hW hn true HXB.out)
  have G0 := Lib.hid (show refG t.ps r 0 = ⟨min (atS t.ps r.lo).lo (atS t.ps r.hi).lo, max (atS t.ps r.lo).hi (atS t.ps r.hi).hi⟩ by unfold refG hullR; simp)
  have GS := Lib.hid (fun k hk => refG_succ t.ps r k hk)
  clear h2 p1 p2 p3 hr0 hends HXA HXB HT
  generalize atS t.ps r.lo = A at *
  generalize atS t.ps r.hi = B at *
  obtain ⟨p, n, c, ps⟩ := t
  have ht' := ht
  obtain ⟨h1, h2, h3, h4, h5⟩ := ht'
  obtain ⟨b, o, rfl, hb, hc⟩ := h5 (by dsimp only at *; omega)
  dsimp only at *
  have H1 := Lib.hid h1
  rw [h1]
  clear h5 hc h1
  go_enter Tryz.func113, Tryz.ntmps113
  go_wp2_with (first | (go_at_call 117; (with_reducible refine (CT.out _ (by repeat (first | exact ht | refine Tb.At.alloc ?_ _ | refine Tb.At.bw ?_ _))).mono ?_); rintro e w_ ⟨rfl, hb_⟩; obtain ⟨y1, rfl⟩ := Soft.BW.mk hb_; clear hb_) | (go_at_call 111; (with_reducible refine (R1_Valid r _ true HR.out).mono ?_); rintro e w_ ⟨rfl, hb_⟩; obtain ⟨y2, rfl⟩ := Soft.BW.mk hb_; clear hb_) | (go_at_call 127; (with_reducible refine (CXA.out _ (by repeat (first | exact ht | refine Tb.At.alloc ?_ _ | refine Tb.At.bw ?_ _))).mono ?_); rintro e w_ ⟨rfl, hb_⟩; obtain ⟨y3, rfl⟩ := Soft.BW.mk hb_; clear hb_) | (go_at_call 127; (with_reducible refine (CXB.out _ (by repeat (first | exact ht | refine Tb.At.alloc ?_ _ | refine Tb.At.bw ?_ _))).mono ?_); rintro e w_ ⟨rfl, hb_⟩; obtain ⟨y4, rfl⟩ := Soft.BW.mk hb_; clear hb_) | (go_at_call 128; (with_reducible refine (CA.out _ (by repeat (first | exact ht | refine Tb.At.alloc ?_ _ | refine Tb.At.bw ?_ _))).mono ?_); rintro e w_ ⟨rfl, hb_⟩; obtain ⟨y5, rfl⟩ := Soft.BW.mk hb_; clear hb_) | (go_at_call 128; (with_reducible refine (CB.out _ (by repeat (first | exact ht | refine Tb.At.alloc ?_ _ | refine Tb.At.bw ?_ _))).mono ?_); rintro e w_ ⟨rfl, hb_⟩; obtain ⟨y6, rfl⟩ := Soft.BW.mk hb_; clear hb_))
  all_goals
    go_loopw [54] (fun i wr => ∃ k : Nat, k ≤ n ∧ i = .int .i64 k ∧ Below ((y6.w.alloc (.cells #[.int .i64 B.lo, .int .i64 B.hi] 23)).alloc (.cells #[.int .i64 (refG ps r k).lo, .int .i64 (refG ps r k).hi] 23)).heap.size ((y6.w.alloc (.cells #[.int .i64 B.lo, .int .i64 B.hi] 23)).alloc (.cells #[.int .i64 (refG ps r k).lo, .int .i64 (refG ps r k).hi] 23)) wr) (fun i _ => n - (intOf i).toNat)
    case atStart => exact ⟨0, by omega, rfl, by first | (rw [G0.out, Int.min_eq_left (by omega), Int.max_eq_left (by omega)]; exact Below.refl _ _) | (rw [G0.out, Int.min_eq_left (by omega), Int.max_eq_right (by omega)]; exact Below.refl _ _) | (rw [G0.out, Int.min_eq_right (by omega), Int.max_eq_left (by omega)]; exact Below.refl _ _) | (rw [G0.out, Int.min_eq_right (by omega), Int.max_eq_right (by omega)]; exact Below.refl _ _)⟩
    case round =>
      obtain ⟨k, hk, rfl, hB⟩ := hrel
      obtain ⟨u, rfl⟩ := Soft.BW.mk hB
      clear hB
      by_cases hlt : k < n
      · have i1 : (k : Int) < n := by omega
        have hu : Tb.At u.w ⟨some ⟨b, o, none⟩, n, c, ps⟩ := (by repeat (first | exact ht | refine Tb.At.alloc ?_ _ | refine Tb.At.bw ?_ _))
        obtain ⟨_, _, _, _, h5u⟩ := hu
        obtain ⟨b', o', e', lb', hc'⟩ := h5u (by dsimp only; omega)
        cases e'
        obtain ⟨c1, c2, c3⟩ := hc' k hlt
        dsimp only at c1 c2 c3
        clear hc' h5u
        have lb := Soft.LtH.mk (w := u.w) lb'
        have GK := GS.out k (by rw [H1.out]; exact hlt)
        unfold refStep at GK
        generalize pt ps k = q at *
        by_cases a0 : r.lo < q.x
        · by_cases a1 : q.x < r.hi
          · rw [if_pos ⟨a0, a1⟩] at GK
            have HN := Lib.hid (show refG ps r (k + 1) = ⟨if q.lo < (refG ps r k).lo then q.lo else (refG ps r k).lo, if (refG ps r k).hi < q.hi then q.hi else (refG ps r k).hi⟩ by rw [GK, Rg.mk.injEq]; constructor <;> split <;> omega)
            clear GK
            go_wp2_with fail
            all_goals
              go_roundw
              case rel => exact ⟨k + 1, by omega, by simp, by rw [HN.out]; exact putTwo u _ _ _ _ (by simp)⟩
              case measure => simp [intOf]; omega
          · rw [if_neg (fun e => a1 e.2)] at GK
            have HN := Lib.hid GK
            clear GK
            go_wp2_with fail
            go_roundw
            case rel => exact ⟨k + 1, by omega, by simp, by rw [HN.out]; exact bel_alloc u.below _⟩
            case measure => simp [intOf]; omega
        · rw [if_neg (fun e => a0 e.1)] at GK
          have HN := Lib.hid GK
          clear GK
          go_wp2_with fail
          go_roundw
          case rel => exact ⟨k + 1, by omega, by simp, by rw [HN.out]; exact bel_alloc u.below _⟩
          case measure => simp [intOf]; omega
      · obtain rfl : k = n := by omega
        go_wp2_with fail
        refine bodyPost_ret (v := .tuple #[.agg #[.int .i64 (refG ps r k).lo, .int .i64 (refG ps r k).hi], .int .i64 0]) (by simp [results, Tryz.results113, go_sem]) rfl ?_
        refine ⟨rfl, ?_⟩
        (repeat (first | with_reducible exact bel_refl _ | with_reducible refine bel_alloc ?_ _ | with_reducible refine bel_bw _ ?_ | with_reducible refine bel_drew ?_ | with_reducible refine bel_drewN _ ?_ | ((with_reducible refine bel_set ?_ ?_ _); rotate_left; focus (first | (simp; done) | omega | (simp; omega))) | refine bel_step ?_ (by with_reducible assumption)))

theorem R2_over (t : Tb) (r : Rg) (w : World) (ht : t.At w) (h2 : Tab2 t.ps) (hp : isPart r (firstX t.ps) (lastX t.ps)) :
    Calls Tryz.prog 87 #[.agg #[.slice (t).p (t).n (t).c], .agg #[.int .i64 (r).lo, .int .i64 (r).hi]] w fun e w' => e = .returned (.agg #[.int .i64 ((overE t.ps r).1).lo, .int .i64 ((overE t.ps r).1).hi]) ∧ Below w.heap.size w w' := by
  have CA := Lib.hid (fun W hW => R1_Over t r W hW h2 hp)
  clear h2 hp
  generalize (overE t.ps r).1 = rr at *
  go_enter Tryz.func87, Tryz.ntmps87
  go_wp2_with ((go_at_call 113; (with_reducible refine (CA.out _ (by repeat (first | exact ht | refine Tb.At.alloc ?_ _ | refine Tb.At.bw ?_ _))).mono ?_); rintro e w_ ⟨rfl, hb_⟩; obtain ⟨y1, rfl⟩ := Soft.BW.mk hb_; clear hb_))
  refine bodyPost_ret (v := .agg #[.int .i64 rr.lo, .int .i64 rr.hi]) (by simp [results, Tryz.results87, go_sem]) rfl ?_
  refine ⟨rfl, ?_⟩
  (repeat (first | with_reducible exact bel_refl _ | with_reducible refine bel_alloc ?_ _ | with_reducible refine bel_bw _ ?_ | with_reducible refine bel_drew ?_ | with_reducible refine bel_drewN _ ?_ | ((with_reducible refine bel_set ?_ ?_ _); rotate_left; focus (first | (simp; done) | omega | (simp; omega))) | refine bel_step ?_ (by with_reducible assumption)))

end Go.Proofs.YtbjdgaeikihjbaaGreat
