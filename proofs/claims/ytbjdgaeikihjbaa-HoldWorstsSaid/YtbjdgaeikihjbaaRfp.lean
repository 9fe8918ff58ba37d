/-
  The reference's moment, Worst, CheckWorst.
  Conditions: each theorem's own premises.
-/
import Derived.Test.YtbjdgaeikihjbaaRfn
namespace Go.Proofs.Ytbjdgaeikihjbaa
set_option linter.unusedSimpArgs false
set_option linter.unusedVariables false
open Go.RowKit
set_option maxRecDepth 100000
set_option maxHeartbeats 4000000
attribute [local go_sem] Instr.field asAgg Soft.upon Soft.BW.cell_if Soft.BW.frozen_if Soft.cell_alloc_if Soft.frozen_alloc_if

theorem R2_moment (h : Ho) (f : Fi) (w : World) (hh : h.At w) (h0 : HoldOk h) (h1 : FillIn h f) :
    Calls Try.prog 102 #[.agg #[.int .i64 (h).id, .int .i64 ((h).along).lo, .int .i64 ((h).along).hi, .slice ((h).vol).p ((h).vol).n ((h).vol).c, .slice ((h).mom).p ((h).mom).n ((h).mom).c, .slice ((h).hei).p ((h).hei).n ((h).hei).c, .int .i64 ((h).tri).lo, .int .i64 ((h).tri).hi, .int .i64 ((h).unt).lo, .int .i64 ((h).unt).hi, .int .i64 ((h).v0).lo, .int .i64 ((h).v0).hi, .int .i64 ((h).h0).lo, .int .i64 ((h).h0).hi], .agg #[.int .i64 (f).hold, .int .i64 (f).state, .int .i64 ((f).ull).lo, .int .i64 ((f).ull).hi, .int .i64 ((f).den).lo, .int .i64 ((f).den).hi]] w fun e w' => e = .returned (.agg #[.int .i64 (momS h f).lo, .int .i64 (momS h f).hi]) ∧ Below w.heap.size w w' := by
  have hv := hh.2.1
  by_cases z1 : f.state = 1
  · have HV := Lib.hid (show momS h f = h.tri from if_pos z1)
    have d1 : (f.state == 1) = true := by rw [z1]; rfl
    clear h0 h1 z1
    go_enter Try.func102, Try.ntmps102
    go_wp2_with fail
    rw [HV.out]
    refine bodyPost_ret (v := .agg #[.int .i64 h.tri.lo, .int .i64 h.tri.hi]) (by simp [results, Try.results102, go_sem]) rfl ?_
    refine ⟨rfl, ?_⟩
    (repeat (first | with_reducible exact bel_refl _ | with_reducible refine bel_alloc ?_ _ | with_reducible refine bel_bw _ ?_ | with_reducible refine bel_drew ?_ | with_reducible refine bel_drewN _ ?_ | ((with_reducible refine bel_set ?_ ?_ _); rotate_left; focus (first | (simp; done) | omega | (simp; omega))) | refine bel_step ?_ (by with_reducible assumption)))
  · have d1 : (f.state == 1) = false := beq_eq_false_iff_ne.2 z1
    by_cases z2 : f.state = 2
    · have HV := Lib.hid (show momS h f = h.unt by unfold momS; rw [if_neg z1, if_pos z2])
      have d2 : (f.state == 2) = true := by rw [z2]; rfl
      clear h0 h1 z1 z2
      go_enter Try.func102, Try.ntmps102
      go_wp2_with fail
      rw [HV.out]
      refine bodyPost_ret (v := .agg #[.int .i64 h.unt.lo, .int .i64 h.unt.hi]) (by simp [results, Try.results102, go_sem]) rfl ?_
      refine ⟨rfl, ?_⟩
      (repeat (first | with_reducible exact bel_refl _ | with_reducible refine bel_alloc ?_ _ | with_reducible refine bel_bw _ ?_ | with_reducible refine bel_drew ?_ | with_reducible refine bel_drewN _ ?_ | ((with_reducible refine bel_set ?_ ?_ _); rotate_left; focus (first | (simp; done) | omega | (simp; omega))) | refine bel_step ?_ (by with_reducible assumption)))
    · have d2 : (f.state == 2) = false := beq_eq_false_iff_ne.2 z2
      by_cases z3 : f.state = 3
      · have HV := Lib.hid (show momS h f = (overE h.mom.ps f.ull).1 by unfold momS; rw [if_neg z1, if_neg z2, if_pos z3])
        have d3 : (f.state == 3) = true := by rw [z3]; rfl
        obtain ⟨_, ⟨t2, s2⟩, _⟩ := h0.tabs
        obtain ⟨_, hp, _⟩ := fill_free h1 (by omega)
        rw [← s2.1, ← s2.2] at hp
        have CO := Lib.hid (fun W hW => R2_over h.mom f.ull W hW t2 hp)
        rw [HV.out]
        clear h0 h1 z1 z2 z3 t2 s2 hp HV
        generalize (overE h.mom.ps f.ull).1 = rr at *
        go_enter Try.func102, Try.ntmps102
        go_wp2_with ((go_at_call 138; (with_reducible refine (CO.out _ (by repeat (first | exact hv | refine Tb.At.alloc ?_ _ | refine Tb.At.bw ?_ _))).mono ?_); rintro e w_ ⟨rfl, hb_⟩; obtain ⟨y1, rfl⟩ := Soft.BW.mk hb_; clear hb_))
        refine bodyPost_ret (v := .agg #[.int .i64 rr.lo, .int .i64 rr.hi]) (by simp [results, Try.results102, go_sem]) rfl ?_
        refine ⟨rfl, ?_⟩
        (repeat (first | with_reducible exact bel_refl _ | with_reducible refine bel_alloc ?_ _ | with_reducible refine bel_bw _ ?_ | with_reducible refine bel_drew ?_ | with_reducible refine bel_drewN _ ?_ | ((with_reducible refine bel_set ?_ ?_ _); rotate_left; focus (first | (simp; done) | omega | (simp; omega))) | refine bel_step ?_ (by with_reducible assumption)))
      · have HV := Lib.hid (show momS h f = ⟨0, 0⟩ by unfold momS; rw [if_neg z1, if_neg z2, if_neg z3])
        have d3 : (f.state == 3) = false := beq_eq_false_iff_ne.2 z3
        clear h0 h1 z1 z2 z3
        go_enter Try.func102, Try.ntmps102
        go_wp2_with fail
        rw [HV.out]
        refine bodyPost_ret (v := .agg #[.int .i64 0, .int .i64 0]) (by simp [results, Try.results102, go_sem]) rfl ?_
        refine ⟨rfl, ?_⟩
        (repeat (first | with_reducible exact bel_refl _ | with_reducible refine bel_alloc ?_ _ | with_reducible refine bel_bw _ ?_ | with_reducible refine bel_drew ?_ | with_reducible refine bel_drewN _ ?_ | ((with_reducible refine bel_set ?_ ?_ _); rotate_left; focus (first | (simp; done) | omega | (simp; omega))) | refine bel_step ?_ (by with_reducible assumption)))

set_option maxHeartbeats 8000000 in
theorem R2_Worst3 (h : Ho) (f : Fi) (w : World) (hh : h.At w) (hc : fillErr h f = 0) (h3 : f.state = 3) :
    Calls Try.prog 53 #[.agg #[.int .i64 (h).id, .int .i64 ((h).along).lo, .int .i64 ((h).along).hi, .slice ((h).vol).p ((h).vol).n ((h).vol).c, .slice ((h).mom).p ((h).mom).n ((h).mom).c, .slice ((h).hei).p ((h).hei).n ((h).hei).c, .int .i64 ((h).tri).lo, .int .i64 ((h).tri).hi, .int .i64 ((h).unt).lo, .int .i64 ((h).unt).hi, .int .i64 ((h).v0).lo, .int .i64 ((h).v0).hi, .int .i64 ((h).h0).lo, .int .i64 ((h).h0).hi], .agg #[.int .i64 (f).hold, .int .i64 (f).state, .int .i64 ((f).ull).lo, .int .i64 ((f).ull).hi, .int .i64 ((f).den).lo, .int .i64 ((f).den).hi]] w fun e w' => e = .returned (.tuple #[.int .i64 (worS h.mom.ps f.ull).1, .int .i64 (worS h.mom.ps f.ull).2, .int .i64 0]) ∧ Below w.heap.size w w' := by
  have CCF := Lib.hid (fun W hW => R2_CheckFill h f W hW)
  obtain ⟨h0, h1⟩ := fill_ok hc
  rw [hc] at CCF
  have d3 : (f.state != 3) = false := by rw [h3]; rfl
  obtain ⟨_, ⟨t2, s2⟩, _⟩ := h0.tabs
  obtain ⟨_, hp, _⟩ := fill_free h1 (by omega)
  rw [← s2.1, ← s2.2] at hp
  obtain ⟨wb1, ⟨wb2, wb3, wb4⟩, wb5, wb6⟩ := worst_back t2 hp
  have hends := t2.ok.ends
  have hbin := fun k hk => bestK_in (ps := h.mom.ps) hp.2.1 k hk
  have CAT := Lib.hid (fun x W (hW : h.At W) (hx : firstX h.mom.ps ≤ x ∧ x ≤ lastX h.mom.ps) => R2_at h.mom x W hW.2.1 t2 hx)
  have HBS := Lib.hid (fun k hk => bestK_succ h.mom.ps f.ull k hk)
  have HB0 := Lib.hid (show bestK h.mom.ps f.ull 0 = f.ull.lo by unfold bestK; simp)
  have HBE := Lib.hid (show bestE h.mom.ps f.ull = if (atS h.mom.ps (bestK h.mom.ps f.ull h.mom.ps.length)).hi < (atS h.mom.ps f.ull.hi).hi then f.ull.hi else bestK h.mom.ps f.ull h.mom.ps.length from rfl)
  have HBI := Lib.hid hbin
  have WB5 := Lib.hid wb5
  have WB6 := Lib.hid wb6
  have hle := t2.ok.le
  have hpos := t2.ok.pos
  obtain ⟨p1, p2, p3⟩ := hp
  clear hc h0 h1 h3 t2 s2 hbin wb5 wb6
  generalize (worS h.mom.ps f.ull).1 = L at *
  generalize (worS h.mom.ps f.ull).2 = top at *
  generalize bestE h.mom.ps f.ull = BE at *
  obtain ⟨i0, al, vol, ⟨p, n, c, ps⟩, hei, tri, unt, v0, h00⟩ := h
  obtain ⟨a1, a2, a3, a4, a5⟩ := hh.2.1
  dsimp only at *
  obtain ⟨b, o, rfl, hb, hcl⟩ := a5 (by omega)
  have lb := Soft.LtH.mk (w := w) hb
  have A1 := Lib.hid a1
  have HCL := Lib.hid hcl
  have hn40 : n ≤ 40 := by omega
  clear a5 hcl
  go_enter Try.func53, Try.ntmps53
  go_wp2_with (first | (go_at_call 96; (with_reducible refine (CCF.out _ (by with_reducible repeat (first | exact hh | refine Ho.At.alloc ?_ _ | refine Ho.At.bw ?_ _ | refine Tk.At.alloc ?_ _ | refine Tk.At.bw ?_ _))).mono ?_); rintro e w_ ⟨rfl, hb_⟩; obtain ⟨y1, rfl⟩ := Soft.BW.mk hb_; clear hb_))
  go_loopw [9, 10] (fun bst i wr => ∃ k : Nat, k ≤ n ∧ i = .int .i64 k ∧ bst = .int .i64 (bestK ps f.ull k) ∧ Below y1.w.heap.size y1.w wr) (fun _ i _ => n - (intOf i).toNat)
  case atStart => exact ⟨0, by omega, rfl, by rw [HB0.out], Below.refl _ _⟩
  case round =>
    obtain ⟨k, hk, rfl, rfl, hB⟩ := hrel
    obtain ⟨u, rfl⟩ := Soft.BW.mk hB
    clear hB
    by_cases hlt : k < n
    · have i1 : (k : Int) < n := by omega
      have g0 := HBI.out k (by have := A1.out; omega)
      have HS := Lib.hid (HBS.out k (by have := A1.out; omega))
      have c1 := (HCL.out k hlt).1
      have CB := Lib.hid (fun W hW => CAT.out (bestK ps f.ull k) W hW (by omega))
      have CX0 := Lib.hid (fun W hW => CAT.out (pt ps k).x W hW)
      unfold bestStep at HS
      generalize bestK ps f.ull k = B at *
      generalize (pt ps k).x = X at *
      by_cases q1 : f.ull.lo < X
      · have dq1 : decide (f.ull.lo < X) = true := decide_eq_true q1
        by_cases q2 : X ≤ f.ull.hi
        · have dq2 : decide (X ≤ f.ull.hi) = true := decide_eq_true q2
          have CX := Lib.hid (fun W hW => CX0.out W hW (by omega))
          clear CX0
          generalize atS ps X = RX at *
          generalize atS ps B = RB at *
          by_cases q3 : RB.hi < RX.hi
          · have dq3 : decide (RB.hi < RX.hi) = true := decide_eq_true q3
            have HN := Lib.hid (show bestK ps f.ull (k + 1) = X by rw [HS.out, if_pos ⟨q1, q2, q3⟩])
            go_wp2_with fail
            (refine Soft.region0 [0, 1, 2, 3, 4, 5, 6, 7, 8, 9, 10, 11, 12, 13, 14, 15, 16, 17, 18, 19, 20, 21, 22, 23, 24] [] (by kernel_rfl) (by kernel_rfl) (by kernel_rfl) (by kernel_rfl) ?_; change Soft.wpSoft _ _ _ _ _ [_, _, _, _, _, _, _, _, _, _, _, _, _, _, _, _, _, _, _, _, _, _, _, _, _] _; (repeat (refine Soft.soft_step (fun K hK => ?_); go_simp; (try go_bits); first | (refine hK _ ?_; clear hK K) | (apply Exists.intro; refine ⟨fun x => ?_, hK _ ?_⟩; (first | (go_at_call 103; with_reducible exact (CX.out _ (by with_reducible repeat (first | exact hh | refine Ho.At.alloc ?_ _ | refine Ho.At.bw ?_ _ | refine Tk.At.alloc ?_ _ | refine Tk.At.bw ?_ _)))) | (go_at_call 103; with_reducible exact (CB.out _ (by with_reducible repeat (first | exact hh | refine Ho.At.alloc ?_ _ | refine Ho.At.bw ?_ _ | refine Tk.At.alloc ?_ _ | refine Tk.At.bw ?_ _))))); clear hK K))); refine Soft.soft_nil ?_; intro xw; change wpList _ _ _ [] _ _)
            change wpList _ _ _ [] _ _
            go_wp2_with fail
            go_roundw
            case rel => first | exact ⟨k + 1, by omega, by simp, by rw [HN.out], by (repeat (first | with_reducible exact bel_refl _ | with_reducible refine bel_alloc ?_ _ | with_reducible refine bel_bw _ ?_ | with_reducible refine bel_drew ?_ | with_reducible refine bel_drewN _ ?_ | ((with_reducible refine bel_set ?_ ?_ _); rotate_left; focus (first | (simp; done) | omega | (simp; omega))) | refine bel_step ?_ (by with_reducible assumption)))⟩ | ((repeat apply Exists.intro); refine ⟨?_, rfl⟩; exact ⟨k + 1, by omega, by simp, by rw [HN.out], by (repeat (first | with_reducible exact bel_refl _ | with_reducible refine bel_alloc ?_ _ | with_reducible refine bel_bw _ ?_ | with_reducible refine bel_drew ?_ | with_reducible refine bel_drewN _ ?_ | ((with_reducible refine bel_set ?_ ?_ _); rotate_left; focus (first | (simp; done) | omega | (simp; omega))) | refine bel_step ?_ (by with_reducible assumption)))⟩)
            case measure => simp [intOf]; omega
          · have dq3 : decide (RB.hi < RX.hi) = false := decide_eq_false q3
            have HN := Lib.hid (show bestK ps f.ull (k + 1) = B by rw [HS.out, if_neg (fun e => q3 e.2.2)])
            go_wp2_with fail
            (refine Soft.region0 [0, 1, 2, 3, 4, 5, 6, 7, 8, 9, 10, 11, 12, 13, 14, 15, 16, 17, 18, 19, 20, 21, 22, 23, 24] [] (by kernel_rfl) (by kernel_rfl) (by kernel_rfl) (by kernel_rfl) ?_; change Soft.wpSoft _ _ _ _ _ [_, _, _, _, _, _, _, _, _, _, _, _, _, _, _, _, _, _, _, _, _, _, _, _, _] _; (repeat (refine Soft.soft_step (fun K hK => ?_); go_simp; (try go_bits); first | (refine hK _ ?_; clear hK K) | (apply Exists.intro; refine ⟨fun x => ?_, hK _ ?_⟩; (first | (go_at_call 103; with_reducible exact (CX.out _ (by with_reducible repeat (first | exact hh | refine Ho.At.alloc ?_ _ | refine Ho.At.bw ?_ _ | refine Tk.At.alloc ?_ _ | refine Tk.At.bw ?_ _)))) | (go_at_call 103; with_reducible exact (CB.out _ (by with_reducible repeat (first | exact hh | refine Ho.At.alloc ?_ _ | refine Ho.At.bw ?_ _ | refine Tk.At.alloc ?_ _ | refine Tk.At.bw ?_ _))))); clear hK K))); refine Soft.soft_nil ?_; intro xw; change wpList _ _ _ [] _ _)
            change wpList _ _ _ [] _ _
            go_wp2_with fail
            go_roundw
            case rel => first | exact ⟨k + 1, by omega, by simp, by rw [HN.out], by (repeat (first | with_reducible exact bel_refl _ | with_reducible refine bel_alloc ?_ _ | with_reducible refine bel_bw _ ?_ | with_reducible refine bel_drew ?_ | with_reducible refine bel_drewN _ ?_ | ((with_reducible refine bel_set ?_ ?_ _); rotate_left; focus (first | (simp; done) | omega | (simp; omega))) | refine bel_step ?_ (by with_reducible assumption)))⟩ | ((repeat apply Exists.intro); refine ⟨?_, rfl⟩; exact ⟨k + 1, by omega, by simp, by rw [HN.out], by (repeat (first | with_reducible exact bel_refl _ | with_reducible refine bel_alloc ?_ _ | with_reducible refine bel_bw _ ?_ | with_reducible refine bel_drew ?_ | with_reducible refine bel_drewN _ ?_ | ((with_reducible refine bel_set ?_ ?_ _); rotate_left; focus (first | (simp; done) | omega | (simp; omega))) | refine bel_step ?_ (by with_reducible assumption)))⟩)
            case measure => simp [intOf]; omega
        · have dq2 : decide (X ≤ f.ull.hi) = false := decide_eq_false q2
          have HN := Lib.hid (show bestK ps f.ull (k + 1) = B by rw [HS.out, if_neg (fun e => q2 e.2.1)])
          go_wp2_with fail
          go_quiet (fail)
          go_wp2_with fail
          go_roundw
          case rel => first | exact ⟨k + 1, by omega, by simp, by rw [HN.out], by (repeat (first | with_reducible exact bel_refl _ | with_reducible refine bel_alloc ?_ _ | with_reducible refine bel_bw _ ?_ | with_reducible refine bel_drew ?_ | with_reducible refine bel_drewN _ ?_ | ((with_reducible refine bel_set ?_ ?_ _); rotate_left; focus (first | (simp; done) | omega | (simp; omega))) | refine bel_step ?_ (by with_reducible assumption)))⟩ | ((repeat apply Exists.intro); refine ⟨?_, rfl⟩; exact ⟨k + 1, by omega, by simp, by rw [HN.out], by (repeat (first | with_reducible exact bel_refl _ | with_reducible refine bel_alloc ?_ _ | with_reducible refine bel_bw _ ?_ | with_reducible refine bel_drew ?_ | with_reducible refine bel_drewN _ ?_ | ((with_reducible refine bel_set ?_ ?_ _); rotate_left; focus (first | (simp; done) | omega | (simp; omega))) | refine bel_step ?_ (by with_reducible assumption)))⟩)
          case measure => simp [intOf]; omega
      · have dq1 : decide (f.ull.lo < X) = false := decide_eq_false q1
        have HN := Lib.hid (show bestK ps f.ull (k + 1) = B by rw [HS.out, if_neg (fun e => q1 e.1)])
        go_wp2_with fail
        go_quiet (fail)
        go_wp2_with fail
        go_roundw
        case rel => first | exact ⟨k + 1, by omega, by simp, by rw [HN.out], by (repeat (first | with_reducible exact bel_refl _ | with_reducible refine bel_alloc ?_ _ | with_reducible refine bel_bw _ ?_ | with_reducible refine bel_drew ?_ | with_reducible refine bel_drewN _ ?_ | ((with_reducible refine bel_set ?_ ?_ _); rotate_left; focus (first | (simp; done) | omega | (simp; omega))) | refine bel_step ?_ (by with_reducible assumption)))⟩ | ((repeat apply Exists.intro); refine ⟨?_, rfl⟩; exact ⟨k + 1, by omega, by simp, by rw [HN.out], by (repeat (first | with_reducible exact bel_refl _ | with_reducible refine bel_alloc ?_ _ | with_reducible refine bel_bw _ ?_ | with_reducible refine bel_drew ?_ | with_reducible refine bel_drewN _ ?_ | ((with_reducible refine bel_set ?_ ?_ _); rotate_left; focus (first | (simp; done) | omega | (simp; omega))) | refine bel_step ?_ (by with_reducible assumption)))⟩)
        case measure => simp [intOf]; omega
    · obtain rfl : n = k := by omega
      have hbe := HBE.out
      rw [A1.out] at hbe
      have g0 := HBI.out n (by have := A1.out; omega)
      have CB := Lib.hid (fun W hW => CAT.out (bestK ps f.ull n) W hW (by omega))
      have CX := Lib.hid (fun W hW => CAT.out f.ull.hi W hW (by omega))
      clear HBE HBI HBS HB0
      generalize bestK ps f.ull n = B at *
      by_cases q3 : (atS ps B).hi < (atS ps f.ull.hi).hi
      · rw [if_pos q3] at hbe
        subst hbe
        have HTOP := Lib.hid wb1
        clear wb1
        generalize hRX : atS ps f.ull.hi = RX at *
        generalize hRB : atS ps B = RB at *
        have htop : top = RX.hi := HTOP.out
        clear hRX hRB HTOP
        subst htop
        go_wp2_with fail
        (refine Soft.region0 [0, 1, 2, 3, 4, 5, 6, 7, 8, 9, 10, 11, 12] [] (by kernel_rfl) (by kernel_rfl) (by kernel_rfl) (by kernel_rfl) ?_; change Soft.wpSoft _ _ _ _ _ [_, _, _, _, _, _, _, _, _, _, _, _, _] _; (repeat (refine Soft.soft_step (fun K hK => ?_); go_simp; (try go_bits); first | (refine hK _ ?_; clear hK K) | (apply Exists.intro; refine ⟨fun x => ?_, hK _ ?_⟩; (first | (go_at_call 103; with_reducible exact (CX.out _ (by with_reducible repeat (first | exact hh | refine Ho.At.alloc ?_ _ | refine Ho.At.bw ?_ _ | refine Tk.At.alloc ?_ _ | refine Tk.At.bw ?_ _)))) | (go_at_call 103; with_reducible exact (CB.out _ (by with_reducible repeat (first | exact hh | refine Ho.At.alloc ?_ _ | refine Ho.At.bw ?_ _ | refine Tk.At.alloc ?_ _ | refine Tk.At.bw ?_ _))))); clear hK K))); refine Soft.soft_nil ?_; intro xw; change wpList _ _ _ [] _ _)
        change wpList _ _ _ [] _ _
        go_wp2_with (first | (go_at_call 103; (with_reducible refine (CX.out _ (by with_reducible repeat (first | exact hh | refine Ho.At.alloc ?_ _ | refine Ho.At.bw ?_ _ | refine Tk.At.alloc ?_ _ | refine Tk.At.bw ?_ _))).mono ?_); rintro e w_ ⟨rfl, hb_⟩; obtain ⟨v3, rfl⟩ := Soft.BW.mk hb_; clear hb_))
        go_loopw [9] (fun bst wr => ∃ y : Int, bst = .int .i64 y ∧ L ≤ y ∧ y ≤ f.ull.hi ∧ Below v3.w.heap.size v3.w wr) (fun bst _ => (intOf bst - L).toNat)
        case atStart => exact ⟨f.ull.hi, rfl, by omega, by omega, Below.refl _ _⟩
        case round =>
          obtain ⟨y, rfl, hy1, hy2, hB⟩ := hrel
          obtain ⟨q, rfl⟩ := Soft.BW.mk hB
          clear hB
          by_cases hlt : L < y
          · have CY := Lib.hid (fun W hW => CAT.out (y - 1) W hW (by omega))
            have hY := WB5.out (y - 1) (by omega) (by omega)
            generalize atS ps (y - 1) = RY at *
            have dY : (RY.hi == RX.hi) = true := by rw [hY]; simp
            have dL : f.ull.lo < y := by omega
            have HY := Lib.hid hY
            clear hY
            go_wp2_with (first | (go_at_call 103; (with_reducible refine (CY.out _ (by with_reducible repeat (first | exact hh | refine Ho.At.alloc ?_ _ | refine Ho.At.bw ?_ _ | refine Tk.At.alloc ?_ _ | refine Tk.At.bw ?_ _))).mono ?_); rintro e w_ ⟨rfl, hb_⟩; obtain ⟨v4, rfl⟩ := Soft.BW.mk hb_; clear hb_))
            go_roundw
            case rel => exact ⟨y - 1, rfl, by omega, by omega, q.below.trans (v4.below.mono q.below.size)⟩
            case measure => simp [intOf]; omega
          · obtain rfl : y = L := by omega
            rcases WB6.out with e6 | ⟨e6, e7⟩
            · have dL : ¬(f.ull.lo < y) := by omega
              clear e6
              go_wp2_with fail
              refine bodyPost_ret (v := .tuple #[.int .i64 y, .int .i64 RX.hi, .int .i64 0]) (by simp [results, Try.results53, go_sem]) rfl ?_
              refine ⟨rfl, ?_⟩
              (repeat (first | with_reducible exact bel_refl _ | with_reducible refine bel_alloc ?_ _ | with_reducible refine bel_bw _ ?_ | with_reducible refine bel_drew ?_ | with_reducible refine bel_drewN _ ?_ | ((with_reducible refine bel_set ?_ ?_ _); rotate_left; focus (first | (simp; done) | omega | (simp; omega))) | refine bel_step ?_ (by with_reducible assumption)))
            · have CY := Lib.hid (fun W hW => CAT.out (y - 1) W hW (by omega))
              generalize atS ps (y - 1) = RY at *
              have dY : (RY.hi == RX.hi) = false := beq_eq_false_iff_ne.2 e7
              have HY := Lib.hid e7
              clear e7
              go_wp2_with (first | (go_at_call 103; (with_reducible refine (CY.out _ (by with_reducible repeat (first | exact hh | refine Ho.At.alloc ?_ _ | refine Ho.At.bw ?_ _ | refine Tk.At.alloc ?_ _ | refine Tk.At.bw ?_ _))).mono ?_); rintro e w_ ⟨rfl, hb_⟩; obtain ⟨v4, rfl⟩ := Soft.BW.mk hb_; clear hb_))
              refine bodyPost_ret (v := .tuple #[.int .i64 y, .int .i64 RX.hi, .int .i64 0]) (by simp [results, Try.results53, go_sem]) rfl ?_
              refine ⟨rfl, ?_⟩
              (repeat (first | with_reducible exact bel_refl _ | with_reducible refine bel_alloc ?_ _ | with_reducible refine bel_bw _ ?_ | with_reducible refine bel_drew ?_ | with_reducible refine bel_drewN _ ?_ | ((with_reducible refine bel_set ?_ ?_ _); rotate_left; focus (first | (simp; done) | omega | (simp; omega))) | refine bel_step ?_ (by with_reducible assumption)))
      · rw [if_neg q3] at hbe
        subst hbe
        have HTOP := Lib.hid wb1
        clear wb1
        generalize hRX : atS ps f.ull.hi = RX at *
        generalize hRB : atS ps BE = RB at *
        have htop : top = RB.hi := HTOP.out
        clear hRX hRB HTOP
        subst htop
        go_wp2_with fail
        (refine Soft.region0 [0, 1, 2, 3, 4, 5, 6, 7, 8, 9, 10, 11, 12] [] (by kernel_rfl) (by kernel_rfl) (by kernel_rfl) (by kernel_rfl) ?_; change Soft.wpSoft _ _ _ _ _ [_, _, _, _, _, _, _, _, _, _, _, _, _] _; (repeat (refine Soft.soft_step (fun K hK => ?_); go_simp; (try go_bits); first | (refine hK _ ?_; clear hK K) | (apply Exists.intro; refine ⟨fun x => ?_, hK _ ?_⟩; (first | (go_at_call 103; with_reducible exact (CX.out _ (by with_reducible repeat (first | exact hh | refine Ho.At.alloc ?_ _ | refine Ho.At.bw ?_ _ | refine Tk.At.alloc ?_ _ | refine Tk.At.bw ?_ _)))) | (go_at_call 103; with_reducible exact (CB.out _ (by with_reducible repeat (first | exact hh | refine Ho.At.alloc ?_ _ | refine Ho.At.bw ?_ _ | refine Tk.At.alloc ?_ _ | refine Tk.At.bw ?_ _))))); clear hK K))); refine Soft.soft_nil ?_; intro xw; change wpList _ _ _ [] _ _)
        change wpList _ _ _ [] _ _
        go_wp2_with (first | (go_at_call 103; (with_reducible refine (CB.out _ (by with_reducible repeat (first | exact hh | refine Ho.At.alloc ?_ _ | refine Ho.At.bw ?_ _ | refine Tk.At.alloc ?_ _ | refine Tk.At.bw ?_ _))).mono ?_); rintro e w_ ⟨rfl, hb_⟩; obtain ⟨v3, rfl⟩ := Soft.BW.mk hb_; clear hb_))
        go_loopw [9] (fun bst wr => ∃ y : Int, bst = .int .i64 y ∧ L ≤ y ∧ y ≤ BE ∧ Below v3.w.heap.size v3.w wr) (fun bst _ => (intOf bst - L).toNat)
        case atStart => exact ⟨BE, rfl, by omega, by omega, Below.refl _ _⟩
        case round =>
          obtain ⟨y, rfl, hy1, hy2, hB⟩ := hrel
          obtain ⟨q, rfl⟩ := Soft.BW.mk hB
          clear hB
          by_cases hlt : L < y
          · have CY := Lib.hid (fun W hW => CAT.out (y - 1) W hW (by omega))
            have hY := WB5.out (y - 1) (by omega) (by omega)
            generalize atS ps (y - 1) = RY at *
            have dY : (RY.hi == RB.hi) = true := by rw [hY]; simp
            have dL : f.ull.lo < y := by omega
            have HY := Lib.hid hY
            clear hY
            go_wp2_with (first | (go_at_call 103; (with_reducible refine (CY.out _ (by with_reducible repeat (first | exact hh | refine Ho.At.alloc ?_ _ | refine Ho.At.bw ?_ _ | refine Tk.At.alloc ?_ _ | refine Tk.At.bw ?_ _))).mono ?_); rintro e w_ ⟨rfl, hb_⟩; obtain ⟨v4, rfl⟩ := Soft.BW.mk hb_; clear hb_))
            go_roundw
            case rel => exact ⟨y - 1, rfl, by omega, by omega, q.below.trans (v4.below.mono q.below.size)⟩
            case measure => simp [intOf]; omega
          · obtain rfl : y = L := by omega
            rcases WB6.out with e6 | ⟨e6, e7⟩
            · have dL : ¬(f.ull.lo < y) := by omega
              clear e6
              go_wp2_with fail
              refine bodyPost_ret (v := .tuple #[.int .i64 y, .int .i64 RB.hi, .int .i64 0]) (by simp [results, Try.results53, go_sem]) rfl ?_
              refine ⟨rfl, ?_⟩
              (repeat (first | with_reducible exact bel_refl _ | with_reducible refine bel_alloc ?_ _ | with_reducible refine bel_bw _ ?_ | with_reducible refine bel_drew ?_ | with_reducible refine bel_drewN _ ?_ | ((with_reducible refine bel_set ?_ ?_ _); rotate_left; focus (first | (simp; done) | omega | (simp; omega))) | refine bel_step ?_ (by with_reducible assumption)))
            · have CY := Lib.hid (fun W hW => CAT.out (y - 1) W hW (by omega))
              generalize atS ps (y - 1) = RY at *
              have dY : (RY.hi == RB.hi) = false := beq_eq_false_iff_ne.2 e7
              have HY := Lib.hid e7
              clear e7
              go_wp2_with (first | (go_at_call 103; (with_reducible refine (CY.out _ (by with_reducible repeat (first | exact hh | refine Ho.At.alloc ?_ _ | refine Ho.At.bw ?_ _ | refine Tk.At.alloc ?_ _ | refine Tk.At.bw ?_ _))).mono ?_); rintro e w_ ⟨rfl, hb_⟩; obtain ⟨v4, rfl⟩ := Soft.BW.mk hb_; clear hb_))
              refine bodyPost_ret (v := .tuple #[.int .i64 y, .int .i64 RB.hi, .int .i64 0]) (by simp [results, Try.results53, go_sem]) rfl ?_
              refine ⟨rfl, ?_⟩
              (repeat (first | with_reducible exact bel_refl _ | with_reducible refine bel_alloc ?_ _ | with_reducible refine bel_bw _ ?_ | with_reducible refine bel_drew ?_ | with_reducible refine bel_drewN _ ?_ | ((with_reducible refine bel_set ?_ ?_ _); rotate_left; focus (first | (simp; done) | omega | (simp; omega))) | refine bel_step ?_ (by with_reducible assumption)))

theorem R2_Worst (h : Ho) (f : Fi) (w : World) (hh : h.At w) :
    Calls Try.prog 53 #[.agg #[.int .i64 (h).id, .int .i64 ((h).along).lo, .int .i64 ((h).along).hi, .slice ((h).vol).p ((h).vol).n ((h).vol).c, .slice ((h).mom).p ((h).mom).n ((h).mom).c, .slice ((h).hei).p ((h).hei).n ((h).hei).c, .int .i64 ((h).tri).lo, .int .i64 ((h).tri).hi, .int .i64 ((h).unt).lo, .int .i64 ((h).unt).hi, .int .i64 ((h).v0).lo, .int .i64 ((h).v0).hi, .int .i64 ((h).h0).lo, .int .i64 ((h).h0).hi], .agg #[.int .i64 (f).hold, .int .i64 (f).state, .int .i64 ((f).ull).lo, .int .i64 ((f).ull).hi, .int .i64 ((f).den).lo, .int .i64 ((f).den).hi]] w fun e w' => e = .returned (.tuple #[.int .i64 (wrsE h f).1, .int .i64 (wrsE h f).2, .int .i64 (fillErr h f)]) ∧ Below w.heap.size w w' := by
  have CCF := Lib.hid (fun W hW => R2_CheckFill h f W hW)
  by_cases hc : fillErr h f = 0
  · obtain ⟨h0, h1⟩ := fill_ok hc
    rw [hc] at CCF
    by_cases h3 : f.state = 3
    · have e : wrsE h f = worS h.mom.ps f.ull := by unfold wrsE; rw [if_pos hc, if_pos h3]
      rw [e, hc]
      exact R2_Worst3 h f w hh hc h3
    · have HV := Lib.hid (show wrsE h f = (0, (momS h f).hi) by unfold wrsE; rw [if_pos hc, if_neg h3])
      have d3 : (f.state != 3) = true := bne_iff_ne.2 h3
      have CM := Lib.hid (fun W hW => R2_moment h f W hW h0 h1)
      rw [HV.out, hc]
      clear hc h0 h1 h3 HV
      generalize momS h f = M at *
      go_enter Try.func53, Try.ntmps53
      go_wp2_with (first | (go_at_call 96; (with_reducible refine (CCF.out _ (by with_reducible repeat (first | exact hh | refine Ho.At.alloc ?_ _ | refine Ho.At.bw ?_ _ | refine Tk.At.alloc ?_ _ | refine Tk.At.bw ?_ _))).mono ?_); rintro e w_ ⟨rfl, hb_⟩; obtain ⟨y1, rfl⟩ := Soft.BW.mk hb_; clear hb_) | (go_at_call 102; (with_reducible refine (CM.out _ (by with_reducible repeat (first | exact hh | refine Ho.At.alloc ?_ _ | refine Ho.At.bw ?_ _ | refine Tk.At.alloc ?_ _ | refine Tk.At.bw ?_ _))).mono ?_); rintro e w_ ⟨rfl, hb_⟩; obtain ⟨y2, rfl⟩ := Soft.BW.mk hb_; clear hb_))
      (refine Soft.region0 [0, 1, 2, 3, 4] [] (by kernel_rfl) (by kernel_rfl) (by kernel_rfl) (by kernel_rfl) ?_; change Soft.wpSoft _ _ _ _ _ [_, _, _, _, _] _; (repeat (refine Soft.soft_step (fun K hK => ?_); go_simp; (try go_bits); first | (refine hK _ ?_; clear hK K) | (apply Exists.intro; refine ⟨fun x => ?_, hK _ ?_⟩; (fail); clear hK K))); refine Soft.soft_nil ?_; intro xw; change wpList _ _ _ [] _ _)
      change wpList _ _ _ [] _ _
      go_wp2_with fail
      refine bodyPost_ret (v := .tuple #[.int .i64 0, .int .i64 M.hi, .int .i64 0]) (by simp [results, Try.results53, go_sem]) rfl ?_
      refine ⟨rfl, ?_⟩
      (repeat (first | with_reducible exact bel_refl _ | with_reducible refine bel_alloc ?_ _ | with_reducible refine bel_bw _ ?_ | with_reducible refine bel_drew ?_ | with_reducible refine bel_drewN _ ?_ | ((with_reducible refine bel_set ?_ ?_ _); rotate_left; focus (first | (simp; done) | omega | (simp; omega))) | refine bel_step ?_ (by with_reducible assumption)))
  · have HV := Lib.hid (show wrsE h f = (0, 0) by unfold wrsE; rw [if_neg hc])
    have d0 : (fillErr h f != 0) = true := bne_iff_ne.2 hc
    rw [HV.out]
    clear hc HV
    generalize fillErr h f = E at *
    go_enter Try.func53, Try.ntmps53
    go_wp2_with (first | (go_at_call 96; (with_reducible refine (CCF.out _ (by with_reducible repeat (first | exact hh | refine Ho.At.alloc ?_ _ | refine Ho.At.bw ?_ _ | refine Tk.At.alloc ?_ _ | refine Tk.At.bw ?_ _))).mono ?_); rintro e w_ ⟨rfl, hb_⟩; obtain ⟨y1, rfl⟩ := Soft.BW.mk hb_; clear hb_))
    refine bodyPost_ret (v := .tuple #[.int .i64 0, .int .i64 0, .int .i64 E]) (by simp [results, Try.results53, go_sem]) rfl ?_
    refine ⟨rfl, ?_⟩
    (repeat (first | with_reducible exact bel_refl _ | with_reducible refine bel_alloc ?_ _ | with_reducible refine bel_bw _ ?_ | with_reducible refine bel_drew ?_ | with_reducible refine bel_drewN _ ?_ | ((with_reducible refine bel_set ?_ ?_ _); rotate_left; focus (first | (simp; done) | omega | (simp; omega))) | refine bel_step ?_ (by with_reducible assumption)))

theorem R2_CheckWorst (h : Ho) (f : Fi) (u m : Int) (w : World) (hh : h.At w) :
    Calls Try.prog 54 #[.agg #[.int .i64 (h).id, .int .i64 ((h).along).lo, .int .i64 ((h).along).hi, .slice ((h).vol).p ((h).vol).n ((h).vol).c, .slice ((h).mom).p ((h).mom).n ((h).mom).c, .slice ((h).hei).p ((h).hei).n ((h).hei).c, .int .i64 ((h).tri).lo, .int .i64 ((h).tri).hi, .int .i64 ((h).unt).lo, .int .i64 ((h).unt).hi, .int .i64 ((h).v0).lo, .int .i64 ((h).v0).hi, .int .i64 ((h).h0).lo, .int .i64 ((h).h0).hi], .agg #[.int .i64 (f).hold, .int .i64 (f).state, .int .i64 ((f).ull).lo, .int .i64 ((f).ull).hi, .int .i64 ((f).den).lo, .int .i64 ((f).den).hi], .int .i64 u, .int .i64 m] w fun e w' => e = .returned (.int .i64 (chkS h f u m)) ∧ Below w.heap.size w w' := by
  have CW : Hid (∀ W, h.At W → Calls Try.prog 53 #[.agg #[.int .i64 (h).id, .int .i64 ((h).along).lo, .int .i64 ((h).along).hi, .slice ((h).vol).p ((h).vol).n ((h).vol).c, .slice ((h).mom).p ((h).mom).n ((h).mom).c, .slice ((h).hei).p ((h).hei).n ((h).hei).c, .int .i64 ((h).tri).lo, .int .i64 ((h).tri).hi, .int .i64 ((h).unt).lo, .int .i64 ((h).unt).hi, .int .i64 ((h).v0).lo, .int .i64 ((h).v0).hi, .int .i64 ((h).h0).lo, .int .i64 ((h).h0).hi], .agg #[.int .i64 (f).hold, .int .i64 (f).state, .int .i64 ((f).ull).lo, .int .i64 ((f).ull).hi, .int .i64 ((f).den).lo, .int .i64 ((f).den).hi]] W fun e w' => e = .returned (.tuple #[.int .i64 (wrsE h f).1, .int .i64 (wrsE h f).2, .int .i64 (fillErr h f)]) ∧ Below W.heap.size W w') := Lib.hid (fun W hW => R2_Worst h f W hW)
  have hm := hh.2.1
  have HCS : Hid (chkS h f u m = if fillErr h f = 0 then (if f.state = 3 then (if (f.ull.lo ≤ u ∧ u ≤ f.ull.hi) ∧ m = (wrsE h f).2 ∧ hiE h.mom.ps u = m then 0 else 1) else (if u = 0 ∧ m = (wrsE h f).2 then 0 else 1)) else fillErr h f) := Lib.hid rfl
  have HW1 : Hid (fillErr h f = 0 → f.state ≠ 3 → (wrsE h f).1 = 0) := Lib.hid (fun e1 e2 => by unfold wrsE; rw [if_pos e1, if_neg e2])
  by_cases cf : fillErr h f = 0
  · obtain ⟨h0, h1⟩ := fill_ok cf
    rw [cf] at CW
    by_cases h3 : f.state = 3
    · have d3 : (f.state != 3) = false := by rw [h3]; rfl
      obtain ⟨_, ⟨t2, s2⟩, _⟩ := h0.tabs
      obtain ⟨_, hp, _⟩ := fill_free h1 (by omega)
      rw [← s2.1, ← s2.2] at hp
      obtain ⟨p1, p2, p3⟩ := hp
      generalize wrsE h f = wx at *
      obtain ⟨wa, wm⟩ := wx
      dsimp only at *
      by_cases c1 : f.ull.lo ≤ u ∧ u ≤ f.ull.hi
      · have CA := Lib.hid (fun W hW => R2_at h.mom u W hW t2 ⟨by omega, by omega⟩)
        have eH : hiE h.mom.ps u = (atS h.mom.ps u).hi := by unfold hiE; rw [atE_in t2.ok (by omega) (by omega)]
        have HC1 := Lib.hid (decide_eq_true c1).symm
        rw [eH] at HCS
        by_cases c2 : m = wm
        · have dm : (m != wm) = false := by rw [c2]; simp
          by_cases c3 : (atS h.mom.ps u).hi = m
          · have HV := Lib.hid (show chkS h f u m = 0 by rw [HCS.out, if_pos cf, if_pos h3, if_pos ⟨c1, c2, c3⟩])
            rw [HV.out]
            clear cf h0 h1 h3 t2 s2 p1 p2 p3 eH HCS HV HW1 c1
            generalize atS h.mom.ps u = RU at *
            have dh : (RU.hi != wm) = false := by rw [c3, c2]; simp
            clear c2 c3
            go_enter Try.func54, Try.ntmps54
            go_wp2_with (first | (go_at_call 53; (with_reducible refine (CW.out _ (by with_reducible repeat (first | exact hh | refine Ho.At.alloc ?_ _ | refine Ho.At.bw ?_ _ | refine Tk.At.alloc ?_ _ | refine Tk.At.bw ?_ _))).mono ?_); rintro e w_ ⟨rfl, hb_⟩; obtain ⟨y1, rfl⟩ := Soft.BW.mk hb_; clear hb_) | (go_at_call 75; (with_reducible refine (R2_between _ _ _ _ true HC1.out).mono ?_); rintro e w_ ⟨rfl, hw_⟩; subst w_) | (go_at_call 103; (with_reducible refine (CA.out _ (by repeat (first | exact hm | refine Tb.At.alloc ?_ _ | refine Tb.At.bw ?_ _))).mono ?_); rintro e w_ ⟨rfl, hb_⟩; obtain ⟨y2, rfl⟩ := Soft.BW.mk hb_; clear hb_))
            go_ret
            refine ⟨rfl, ?_⟩
            (repeat (first | with_reducible exact bel_refl _ | with_reducible refine bel_alloc ?_ _ | with_reducible refine bel_bw _ ?_ | with_reducible refine bel_drew ?_ | with_reducible refine bel_drewN _ ?_ | ((with_reducible refine bel_set ?_ ?_ _); rotate_left; focus (first | (simp; done) | omega | (simp; omega))) | refine bel_step ?_ (by with_reducible assumption)))
          · have HV := Lib.hid (show chkS h f u m = 1 by rw [HCS.out, if_pos cf, if_pos h3, if_neg (fun e => c3 e.2.2)])
            rw [HV.out]
            clear cf h0 h1 h3 t2 s2 p1 p2 p3 eH HCS HV HW1 c1
            generalize atS h.mom.ps u = RU at *
            have dh : (RU.hi != wm) = true := bne_iff_ne.2 (by rw [← c2]; exact c3)
            clear c2 c3
            go_enter Try.func54, Try.ntmps54
            go_wp2_with (first | (go_at_call 53; (with_reducible refine (CW.out _ (by with_reducible repeat (first | exact hh | refine Ho.At.alloc ?_ _ | refine Ho.At.bw ?_ _ | refine Tk.At.alloc ?_ _ | refine Tk.At.bw ?_ _))).mono ?_); rintro e w_ ⟨rfl, hb_⟩; obtain ⟨y1, rfl⟩ := Soft.BW.mk hb_; clear hb_) | (go_at_call 75; (with_reducible refine (R2_between _ _ _ _ true HC1.out).mono ?_); rintro e w_ ⟨rfl, hw_⟩; subst w_) | (go_at_call 103; (with_reducible refine (CA.out _ (by repeat (first | exact hm | refine Tb.At.alloc ?_ _ | refine Tb.At.bw ?_ _))).mono ?_); rintro e w_ ⟨rfl, hb_⟩; obtain ⟨y2, rfl⟩ := Soft.BW.mk hb_; clear hb_))
            go_ret
            refine ⟨rfl, ?_⟩
            (repeat (first | with_reducible exact bel_refl _ | with_reducible refine bel_alloc ?_ _ | with_reducible refine bel_bw _ ?_ | with_reducible refine bel_drew ?_ | with_reducible refine bel_drewN _ ?_ | ((with_reducible refine bel_set ?_ ?_ _); rotate_left; focus (first | (simp; done) | omega | (simp; omega))) | refine bel_step ?_ (by with_reducible assumption)))
        · have dm : (m != wm) = true := bne_iff_ne.2 c2
          have HV := Lib.hid (show chkS h f u m = 1 by rw [HCS.out, if_pos cf, if_pos h3, if_neg (fun e => c2 e.2.1)])
          rw [HV.out]
          clear cf h0 h1 h3 t2 s2 p1 p2 p3 eH HCS HV HW1 c1 c2
          go_enter Try.func54, Try.ntmps54
          go_wp2_with (first | (go_at_call 53; (with_reducible refine (CW.out _ (by with_reducible repeat (first | exact hh | refine Ho.At.alloc ?_ _ | refine Ho.At.bw ?_ _ | refine Tk.At.alloc ?_ _ | refine Tk.At.bw ?_ _))).mono ?_); rintro e w_ ⟨rfl, hb_⟩; obtain ⟨y1, rfl⟩ := Soft.BW.mk hb_; clear hb_) | (go_at_call 75; (with_reducible refine (R2_between _ _ _ _ true HC1.out).mono ?_); rintro e w_ ⟨rfl, hw_⟩; subst w_))
          go_ret
          refine ⟨rfl, ?_⟩
          (repeat (first | with_reducible exact bel_refl _ | with_reducible refine bel_alloc ?_ _ | with_reducible refine bel_bw _ ?_ | with_reducible refine bel_drew ?_ | with_reducible refine bel_drewN _ ?_ | ((with_reducible refine bel_set ?_ ?_ _); rotate_left; focus (first | (simp; done) | omega | (simp; omega))) | refine bel_step ?_ (by with_reducible assumption)))
      · have HV := Lib.hid (show chkS h f u m = 1 by rw [HCS.out, if_pos cf, if_pos h3, if_neg (fun e => c1 e.1)])
        have HC1 := Lib.hid (decide_eq_false c1).symm
        rw [HV.out]
        clear cf h0 h1 h3 t2 s2 p1 p2 p3 HCS HV HW1 c1
        go_enter Try.func54, Try.ntmps54
        go_wp2_with (first | (go_at_call 53; (with_reducible refine (CW.out _ (by with_reducible repeat (first | exact hh | refine Ho.At.alloc ?_ _ | refine Ho.At.bw ?_ _ | refine Tk.At.alloc ?_ _ | refine Tk.At.bw ?_ _))).mono ?_); rintro e w_ ⟨rfl, hb_⟩; obtain ⟨y1, rfl⟩ := Soft.BW.mk hb_; clear hb_) | (go_at_call 75; (with_reducible refine (R2_between _ _ _ _ false HC1.out).mono ?_); rintro e w_ ⟨rfl, hw_⟩; subst w_))
        go_ret
        refine ⟨rfl, ?_⟩
        (repeat (first | with_reducible exact bel_refl _ | with_reducible refine bel_alloc ?_ _ | with_reducible refine bel_bw _ ?_ | with_reducible refine bel_drew ?_ | with_reducible refine bel_drewN _ ?_ | ((with_reducible refine bel_set ?_ ?_ _); rotate_left; focus (first | (simp; done) | omega | (simp; omega))) | refine bel_step ?_ (by with_reducible assumption)))
    · have d3 : (f.state != 3) = true := bne_iff_ne.2 h3
      have hw1 := HW1.out cf h3
      generalize wrsE h f = wx at *
      obtain ⟨wa, wm⟩ := wx
      dsimp only at *
      subst hw1
      by_cases c1 : u = 0
      · have du : (u == 0) = true := by rw [c1]; rfl
        by_cases c2 : m = wm
        · have dm : (m == wm) = true := by rw [c2]; simp
          have HV := Lib.hid (show chkS h f u m = 0 by rw [HCS.out, if_pos cf, if_neg h3, if_pos ⟨c1, c2⟩])
          rw [HV.out]
          clear cf h0 h1 h3 c1 c2 HCS HV HW1
          go_enter Try.func54, Try.ntmps54
          go_wp2_with (first | (go_at_call 53; (with_reducible refine (CW.out _ (by with_reducible repeat (first | exact hh | refine Ho.At.alloc ?_ _ | refine Ho.At.bw ?_ _ | refine Tk.At.alloc ?_ _ | refine Tk.At.bw ?_ _))).mono ?_); rintro e w_ ⟨rfl, hb_⟩; obtain ⟨y1, rfl⟩ := Soft.BW.mk hb_; clear hb_))
          go_ret
          refine ⟨rfl, ?_⟩
          (repeat (first | with_reducible exact bel_refl _ | with_reducible refine bel_alloc ?_ _ | with_reducible refine bel_bw _ ?_ | with_reducible refine bel_drew ?_ | with_reducible refine bel_drewN _ ?_ | ((with_reducible refine bel_set ?_ ?_ _); rotate_left; focus (first | (simp; done) | omega | (simp; omega))) | refine bel_step ?_ (by with_reducible assumption)))
        · have dm : (m == wm) = false := beq_eq_false_iff_ne.2 c2
          have HV := Lib.hid (show chkS h f u m = 1 by rw [HCS.out, if_pos cf, if_neg h3, if_neg (fun e => c2 e.2)])
          rw [HV.out]
          clear cf h0 h1 h3 c1 c2 HCS HV HW1
          go_enter Try.func54, Try.ntmps54
          go_wp2_with (first | (go_at_call 53; (with_reducible refine (CW.out _ (by with_reducible repeat (first | exact hh | refine Ho.At.alloc ?_ _ | refine Ho.At.bw ?_ _ | refine Tk.At.alloc ?_ _ | refine Tk.At.bw ?_ _))).mono ?_); rintro e w_ ⟨rfl, hb_⟩; obtain ⟨y1, rfl⟩ := Soft.BW.mk hb_; clear hb_))
          go_ret
          refine ⟨rfl, ?_⟩
          (repeat (first | with_reducible exact bel_refl _ | with_reducible refine bel_alloc ?_ _ | with_reducible refine bel_bw _ ?_ | with_reducible refine bel_drew ?_ | with_reducible refine bel_drewN _ ?_ | ((with_reducible refine bel_set ?_ ?_ _); rotate_left; focus (first | (simp; done) | omega | (simp; omega))) | refine bel_step ?_ (by with_reducible assumption)))
      · have du : (u == 0) = false := beq_eq_false_iff_ne.2 c1
        have HV := Lib.hid (show chkS h f u m = 1 by rw [HCS.out, if_pos cf, if_neg h3, if_neg (fun e => c1 e.1)])
        rw [HV.out]
        clear cf h0 h1 h3 c1 HCS HV HW1
        go_enter Try.func54, Try.ntmps54
        go_wp2_with (first | (go_at_call 53; (with_reducible refine (CW.out _ (by with_reducible repeat (first | exact hh | refine Ho.At.alloc ?_ _ | refine Ho.At.bw ?_ _ | refine Tk.At.alloc ?_ _ | refine Tk.At.bw ?_ _))).mono ?_); rintro e w_ ⟨rfl, hb_⟩; obtain ⟨y1, rfl⟩ := Soft.BW.mk hb_; clear hb_))
        go_ret
        refine ⟨rfl, ?_⟩
        (repeat (first | with_reducible exact bel_refl _ | with_reducible refine bel_alloc ?_ _ | with_reducible refine bel_bw _ ?_ | with_reducible refine bel_drew ?_ | with_reducible refine bel_drewN _ ?_ | ((with_reducible refine bel_set ?_ ?_ _); rotate_left; focus (first | (simp; done) | omega | (simp; omega))) | refine bel_step ?_ (by with_reducible assumption)))
  · have d0 : (fillErr h f != 0) = true := bne_iff_ne.2 cf
    have HV := Lib.hid (show chkS h f u m = fillErr h f by rw [HCS.out, if_neg cf])
    rw [HV.out]
    clear cf HCS HV HW1
    generalize wrsE h f = wx at *
    obtain ⟨wa, wm⟩ := wx
    dsimp only at *
    generalize fillErr h f = E at *
    go_enter Try.func54, Try.ntmps54
    go_wp2_with (first | (go_at_call 53; (with_reducible refine (CW.out _ (by with_reducible repeat (first | exact hh | refine Ho.At.alloc ?_ _ | refine Ho.At.bw ?_ _ | refine Tk.At.alloc ?_ _ | refine Tk.At.bw ?_ _))).mono ?_); rintro e w_ ⟨rfl, hb_⟩; obtain ⟨y1, rfl⟩ := Soft.BW.mk hb_; clear hb_))
    go_ret
    refine ⟨rfl, ?_⟩
    (repeat (first | with_reducible exact bel_refl _ | with_reducible refine bel_alloc ?_ _ | with_reducible refine bel_bw _ ?_ | with_reducible refine bel_drew ?_ | with_reducible refine bel_drewN _ ?_ | ((with_reducible refine bel_set ?_ ?_ _); rotate_left; focus (first | (simp; done) | omega | (simp; omega))) | refine bel_step ?_ (by with_reducible assumption)))

end Go.Proofs.Ytbjdgaeikihjbaa
