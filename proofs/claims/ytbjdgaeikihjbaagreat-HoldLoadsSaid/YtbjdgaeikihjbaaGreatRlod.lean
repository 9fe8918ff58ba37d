/-
  The reference's loads.
  Conditions: each theorem's own premises.
-/
import Derived.Test.YtbjdgaeikihjbaaGreatLodq
import Derived.Test.YtbjdgaeikihjbaaGreatRfq
import Derived.Test.YtbjdgaeikihjbaaGreatRft
import Derived.Deep.RegionHeld3
namespace Go.Proofs.YtbjdgaeikihjbaaGreat
set_option linter.unusedSimpArgs false
set_option linter.unusedVariables false
open Go.RowKit
set_option maxRecDepth 100000
set_option maxHeartbeats 20000000
attribute [local go_sem] Instr.field asAgg Soft.upon Soft.BW.cell_if Soft.BW.frozen_if Soft.cell_alloc_if Soft.frozen_alloc_if
attribute [local irreducible] Soft.wpSoft

theorem R2_Load (H : Sl Ho) (F : Sl Fi) (T : Sl Tk) (L : Sl Lv) (w : World) (hH : HsAt w H) (hF : FsAt w F) (hT : TsAt w T) (hL : LsAt w L) :
    Calls Tryz.prog 41 #[.slice H.p H.n H.c, .slice F.p F.n F.c, .slice T.p T.n T.c, .slice L.p L.n L.c] w (LdPost w (loadE H.xs F.xs T.xs L.xs)) := by
  have b1 : H.xs.length = H.n ∧ H.n ≤ H.c ∧ H.c ≤ 9223372036854775807 := ⟨hH.1, hH.2.1.1, hH.2.1.2.1⟩
  have b2 : F.xs.length = F.n ∧ F.n ≤ F.c ∧ F.c ≤ 9223372036854775807 := ⟨hF.1, hF.2.1, hF.2.2.1⟩
  have b3 : T.xs.length = T.n ∧ T.n ≤ T.c ∧ T.c ≤ 9223372036854775807 := ⟨hT.1, hT.2.1.1, hT.2.1.2.1⟩
  have b4 : L.xs.length = L.n ∧ L.n ≤ L.c ∧ L.c ≤ 9223372036854775807 := ⟨hL.1, hL.2.1, hL.2.2.1⟩
  obtain ⟨hp, hn, hc, hx⟩ := H
  obtain ⟨fp, fn, fc, fx⟩ := F
  obtain ⟨tp, tn, tc, tx⟩ := T
  obtain ⟨lp, ln, lc, lx⟩ := L
  obtain ⟨b11, b12, b13⟩ := b1
  obtain ⟨b21, b22, b23⟩ := b2
  obtain ⟨b31, b32, b33⟩ := b3
  obtain ⟨b41, b42, b43⟩ := b4
  dsimp only at *
  by_cases c1 : 9 < hn ∨ 9 < tn
  · have E : loadE hx fx tx lx = (2, ld0) := if_pos (by omega)
    rw [E]
    by_cases c1a : 9 < hn
    · have d1 : ((9 : Int) < hn) := by omega
      go_enter Tryz.func41, Tryz.ntmps41
      go_wp2_with fail
      refine bodyPost_ret (v := .tuple #[.agg #[.slice none 0 0, .int .i64 0, .int .i64 0, .int .i64 0, .int .i64 0], .int .i64 2]) (by simp [results, Tryz.results41, go_sem]) rfl ?_
      exact loadPost_zero rfl (by (repeat (first | with_reducible exact bel_refl _ | with_reducible refine bel_alloc ?_ _ | with_reducible refine bel_bw _ ?_ | with_reducible refine bel_drew ?_ | with_reducible refine bel_drewN _ ?_ | ((with_reducible refine bel_set ?_ ?_ _); rotate_left; focus (first | (simp; done) | omega | (simp; omega))) | refine bel_step ?_ (by with_reducible assumption))))
    · have d1 : ¬((9 : Int) < hn) := by omega
      have d2 : ((9 : Int) < tn) := by omega
      go_enter Tryz.func41, Tryz.ntmps41
      go_wp2_with fail
      refine bodyPost_ret (v := .tuple #[.agg #[.slice none 0 0, .int .i64 0, .int .i64 0, .int .i64 0, .int .i64 0], .int .i64 2]) (by simp [results, Tryz.results41, go_sem]) rfl ?_
      exact loadPost_zero rfl (by (repeat (first | with_reducible exact bel_refl _ | with_reducible refine bel_alloc ?_ _ | with_reducible refine bel_bw _ ?_ | with_reducible refine bel_drew ?_ | with_reducible refine bel_drewN _ ?_ | ((with_reducible refine bel_set ?_ ?_ _); rotate_left; focus (first | (simp; done) | omega | (simp; omega))) | refine bel_step ?_ (by with_reducible assumption))))
  have d1 : ¬((9 : Int) < hn) := by omega
  have d2 : ¬((9 : Int) < tn) := by omega
  by_cases c2 : hn ≠ fn ∨ tn ≠ ln
  · have E : loadE hx fx tx lx = (1, ld0) := by unfold loadE; rw [if_neg (by omega), if_pos (by omega)]
    rw [E]
    by_cases c2a : hn = fn
    · have d3 : ((fn : Int) != hn) = false := by subst c2a; simp
      have d4 : ((ln : Int) != tn) = true := by simp; omega
      go_enter Tryz.func41, Tryz.ntmps41
      go_wp2_with fail
      refine bodyPost_ret (v := .tuple #[.agg #[.slice none 0 0, .int .i64 0, .int .i64 0, .int .i64 0, .int .i64 0], .int .i64 1]) (by simp [results, Tryz.results41, go_sem]) rfl ?_
      exact loadPost_zero rfl (by (repeat (first | with_reducible exact bel_refl _ | with_reducible refine bel_alloc ?_ _ | with_reducible refine bel_bw _ ?_ | with_reducible refine bel_drew ?_ | with_reducible refine bel_drewN _ ?_ | ((with_reducible refine bel_set ?_ ?_ _); rotate_left; focus (first | (simp; done) | omega | (simp; omega))) | refine bel_step ?_ (by with_reducible assumption))))
    · have d3 : ((fn : Int) != hn) = true := by simp; omega
      go_enter Tryz.func41, Tryz.ntmps41
      go_wp2_with fail
      refine bodyPost_ret (v := .tuple #[.agg #[.slice none 0 0, .int .i64 0, .int .i64 0, .int .i64 0, .int .i64 0], .int .i64 1]) (by simp [results, Tryz.results41, go_sem]) rfl ?_
      exact loadPost_zero rfl (by (repeat (first | with_reducible exact bel_refl _ | with_reducible refine bel_alloc ?_ _ | with_reducible refine bel_bw _ ?_ | with_reducible refine bel_drew ?_ | with_reducible refine bel_drewN _ ?_ | ((with_reducible refine bel_set ?_ ?_ _); rotate_left; focus (first | (simp; done) | omega | (simp; omega))) | refine bel_step ?_ (by with_reducible assumption))))
  obtain rfl : hn = fn := by omega
  obtain rfl : tn = ln := by omega
  have hlen := Lib.hid (show hx.length ≤ 9 ∧ tx.length ≤ 9 ∧ hx.length = fx.length ∧ tx.length = lx.length from ⟨by omega, by omega, by omega, by omega⟩)
  have hh9 : hn ≤ 9 := by omega
  have ht9 : tn ≤ 9 := by omega
  have HH := Lib.hid hH; have HF := Lib.hid hF; have HT := Lib.hid hT; have HL := Lib.hid hL
  have B1 := Lib.hid b11; have B2 := Lib.hid b31
  clear c1 c2 b11 b21 b31 b41 hH hF hT hL b22 b42 b12 b32
  go_enter Tryz.func41, Tryz.ntmps41
  go_wp2_with fail
  have rel0 : LdRel w (w.heap.size + 2) ((w.alloc (.cells (ldC (.slice none 0 0) ld0) 67)).alloc (.cells (ldC (.slice none 0 0) ld0) 67)) (.slice none 0 0) ld0 :=
    ⟨(by simp only [HasBlk, Soft.BW.heap_if, Soft.heap_alloc_if, Soft.heap_new, Soft.heap_new1, Soft.heap_new2, Soft.heap_new3, Soft.heap_new4, Soft.heap_new5]), World.ownsRow_nil _ _ _ _, HasBlk.below (Soft.heap_new w _) ((Below.refl _ _).alloc (Nat.le_refl _) _), by (repeat (first | with_reducible exact bel_refl _ | with_reducible refine bel_alloc ?_ _ | with_reducible refine bel_bw _ ?_ | with_reducible refine bel_drew ?_ | with_reducible refine bel_drewN _ ?_ | ((with_reducible refine bel_set ?_ ?_ _); rotate_left; focus (first | (simp; done) | omega | (simp; omega))) | refine bel_step ?_ (by with_reducible assumption))), Nat.le_refl _, by simp⟩
  go_loopw [11, 12, 13, 14, 15, 16] (fun i _ _ _ _ _ wr => ∃ (k : Nat) (v : Value), i = .int .i64 k ∧ k ≤ hn ∧ (hRun hx fx k).1 = 0 ∧ LdRel w (w.heap.size + 2) wr v (hRun hx fx k).2) (fun i _ _ _ _ _ _ => hn - (intOf i).toNat)
  case atStart => exact ⟨0, _, rfl, by omega, rfl, rel0⟩
  case round =>
    obtain ⟨k, v, rfl, hk, hz, hrel⟩ := hrel
    clear rel0
    have l0 := Soft.LtH.mk (b := w.heap.size) (w := wr) hrel.res.lt
    have l1 := Soft.LtH.mk (b := w.heap.size + 1) (w := wr) hrel.out.lt
    by_cases hlt : k < hn
    · have hk2 : (k : Int) < hn := by omega
      have aH := HH.out.same hrel.bel
      have aF := HF.out.same hrel.bel
      obtain ⟨hb, ho, rfl, hbl0, _⟩ := HH.out.cells (by dsimp only; omega)
      obtain ⟨fb, fo, rfl, fbl0, _⟩ := HF.out.cells (by dsimp only; omega)
      obtain ⟨hb1, ho1, eh, hbl, hcl⟩ := aH.cells (by dsimp only; omega)
      obtain ⟨fb1, fo1, ef, fbl, fcl⟩ := aF.cells (by dsimp only; omega)
      cases eh
      cases ef
      have aQ := aH.2.2 k hlt
      dsimp only at hbl hcl fbl fcl aQ
      have l2 := Soft.LtH.mk (b := hb) (w := wr) hbl
      have l3 := Soft.LtH.mk (b := fb) (w := wr) fbl
      have m1 : ¬(hb = w.heap.size + 1) := by omega
      have m2 : ¬(w.heap.size + 1 = hb) := by omega
      have m3 : ¬(fb = w.heap.size + 1) := by omega
      have m4 : ¬(w.heap.size + 1 = fb) := by omega
      have HREL := Lib.hid hrel
      have HCL := Lib.hid hcl
      have FCL := Lib.hid fcl
      have AQ := Lib.hid aQ
      clear hrel hcl fcl aQ aH aF hbl fbl hbl0
      go_wp2_with fail
      go_loopw [12] (fun i2 W => ∃ j : Nat, i2 = .int .i64 j ∧ j ≤ k ∧ (∀ j', j' < j → (hv hx j').id ≠ (hv hx k).id) ∧ Below wr.heap.size wr W) (fun i2 _ => k - (intOf i2).toNat)
      case atStart => exact ⟨0, rfl, by omega, fun j hj => by omega, Below.refl _ _⟩
      case round =>
        obtain ⟨j, rfl, hj, hno, hB⟩ := hrel
        obtain ⟨u, rfl⟩ := Soft.BW.mk hB
        clear hB
        by_cases hlt2 : j < k
        · have hj2 : (j : Int) < k := by omega
          obtain ⟨x0, _⟩ := HCL.out k hlt
          obtain ⟨z0, _⟩ := HCL.out j (by omega)
          by_cases hid : (hv hx j).id = (hv hx k).id
          · have did : ((hv hx j).id == (hv hx k).id) = true := by rw [hid]; simp
            have HE := Lib.hid (loadE_h (ls := lx) hlen.out.1 hlen.out.2.1 hlen.out.2.2.1 hlen.out.2.2.2 (k := k) (by rw [B1.out]; exact hlt) (by rw [hRun_dup hz ((dupH_iff _ _).2 ⟨j, hlt2, hid⟩)]; decide) |>.trans (hRun_dup hz ((dupH_iff _ _).2 ⟨j, hlt2, hid⟩)))
            generalize (hv hx j).id = idj at *
            generalize (hv hx k).id = idk at *
            go_wp2_with fail
            go_quiet (fail)
            rename Nat => nq
            obtain ⟨Y9, eq9⟩ := Soft.BW.mk (w := u.w) (below_drewN (Below.refl _ _) nq)
            rw [eq9]
            clear eq9
            have R9 := (HREL.out.call u.below).call Y9.below
            have Z := setRow_heap Y9.w w.heap.size _ (ldC (.slice none 0 0) ld0) _ _ R9.res
            have z0 := HasBlk.cell Z 0
            have z1 := HasBlk.cell Z 1
            have z2 := HasBlk.cell Z 2
            have z3 := HasBlk.cell Z 3
            have z4 := HasBlk.cell Z 4
            simp [ld0] at z0 z1 z2 z3 z4
            have zb := below_setRow (g := w.heap.size) R9.bel (Nat.le_refl _) (ldC (.slice none 0 0) ld0)
            go_wp2_with (refine wpList_store_row rfl 67 _ _ rfl w.heap.size _ rfl rfl 67 _ R9.res (by kernel_rfl) rfl (by kernel_rfl) ?_)
            refine bodyPost_ret (v := .tuple #[.agg #[.slice none 0 0, .int .i64 0, .int .i64 0, .int .i64 0, .int .i64 0], .int .i64 20]) (by simp [results, Tryz.results41, go_sem, z0, z1, z2, z3, z4]) rfl ?_
            exact loadPost_zero HE.out zb
          · have did : ((hv hx j).id == (hv hx k).id) = false := by simp [hid]
            have HNO := Lib.hid (show ∀ j', j' < j + 1 → (hv hx j').id ≠ (hv hx k).id from fun j' h' => by
              by_cases e : j' = j
              · rw [e]; exact hid
              · exact hno j' (by omega))
            clear hid hno
            generalize hj' : (hv hx j).id = idj at *
            generalize hk' : (hv hx k).id = idk at *
            go_wp2_with fail
            go_quiet (fail)
            rename Nat => nq
            go_wp2_with fail
            go_roundw
            case rel => exact ⟨j + 1, by simp, by omega, HNO.out, by (repeat (first | with_reducible exact bel_refl _ | with_reducible refine bel_alloc ?_ _ | with_reducible refine bel_bw _ ?_ | with_reducible refine bel_drew ?_ | with_reducible refine bel_drewN _ ?_ | ((with_reducible refine bel_set ?_ ?_ _); rotate_left; focus (first | (simp; done) | omega | (simp; omega))) | refine bel_step ?_ (by with_reducible assumption)))⟩
            case measure => simp [intOf]; omega
        · obtain rfl : j = k := by omega
          have hdup : dupH hx j = false := by
            rw [Bool.eq_false_iff]
            intro c
            obtain ⟨j', a, b⟩ := (dupH_iff _ _).1 c
            exact hno j' a b
          have N1 := Lib.hid (fun he => hRun_next hz hdup he)
          have N2 := Lib.hid (fun he => (loadE_h (ls := lx) hlen.out.1 hlen.out.2.1 hlen.out.2.2.1 hlen.out.2.2.2 (k := j) (by rw [B1.out]; exact hlt) (by rw [hRun_bad hz hdup he]; exact he)).trans (hRun_bad hz hdup he))
          have SM := Lib.hid (hRun_small hx fx j).2
          have CW := Lib.hid (fun W hW => R2_Weight (hv hx j) (fiv fx j) W hW)
          have CHE := Lib.hid (fun W hW => R2_Heel (hv hx j) (fiv fx j) W hW)
          have HI := Lib.hid (heelE_in (hv hx j) (fiv fx j))
          have HLEN := Lib.hid (hRun_len hx fx j)
          have hq := AQ.out
          obtain ⟨x0, x1, x2, x3, x4, x5, x6, x7, x8, x9, x10, x11, x12, x13⟩ := HCL.out j hlt
          obtain ⟨y0, y1, y2, y3, y4, y5⟩ := FCL.out j hlt
          clear hno hlt2 hdup AQ
          generalize hRun hx fx j = S at *
          generalize hv hx j = q at *
          generalize fiv fx j = g at *
          generalize wtE q g = W6 at *
          generalize heelE q g = H2 at *
          go_wp2_with fail
          (refine Soft.region1e 11 13 [0, 1, 2, 3, 4, 5, 6, 7, 8, 9, 10, 11] 12 [13, 14] _ (by kernel_rfl) (by kernel_rfl) (by intro _ _ _ _ _ _ h; dsimp +zetaDelta only [Exit.then, Exit.inBlock] at h ⊢; exact Soft.bodyPost_put h) (by kernel_rfl) (by kernel_rfl) (by decide) rfl rfl (by kernel_rfl) ?_; change Soft.wpSoft _ _ _ _ _ [_, _, _, _, _, _, _, _, _, _, _, _] _; (repeat (refine Soft.soft_step (fun K hK => ?_); go_simp; (try go_bits); first | (refine hK _ ?_; clear hK K) | (apply Exists.intro; refine ⟨fun x => ?_, hK _ ?_⟩; ((go_at_call 18; exact CW.out _ (by with_reducible repeat (first | exact hq | refine Ho.At.alloc ?_ _ | refine Ho.At.bw ?_ _ | refine Tk.At.alloc ?_ _ | refine Tk.At.bw ?_ _)))); clear hK K))); refine Soft.soft_nil ?_)
          refine ⟨fun b => .pointer (some ⟨b, 0, none⟩), .cells #[.int .i64 0, .int .i64 0, .int .i64 0, .int .i64 0, .int .i64 0, .int .i64 0] 35, fun x => by go_simp, fun kb xx hnew => ?_⟩
          change wpList _ _ _ [_, _] _ _
          obtain ⟨N, x1, rfl, ex⟩ := newSplit hnew
          rw [ex]
          clear hnew ex xx
          refine wpList_store_row rfl 35 _ _ rfl N.w.heap.size _ rfl rfl 35 _ (HasBlk.below (Soft.heap_new N.w _) x1.below) (by kernel_rfl) rfl (by kernel_rfl) ?_
          obtain ⟨q1, ex2, ex3⟩ := bwStore x1 #[.int .i64 ((W6).mass).lo, .int .i64 ((W6).mass).hi, .int .i64 ((W6).along).lo, .int .i64 ((W6).along).hi, .int .i64 ((W6).high).lo, .int .i64 ((W6).high).hi]
          rw [ex2]
          clear ex2 ex3 x1
          have o0 := HREL.out.out.cell 0
          have o3 := HREL.out.out.cell 3
          have o4 := HREL.out.out.cell 4
          have f0 := HREL.out.out.frozen 0
          have f3 := HREL.out.out.frozen 3
          have f4 := HREL.out.out.frozen 4
          simp at o0 o3 o4
          by_cases he : fillErr q g = 0
          · have NX := Lib.hid (N1.out he)
            rw [he]
            obtain ⟨⟨s1, s2⟩, s3, s4⟩ := SM.out
            obtain ⟨i1, i2, i3⟩ := HI.out
            have S9 : (0 ≤ S.2.shi.lo ∧ S.2.shi.lo ≤ 20000000000) ∧ (0 ≤ S.2.shi.hi ∧ S.2.shi.hi ≤ 20000000000) := by omega
            obtain ⟨⟨s11, s12⟩, s13, s14⟩ := S9
            clear he N1 N2 SM HI s1 s2 s3 s4 CW
            go_wp2_with fail
            (refine Soft.region1e 11 13 [0, 1, 2, 3, 4, 5, 6, 7, 8, 9, 10, 11] 12 [13, 14] _ (by kernel_rfl) (by kernel_rfl) (by intro _ _ _ _ _ _ h; dsimp +zetaDelta only [Exit.then, Exit.inBlock] at h ⊢; exact Soft.bodyPost_put h) (by kernel_rfl) (by kernel_rfl) (by decide) rfl rfl (by kernel_rfl) ?_; change Soft.wpSoft _ _ _ _ _ [_, _, _, _, _, _, _, _, _, _, _, _] _; (repeat (refine Soft.soft_step (fun K hK => ?_); go_simp; (try go_bits); first | (refine hK _ ?_; clear hK K) | (apply Exists.intro; refine ⟨fun x => ?_, hK _ ?_⟩; ((go_at_call 14; exact CHE.out _ (by with_reducible repeat (first | exact hq | refine Ho.At.alloc ?_ _ | refine Ho.At.bw ?_ _ | refine Tk.At.alloc ?_ _ | refine Tk.At.bw ?_ _)))); clear hK K))); refine Soft.soft_nil ?_)
            refine ⟨fun b => .pointer (some ⟨b, 0, none⟩), .cells #[.int .i64 0, .int .i64 0] 23, fun x => by go_simp, fun kb xx hnew => ?_⟩
            change wpList _ _ _ [_, _] _ _
            obtain ⟨M, x2, rfl, ex⟩ := newSplit hnew
            rw [ex]
            clear hnew ex xx
            refine wpList_store_row rfl 23 _ _ rfl M.w.heap.size _ rfl rfl 23 _ (HasBlk.below (Soft.heap_new M.w _) x2.below) (by kernel_rfl) rfl (by kernel_rfl) ?_
            obtain ⟨q2, ex2, ex3⟩ := bwStore x2 #[.int .i64 H2.lo, .int .i64 H2.hi]
            rw [ex2]
            clear ex2 ex3 x2
            have r18 := (HREL.out.call (show Below wr.heap.size wr q2.w by (repeat (first | with_reducible exact bel_refl _ | with_reducible refine bel_alloc ?_ _ | with_reducible refine bel_bw _ ?_ | with_reducible refine bel_drew ?_ | with_reducible refine bel_drewN _ ?_ | ((with_reducible refine bel_set ?_ ?_ _); rotate_left; focus (first | (simp; done) | omega | (simp; omega))) | refine bel_step ?_ (by with_reducible assumption))))).shi (S.2.shi.lo + H2.lo) (S.2.shi.hi + H2.hi)
            have n0 : w.heap.size + 1 < N.w.heap.size := Nat.lt_of_lt_of_le HREL.out.out.lt (Nat.le_trans u.below.size N.below.size)
            have bw : HasBlk q2.w N.w.heap.size #[.int .i64 ((W6).mass).lo, .int .i64 ((W6).mass).hi, .int .i64 ((W6).along).lo, .int .i64 ((W6).along).hi, .int .i64 ((W6).high).lo, .int .i64 ((W6).high).hi] 35 := HasBlk.below (HasBlk.below (Soft.heap_new N.w _) q1.below) (by (repeat (first | with_reducible exact bel_refl _ | with_reducible refine bel_alloc ?_ _ | with_reducible refine bel_bw _ ?_ | with_reducible refine bel_drew ?_ | with_reducible refine bel_drewN _ ?_ | ((with_reducible refine bel_set ?_ ?_ _); rotate_left; focus (first | (simp; done) | omega | (simp; omega))) | refine bel_step ?_ (by with_reducible assumption))))
            have bw2 := (bw.set_other (p := ⟨w.heap.size + 1, 3, none⟩) (by dsimp only; omega) (.int .i64 (S.2.shi.lo + H2.lo))).set_other (p := ⟨w.heap.size + 1, 4, none⟩) (by dsimp only; omega) (.int .i64 (S.2.shi.hi + H2.hi))
            have k0 := bw2.cell 0
            have k1 := bw2.cell 1
            have k2 := bw2.cell 2
            have k3 := bw2.cell 3
            have k4 := bw2.cell 4
            have k5 := bw2.cell 5
            have cy : ((q2.w.setCell ⟨w.heap.size + 1, 3, none⟩ (.int .i64 (S.2.shi.lo + H2.lo))).setCell ⟨w.heap.size + 1, 4, none⟩ (.int .i64 (S.2.shi.hi + H2.hi))).cell? ⟨fb, fo + j * 6 + 1, none⟩ = some (.int .i64 g.state) :=
              (r18.bel.cell (p := ⟨fb, fo + j * 6 + 1, none⟩) fbl0).trans ((HREL.out.bel.cell (p := ⟨fb, fo + j * 6 + 1, none⟩) fbl0).symm.trans y1)
            have p0 := r18.out.cell 0
            have p1 := r18.out.frozen 0
            have lw := Soft.LtH.mk (w := (q2.w.setCell ⟨w.heap.size + 1, 3, none⟩ (.int .i64 (S.2.shi.lo + H2.lo))).setCell ⟨w.heap.size + 1, 4, none⟩ (.int .i64 (S.2.shi.hi + H2.hi))) r18.out.lt
            have lf := Soft.LtH.mk (b := fb) (w := (q2.w.setCell ⟨w.heap.size + 1, 3, none⟩ (.int .i64 (S.2.shi.lo + H2.lo))).setCell ⟨w.heap.size + 1, 4, none⟩ (.int .i64 (S.2.shi.hi + H2.hi))) (by have := r18.bel.size; omega)
            have lk := Soft.LtH.mk (b := N.w.heap.size) (w := (q2.w.setCell ⟨w.heap.size + 1, 3, none⟩ (.int .i64 (S.2.shi.lo + H2.lo))).setCell ⟨w.heap.size + 1, 4, none⟩ (.int .i64 (S.2.shi.hi + H2.hi))) bw2.lt
            simp at k0 k1 k2 k3 k4 k5 p0
            clear bw bw2
            obtain ⟨W18, e18⟩ : ∃ W, (q2.w.setCell ⟨w.heap.size + 1, 3, none⟩ (.int .i64 (S.2.shi.lo + H2.lo))).setCell ⟨w.heap.size + 1, 4, none⟩ (.int .i64 (S.2.shi.hi + H2.hi)) = W := ⟨_, rfl⟩
            rw [e18] at k0 k1 k2 k3 k4 k5 cy p0 p1 r18 lw lf lk
            have R18 := Lib.hid r18
            clear r18
            by_cases hs : g.state = 0
            · have dS : (g.state != 0) = false := by rw [hs]; rfl
              have NY := Lib.hid (NX.out.trans (by rw [if_pos hs]))
              clear NX hs
              go_wp2_with fail
              go_roundw
              case rel => exact ⟨j + 1, v, by simp, by omega, by rw [NY.out], by rw [NY.out]; exact R18.out⟩
              case measure => simp [intOf]; omega
            · have dS : (g.state != 0) = true := bne_iff_ne.2 hs
              have NY := Lib.hid (NX.out.trans (by rw [if_neg hs]))
              clear NX hs
              go_wp2_with (at_builtin; go_loud (refine app_wt rfl (.tmp 118) (.tmp 120) rfl (w.heap.size + 2) v S.2.ws rfl (R18.out.own.alloc _) W18.heap.size W6 rfl (fun jj uu huu => (HasBlk.cell (c := #[.int .i64 ((W6).mass).lo, .int .i64 ((W6).mass).hi, .int .i64 ((W6).along).lo, .int .i64 ((W6).along).hi, .int .i64 ((W6).high).lo, .int .i64 ((W6).high).hi]) (t := 35) (Soft.heap_new _ _) jj).trans (by simpa [wtC] using huu)) (by have := HLEN.out; omega) (by have := R18.out.lt; simp at this ⊢; omega) ?_); intro v3 w3 ho3 hb3 hgr3; obtain ⟨g3, c3, rfl, hg5, hg6, hg7, hg8⟩ := ho3.shape (by simp); have R20 := Lib.hid ((R18.out.call (bel_alloc (bel_refl _) _)).app ho3 hb3); have z5 := (hb3.block (w.heap.size + 1) (by omega)).trans (R18.out.call (bel_alloc (bel_refl _) (.cells #[.int .i64 ((W6).mass).lo, .int .i64 ((W6).mass).hi, .int .i64 ((W6).along).lo, .int .i64 ((W6).along).hi, .int .i64 ((W6).high).lo, .int .i64 ((W6).high).hi] 35))).out; have z6 := HasBlk.cell z5 0; have z7 := HasBlk.frozen z5 0; simp at z6)
              go_roundw
              case rel => exact ⟨j + 1, _, by simp, by omega, by rw [NY.out], by rw [NY.out]; have h20 := R20.out; rw [show (S.2.ws ++ [W6]).length = S.2.ws.length + 1 by simp] at h20; exact h20⟩
              case measure => simp [intOf]; omega
          · have dE : (fillErr q g != 0) = true := bne_iff_ne.2 he
            have HE := Lib.hid (N2.out he)
            clear N1 N2 he
            generalize fillErr q g = E at *
            have R9 := HREL.out.call (show Below wr.heap.size wr q1.w by (repeat (first | with_reducible exact bel_refl _ | with_reducible refine bel_alloc ?_ _ | with_reducible refine bel_bw _ ?_ | with_reducible refine bel_drew ?_ | with_reducible refine bel_drewN _ ?_ | ((with_reducible refine bel_set ?_ ?_ _); rotate_left; focus (first | (simp; done) | omega | (simp; omega))) | refine bel_step ?_ (by with_reducible assumption))))
            have Z := setRow_heap q1.w w.heap.size _ (ldC (.slice none 0 0) ld0) _ _ R9.res
            have z0 := HasBlk.cell Z 0
            have z1 := HasBlk.cell Z 1
            have z2 := HasBlk.cell Z 2
            have z3 := HasBlk.cell Z 3
            have z4 := HasBlk.cell Z 4
            simp [ld0] at z0 z1 z2 z3 z4
            have zb := below_setRow (g := w.heap.size) R9.bel (Nat.le_refl _) (ldC (.slice none 0 0) ld0)
            go_wp2_with (refine wpList_store_row rfl 67 _ _ rfl w.heap.size _ rfl rfl 67 _ R9.res (by kernel_rfl) rfl (by kernel_rfl) ?_)
            refine bodyPost_ret (v := .tuple #[.agg #[.slice none 0 0, .int .i64 0, .int .i64 0, .int .i64 0, .int .i64 0], .int .i64 E]) (by simp [results, Tryz.results41, go_sem, z0, z1, z2, z3, z4]) rfl ?_
            exact loadPost_zero HE.out zb
    · obtain rfl : hn = k := by omega
      have HLT := Lib.hid (fun (k : Nat) (hk : k < tn) (e : (tRun tx lx (hRun hx fx hn) (k + 1)).1 ≠ 0) => (by
        have h := loadE_t (hs := hx) (fs := fx) (ts := tx) (ls := lx) hlen.out.1 hlen.out.2.1 hlen.out.2.2.1 hlen.out.2.2.2 (k := k) (by rw [B2.out]; exact hk)
        rw [B1.out] at h
        exact h e : loadE hx fx tx lx = tRun tx lx (hRun hx fx hn) (k + 1)))
      have HLA := Lib.hid (show loadE hx fx tx lx = tRun tx lx (hRun hx fx hn) tn by
        have h := loadE_all (hs := hx) (fs := fx) (ts := tx) (ls := lx) hlen.out.1 hlen.out.2.1 hlen.out.2.2.1 hlen.out.2.2.2
        rw [B1.out, B2.out] at h
        exact h)
      have SM0 := Lib.hid (hRun_small hx fx hn)
      have LN0 := Lib.hid (hRun_len hx fx hn)
      clear hlen hk hlt
      generalize hRun hx fx hn = S0 at *
      generalize loadE hx fx tx lx = E0 at *
      rename World => W1
      have REL1 := Lib.hid hrel
      have HZ1 := Lib.hid hz
      clear hrel hz l0 l1
      go_wp2_with fail
      go_loopw [17, 18, 19, 20, 21, 22] (fun i _ _ _ _ _ wr => ∃ (k : Nat) (v : Value), i = .int .i64 k ∧ k ≤ tn ∧ (tRun tx lx S0 k).1 = 0 ∧ LdRel w (w.heap.size + 2) wr v (tRun tx lx S0 k).2) (fun i _ _ _ _ _ _ => tn - (intOf i).toNat)
      case atStart => exact ⟨0, _, rfl, by omega, HZ1.out, REL1.out⟩
      case round =>
        clear REL1 HZ1
        obtain ⟨k, v, rfl, hk, hz, hrel⟩ := hrel
        have l0 := Soft.LtH.mk (b := w.heap.size) (w := wr) hrel.res.lt
        have l1 := Soft.LtH.mk (b := w.heap.size + 1) (w := wr) hrel.out.lt
        by_cases hlt : k < tn
        · have hk2 : (k : Int) < tn := by omega
          have aH := HT.out.same hrel.bel
          have aF := HL.out.same hrel.bel
          obtain ⟨hb, ho, rfl, hbl0, _⟩ := HT.out.cells (by dsimp only; omega)
          obtain ⟨fb, fo, rfl, fbl0, _⟩ := HL.out.cells (by dsimp only; omega)
          obtain ⟨hb1, ho1, eh, hbl, hcl⟩ := aH.cells (by dsimp only; omega)
          obtain ⟨fb1, fo1, ef, fbl, fcl⟩ := aF.cells (by dsimp only; omega)
          cases eh
          cases ef
          have aQ := aH.2.2 k hlt
          dsimp only at hbl hcl fbl fcl aQ
          have l2 := Soft.LtH.mk (b := hb) (w := wr) hbl
          have l3 := Soft.LtH.mk (b := fb) (w := wr) fbl
          have m1 : ¬(hb = w.heap.size + 1) := by omega
          have m2 : ¬(w.heap.size + 1 = hb) := by omega
          have m3 : ¬(fb = w.heap.size + 1) := by omega
          have m4 : ¬(w.heap.size + 1 = fb) := by omega
          have HREL := Lib.hid hrel
          have HCL := Lib.hid hcl
          have FCL := Lib.hid fcl
          have AQ := Lib.hid aQ
          clear hrel hcl fcl aQ aH aF hbl fbl hbl0
          go_wp2_with fail
          go_loopw [18] (fun i2 W => ∃ j : Nat, i2 = .int .i64 j ∧ j ≤ k ∧ (∀ j', j' < j → (tv tx j').id ≠ (tv tx k).id) ∧ Below wr.heap.size wr W) (fun i2 _ => k - (intOf i2).toNat)
          case atStart => exact ⟨0, rfl, by omega, fun j hj => by omega, Below.refl _ _⟩
          case round =>
            obtain ⟨j, rfl, hj, hno, hB⟩ := hrel
            obtain ⟨u, rfl⟩ := Soft.BW.mk hB
            clear hB
            by_cases hlt2 : j < k
            · have hj2 : (j : Int) < k := by omega
              obtain ⟨x0, _⟩ := HCL.out k hlt
              obtain ⟨z0, _⟩ := HCL.out j (by omega)
              by_cases hid : (tv tx j).id = (tv tx k).id
              · have did : ((tv tx j).id == (tv tx k).id) = true := by rw [hid]; simp
                have HE := Lib.hid (HLT.out k hlt (by rw [tRun_dup hz ((dupT_iff _ _).2 ⟨j, hlt2, hid⟩)]; decide) |>.trans (tRun_dup hz ((dupT_iff _ _).2 ⟨j, hlt2, hid⟩)))
                generalize (tv tx j).id = idj at *
                generalize (tv tx k).id = idk at *
                go_wp2_with fail
                go_quiet (fail)
                rename Nat => nq
                obtain ⟨Y9, eq9⟩ := Soft.BW.mk (w := u.w) (below_drewN (Below.refl _ _) nq)
                rw [eq9]
                clear eq9
                have R9 := (HREL.out.call u.below).call Y9.below
                have Z := setRow_heap Y9.w w.heap.size _ (ldC (.slice none 0 0) ld0) _ _ R9.res
                have z0 := HasBlk.cell Z 0
                have z1 := HasBlk.cell Z 1
                have z2 := HasBlk.cell Z 2
                have z3 := HasBlk.cell Z 3
                have z4 := HasBlk.cell Z 4
                simp [ld0] at z0 z1 z2 z3 z4
                have zb := below_setRow (g := w.heap.size) R9.bel (Nat.le_refl _) (ldC (.slice none 0 0) ld0)
                go_wp2_with (refine wpList_store_row rfl 67 _ _ rfl w.heap.size _ rfl rfl 67 _ R9.res (by kernel_rfl) rfl (by kernel_rfl) ?_)
                refine bodyPost_ret (v := .tuple #[.agg #[.slice none 0 0, .int .i64 0, .int .i64 0, .int .i64 0, .int .i64 0], .int .i64 21]) (by simp [results, Tryz.results41, go_sem, z0, z1, z2, z3, z4]) rfl ?_
                exact loadPost_zero HE.out zb
              · have did : ((tv tx j).id == (tv tx k).id) = false := by simp [hid]
                have HNO := Lib.hid (show ∀ j', j' < j + 1 → (tv tx j').id ≠ (tv tx k).id from fun j' h' => by
                  by_cases e : j' = j
                  · rw [e]; exact hid
                  · exact hno j' (by omega))
                clear hid hno
                generalize hj' : (tv tx j).id = idj at *
                generalize hk' : (tv tx k).id = idk at *
                go_wp2_with fail
                go_quiet (fail)
                rename Nat => nq
                go_wp2_with fail
                go_roundw
                case rel => exact ⟨j + 1, by simp, by omega, HNO.out, by (repeat (first | with_reducible exact bel_refl _ | with_reducible refine bel_alloc ?_ _ | with_reducible refine bel_bw _ ?_ | with_reducible refine bel_drew ?_ | with_reducible refine bel_drewN _ ?_ | ((with_reducible refine bel_set ?_ ?_ _); rotate_left; focus (first | (simp; done) | omega | (simp; omega))) | refine bel_step ?_ (by with_reducible assumption)))⟩
                case measure => simp [intOf]; omega
            · obtain rfl : j = k := by omega
              have hdup : dupT tx j = false := by
                rw [Bool.eq_false_iff]
                intro c
                obtain ⟨j', a, b⟩ := (dupT_iff _ _).1 c
                exact hno j' a b
              have N1 := Lib.hid (fun he => tRun_next hz hdup he)
              have N2 := Lib.hid (fun he => (HLT.out j hlt (by rw [tRun_bad hz hdup he]; exact he)).trans (tRun_bad hz hdup he))
              have SM := Lib.hid (tRun_small tx lx SM0.out j).1
              have CW := Lib.hid (fun W hW => R2_Ballast (tv tx j) (lv lx j) W hW)
              have CHE := Lib.hid (fun W hW => R2_Surface (tv tx j) (lv lx j) W hW)
              have HI := Lib.hid (srfE_in (tv tx j) (lv lx j))
              have HLEN := Lib.hid (tRun_len tx lx S0 j)
              have hq := AQ.out
              obtain ⟨x0, x1, x2, x3, x4, x5⟩ := HCL.out j hlt
              obtain ⟨y0, y1, y2, y3, y4, y5⟩ := FCL.out j hlt
              clear hno hlt2 hdup AQ
              generalize tRun tx lx S0 j = S at *
              generalize tv tx j = q at *
              generalize lv lx j = g at *
              generalize balE q g = W6 at *
              generalize srfE q g = H2 at *
              go_wp2_with fail
              (refine Soft.region1e 11 13 [0, 1, 2, 3, 4, 5, 6, 7, 8, 9, 10, 11] 12 [13, 14] _ (by kernel_rfl) (by kernel_rfl) (by intro _ _ _ _ _ _ h; dsimp +zetaDelta only [Exit.then, Exit.inBlock] at h ⊢; exact Soft.bodyPost_put h) (by kernel_rfl) (by kernel_rfl) (by decide) rfl rfl (by kernel_rfl) ?_; change Soft.wpSoft _ _ _ _ _ [_, _, _, _, _, _, _, _, _, _, _, _] _; (repeat (refine Soft.soft_step (fun K hK => ?_); go_simp; (try go_bits); first | (refine hK _ ?_; clear hK K) | (apply Exists.intro; refine ⟨fun x => ?_, hK _ ?_⟩; ((go_at_call 33; exact CW.out _ (by with_reducible repeat (first | exact hq | refine Ho.At.alloc ?_ _ | refine Ho.At.bw ?_ _ | refine Tk.At.alloc ?_ _ | refine Tk.At.bw ?_ _)))); clear hK K))); refine Soft.soft_nil ?_)
              refine ⟨fun b => .pointer (some ⟨b, 0, none⟩), .cells #[.int .i64 0, .int .i64 0, .int .i64 0, .int .i64 0, .int .i64 0, .int .i64 0] 35, fun x => by go_simp, fun kb xx hnew => ?_⟩
              change wpList _ _ _ [_, _] _ _
              obtain ⟨N, x1, rfl, ex⟩ := newSplit hnew
              rw [ex]
              clear hnew ex xx
              refine wpList_store_row rfl 35 _ _ rfl N.w.heap.size _ rfl rfl 35 _ (HasBlk.below (Soft.heap_new N.w _) x1.below) (by kernel_rfl) rfl (by kernel_rfl) ?_
              obtain ⟨q1, ex2, ex3⟩ := bwStore x1 #[.int .i64 ((W6).mass).lo, .int .i64 ((W6).mass).hi, .int .i64 ((W6).along).lo, .int .i64 ((W6).along).hi, .int .i64 ((W6).high).lo, .int .i64 ((W6).high).hi]
              rw [ex2]
              clear ex2 ex3 x1
              have o0 := HREL.out.out.cell 0
              have o1 := HREL.out.out.cell 1
              have o2 := HREL.out.out.cell 2
              have f0 := HREL.out.out.frozen 0
              have f1 := HREL.out.out.frozen 1
              have f2 := HREL.out.out.frozen 2
              simp at o0 o1 o2
              by_cases he : levelErr q g = 0
              · have NX := Lib.hid (N1.out he)
                rw [he]
                obtain ⟨⟨s1, s2⟩, s3, s4⟩ := SM.out
                obtain ⟨i1, i2, i3⟩ := HI.out
                have S9 : (0 ≤ S.2.sur.lo ∧ S.2.sur.lo ≤ 40000000000) ∧ (0 ≤ S.2.sur.hi ∧ S.2.sur.hi ≤ 40000000000) := by omega
                obtain ⟨⟨s11, s12⟩, s13, s14⟩ := S9
                clear he N1 N2 SM HI s1 s2 s3 s4 CW
                go_wp2_with fail
                (refine Soft.region1e 11 13 [0, 1, 2, 3, 4, 5, 6, 7, 8, 9, 10, 11] 12 [13, 14] _ (by kernel_rfl) (by kernel_rfl) (by intro _ _ _ _ _ _ h; dsimp +zetaDelta only [Exit.then, Exit.inBlock] at h ⊢; exact Soft.bodyPost_put h) (by kernel_rfl) (by kernel_rfl) (by decide) rfl rfl (by kernel_rfl) ?_; change Soft.wpSoft _ _ _ _ _ [_, _, _, _, _, _, _, _, _, _, _, _] _; (repeat (refine Soft.soft_step (fun K hK => ?_); go_simp; (try go_bits); first | (refine hK _ ?_; clear hK K) | (apply Exists.intro; refine ⟨fun x => ?_, hK _ ?_⟩; ((go_at_call 31; exact CHE.out _ (by with_reducible repeat (first | exact hq | refine Ho.At.alloc ?_ _ | refine Ho.At.bw ?_ _ | refine Tk.At.alloc ?_ _ | refine Tk.At.bw ?_ _)))); clear hK K))); refine Soft.soft_nil ?_)
                refine ⟨fun b => .pointer (some ⟨b, 0, none⟩), .cells #[.int .i64 0, .int .i64 0] 23, fun x => by go_simp, fun kb xx hnew => ?_⟩
                change wpList _ _ _ [_, _] _ _
                obtain ⟨M, x2, rfl, ex⟩ := newSplit hnew
                rw [ex]
                clear hnew ex xx
                refine wpList_store_row rfl 23 _ _ rfl M.w.heap.size _ rfl rfl 23 _ (HasBlk.below (Soft.heap_new M.w _) x2.below) (by kernel_rfl) rfl (by kernel_rfl) ?_
                obtain ⟨q2, ex2, ex3⟩ := bwStore x2 #[.int .i64 H2.lo, .int .i64 H2.hi]
                rw [ex2]
                clear ex2 ex3 x2
                have r18 := (HREL.out.call (show Below wr.heap.size wr q2.w by (repeat (first | with_reducible exact bel_refl _ | with_reducible refine bel_alloc ?_ _ | with_reducible refine bel_bw _ ?_ | with_reducible refine bel_drew ?_ | with_reducible refine bel_drewN _ ?_ | ((with_reducible refine bel_set ?_ ?_ _); rotate_left; focus (first | (simp; done) | omega | (simp; omega))) | refine bel_step ?_ (by with_reducible assumption))))).sur (S.2.sur.lo + H2.lo) (S.2.sur.hi + H2.hi)
                have n0 : w.heap.size + 1 < N.w.heap.size := Nat.lt_of_lt_of_le HREL.out.out.lt (Nat.le_trans u.below.size N.below.size)
                have bw : HasBlk q2.w N.w.heap.size #[.int .i64 ((W6).mass).lo, .int .i64 ((W6).mass).hi, .int .i64 ((W6).along).lo, .int .i64 ((W6).along).hi, .int .i64 ((W6).high).lo, .int .i64 ((W6).high).hi] 35 := HasBlk.below (HasBlk.below (Soft.heap_new N.w _) q1.below) (by (repeat (first | with_reducible exact bel_refl _ | with_reducible refine bel_alloc ?_ _ | with_reducible refine bel_bw _ ?_ | with_reducible refine bel_drew ?_ | with_reducible refine bel_drewN _ ?_ | ((with_reducible refine bel_set ?_ ?_ _); rotate_left; focus (first | (simp; done) | omega | (simp; omega))) | refine bel_step ?_ (by with_reducible assumption))))
                have bw2 := (bw.set_other (p := ⟨w.heap.size + 1, 1, none⟩) (by dsimp only; omega) (.int .i64 (S.2.sur.lo + H2.lo))).set_other (p := ⟨w.heap.size + 1, 2, none⟩) (by dsimp only; omega) (.int .i64 (S.2.sur.hi + H2.hi))
                have k0 := bw2.cell 0
                have k1 := bw2.cell 1
                have k2 := bw2.cell 2
                have k3 := bw2.cell 3
                have k4 := bw2.cell 4
                have k5 := bw2.cell 5
                have p0 := r18.out.cell 0
                have p1 := r18.out.frozen 0
                have lw := Soft.LtH.mk (w := (q2.w.setCell ⟨w.heap.size + 1, 1, none⟩ (.int .i64 (S.2.sur.lo + H2.lo))).setCell ⟨w.heap.size + 1, 2, none⟩ (.int .i64 (S.2.sur.hi + H2.hi))) r18.out.lt
                have lf := Soft.LtH.mk (b := fb) (w := (q2.w.setCell ⟨w.heap.size + 1, 1, none⟩ (.int .i64 (S.2.sur.lo + H2.lo))).setCell ⟨w.heap.size + 1, 2, none⟩ (.int .i64 (S.2.sur.hi + H2.hi))) (by have := r18.bel.size; omega)
                have lk := Soft.LtH.mk (b := N.w.heap.size) (w := (q2.w.setCell ⟨w.heap.size + 1, 1, none⟩ (.int .i64 (S.2.sur.lo + H2.lo))).setCell ⟨w.heap.size + 1, 2, none⟩ (.int .i64 (S.2.sur.hi + H2.hi))) bw2.lt
                simp at k0 k1 k2 k3 k4 k5 p0
                clear bw bw2
                obtain ⟨W18, e18⟩ : ∃ W, (q2.w.setCell ⟨w.heap.size + 1, 1, none⟩ (.int .i64 (S.2.sur.lo + H2.lo))).setCell ⟨w.heap.size + 1, 2, none⟩ (.int .i64 (S.2.sur.hi + H2.hi)) = W := ⟨_, rfl⟩
                rw [e18] at k0 k1 k2 k3 k4 k5 p0 p1 r18 lw lf lk
                have R18 := Lib.hid r18
                clear r18
                go_wp2_with (at_builtin; go_loud (refine app_wt rfl (.tmp 189) (.tmp 191) rfl (w.heap.size + 2) v S.2.ws rfl (R18.out.own.alloc _) W18.heap.size W6 rfl (fun jj uu huu => (HasBlk.cell (c := #[.int .i64 ((W6).mass).lo, .int .i64 ((W6).mass).hi, .int .i64 ((W6).along).lo, .int .i64 ((W6).along).hi, .int .i64 ((W6).high).lo, .int .i64 ((W6).high).hi]) (t := 35) (Soft.heap_new _ _) jj).trans (by simpa [wtC] using huu)) (by have := HLEN.out; have := LN0.out; omega) (by have := R18.out.lt; simp at this ⊢; omega) ?_); intro v3 w3 ho3 hb3 hgr3; obtain ⟨g3, c3, rfl, hg5, hg6, hg7, hg8⟩ := ho3.shape (by simp); have R20 := Lib.hid ((R18.out.call (bel_alloc (bel_refl _) _)).app ho3 hb3); have z5 := (hb3.block (w.heap.size + 1) (by omega)).trans (R18.out.call (bel_alloc (bel_refl _) (.cells #[.int .i64 ((W6).mass).lo, .int .i64 ((W6).mass).hi, .int .i64 ((W6).along).lo, .int .i64 ((W6).along).hi, .int .i64 ((W6).high).lo, .int .i64 ((W6).high).hi] 35))).out; have z6 := HasBlk.cell z5 0; have z7 := HasBlk.frozen z5 0; simp at z6)
                go_roundw
                case rel => exact ⟨j + 1, _, by simp, by omega, by rw [NX.out], by rw [NX.out]; have h20 := R20.out; rw [show (S.2.ws ++ [W6]).length = S.2.ws.length + 1 by simp] at h20; exact h20⟩
                case measure => simp [intOf]; omega
              · have dE : (levelErr q g != 0) = true := bne_iff_ne.2 he
                have HE := Lib.hid (N2.out he)
                clear N1 N2 he
                generalize levelErr q g = E at *
                have R9 := HREL.out.call (show Below wr.heap.size wr q1.w by (repeat (first | with_reducible exact bel_refl _ | with_reducible refine bel_alloc ?_ _ | with_reducible refine bel_bw _ ?_ | with_reducible refine bel_drew ?_ | with_reducible refine bel_drewN _ ?_ | ((with_reducible refine bel_set ?_ ?_ _); rotate_left; focus (first | (simp; done) | omega | (simp; omega))) | refine bel_step ?_ (by with_reducible assumption))))
                have Z := setRow_heap q1.w w.heap.size _ (ldC (.slice none 0 0) ld0) _ _ R9.res
                have z0 := HasBlk.cell Z 0
                have z1 := HasBlk.cell Z 1
                have z2 := HasBlk.cell Z 2
                have z3 := HasBlk.cell Z 3
                have z4 := HasBlk.cell Z 4
                simp [ld0] at z0 z1 z2 z3 z4
                have zb := below_setRow (g := w.heap.size) R9.bel (Nat.le_refl _) (ldC (.slice none 0 0) ld0)
                go_wp2_with (refine wpList_store_row rfl 67 _ _ rfl w.heap.size _ rfl rfl 67 _ R9.res (by kernel_rfl) rfl (by kernel_rfl) ?_)
                refine bodyPost_ret (v := .tuple #[.agg #[.slice none 0 0, .int .i64 0, .int .i64 0, .int .i64 0, .int .i64 0], .int .i64 E]) (by simp [results, Tryz.results41, go_sem, z0, z1, z2, z3, z4]) rfl ?_
                exact loadPost_zero HE.out zb
        · obtain rfl : tn = k := by omega
          have HE := Lib.hid (show E0 = (0, (tRun tx lx S0 tn).2) by rw [HLA.out]; exact Prod.ext hz rfl)
          obtain ⟨vp, vc, rfl, _⟩ := hrel.own.at0
          have Z := setRow_heap wr w.heap.size _ (ldC (.slice vp (tRun tx lx S0 tn).2.ws.length vc) (tRun tx lx S0 tn).2) _ _ hrel.res
          have z0 := HasBlk.cell Z 0
          have z1 := HasBlk.cell Z 1
          have z2 := HasBlk.cell Z 2
          have z3 := HasBlk.cell Z 3
          have z4 := HasBlk.cell Z 4
          simp at z0 z1 z2 z3 z4
          have zb := below_setRow (g := w.heap.size) hrel.bel (Nat.le_refl _) (ldC (.slice vp (tRun tx lx S0 tn).2.ws.length vc) (tRun tx lx S0 tn).2)
          have HREL := Lib.hid hrel
          clear hrel hz
          go_wp2_with (first | (refine wpList_load_row rfl 67 _ rfl (w.heap.size + 1) rfl 67 _ _ _ HREL.out.out Tryz.underlying67 rfl (by kernel_rfl) ?_) | (refine wpList_store_row rfl 67 _ _ rfl w.heap.size _ rfl rfl 67 _ HREL.out.res (by kernel_rfl) rfl (by kernel_rfl) ?_))
          refine bodyPost_ret (v := .tuple #[.agg (ldC (.slice vp (tRun tx lx S0 tn).2.ws.length vc) (tRun tx lx S0 tn).2), .int .i64 0]) (by simp [results, Tryz.results41, go_sem, z0, z1, z2, z3, z4]) rfl ?_
          exact loadPost_end HE.out (HREL.out.own.row (by omega) _) zb

end Go.Proofs.YtbjdgaeikihjbaaGreat
