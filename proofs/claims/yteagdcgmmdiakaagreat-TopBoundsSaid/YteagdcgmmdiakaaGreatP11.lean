/-
  hold: Load.
  Conditions: each theorem's own premises.
-/
import Derived.Test.YteagdcgmmdiakaaGreatP07
import Derived.Test.YteagdcgmmdiakaaGreatP05
namespace Go.Proofs.YteagdcgmmdiakaaGreat
set_option linter.unusedSimpArgs false
set_option linter.unusedVariables false
open Go.RowKit
set_option maxRecDepth 100000
set_option maxHeartbeats 20000000
attribute [local go_sem] Instr.field asAgg Soft.upon Soft.BW.cell_if Soft.BW.frozen_if Soft.cell_alloc_if Soft.frozen_alloc_if
attribute [local irreducible] Soft.wpSoft

/-- Which numbers have been met. -/
def metB (ids : Nat → Int) (k : Nat) (x : Nat) : Bool := (List.range k).any fun j => ids j == (x : Int)
def metC (ids : Nat → Int) (k : Nat) : Array Value := #[.bool (metB ids k 0), .bool (metB ids k 1), .bool (metB ids k 2), .bool (metB ids k 3), .bool (metB ids k 4), .bool (metB ids k 5), .bool (metB ids k 6), .bool (metB ids k 7), .bool (metB ids k 8), .bool (metB ids k 9)]
theorem metB_succ (ids : Nat → Int) (k x : Nat) : metB ids (k + 1) x = (metB ids k x || ids k == (x : Int)) := by
  unfold metB
  rw [List.range_succ]
  simp
theorem metC_get (ids : Nat → Int) (k n : Nat) (h : n ≤ 9) : (metC ids k)[n]? = some (.bool (metB ids k n)) := by
  match n, h with
  | 0, _ => rfl
  | 1, _ => rfl
  | 2, _ => rfl
  | 3, _ => rfl
  | 4, _ => rfl
  | 5, _ => rfl
  | 6, _ => rfl
  | 7, _ => rfl
  | 8, _ => rfl
  | 9, _ => rfl
theorem metC_set (ids : Nat → Int) (k n : Nat) (h : n ≤ 9) (hk : ids k = (n : Int)) : (metC ids k).setIfInBounds n (.bool true) = metC ids (k + 1) := by
  have key : ∀ x : Nat, metB ids (k + 1) x = (metB ids k x || decide (x = n)) := fun x => by
    rw [metB_succ, hk]
    by_cases e : x = n
    · subst e; simp
    · have : ((n : Int) == (x : Int)) = false := by rw [beq_eq_false_iff_ne]; omega
      rw [this]; simp [e]
  unfold metC
  simp only [key]
  match n, h with
  | 0, _ => simp
  | 1, _ => simp
  | 2, _ => simp
  | 3, _ => simp
  | 4, _ => simp
  | 5, _ => simp
  | 6, _ => simp
  | 7, _ => simp
  | 8, _ => simp
  | 9, _ => simp
def idH (hs : List Ho) (j : Nat) : Int := (hv hs j).id
def idT (ts : List Tk) (j : Nat) : Int := (tv ts j).id
theorem dupH_met {hs : List Ho} {k n : Nat} (h : (hv hs k).id = (n : Int)) : metB (idH hs) k n = dupH hs k := by unfold metB dupH idH; rw [h]
theorem dupT_met {ts : List Tk} {k n : Nat} (h : (tv ts k).id = (n : Int)) : metB (idT ts) k n = dupT ts k := by unfold metB dupT idT; rw [h]

theorem LdRel.other {w wr : World} {B : Nat} {v : Value} {s : Ld} (h : LdRel w B wr v s) (hB : w.heap.size + 3 ≤ B) (n : Nat) (u : Value) : LdRel w B (wr.setCell ⟨w.heap.size + 2, n, none⟩ u) v s :=
  ⟨h.out.set_other (by simp) _, h.own.set (by dsimp only; omega) _, h.res.set_other (by simp) _, h.bel.setCell (by simp) _, h.lb, by have := h.lt; simp; omega⟩
theorem LdRel.rowOther {w wr : World} {B : Nat} {v : Value} {s : Ld} (h : LdRel w B wr v s) (hB : w.heap.size + 3 ≤ B) (cs : Array Value) : LdRel w B (wr.setRow (w.heap.size + 2) cs) v s :=
  ⟨h.out.rowx (by omega) _, h.own.row (by omega) _, h.res.rowx (by omega) _, below_setRow h.bel (by omega) _, h.lb, by have := h.lt; simpa using this⟩


theorem hold_Load (H : Sl Ho) (F : Sl Fi) (T : Sl Tk) (L : Sl Lv) (w : World) (hH : HsAt w H) (hF : FsAt w F) (hT : TsAt w T) (hL : LsAt w L) :
    Calls Tryz.prog 13 #[.slice H.p H.n H.c, .slice F.p F.n F.c, .slice T.p T.n T.c, .slice L.p L.n L.c] w (LdPost w (loadE H.xs F.xs T.xs L.xs)) := by
  have b1 : H.xs.length = H.n ∧ H.n ≤ H.c ∧ H.c ≤ 9223372036854775807 := ⟨hH.1, hH.2.1.1, hH.2.1.2.1⟩
  have b2 : F.xs.length = F.n ∧ F.n ≤ F.c ∧ F.c ≤ 9223372036854775807 := ⟨hF.1, hF.2.1, hF.2.2.1⟩
  have b3 : T.xs.length = T.n ∧ T.n ≤ T.c ∧ T.c ≤ 9223372036854775807 := ⟨hT.1, hT.2.1.1, hT.2.1.2.1⟩
  have b4 : L.xs.length = L.n ∧ L.n ≤ L.c ∧ L.c ≤ 9223372036854775807 := ⟨hL.1, hL.2.1, hL.2.2.1⟩
  obtain ⟨hp, hn, hc, hx⟩ := H
  obtain ⟨fp, fn, fc, fx⟩ := F
  obtain ⟨tp, tn, tc, tx⟩ := T
  obtain ⟨lp, ln, lc, lx⟩ := L
  obtain ⟨b11, b12, b13⟩ := b1
  obtain ⟨b21, b22, b23⟩ := b2
  obtain ⟨b31, b32, b33⟩ := b3
  obtain ⟨b41, b42, b43⟩ := b4
  dsimp only at *
  by_cases c1 : 9 < hn ∨ 9 < tn
  · have E : loadE hx fx tx lx = (2, ld0) := if_pos (by omega)
    rw [E]
    by_cases c1a : 9 < hn
    · have d1 : ((9 : Int) < hn) := by omega
      go_enter Tryz.func13, Tryz.ntmps13
      go_wp2_with fail
      refine bodyPost_ret (v := .tuple #[.agg #[.slice none 0 0, .int .i64 0, .int .i64 0, .int .i64 0, .int .i64 0], .int .i64 2]) (by simp [results, Tryz.results13, go_sem]) rfl ?_
      exact loadPost_zero rfl (by (with_reducible repeat (first | exact blr _ | refine bla ?_ _ | refine blw _ ?_ | refine bld ?_ | refine bln _ ?_ | refine bls ?_ _ | refine blt ?_)))
    · have d1 : ¬((9 : Int) < hn) := by omega
      have d2 : ((9 : Int) < tn) := by omega
      go_enter Tryz.func13, Tryz.ntmps13
      go_wp2_with fail
      refine bodyPost_ret (v := .tuple #[.agg #[.slice none 0 0, .int .i64 0, .int .i64 0, .int .i64 0, .int .i64 0], .int .i64 2]) (by simp [results, Tryz.results13, go_sem]) rfl ?_
      exact loadPost_zero rfl (by (with_reducible repeat (first | exact blr _ | refine bla ?_ _ | refine blw _ ?_ | refine bld ?_ | refine bln _ ?_ | refine bls ?_ _ | refine blt ?_)))
  have d1 : ¬((9 : Int) < hn) := by omega
  have d2 : ¬((9 : Int) < tn) := by omega
  by_cases c2 : hn ≠ fn ∨ tn ≠ ln
  · have E : loadE hx fx tx lx = (1, ld0) := by unfold loadE; rw [if_neg (by omega), if_pos (by omega)]
    rw [E]
    by_cases c2a : hn = fn
    · have d3 : ((fn : Int) != hn) = false := by subst c2a; simp
      have d4 : ((ln : Int) != tn) = true := by simp; omega
      go_enter Tryz.func13, Tryz.ntmps13
      go_wp2_with fail
      refine bodyPost_ret (v := .tuple #[.agg #[.slice none 0 0, .int .i64 0, .int .i64 0, .int .i64 0, .int .i64 0], .int .i64 1]) (by simp [results, Tryz.results13, go_sem]) rfl ?_
      exact loadPost_zero rfl (by (with_reducible repeat (first | exact blr _ | refine bla ?_ _ | refine blw _ ?_ | refine bld ?_ | refine bln _ ?_ | refine bls ?_ _ | refine blt ?_)))
    · have d3 : ((fn : Int) != hn) = true := by simp; omega
      go_enter Tryz.func13, Tryz.ntmps13
      go_wp2_with fail
      refine bodyPost_ret (v := .tuple #[.agg #[.slice none 0 0, .int .i64 0, .int .i64 0, .int .i64 0, .int .i64 0], .int .i64 1]) (by simp [results, Tryz.results13, go_sem]) rfl ?_
      exact loadPost_zero rfl (by (with_reducible repeat (first | exact blr _ | refine bla ?_ _ | refine blw _ ?_ | refine bld ?_ | refine bln _ ?_ | refine bls ?_ _ | refine blt ?_)))
  obtain rfl : hn = fn := by omega
  obtain rfl : tn = ln := by omega
  have hlen := Lib.hid (show hx.length ≤ 9 ∧ tx.length ≤ 9 ∧ hx.length = fx.length ∧ tx.length = lx.length from ⟨by omega, by omega, by omega, by omega⟩)
  have hh9 : hn ≤ 9 := by omega
  have ht9 : tn ≤ 9 := by omega
  have HH := Lib.hid hH; have HF := Lib.hid hF; have HT := Lib.hid hT; have HL := Lib.hid hL
  have B1 := Lib.hid b11; have B2 := Lib.hid b31
  clear c1 c2 b11 b21 b31 b41 hH hF hT hL b22 b42 b12 b32
  go_enter Tryz.func13, Tryz.ntmps13
  go_wp2_with fail
  have rel0 : LdRel w (w.heap.size + 3) (((w.alloc (.cells (ldC (.slice none 0 0) ld0) 58)).alloc (.cells (ldC (.slice none 0 0) ld0) 58)).alloc (.cells (metC (idH hx) 0) 95)) (.slice none 0 0) ld0 :=
    ⟨HasBlk.below (W := (w.alloc (.cells (ldC (.slice none 0 0) ld0) 58)).alloc (.cells (ldC (.slice none 0 0) ld0) 58)) (by simp only [HasBlk, Soft.BW.heap_if, Soft.heap_alloc_if, Soft.heap_new, Soft.heap_new1, Soft.heap_new2, Soft.heap_new3, Soft.heap_new4, Soft.heap_new5]) (bel_alloc (bel_refl _) _), World.ownsRow_nil _ _ _ _, HasBlk.below (HasBlk.below (Soft.heap_new w _) (bel_alloc (bel_refl _) _)) (bel_alloc (bel_refl _) _), by (with_reducible repeat (first | exact blr _ | refine bla ?_ _ | refine blw _ ?_ | refine bld ?_ | refine bln _ ?_ | refine bls ?_ _ | refine blt ?_)), by omega, by simp⟩
  have met0 : HasBlk (((w.alloc (.cells (ldC (.slice none 0 0) ld0) 58)).alloc (.cells (ldC (.slice none 0 0) ld0) 58)).alloc (.cells (metC (idH hx) 0) 95)) (w.heap.size + 2) (metC (idH hx) 0) 95 := by simp only [HasBlk, Soft.heap_new1, Soft.heap_new2, Soft.heap_new3]
  go_loopw [46] (fun i wr => ∃ (k : Nat) (v : Value), i = .int .i64 k ∧ k ≤ hn ∧ (hRun hx fx k).1 = 0 ∧ LdRel w (w.heap.size + 3) wr v (hRun hx fx k).2 ∧ HasBlk wr (w.heap.size + 2) (metC (idH hx) k) 95) (fun i _ => hn - (intOf i).toNat)
  case atStart => exact ⟨0, _, rfl, by omega, rfl, rel0, met0⟩
  case round =>
    obtain ⟨k, v, rfl, hk, hz, hrel, hmet⟩ := hrel
    clear rel0 met0
    by_cases hlt : k < hn
    · have hk2 : (k : Int) < hn := by omega
      have aH := HH.out.same hrel.bel
      have aF := HF.out.same hrel.bel
      have aq0 := HH.out.2.2 k hlt
      obtain ⟨hb, ho, rfl, hbl0, _⟩ := HH.out.cells (by dsimp only; omega)
      obtain ⟨fb, fo, rfl, fbl0, _⟩ := HF.out.cells (by dsimp only; omega)
      obtain ⟨hb1, ho1, eh, hbl, hcl⟩ := aH.cells (by dsimp only; omega)
      obtain ⟨fb1, fo1, ef, fbl, fcl⟩ := aF.cells (by dsimp only; omega)
      cases eh
      cases ef
      have aQ := aH.2.2 k hlt
      dsimp only at hbl hcl fbl fcl aQ aq0 hbl0 fbl0
      obtain ⟨x0, x1, x2, x3, x4, x5, x6, x7, x8, x9, x10, x11, x12, x13⟩ := hcl k hlt
      obtain ⟨y0, y1, y2, y3, y4, y5⟩ := fcl k hlt
      have l2 := Soft.LtH.mk (b := hb) (w := wr) hbl
      have l3 := Soft.LtH.mk (b := fb) (w := wr) fbl
      have l4 := Soft.LtH.mk (b := w.heap.size + 2) (w := wr) hmet.lt
      have m1 : ¬(fb = w.heap.size + 1) := by omega
      have m2 : ¬(w.heap.size + 1 = fb) := by omega
      have m3 : ¬(fb = w.heap.size + 2) := by omega
      have m4 : ¬(w.heap.size + 2 = fb) := by omega
      have mlt := hmet.lt
      have C1 := Lib.hid (fun (e : dupH hx k = true) => (loadE_h (ls := lx) hlen.out.1 hlen.out.2.1 hlen.out.2.2.1 hlen.out.2.2.2 (k := k) (by rw [B1.out]; exact hlt) (by rw [hRun_dup hz e]; decide)).trans (hRun_dup hz e))
      have N1 := Lib.hid (fun (hd : dupH hx k = false) he => hRun_next hz hd he)
      have N2 := Lib.hid (fun (hd : dupH hx k = false) he => (loadE_h (ls := lx) hlen.out.1 hlen.out.2.1 hlen.out.2.2.1 hlen.out.2.2.2 (k := k) (by rw [B1.out]; exact hlt) (by rw [hRun_bad hz hd he]; exact he)).trans (hRun_bad hz hd he))
      have DM := Lib.hid (fun n h => dupH_met (hs := hx) (k := k) (n := n) h)
      have MS := Lib.hid (fun n h9 h => metC_set (idH hx) k n h9 h)
      have SM := Lib.hid ((hRun_small hx fx k).2)
      have CW := Lib.hid (fun W hW => hold_Weight (hv hx k) (fiv fx k) W hW)
      have CC := Lib.hid (fun W hW => hold_CheckHold (hv hx k) W hW)
      have CHE := Lib.hid (fun W hW he => hold_heel (hv hx k) (fiv fx k) W hW he)
      have HI := Lib.hid (heelE_in (hv hx k) (fiv fx k))
      have HLEN := Lib.hid (hRun_len hx fx k)
      have HID : idH hx k = (hv hx k).id := rfl
      have HREL := Lib.hid hrel
      have HMET := Lib.hid hmet
      have AQ0 := Lib.hid aq0
      clear hrel hmet hcl fcl aH aF hbl fbl hbl0 aq0 hz
      generalize hS : hRun hx fx k = S at *
      clear hS
      generalize hQ : hv hx k = q at *
      generalize fiv fx k = g at *
      generalize dupH hx k = DU at *
      clear hQ
      by_cases h0 : HoldOk q
      · obtain ⟨n, hn1, hn9⟩ : ∃ n : Nat, q.id = (n : Int) ∧ n ≤ 9 := ⟨q.id.toNat, by have := h0.id; omega, by have := h0.id; omega⟩
        have MS2 := Lib.hid (MS.out n hn9 (HID.trans hn1))
        have DM2 := Lib.hid (DM.out n hn1)
        have mc := HMET.out.cell n
        have mf := HMET.out.frozen n
        rw [metC_get _ _ _ hn9] at mc
        generalize metB (idH hx) k n = MB at *
        obtain rfl : MB = DU := DM2.out
        have EC : holdErr q = 0 := if_pos h0
        rw [EC] at CC
        have hq := aQ
        clear EC HID MS DM DM2
        by_cases he : fillErr q g = 0
        · have NX := Lib.hid (fun hd => by have h := N1.out hd he; rw [show heelE q g = heelS q g from if_pos he] at h; exact h)
          have HI2 := Lib.hid (by have h := HI.out; rw [show heelE q g = heelS q g from if_pos he] at h; exact h)
          have CHE2 := Lib.hid (fun W hW => CHE.out W hW he)
          rw [he] at CW
          clear N1 N2 CHE HI he
          generalize wtE q g = W6 at *
          generalize heelS q g = H2 at *
          obtain ⟨qid, qal, qv, qm, qh, qt, qu, qv0, qh0⟩ := q
          dsimp only at *
          subst hn1
          clear h0
          cases MB
          · have NX1 := Lib.hid (NX.out rfl)
            clear NX C1
            go_wp2_with (first | (refine wpList_store_row rfl 49 _ _ rfl wr.heap.size _ rfl rfl 49 _ (Soft.heap_new _ _) (by kernel_rfl) rfl (by kernel_rfl) ?_; rw [setRow_alloc]) | (go_at_call 32; (with_reducible refine (CC.out _ (by with_reducible repeat (first | exact hq | refine Ho.At.alloc ?_ _ | refine Ho.At.bw ?_ _ | refine Tk.At.alloc ?_ _ | refine Tk.At.bw ?_ _))).mono ?_); rintro e w_ ⟨rfl, hb_⟩; obtain ⟨y9, rfl⟩ := Soft.BW.mk hb_; clear hb_))
            have r5 : LdRel w (w.heap.size + 3) (y9.w.setCell ⟨w.heap.size + 1 + 1, n, none⟩ (.bool true)) v S.2 := (HREL.out.call (show Below wr.heap.size wr y9.w by (with_reducible repeat (first | exact blr _ | refine bla ?_ _ | refine blw _ ?_ | refine bld ?_ | refine bln _ ?_ | refine bls ?_ _ | refine blt ?_)))).other (by omega) n _
            have hb5 : HasBlk (y9.w.setCell ⟨w.heap.size + 1 + 1, n, none⟩ (.bool true)) wr.heap.size #[.int .i64 ((⟨(n : Int), qal, qv, qm, qh, qt, qu, qv0, qh0⟩ : Ho)).id, .int .i64 (((⟨(n : Int), qal, qv, qm, qh, qt, qu, qv0, qh0⟩ : Ho)).along).lo, .int .i64 (((⟨(n : Int), qal, qv, qm, qh, qt, qu, qv0, qh0⟩ : Ho)).along).hi, .slice (((⟨(n : Int), qal, qv, qm, qh, qt, qu, qv0, qh0⟩ : Ho)).vol).p (((⟨(n : Int), qal, qv, qm, qh, qt, qu, qv0, qh0⟩ : Ho)).vol).n (((⟨(n : Int), qal, qv, qm, qh, qt, qu, qv0, qh0⟩ : Ho)).vol).c, .slice (((⟨(n : Int), qal, qv, qm, qh, qt, qu, qv0, qh0⟩ : Ho)).mom).p (((⟨(n : Int), qal, qv, qm, qh, qt, qu, qv0, qh0⟩ : Ho)).mom).n (((⟨(n : Int), qal, qv, qm, qh, qt, qu, qv0, qh0⟩ : Ho)).mom).c, .slice (((⟨(n : Int), qal, qv, qm, qh, qt, qu, qv0, qh0⟩ : Ho)).hei).p (((⟨(n : Int), qal, qv, qm, qh, qt, qu, qv0, qh0⟩ : Ho)).hei).n (((⟨(n : Int), qal, qv, qm, qh, qt, qu, qv0, qh0⟩ : Ho)).hei).c, .int .i64 (((⟨(n : Int), qal, qv, qm, qh, qt, qu, qv0, qh0⟩ : Ho)).tri).lo, .int .i64 (((⟨(n : Int), qal, qv, qm, qh, qt, qu, qv0, qh0⟩ : Ho)).tri).hi, .int .i64 (((⟨(n : Int), qal, qv, qm, qh, qt, qu, qv0, qh0⟩ : Ho)).unt).lo, .int .i64 (((⟨(n : Int), qal, qv, qm, qh, qt, qu, qv0, qh0⟩ : Ho)).unt).hi, .int .i64 (((⟨(n : Int), qal, qv, qm, qh, qt, qu, qv0, qh0⟩ : Ho)).v0).lo, .int .i64 (((⟨(n : Int), qal, qv, qm, qh, qt, qu, qv0, qh0⟩ : Ho)).v0).hi, .int .i64 (((⟨(n : Int), qal, qv, qm, qh, qt, qu, qv0, qh0⟩ : Ho)).h0).lo, .int .i64 (((⟨(n : Int), qal, qv, qm, qh, qt, qu, qv0, qh0⟩ : Ho)).h0).hi] 49 := (HasBlk.below (Soft.heap_new wr _) y9.below).set_other (by dsimp only; omega) _
            have met5 : HasBlk (y9.w.setCell ⟨w.heap.size + 1 + 1, n, none⟩ (.bool true)) (w.heap.size + 2) (metC (idH hx) (k + 1)) 95 := by
              have h := (HasBlk.below HMET.out (show Below wr.heap.size wr y9.w by (with_reducible repeat (first | exact blr _ | refine bla ?_ _ | refine blw _ ?_ | refine bld ?_ | refine bln _ ?_ | refine bls ?_ _ | refine blt ?_)))).put n (.bool true)
              rw [MS2.out] at h
              exact h
            have lw5 : wr.heap.size < (y9.w.setCell ⟨w.heap.size + 1 + 1, n, none⟩ (.bool true)).heap.size := hb5.lt
            generalize y9.w.setCell ⟨w.heap.size + 1 + 1, n, none⟩ (.bool true) = W5 at *
            have hq5 := AQ0.out.same (r5).bel
            have o05 := (r5).out.cell 0
            have o15 := (r5).out.cell 1
            have o25 := (r5).out.cell 2
            have o35 := (r5).out.cell 3
            have o45 := (r5).out.cell 4
            have f05 := (r5).out.frozen 0
            have f15 := (r5).out.frozen 1
            have f25 := (r5).out.frozen 2
            have f35 := (r5).out.frozen 3
            have f45 := (r5).out.frozen 4
            simp at o05 o15 o25 o35 o45
            have b05 := (hb5).cell 0
            have b15 := (hb5).cell 1
            have b25 := (hb5).cell 2
            have b35 := (hb5).cell 3
            have b45 := (hb5).cell 4
            have b55 := (hb5).cell 5
            have b65 := (hb5).cell 6
            have b75 := (hb5).cell 7
            have b85 := (hb5).cell 8
            have b95 := (hb5).cell 9
            have b105 := (hb5).cell 10
            have b115 := (hb5).cell 11
            have b125 := (hb5).cell 12
            have b135 := (hb5).cell 13
            simp at b05 b15 b25 b35 b45 b55 b65 b75 b85 b95 b105 b115 b125 b135
            have c05 : (W5).cell? ⟨fb, fo + k * 6, none⟩ = _ := ((r5).bel.cell (p := ⟨fb, fo + k * 6, none⟩) fbl0).trans ((HREL.out.bel.cell (p := ⟨fb, fo + k * 6, none⟩) fbl0).symm.trans y0)
            have c15 : (W5).cell? ⟨fb, fo + k * 6 + 1, none⟩ = _ := ((r5).bel.cell (p := ⟨fb, fo + k * 6 + 1, none⟩) fbl0).trans ((HREL.out.bel.cell (p := ⟨fb, fo + k * 6 + 1, none⟩) fbl0).symm.trans y1)
            have c25 : (W5).cell? ⟨fb, fo + k * 6 + 2, none⟩ = _ := ((r5).bel.cell (p := ⟨fb, fo + k * 6 + 2, none⟩) fbl0).trans ((HREL.out.bel.cell (p := ⟨fb, fo + k * 6 + 2, none⟩) fbl0).symm.trans y2)
            have c35 : (W5).cell? ⟨fb, fo + k * 6 + 3, none⟩ = _ := ((r5).bel.cell (p := ⟨fb, fo + k * 6 + 3, none⟩) fbl0).trans ((HREL.out.bel.cell (p := ⟨fb, fo + k * 6 + 3, none⟩) fbl0).symm.trans y3)
            have c45 : (W5).cell? ⟨fb, fo + k * 6 + 4, none⟩ = _ := ((r5).bel.cell (p := ⟨fb, fo + k * 6 + 4, none⟩) fbl0).trans ((HREL.out.bel.cell (p := ⟨fb, fo + k * 6 + 4, none⟩) fbl0).symm.trans y4)
            have c55 : (W5).cell? ⟨fb, fo + k * 6 + 5, none⟩ = _ := ((r5).bel.cell (p := ⟨fb, fo + k * 6 + 5, none⟩) fbl0).trans ((HREL.out.bel.cell (p := ⟨fb, fo + k * 6 + 5, none⟩) fbl0).symm.trans y5)
            have l05 := Soft.LtH.mk (b := w.heap.size) (w := W5) (r5).res.lt
            have l15 := Soft.LtH.mk (b := w.heap.size + 1) (w := W5) (r5).out.lt
            have l25 := Soft.LtH.mk (b := fb) (w := W5) (by have := (r5).bel.size; omega)
            have l35 := Soft.LtH.mk (b := wr.heap.size) (w := W5) (hb5).lt
            have R5 := Lib.hid r5
            have HB5 := Lib.hid hb5
            have MET5 := Lib.hid met5
            clear r5 hb5 met5
            (refine Soft.region1e 8 10 [0, 1, 2, 3, 4, 5, 6, 7, 8] 9 [10, 11] _ (by kernel_rfl) (by kernel_rfl) (by intro _ _ _ _ _ _ h; dsimp +zetaDelta only [Exit.then, Exit.inBlock] at h ⊢; exact Soft.bodyPost_put h) (by kernel_rfl) (by kernel_rfl) (by decide) rfl rfl (by kernel_rfl) ?_; change Soft.wpSoft _ _ _ _ _ [_, _, _, _, _, _, _, _, _] _; (repeat (refine Soft.soft_step (fun K hK => ?_); go_simp; (try go_bits); first | (refine hK _ ?_; clear hK K) | (apply Exists.intro; refine ⟨fun x => ?_, hK _ ?_⟩; ((go_at_call 33; exact CW.out _ (by with_reducible repeat (first | exact hq5 | refine Ho.At.alloc ?_ _ | refine Ho.At.bw ?_ _ | refine Tk.At.alloc ?_ _ | refine Tk.At.bw ?_ _)))); clear hK K))); refine Soft.soft_nil ?_)
            refine ⟨fun b => .pointer (some ⟨b, 0, none⟩), .cells #[.int .i64 0, .int .i64 0, .int .i64 0, .int .i64 0, .int .i64 0, .int .i64 0] 29, fun x => by go_simp, fun kb xx hnew => ?_⟩
            change wpList _ _ _ [_, _] _ _
            obtain ⟨N, xx1, rfl, ex⟩ := newSplit hnew
            rw [ex]
            clear hnew ex xx
            refine wpList_store_row rfl 29 _ _ rfl N.w.heap.size _ rfl rfl 29 _ (HasBlk.below (Soft.heap_new N.w _) xx1.below) (by kernel_rfl) rfl (by kernel_rfl) ?_
            obtain ⟨q1, ex2, ex3⟩ := bwStore xx1 #[.int .i64 ((W6).mass).lo, .int .i64 ((W6).mass).hi, .int .i64 ((W6).along).lo, .int .i64 ((W6).along).hi, .int .i64 ((W6).high).lo, .int .i64 ((W6).high).hi]
            rw [ex2]
            clear ex2 ex3 xx1
            obtain ⟨⟨s1, s2⟩, s3, s4⟩ := SM.out
            obtain ⟨i1, i2, i3⟩ := HI2.out
            have CPL := Lib.hid (fun W => hold_plus S.2.shi H2 W ⟨by omega, by omega⟩ ⟨by omega, by omega⟩)
            clear SM HI2 s1 s2 s3 s4 i1 i2 i3
            by_cases hs : g.state = 0
            · have dS : (g.state != 0) = false := by rw [hs]; rfl
              have NY := Lib.hid (NX1.out.trans (by rw [if_pos hs]))
              clear NX1 hs
              go_wp2_with fail
              (refine Soft.region0 [0, 1, 2, 3, 4, 5, 6, 7, 8, 9] [10] (by kernel_rfl) (by kernel_rfl) (by kernel_rfl) (by kernel_rfl) ?_; change Soft.wpSoft _ _ _ _ _ [_, _, _, _, _, _, _, _, _, _] _; (repeat (refine Soft.soft_step (fun K hK => ?_); go_simp; (try go_bits); first | (refine hK _ ?_; clear hK K) | (apply Exists.intro; refine ⟨fun x => ?_, hK _ ?_⟩; (first | (go_at_call 35; exact CHE2.out _ (by with_reducible repeat (first | exact hq5 | refine Ho.At.alloc ?_ _ | refine Ho.At.bw ?_ _ | refine Tk.At.alloc ?_ _ | refine Tk.At.bw ?_ _))) | (go_at_call 34; exact CPL.out _)); clear hK K))); refine Soft.soft_nil ?_; intro xw; change wpList _ _ _ [_] _ _)
              go_wp2_with fail
              go_roundw
              case rel => exact ⟨k + 1, v, by simp, by omega, by rw [NY.out], by rw [NY.out]; exact (R5.out.call (show Below W5.heap.size W5 xw.w by (with_reducible repeat (first | exact blr _ | refine bla ?_ _ | refine blw _ ?_ | refine bld ?_ | refine bln _ ?_ | refine bls ?_ _ | refine blt ?_)))).shi _ _, ((HasBlk.below MET5.out (show Below W5.heap.size W5 xw.w by (with_reducible repeat (first | exact blr _ | refine bla ?_ _ | refine blw _ ?_ | refine bld ?_ | refine bln _ ?_ | refine bls ?_ _ | refine blt ?_)))).set_other (by simp) _).set_other (by simp) _⟩
              case measure => simp [intOf]; omega
            · have dS : (g.state != 0) = true := bne_iff_ne.2 hs
              have NY := Lib.hid (NX1.out.trans (by rw [if_neg hs]))
              clear NX1 hs
              have R6 := Lib.hid (R5.out.call (show Below W5.heap.size W5 q1.w by (with_reducible repeat (first | exact blr _ | refine bla ?_ _ | refine blw _ ?_ | refine bld ?_ | refine bln _ ?_ | refine bls ?_ _ | refine blt ?_))))
              go_wp2_with (at_builtin; go_loud (refine app_wt rfl (.tmp 84) (.tmp 86) rfl (w.heap.size + 3) v S.2.ws rfl (R6.out.own.alloc _) q1.w.heap.size W6 rfl (fun jj uu huu => (HasBlk.cell (c := #[.int .i64 ((W6).mass).lo, .int .i64 ((W6).mass).hi, .int .i64 ((W6).along).lo, .int .i64 ((W6).along).hi, .int .i64 ((W6).high).lo, .int .i64 ((W6).high).hi]) (t := 29) (Soft.heap_new _ _) jj).trans (by simpa [wtC] using huu)) (by have := HLEN.out; omega) (by have := R6.out.lt; simp at this ⊢; omega) ?_); intro v3 w3 ho3 hb3 hgr3; obtain ⟨g3, c3, rfl, hg5, hg6, hg7, hg8⟩ := ho3.shape (by simp); have z5 := (hb3.block (w.heap.size + 1) (by omega)).trans (R6.out.call (bel_alloc (bel_refl _) (.cells #[.int .i64 ((W6).mass).lo, .int .i64 ((W6).mass).hi, .int .i64 ((W6).along).lo, .int .i64 ((W6).along).hi, .int .i64 ((W6).high).lo, .int .i64 ((W6).high).hi] 29))).out; have z6 := HasBlk.cell z5 0; have z7 := HasBlk.frozen z5 0; simp at z6)
              have r7 := (R6.out.call (bel_alloc (bel_refl _) _)).app ho3 hb3
              rw [show (S.2.ws ++ [W6]).length = S.2.ws.length + 1 by simp] at r7
              have hb7 : HasBlk (w3.setCell ⟨w.heap.size + 1, 0, none⟩ (.slice (some ⟨g3, 0, none⟩) (S.2.ws.length + 1) c3)) wr.heap.size #[.int .i64 ((⟨(n : Int), qal, qv, qm, qh, qt, qu, qv0, qh0⟩ : Ho)).id, .int .i64 (((⟨(n : Int), qal, qv, qm, qh, qt, qu, qv0, qh0⟩ : Ho)).along).lo, .int .i64 (((⟨(n : Int), qal, qv, qm, qh, qt, qu, qv0, qh0⟩ : Ho)).along).hi, .slice (((⟨(n : Int), qal, qv, qm, qh, qt, qu, qv0, qh0⟩ : Ho)).vol).p (((⟨(n : Int), qal, qv, qm, qh, qt, qu, qv0, qh0⟩ : Ho)).vol).n (((⟨(n : Int), qal, qv, qm, qh, qt, qu, qv0, qh0⟩ : Ho)).vol).c, .slice (((⟨(n : Int), qal, qv, qm, qh, qt, qu, qv0, qh0⟩ : Ho)).mom).p (((⟨(n : Int), qal, qv, qm, qh, qt, qu, qv0, qh0⟩ : Ho)).mom).n (((⟨(n : Int), qal, qv, qm, qh, qt, qu, qv0, qh0⟩ : Ho)).mom).c, .slice (((⟨(n : Int), qal, qv, qm, qh, qt, qu, qv0, qh0⟩ : Ho)).hei).p (((⟨(n : Int), qal, qv, qm, qh, qt, qu, qv0, qh0⟩ : Ho)).hei).n (((⟨(n : Int), qal, qv, qm, qh, qt, qu, qv0, qh0⟩ : Ho)).hei).c, .int .i64 (((⟨(n : Int), qal, qv, qm, qh, qt, qu, qv0, qh0⟩ : Ho)).tri).lo, .int .i64 (((⟨(n : Int), qal, qv, qm, qh, qt, qu, qv0, qh0⟩ : Ho)).tri).hi, .int .i64 (((⟨(n : Int), qal, qv, qm, qh, qt, qu, qv0, qh0⟩ : Ho)).unt).lo, .int .i64 (((⟨(n : Int), qal, qv, qm, qh, qt, qu, qv0, qh0⟩ : Ho)).unt).hi, .int .i64 (((⟨(n : Int), qal, qv, qm, qh, qt, qu, qv0, qh0⟩ : Ho)).v0).lo, .int .i64 (((⟨(n : Int), qal, qv, qm, qh, qt, qu, qv0, qh0⟩ : Ho)).v0).hi, .int .i64 (((⟨(n : Int), qal, qv, qm, qh, qt, qu, qv0, qh0⟩ : Ho)).h0).lo, .int .i64 (((⟨(n : Int), qal, qv, qm, qh, qt, qu, qv0, qh0⟩ : Ho)).h0).hi] 49 :=
                HasBlk.set_other ((hgr3.block wr.heap.size (by have := q1.below.size; have := N.below.size; simp at *; omega) (fun e => absurd ((World.ownsRow.lt HREL.out.own wr.heap.size e.symm).2) (Nat.lt_irrefl _))).trans (HasBlk.below (HasBlk.below HB5.out (show Below W5.heap.size W5 q1.w by (with_reducible repeat (first | exact blr _ | refine bla ?_ _ | refine blw _ ?_ | refine bld ?_ | refine bln _ ?_ | refine bls ?_ _ | refine blt ?_)))) (bel_alloc (bel_refl _) _))) (by dsimp only; omega) _
              have met7 : HasBlk (w3.setCell ⟨w.heap.size + 1, 0, none⟩ (.slice (some ⟨g3, 0, none⟩) (S.2.ws.length + 1) c3)) (w.heap.size + 2) (metC (idH hx) (k + 1)) 95 :=
                HasBlk.set_other ((hb3.block (w.heap.size + 2) (by omega)).trans (HasBlk.below (HasBlk.below MET5.out (show Below W5.heap.size W5 q1.w by (with_reducible repeat (first | exact blr _ | refine bla ?_ _ | refine blw _ ?_ | refine bld ?_ | refine bln _ ?_ | refine bls ?_ _ | refine blt ?_)))) (bel_alloc (bel_refl _) _))) (by dsimp only; omega) _
              clear z5 z6 z7 ho3 hb3 hgr3 hg5 hg6 hg7 hg8
              generalize w3.setCell ⟨w.heap.size + 1, 0, none⟩ (.slice (some ⟨g3, 0, none⟩) (S.2.ws.length + 1) c3) = W7 at *
              have hq7 := AQ0.out.same (r7).bel
              have o07 := (r7).out.cell 0
              have o17 := (r7).out.cell 1
              have o27 := (r7).out.cell 2
              have o37 := (r7).out.cell 3
              have o47 := (r7).out.cell 4
              have f07 := (r7).out.frozen 0
              have f17 := (r7).out.frozen 1
              have f27 := (r7).out.frozen 2
              have f37 := (r7).out.frozen 3
              have f47 := (r7).out.frozen 4
              simp at o07 o17 o27 o37 o47
              have b07 := (hb7).cell 0
              have b17 := (hb7).cell 1
              have b27 := (hb7).cell 2
              have b37 := (hb7).cell 3
              have b47 := (hb7).cell 4
              have b57 := (hb7).cell 5
              have b67 := (hb7).cell 6
              have b77 := (hb7).cell 7
              have b87 := (hb7).cell 8
              have b97 := (hb7).cell 9
              have b107 := (hb7).cell 10
              have b117 := (hb7).cell 11
              have b127 := (hb7).cell 12
              have b137 := (hb7).cell 13
              simp at b07 b17 b27 b37 b47 b57 b67 b77 b87 b97 b107 b117 b127 b137
              have c07 : (W7).cell? ⟨fb, fo + k * 6, none⟩ = _ := ((r7).bel.cell (p := ⟨fb, fo + k * 6, none⟩) fbl0).trans ((HREL.out.bel.cell (p := ⟨fb, fo + k * 6, none⟩) fbl0).symm.trans y0)
              have c17 : (W7).cell? ⟨fb, fo + k * 6 + 1, none⟩ = _ := ((r7).bel.cell (p := ⟨fb, fo + k * 6 + 1, none⟩) fbl0).trans ((HREL.out.bel.cell (p := ⟨fb, fo + k * 6 + 1, none⟩) fbl0).symm.trans y1)
              have c27 : (W7).cell? ⟨fb, fo + k * 6 + 2, none⟩ = _ := ((r7).bel.cell (p := ⟨fb, fo + k * 6 + 2, none⟩) fbl0).trans ((HREL.out.bel.cell (p := ⟨fb, fo + k * 6 + 2, none⟩) fbl0).symm.trans y2)
              have c37 : (W7).cell? ⟨fb, fo + k * 6 + 3, none⟩ = _ := ((r7).bel.cell (p := ⟨fb, fo + k * 6 + 3, none⟩) fbl0).trans ((HREL.out.bel.cell (p := ⟨fb, fo + k * 6 + 3, none⟩) fbl0).symm.trans y3)
              have c47 : (W7).cell? ⟨fb, fo + k * 6 + 4, none⟩ = _ := ((r7).bel.cell (p := ⟨fb, fo + k * 6 + 4, none⟩) fbl0).trans ((HREL.out.bel.cell (p := ⟨fb, fo + k * 6 + 4, none⟩) fbl0).symm.trans y4)
              have c57 : (W7).cell? ⟨fb, fo + k * 6 + 5, none⟩ = _ := ((r7).bel.cell (p := ⟨fb, fo + k * 6 + 5, none⟩) fbl0).trans ((HREL.out.bel.cell (p := ⟨fb, fo + k * 6 + 5, none⟩) fbl0).symm.trans y5)
              have l07 := Soft.LtH.mk (b := w.heap.size) (w := W7) (r7).res.lt
              have l17 := Soft.LtH.mk (b := w.heap.size + 1) (w := W7) (r7).out.lt
              have l27 := Soft.LtH.mk (b := fb) (w := W7) (by have := (r7).bel.size; omega)
              have l37 := Soft.LtH.mk (b := wr.heap.size) (w := W7) (hb7).lt
              have R7 := Lib.hid r7
              have MET7 := Lib.hid met7
              clear r7 hb7 met7
              (refine Soft.region0 [0, 1, 2, 3, 4, 5, 6, 7, 8, 9] [10] (by kernel_rfl) (by kernel_rfl) (by kernel_rfl) (by kernel_rfl) ?_; change Soft.wpSoft _ _ _ _ _ [_, _, _, _, _, _, _, _, _, _] _; (repeat (refine Soft.soft_step (fun K hK => ?_); go_simp; (try go_bits); first | (refine hK _ ?_; clear hK K) | (apply Exists.intro; refine ⟨fun x => ?_, hK _ ?_⟩; (first | (go_at_call 35; exact CHE2.out _ (by with_reducible repeat (first | exact hq7 | refine Ho.At.alloc ?_ _ | refine Ho.At.bw ?_ _ | refine Tk.At.alloc ?_ _ | refine Tk.At.bw ?_ _))) | (go_at_call 34; exact CPL.out _)); clear hK K))); refine Soft.soft_nil ?_; intro xw; change wpList _ _ _ [_] _ _)
              go_wp2_with fail
              go_roundw
              case rel => exact ⟨k + 1, _, by simp, by omega, by rw [NY.out], by rw [NY.out]; exact (R7.out.call xw.below).shi _ _, ((HasBlk.below MET7.out xw.below).set_other (by simp) _).set_other (by simp) _⟩
              case measure => simp [intOf]; omega
          · have HE := Lib.hid (C1.out rfl)
            clear NX C1
            go_wp2_with (first | (refine wpList_store_row rfl 49 _ _ rfl wr.heap.size _ rfl rfl 49 _ (Soft.heap_new _ _) (by kernel_rfl) rfl (by kernel_rfl) ?_; rw [setRow_alloc]) | (go_at_call 32; (with_reducible refine (CC.out _ (by with_reducible repeat (first | exact hq | refine Ho.At.alloc ?_ _ | refine Ho.At.bw ?_ _ | refine Tk.At.alloc ?_ _ | refine Tk.At.bw ?_ _))).mono ?_); rintro e w_ ⟨rfl, hb_⟩; obtain ⟨y9, rfl⟩ := Soft.BW.mk hb_; clear hb_) | (refine wpList_store_row rfl 58 _ _ rfl w.heap.size _ rfl rfl 58 _ (HREL.out.call (show Below wr.heap.size wr y9.w by (with_reducible repeat (first | exact blr _ | refine bla ?_ _ | refine blw _ ?_ | refine bld ?_ | refine bln _ ?_ | refine bls ?_ _ | refine blt ?_)))).res (by kernel_rfl) rfl (by kernel_rfl) ?_))
            have R9 := (HREL.out.call (show Below wr.heap.size wr y9.w by (with_reducible repeat (first | exact blr _ | refine bla ?_ _ | refine blw _ ?_ | refine bld ?_ | refine bln _ ?_ | refine bls ?_ _ | refine blt ?_))))
            have Z := setRow_heap _ w.heap.size _ (ldC (.slice none 0 0) ld0) _ _ R9.res
            have z0 := HasBlk.cell Z 0
            have z1 := HasBlk.cell Z 1
            have z2 := HasBlk.cell Z 2
            have z3 := HasBlk.cell Z 3
            have z4 := HasBlk.cell Z 4
            simp [ld0] at z0 z1 z2 z3 z4
            have zb := below_setRow (g := w.heap.size) R9.bel (Nat.le_refl _) (ldC (.slice none 0 0) ld0)
            refine bodyPost_ret (v := .tuple #[.agg #[.slice none 0 0, .int .i64 0, .int .i64 0, .int .i64 0, .int .i64 0], .int .i64 20]) (by simp [results, Tryz.results13, go_sem, z0, z1, z2, z3, z4]) rfl ?_
            exact loadPost_zero HE.out zb
        · have NE := Lib.hid (fun hd => N2.out hd he)
          clear N1 N2 CHE HI
          generalize wtE q g = W6 at *
          have dE : (fillErr q g != 0) = true := bne_iff_ne.2 he
          clear he
          generalize fillErr q g = ER at *
          obtain ⟨qid, qal, qv, qm, qh, qt, qu, qv0, qh0⟩ := q
          dsimp only at *
          subst hn1
          clear h0
          cases MB
          · have HE := Lib.hid (NE.out rfl)
            clear NE C1
            go_wp2_with (first | (refine wpList_store_row rfl 49 _ _ rfl wr.heap.size _ rfl rfl 49 _ (Soft.heap_new _ _) (by kernel_rfl) rfl (by kernel_rfl) ?_; rw [setRow_alloc]) | (go_at_call 32; (with_reducible refine (CC.out _ (by with_reducible repeat (first | exact hq | refine Ho.At.alloc ?_ _ | refine Ho.At.bw ?_ _ | refine Tk.At.alloc ?_ _ | refine Tk.At.bw ?_ _))).mono ?_); rintro e w_ ⟨rfl, hb_⟩; obtain ⟨y9, rfl⟩ := Soft.BW.mk hb_; clear hb_))
            have r5 : LdRel w (w.heap.size + 3) (y9.w.setCell ⟨w.heap.size + 1 + 1, n, none⟩ (.bool true)) v S.2 := (HREL.out.call (show Below wr.heap.size wr y9.w by (with_reducible repeat (first | exact blr _ | refine bla ?_ _ | refine blw _ ?_ | refine bld ?_ | refine bln _ ?_ | refine bls ?_ _ | refine blt ?_)))).other (by omega) n _
            have hb5 : HasBlk (y9.w.setCell ⟨w.heap.size + 1 + 1, n, none⟩ (.bool true)) wr.heap.size #[.int .i64 ((⟨(n : Int), qal, qv, qm, qh, qt, qu, qv0, qh0⟩ : Ho)).id, .int .i64 (((⟨(n : Int), qal, qv, qm, qh, qt, qu, qv0, qh0⟩ : Ho)).along).lo, .int .i64 (((⟨(n : Int), qal, qv, qm, qh, qt, qu, qv0, qh0⟩ : Ho)).along).hi, .slice (((⟨(n : Int), qal, qv, qm, qh, qt, qu, qv0, qh0⟩ : Ho)).vol).p (((⟨(n : Int), qal, qv, qm, qh, qt, qu, qv0, qh0⟩ : Ho)).vol).n (((⟨(n : Int), qal, qv, qm, qh, qt, qu, qv0, qh0⟩ : Ho)).vol).c, .slice (((⟨(n : Int), qal, qv, qm, qh, qt, qu, qv0, qh0⟩ : Ho)).mom).p (((⟨(n : Int), qal, qv, qm, qh, qt, qu, qv0, qh0⟩ : Ho)).mom).n (((⟨(n : Int), qal, qv, qm, qh, qt, qu, qv0, qh0⟩ : Ho)).mom).c, .slice (((⟨(n : Int), qal, qv, qm, qh, qt, qu, qv0, qh0⟩ : Ho)).hei).p (((⟨(n : Int), qal, qv, qm, qh, qt, qu, qv0, qh0⟩ : Ho)).hei).n (((⟨(n : Int), qal, qv, qm, qh, qt, qu, qv0, qh0⟩ : Ho)).hei).c, .int .i64 (((⟨(n : Int), qal, qv, qm, qh, qt, qu, qv0, qh0⟩ : Ho)).tri).lo, .int .i64 (((⟨(n : Int), qal, qv, qm, qh, qt, qu, qv0, qh0⟩ : Ho)).tri).hi, .int .i64 (((⟨(n : Int), qal, qv, qm, qh, qt, qu, qv0, qh0⟩ : Ho)).unt).lo, .int .i64 (((⟨(n : Int), qal, qv, qm, qh, qt, qu, qv0, qh0⟩ : Ho)).unt).hi, .int .i64 (((⟨(n : Int), qal, qv, qm, qh, qt, qu, qv0, qh0⟩ : Ho)).v0).lo, .int .i64 (((⟨(n : Int), qal, qv, qm, qh, qt, qu, qv0, qh0⟩ : Ho)).v0).hi, .int .i64 (((⟨(n : Int), qal, qv, qm, qh, qt, qu, qv0, qh0⟩ : Ho)).h0).lo, .int .i64 (((⟨(n : Int), qal, qv, qm, qh, qt, qu, qv0, qh0⟩ : Ho)).h0).hi] 49 := (HasBlk.below (Soft.heap_new wr _) y9.below).set_other (by dsimp only; omega) _
            generalize y9.w.setCell ⟨w.heap.size + 1 + 1, n, none⟩ (.bool true) = W5 at *
            have hq5 := AQ0.out.same (r5).bel
            have o05 := (r5).out.cell 0
            have o15 := (r5).out.cell 1
            have o25 := (r5).out.cell 2
            have o35 := (r5).out.cell 3
            have o45 := (r5).out.cell 4
            have f05 := (r5).out.frozen 0
            have f15 := (r5).out.frozen 1
            have f25 := (r5).out.frozen 2
            have f35 := (r5).out.frozen 3
            have f45 := (r5).out.frozen 4
            simp at o05 o15 o25 o35 o45
            have b05 := (hb5).cell 0
            have b15 := (hb5).cell 1
            have b25 := (hb5).cell 2
            have b35 := (hb5).cell 3
            have b45 := (hb5).cell 4
            have b55 := (hb5).cell 5
            have b65 := (hb5).cell 6
            have b75 := (hb5).cell 7
            have b85 := (hb5).cell 8
            have b95 := (hb5).cell 9
            have b105 := (hb5).cell 10
            have b115 := (hb5).cell 11
            have b125 := (hb5).cell 12
            have b135 := (hb5).cell 13
            simp at b05 b15 b25 b35 b45 b55 b65 b75 b85 b95 b105 b115 b125 b135
            have c05 : (W5).cell? ⟨fb, fo + k * 6, none⟩ = _ := ((r5).bel.cell (p := ⟨fb, fo + k * 6, none⟩) fbl0).trans ((HREL.out.bel.cell (p := ⟨fb, fo + k * 6, none⟩) fbl0).symm.trans y0)
            have c15 : (W5).cell? ⟨fb, fo + k * 6 + 1, none⟩ = _ := ((r5).bel.cell (p := ⟨fb, fo + k * 6 + 1, none⟩) fbl0).trans ((HREL.out.bel.cell (p := ⟨fb, fo + k * 6 + 1, none⟩) fbl0).symm.trans y1)
            have c25 : (W5).cell? ⟨fb, fo + k * 6 + 2, none⟩ = _ := ((r5).bel.cell (p := ⟨fb, fo + k * 6 + 2, none⟩) fbl0).trans ((HREL.out.bel.cell (p := ⟨fb, fo + k * 6 + 2, none⟩) fbl0).symm.trans y2)
            have c35 : (W5).cell? ⟨fb, fo + k * 6 + 3, none⟩ = _ := ((r5).bel.cell (p := ⟨fb, fo + k * 6 + 3, none⟩) fbl0).trans ((HREL.out.bel.cell (p := ⟨fb, fo + k * 6 + 3, none⟩) fbl0).symm.trans y3)
            have c45 : (W5).cell? ⟨fb, fo + k * 6 + 4, none⟩ = _ := ((r5).bel.cell (p := ⟨fb, fo + k * 6 + 4, none⟩) fbl0).trans ((HREL.out.bel.cell (p := ⟨fb, fo + k * 6 + 4, none⟩) fbl0).symm.trans y4)
            have c55 : (W5).cell? ⟨fb, fo + k * 6 + 5, none⟩ = _ := ((r5).bel.cell (p := ⟨fb, fo + k * 6 + 5, none⟩) fbl0).trans ((HREL.out.bel.cell (p := ⟨fb, fo + k * 6 + 5, none⟩) fbl0).symm.trans y5)
            have l05 := Soft.LtH.mk (b := w.heap.size) (w := W5) (r5).res.lt
            have l15 := Soft.LtH.mk (b := w.heap.size + 1) (w := W5) (r5).out.lt
            have l25 := Soft.LtH.mk (b := fb) (w := W5) (by have := (r5).bel.size; omega)
            have l35 := Soft.LtH.mk (b := wr.heap.size) (w := W5) (hb5).lt
            have R5 := Lib.hid r5
            clear r5 hb5
            (refine Soft.region1e 8 10 [0, 1, 2, 3, 4, 5, 6, 7, 8] 9 [10, 11] _ (by kernel_rfl) (by kernel_rfl) (by intro _ _ _ _ _ _ h; dsimp +zetaDelta only [Exit.then, Exit.inBlock] at h ⊢; exact Soft.bodyPost_put h) (by kernel_rfl) (by kernel_rfl) (by decide) rfl rfl (by kernel_rfl) ?_; change Soft.wpSoft _ _ _ _ _ [_, _, _, _, _, _, _, _, _] _; (repeat (refine Soft.soft_step (fun K hK => ?_); go_simp; (try go_bits); first | (refine hK _ ?_; clear hK K) | (apply Exists.intro; refine ⟨fun x => ?_, hK _ ?_⟩; ((go_at_call 33; exact CW.out _ (by with_reducible repeat (first | exact hq5 | refine Ho.At.alloc ?_ _ | refine Ho.At.bw ?_ _ | refine Tk.At.alloc ?_ _ | refine Tk.At.bw ?_ _)))); clear hK K))); refine Soft.soft_nil ?_)
            refine ⟨fun b => .pointer (some ⟨b, 0, none⟩), .cells #[.int .i64 0, .int .i64 0, .int .i64 0, .int .i64 0, .int .i64 0, .int .i64 0] 29, fun x => by go_simp, fun kb xx hnew => ?_⟩
            change wpList _ _ _ [_, _] _ _
            obtain ⟨N, xx1, rfl, ex⟩ := newSplit hnew
            rw [ex]
            clear hnew ex xx
            refine wpList_store_row rfl 29 _ _ rfl N.w.heap.size _ rfl rfl 29 _ (HasBlk.below (Soft.heap_new N.w _) xx1.below) (by kernel_rfl) rfl (by kernel_rfl) ?_
            obtain ⟨q1, ex2, ex3⟩ := bwStore xx1 #[.int .i64 ((W6).mass).lo, .int .i64 ((W6).mass).hi, .int .i64 ((W6).along).lo, .int .i64 ((W6).along).hi, .int .i64 ((W6).high).lo, .int .i64 ((W6).high).hi]
            rw [ex2]
            clear ex2 ex3 xx1
            have R6 := Lib.hid (R5.out.call (show Below W5.heap.size W5 q1.w by (with_reducible repeat (first | exact blr _ | refine bla ?_ _ | refine blw _ ?_ | refine bld ?_ | refine bln _ ?_ | refine bls ?_ _ | refine blt ?_))))
            go_wp2_with (refine wpList_store_row rfl 58 _ _ rfl w.heap.size _ rfl rfl 58 _ R6.out.res (by kernel_rfl) rfl (by kernel_rfl) ?_)
            have R9 := (R6.out)
            have Z := setRow_heap _ w.heap.size _ (ldC (.slice none 0 0) ld0) _ _ R9.res
            have z0 := HasBlk.cell Z 0
            have z1 := HasBlk.cell Z 1
            have z2 := HasBlk.cell Z 2
            have z3 := HasBlk.cell Z 3
            have z4 := HasBlk.cell Z 4
            simp [ld0] at z0 z1 z2 z3 z4
            have zb := below_setRow (g := w.heap.size) R9.bel (Nat.le_refl _) (ldC (.slice none 0 0) ld0)
            refine bodyPost_ret (v := .tuple #[.agg #[.slice none 0 0, .int .i64 0, .int .i64 0, .int .i64 0, .int .i64 0], .int .i64 ER]) (by simp [results, Tryz.results13, go_sem, z0, z1, z2, z3, z4]) rfl ?_
            exact loadPost_zero HE.out zb
          · have HE := Lib.hid (C1.out rfl)
            clear NE C1
            go_wp2_with (first | (refine wpList_store_row rfl 49 _ _ rfl wr.heap.size _ rfl rfl 49 _ (Soft.heap_new _ _) (by kernel_rfl) rfl (by kernel_rfl) ?_; rw [setRow_alloc]) | (go_at_call 32; (with_reducible refine (CC.out _ (by with_reducible repeat (first | exact hq | refine Ho.At.alloc ?_ _ | refine Ho.At.bw ?_ _ | refine Tk.At.alloc ?_ _ | refine Tk.At.bw ?_ _))).mono ?_); rintro e w_ ⟨rfl, hb_⟩; obtain ⟨y9, rfl⟩ := Soft.BW.mk hb_; clear hb_) | (refine wpList_store_row rfl 58 _ _ rfl w.heap.size _ rfl rfl 58 _ (HREL.out.call (show Below wr.heap.size wr y9.w by (with_reducible repeat (first | exact blr _ | refine bla ?_ _ | refine blw _ ?_ | refine bld ?_ | refine bln _ ?_ | refine bls ?_ _ | refine blt ?_)))).res (by kernel_rfl) rfl (by kernel_rfl) ?_))
            have R9 := (HREL.out.call (show Below wr.heap.size wr y9.w by (with_reducible repeat (first | exact blr _ | refine bla ?_ _ | refine blw _ ?_ | refine bld ?_ | refine bln _ ?_ | refine bls ?_ _ | refine blt ?_))))
            have Z := setRow_heap _ w.heap.size _ (ldC (.slice none 0 0) ld0) _ _ R9.res
            have z0 := HasBlk.cell Z 0
            have z1 := HasBlk.cell Z 1
            have z2 := HasBlk.cell Z 2
            have z3 := HasBlk.cell Z 3
            have z4 := HasBlk.cell Z 4
            simp [ld0] at z0 z1 z2 z3 z4
            have zb := below_setRow (g := w.heap.size) R9.bel (Nat.le_refl _) (ldC (.slice none 0 0) ld0)
            refine bodyPost_ret (v := .tuple #[.agg #[.slice none 0 0, .int .i64 0, .int .i64 0, .int .i64 0, .int .i64 0], .int .i64 20]) (by simp [results, Tryz.results13, go_sem, z0, z1, z2, z3, z4]) rfl ?_
            exact loadPost_zero HE.out zb
      · have HE : Hid (loadE hx fx tx lx = (20, ld0)) := by
          cases hD : DU
          · have e : fillErr q g = 20 := if_neg h0
            have := N2.out hD (by rw [e]; decide)
            rw [e] at this
            exact Lib.hid this
          · exact Lib.hid (C1.out hD)
        have EC : holdErr q = 20 := if_neg h0
        rw [EC] at CC
        have hq := aQ
        clear N1 N2 C1 EC h0
        go_wp2_with (first | (refine wpList_store_row rfl 49 _ _ rfl wr.heap.size _ rfl rfl 49 _ (Soft.heap_new _ _) (by kernel_rfl) rfl (by kernel_rfl) ?_; rw [setRow_alloc]) | (go_at_call 32; (with_reducible refine (CC.out _ (by with_reducible repeat (first | exact hq | refine Ho.At.alloc ?_ _ | refine Ho.At.bw ?_ _ | refine Tk.At.alloc ?_ _ | refine Tk.At.bw ?_ _))).mono ?_); rintro e w_ ⟨rfl, hb_⟩; obtain ⟨y9, rfl⟩ := Soft.BW.mk hb_; clear hb_) | (refine wpList_store_row rfl 58 _ _ rfl w.heap.size _ rfl rfl 58 _ (HREL.out.call (show Below wr.heap.size wr y9.w by (with_reducible repeat (first | exact blr _ | refine bla ?_ _ | refine blw _ ?_ | refine bld ?_ | refine bln _ ?_ | refine bls ?_ _ | refine blt ?_)))).res (by kernel_rfl) rfl (by kernel_rfl) ?_))
        have R9 := (HREL.out.call (show Below wr.heap.size wr y9.w by (with_reducible repeat (first | exact blr _ | refine bla ?_ _ | refine blw _ ?_ | refine bld ?_ | refine bln _ ?_ | refine bls ?_ _ | refine blt ?_))))
        have Z := setRow_heap _ w.heap.size _ (ldC (.slice none 0 0) ld0) _ _ R9.res
        have z0 := HasBlk.cell Z 0
        have z1 := HasBlk.cell Z 1
        have z2 := HasBlk.cell Z 2
        have z3 := HasBlk.cell Z 3
        have z4 := HasBlk.cell Z 4
        simp [ld0] at z0 z1 z2 z3 z4
        have zb := below_setRow (g := w.heap.size) R9.bel (Nat.le_refl _) (ldC (.slice none 0 0) ld0)
        refine bodyPost_ret (v := .tuple #[.agg #[.slice none 0 0, .int .i64 0, .int .i64 0, .int .i64 0, .int .i64 0], .int .i64 20]) (by simp [results, Tryz.results13, go_sem, z0, z1, z2, z3, z4]) rfl ?_
        exact loadPost_zero HE.out zb
    · obtain rfl : hn = k := by omega
      have HLT := Lib.hid (fun (k : Nat) (hk : k < tn) (e : (tRun tx lx (hRun hx fx hn) (k + 1)).1 ≠ 0) => (by
        have h := loadE_t (hs := hx) (fs := fx) (ts := tx) (ls := lx) hlen.out.1 hlen.out.2.1 hlen.out.2.2.1 hlen.out.2.2.2 (k := k) (by rw [B2.out]; exact hk)
        rw [B1.out] at h
        exact h e : loadE hx fx tx lx = tRun tx lx (hRun hx fx hn) (k + 1)))
      have HLA := Lib.hid (show loadE hx fx tx lx = tRun tx lx (hRun hx fx hn) tn by
        have h := loadE_all (hs := hx) (fs := fx) (ts := tx) (ls := lx) hlen.out.1 hlen.out.2.1 hlen.out.2.2.1 hlen.out.2.2.2
        rw [B1.out, B2.out] at h
        exact h)
      have SM0 := Lib.hid (hRun_small hx fx hn)
      have LN0 := Lib.hid (hRun_len hx fx hn)
      clear hlen hk hlt
      generalize hRun hx fx hn = S0 at *
      generalize loadE hx fx tx lx = E0 at *
      rename World => W1
      have R1 := hrel.rowOther (by omega) (metC (idT tx) 0)
      have MET1 : HasBlk (W1.setRow (w.heap.size + 2) (metC (idT tx) 0)) (w.heap.size + 2) (metC (idT tx) 0) 95 := setRow_heap _ _ _ _ _ _ hmet
      have HZ1 := Lib.hid hz
      have hmet1 : HasBlk W1 (w.heap.size + 1 + 1) (metC (idH hx) hn) 95 := hmet
      clear hrel hz hmet
      go_wp2_with (refine wpList_store_row rfl 95 _ _ rfl (w.heap.size + 1 + 1) (metC (idT tx) 0) rfl rfl 95 _ hmet1 (by kernel_rfl) rfl (by kernel_rfl) ?_)
      clear hmet1
      generalize W1.setRow (w.heap.size + 1 + 1) (metC (idT tx) 0) = W2 at *
      go_loopw [103] (fun i wr => ∃ (k : Nat) (v : Value), i = .int .i64 k ∧ k ≤ tn ∧ (tRun tx lx S0 k).1 = 0 ∧ LdRel w (w.heap.size + 3) wr v (tRun tx lx S0 k).2 ∧ HasBlk wr (w.heap.size + 2) (metC (idT tx) k) 95) (fun i _ => tn - (intOf i).toNat)
      case atStart => exact ⟨0, _, rfl, by omega, HZ1.out, R1, MET1⟩
      case round =>
        obtain ⟨k, v, rfl, hk, hz, hrel, hmet⟩ := hrel
        clear R1 MET1 HZ1
        by_cases hlt : k < tn
        · have hk2 : (k : Int) < tn := by omega
          have aH := HT.out.same hrel.bel
          have aF := HL.out.same hrel.bel
          have aq0 := HT.out.2.2 k hlt
          obtain ⟨hb, ho, rfl, hbl0, _⟩ := HT.out.cells (by dsimp only; omega)
          obtain ⟨fb, fo, rfl, fbl0, _⟩ := HL.out.cells (by dsimp only; omega)
          obtain ⟨hb1, ho1, eh, hbl, hcl⟩ := aH.cells (by dsimp only; omega)
          obtain ⟨fb1, fo1, ef, fbl, fcl⟩ := aF.cells (by dsimp only; omega)
          cases eh
          cases ef
          have aQ := aH.2.2 k hlt
          dsimp only at hbl hcl fbl fcl aQ aq0 hbl0 fbl0
          obtain ⟨x0, x1, x2, x3, x4, x5⟩ := hcl k hlt
          obtain ⟨y0, y1, y2, y3, y4, y5⟩ := fcl k hlt
          have l2 := Soft.LtH.mk (b := hb) (w := wr) hbl
          have l3 := Soft.LtH.mk (b := fb) (w := wr) fbl
          have l4 := Soft.LtH.mk (b := w.heap.size + 2) (w := wr) hmet.lt
          have m1 : ¬(fb = w.heap.size + 1) := by omega
          have m2 : ¬(w.heap.size + 1 = fb) := by omega
          have m3 : ¬(fb = w.heap.size + 2) := by omega
          have m4 : ¬(w.heap.size + 2 = fb) := by omega
          have mlt := hmet.lt
          have C1 := Lib.hid (fun (e : dupT tx k = true) => (HLT.out k hlt (by rw [tRun_dup hz e]; decide)).trans (tRun_dup hz e))
          have N1 := Lib.hid (fun (hd : dupT tx k = false) he => tRun_next hz hd he)
          have N2 := Lib.hid (fun (hd : dupT tx k = false) he => (HLT.out k hlt (by rw [tRun_bad hz hd he]; exact he)).trans (tRun_bad hz hd he))
          have DM := Lib.hid (fun n h => dupT_met (ts := tx) (k := k) (n := n) h)
          have MS := Lib.hid (fun n h9 h => metC_set (idT tx) k n h9 h)
          have SM := Lib.hid ((tRun_small tx lx SM0.out k).1)
          have CW := Lib.hid (fun W hW => hold_Ballast (tv tx k) (lv lx k) W hW)
          have CC := Lib.hid (fun W hW => hold_CheckTank (tv tx k) W hW)
          have CSU := Lib.hid (fun W hW => hold_Surface (tv tx k) (lv lx k) W hW)
          have HI := Lib.hid (srfE_in (tv tx k) (lv lx k))
          have HLEN := Lib.hid (tRun_len tx lx S0 k)
          have HID : idT tx k = (tv tx k).id := rfl
          have HREL := Lib.hid hrel
          have HMET := Lib.hid hmet
          have AQ0 := Lib.hid aq0
          clear hrel hmet hcl fcl aH aF hbl fbl hbl0 aq0 hz
          generalize hS : tRun tx lx S0 k = S at *
          clear hS
          generalize hQ : tv tx k = q at *
          generalize lv lx k = g at *
          generalize dupT tx k = DU at *
          clear hQ
          by_cases h0 : TankOk q
          · obtain ⟨n, hn1, hn9⟩ : ∃ n : Nat, q.id = (n : Int) ∧ n ≤ 9 := ⟨q.id.toNat, by have := h0.id; omega, by have := h0.id; omega⟩
            have MS2 := Lib.hid (MS.out n hn9 (HID.trans hn1))
            have DM2 := Lib.hid (DM.out n hn1)
            have mc := HMET.out.cell n
            have mf := HMET.out.frozen n
            rw [metC_get _ _ _ hn9] at mc
            generalize metB (idT tx) k n = MB at *
            obtain rfl : MB = DU := DM2.out
            have EC : tankErr q = 0 := if_pos h0
            rw [EC] at CC
            have hq := aQ
            clear EC HID MS DM DM2
            obtain ⟨qid, qal, qv, qm, qh⟩ := q
            dsimp only at hn1
            subst hn1
            clear h0
            by_cases he : levelErr (⟨(n : Int), qal, qv, qm, qh⟩ : Tk) g = 0
            · have NX := Lib.hid (fun hd => N1.out hd he)
              rw [he] at CW CSU
              clear N1 N2 he
              generalize balE (⟨(n : Int), qal, qv, qm, qh⟩ : Tk) g = W6 at *
              generalize srfE (⟨(n : Int), qal, qv, qm, qh⟩ : Tk) g = H2 at *
              dsimp only at *
              cases MB
              · have NX1 := Lib.hid (NX.out rfl)
                clear NX C1
                go_wp2_with (first | (refine wpList_store_row rfl 83 _ _ rfl wr.heap.size _ rfl rfl 83 _ (Soft.heap_new _ _) (by kernel_rfl) rfl (by kernel_rfl) ?_; rw [setRow_alloc]) | (go_at_call 36; (with_reducible refine (CC.out _ (by with_reducible repeat (first | exact hq | refine Ho.At.alloc ?_ _ | refine Ho.At.bw ?_ _ | refine Tk.At.alloc ?_ _ | refine Tk.At.bw ?_ _))).mono ?_); rintro e w_ ⟨rfl, hb_⟩; obtain ⟨y9, rfl⟩ := Soft.BW.mk hb_; clear hb_))
                have r5 : LdRel w (w.heap.size + 3) (y9.w.setCell ⟨w.heap.size + 1 + 1, n, none⟩ (.bool true)) v S.2 := (HREL.out.call (show Below wr.heap.size wr y9.w by (with_reducible repeat (first | exact blr _ | refine bla ?_ _ | refine blw _ ?_ | refine bld ?_ | refine bln _ ?_ | refine bls ?_ _ | refine blt ?_)))).other (by omega) n _
                have hb5 : HasBlk (y9.w.setCell ⟨w.heap.size + 1 + 1, n, none⟩ (.bool true)) wr.heap.size #[.int .i64 ((⟨(n : Int), qal, qv, qm, qh⟩ : Tk)).id, .int .i64 (((⟨(n : Int), qal, qv, qm, qh⟩ : Tk)).along).lo, .int .i64 (((⟨(n : Int), qal, qv, qm, qh⟩ : Tk)).along).hi, .slice (((⟨(n : Int), qal, qv, qm, qh⟩ : Tk)).vol).p (((⟨(n : Int), qal, qv, qm, qh⟩ : Tk)).vol).n (((⟨(n : Int), qal, qv, qm, qh⟩ : Tk)).vol).c, .slice (((⟨(n : Int), qal, qv, qm, qh⟩ : Tk)).sur).p (((⟨(n : Int), qal, qv, qm, qh⟩ : Tk)).sur).n (((⟨(n : Int), qal, qv, qm, qh⟩ : Tk)).sur).c, .slice (((⟨(n : Int), qal, qv, qm, qh⟩ : Tk)).hei).p (((⟨(n : Int), qal, qv, qm, qh⟩ : Tk)).hei).n (((⟨(n : Int), qal, qv, qm, qh⟩ : Tk)).hei).c] 83 := (HasBlk.below (Soft.heap_new wr _) y9.below).set_other (by dsimp only; omega) _
                have met5 : HasBlk (y9.w.setCell ⟨w.heap.size + 1 + 1, n, none⟩ (.bool true)) (w.heap.size + 2) (metC (idT tx) (k + 1)) 95 := by
                  have h := (HasBlk.below HMET.out (show Below wr.heap.size wr y9.w by (with_reducible repeat (first | exact blr _ | refine bla ?_ _ | refine blw _ ?_ | refine bld ?_ | refine bln _ ?_ | refine bls ?_ _ | refine blt ?_)))).put n (.bool true)
                  rw [MS2.out] at h
                  exact h
                have lw5 : wr.heap.size < (y9.w.setCell ⟨w.heap.size + 1 + 1, n, none⟩ (.bool true)).heap.size := hb5.lt
                generalize y9.w.setCell ⟨w.heap.size + 1 + 1, n, none⟩ (.bool true) = W5 at *
                have hq5 := AQ0.out.same (r5).bel
                have o05 := (r5).out.cell 0
                have o15 := (r5).out.cell 1
                have o25 := (r5).out.cell 2
                have o35 := (r5).out.cell 3
                have o45 := (r5).out.cell 4
                have f05 := (r5).out.frozen 0
                have f15 := (r5).out.frozen 1
                have f25 := (r5).out.frozen 2
                have f35 := (r5).out.frozen 3
                have f45 := (r5).out.frozen 4
                simp at o05 o15 o25 o35 o45
                have b05 := (hb5).cell 0
                have b15 := (hb5).cell 1
                have b25 := (hb5).cell 2
                have b35 := (hb5).cell 3
                have b45 := (hb5).cell 4
                have b55 := (hb5).cell 5
                simp at b05 b15 b25 b35 b45 b55
                have c05 : (W5).cell? ⟨fb, fo + k * 6, none⟩ = _ := ((r5).bel.cell (p := ⟨fb, fo + k * 6, none⟩) fbl0).trans ((HREL.out.bel.cell (p := ⟨fb, fo + k * 6, none⟩) fbl0).symm.trans y0)
                have c15 : (W5).cell? ⟨fb, fo + k * 6 + 1, none⟩ = _ := ((r5).bel.cell (p := ⟨fb, fo + k * 6 + 1, none⟩) fbl0).trans ((HREL.out.bel.cell (p := ⟨fb, fo + k * 6 + 1, none⟩) fbl0).symm.trans y1)
                have c25 : (W5).cell? ⟨fb, fo + k * 6 + 2, none⟩ = _ := ((r5).bel.cell (p := ⟨fb, fo + k * 6 + 2, none⟩) fbl0).trans ((HREL.out.bel.cell (p := ⟨fb, fo + k * 6 + 2, none⟩) fbl0).symm.trans y2)
                have c35 : (W5).cell? ⟨fb, fo + k * 6 + 3, none⟩ = _ := ((r5).bel.cell (p := ⟨fb, fo + k * 6 + 3, none⟩) fbl0).trans ((HREL.out.bel.cell (p := ⟨fb, fo + k * 6 + 3, none⟩) fbl0).symm.trans y3)
                have c45 : (W5).cell? ⟨fb, fo + k * 6 + 4, none⟩ = _ := ((r5).bel.cell (p := ⟨fb, fo + k * 6 + 4, none⟩) fbl0).trans ((HREL.out.bel.cell (p := ⟨fb, fo + k * 6 + 4, none⟩) fbl0).symm.trans y4)
                have c55 : (W5).cell? ⟨fb, fo + k * 6 + 5, none⟩ = _ := ((r5).bel.cell (p := ⟨fb, fo + k * 6 + 5, none⟩) fbl0).trans ((HREL.out.bel.cell (p := ⟨fb, fo + k * 6 + 5, none⟩) fbl0).symm.trans y5)
                have l05 := Soft.LtH.mk (b := w.heap.size) (w := W5) (r5).res.lt
                have l15 := Soft.LtH.mk (b := w.heap.size + 1) (w := W5) (r5).out.lt
                have l25 := Soft.LtH.mk (b := fb) (w := W5) (by have := (r5).bel.size; omega)
                have l35 := Soft.LtH.mk (b := wr.heap.size) (w := W5) (hb5).lt
                have R5 := Lib.hid r5
                have HB5 := Lib.hid hb5
                have MET5 := Lib.hid met5
                clear r5 hb5 met5
                (refine Soft.region1e 8 10 [0, 1, 2, 3, 4, 5, 6, 7, 8] 9 [10, 11] _ (by kernel_rfl) (by kernel_rfl) (by intro _ _ _ _ _ _ h; dsimp +zetaDelta only [Exit.then, Exit.inBlock] at h ⊢; exact Soft.bodyPost_put h) (by kernel_rfl) (by kernel_rfl) (by decide) rfl rfl (by kernel_rfl) ?_; change Soft.wpSoft _ _ _ _ _ [_, _, _, _, _, _, _, _, _] _; (repeat (refine Soft.soft_step (fun K hK => ?_); go_simp; (try go_bits); first | (refine hK _ ?_; clear hK K) | (apply Exists.intro; refine ⟨fun x => ?_, hK _ ?_⟩; ((go_at_call 37; exact CW.out _ (by with_reducible repeat (first | exact hq5 | refine Ho.At.alloc ?_ _ | refine Ho.At.bw ?_ _ | refine Tk.At.alloc ?_ _ | refine Tk.At.bw ?_ _)))); clear hK K))); refine Soft.soft_nil ?_)
                refine ⟨fun b => .pointer (some ⟨b, 0, none⟩), .cells #[.int .i64 0, .int .i64 0, .int .i64 0, .int .i64 0, .int .i64 0, .int .i64 0] 29, fun x => by go_simp, fun kb xx hnew => ?_⟩
                change wpList _ _ _ [_, _] _ _
                obtain ⟨N, xx1, rfl, ex⟩ := newSplit hnew
                rw [ex]
                clear hnew ex xx
                refine wpList_store_row rfl 29 _ _ rfl N.w.heap.size _ rfl rfl 29 _ (HasBlk.below (Soft.heap_new N.w _) xx1.below) (by kernel_rfl) rfl (by kernel_rfl) ?_
                obtain ⟨q1, ex2, ex3⟩ := bwStore xx1 #[.int .i64 ((W6).mass).lo, .int .i64 ((W6).mass).hi, .int .i64 ((W6).along).lo, .int .i64 ((W6).along).hi, .int .i64 ((W6).high).lo, .int .i64 ((W6).high).hi]
                rw [ex2]
                clear ex2 ex3 xx1
                go_wp2_with fail
                (refine Soft.region1e 8 10 [0, 1, 2, 3, 4, 5, 6, 7, 8] 9 [10, 11] _ (by kernel_rfl) (by kernel_rfl) (by intro _ _ _ _ _ _ h; dsimp +zetaDelta only [Exit.then, Exit.inBlock] at h ⊢; exact Soft.bodyPost_put h) (by kernel_rfl) (by kernel_rfl) (by decide) rfl rfl (by kernel_rfl) ?_; change Soft.wpSoft _ _ _ _ _ [_, _, _, _, _, _, _, _, _] _; (repeat (refine Soft.soft_step (fun K hK => ?_); go_simp; (try go_bits); first | (refine hK _ ?_; clear hK K) | (apply Exists.intro; refine ⟨fun x => ?_, hK _ ?_⟩; ((go_at_call 38; exact CSU.out _ (by with_reducible repeat (first | exact hq5 | refine Ho.At.alloc ?_ _ | refine Ho.At.bw ?_ _ | refine Tk.At.alloc ?_ _ | refine Tk.At.bw ?_ _)))); clear hK K))); refine Soft.soft_nil ?_)
                refine ⟨fun b => .pointer (some ⟨b, 0, none⟩), .cells #[.int .i64 0, .int .i64 0] 27, fun x => by go_simp, fun kb xx hnew => ?_⟩
                change wpList _ _ _ [_, _] _ _
                obtain ⟨M, xx2, rfl, ex⟩ := newSplit hnew
                rw [ex]
                clear hnew ex xx
                refine wpList_store_row rfl 27 _ _ rfl M.w.heap.size _ rfl rfl 27 _ (HasBlk.below (Soft.heap_new M.w _) xx2.below) (by kernel_rfl) rfl (by kernel_rfl) ?_
                obtain ⟨q2, ex2, ex3⟩ := bwStore xx2 #[.int .i64 H2.lo, .int .i64 H2.hi]
                rw [ex2]
                clear ex2 ex3 xx2
                obtain ⟨⟨s1, s2⟩, s3, s4⟩ := SM.out
                obtain ⟨i1, i2, i3⟩ := HI.out
                have CPL := Lib.hid (fun W => hold_plus S.2.sur H2 W ⟨by omega, by omega⟩ ⟨by omega, by omega⟩)
                clear SM HI s1 s2 s3 s4 i1 i2 i3
                have R6 := Lib.hid (R5.out.call (show Below W5.heap.size W5 q2.w by (with_reducible repeat (first | exact blr _ | refine bla ?_ _ | refine blw _ ?_ | refine bld ?_ | refine bln _ ?_ | refine bls ?_ _ | refine blt ?_))))
                have HM6 := Lib.hid (show HasBlk q2.w M.w.heap.size #[.int .i64 H2.lo, .int .i64 H2.hi] 27 from HasBlk.below (Soft.heap_new M.w _) q2.below)
                have nM : w.heap.size + 3 ≤ M.w.heap.size := Nat.le_trans R5.out.lt (Nat.le_trans N.below.size (Nat.le_trans (by have := q1.below.size; simp at this; omega) M.below.size))
                have nM2 : W5.heap.size ≤ M.w.heap.size := Nat.le_trans N.below.size (Nat.le_trans (by have := q1.below.size; simp at this; omega) M.below.size)
                have nM3 : M.w.heap.size < q2.w.heap.size := HM6.out.lt
                go_wp2_with (first | (at_builtin; go_loud (refine app_wt rfl (.tmp 144) (.tmp 146) rfl (w.heap.size + 3) v S.2.ws rfl (R6.out.own.alloc _) q2.w.heap.size W6 rfl (fun jj uu huu => (HasBlk.cell (c := #[.int .i64 ((W6).mass).lo, .int .i64 ((W6).mass).hi, .int .i64 ((W6).along).lo, .int .i64 ((W6).along).hi, .int .i64 ((W6).high).lo, .int .i64 ((W6).high).hi]) (t := 29) (Soft.heap_new _ _) jj).trans (by simpa [wtC] using huu)) (by have := HLEN.out; have := LN0.out; omega) (by have := R6.out.lt; simp at this ⊢; omega) ?_); intro v3 w3 ho3 hb3 hgr3; obtain ⟨g3, c3, rfl, hg5, hg6, hg7, hg8⟩ := ho3.shape (by simp); have z5 := (hb3.block (w.heap.size + 1) (by omega)).trans (R6.out.call (bel_alloc (bel_refl _) (.cells #[.int .i64 ((W6).mass).lo, .int .i64 ((W6).mass).hi, .int .i64 ((W6).along).lo, .int .i64 ((W6).along).hi, .int .i64 ((W6).high).lo, .int .i64 ((W6).high).hi] 29))).out; have z6 := HasBlk.cell z5 0; have z7 := HasBlk.frozen z5 0; have z8 := HasBlk.cell z5 1; have z9 := HasBlk.cell z5 2; have za := HasBlk.frozen z5 1; have zb := HasBlk.frozen z5 2; simp at z6 z8 z9; have y5_ := (hgr3.block M.w.heap.size (by simp; omega) (fun e => absurd ((World.ownsRow.lt R5.out.own M.w.heap.size e.symm).2) (by omega))).trans (HasBlk.below HM6.out (bel_alloc (bel_refl _) (.cells #[.int .i64 ((W6).mass).lo, .int .i64 ((W6).mass).hi, .int .i64 ((W6).along).lo, .int .i64 ((W6).along).hi, .int .i64 ((W6).high).lo, .int .i64 ((W6).high).hi] 29))); have y6_ := HasBlk.cell y5_ 0; have y7_ := HasBlk.cell y5_ 1; simp at y6_ y7_; have nm1 : ¬(M.w.heap.size = w.heap.size + 1) := (by omega); have nm2 : ¬(w.heap.size + 1 = M.w.heap.size) := (by omega); have lz1 := Soft.LtH.mk (b := w.heap.size + 1) (w := w3) (HasBlk.lt z5); have R7 := Lib.hid ((R6.out.call (bel_alloc (bel_refl _) _)).app ho3 hb3)) | (go_at_call 34; (with_reducible refine (CPL.out _).mono ?_); rintro e w_ ⟨rfl, hb_⟩; obtain ⟨y8, rfl⟩ := Soft.BW.mk hb_; clear hb_))
                have r7 := R7.out
                rw [show (S.2.ws ++ [W6]).length = S.2.ws.length + 1 by simp] at r7
                have met7 := HasBlk.set_other (p := ⟨w.heap.size + 1, 0, none⟩) ((hb3.block (w.heap.size + 2) (by omega)).trans (HasBlk.below (HasBlk.below MET5.out (show Below W5.heap.size W5 q2.w by (with_reducible repeat (first | exact blr _ | refine bla ?_ _ | refine blw _ ?_ | refine bld ?_ | refine bln _ ?_ | refine bls ?_ _ | refine blt ?_)))) (bel_alloc (bel_refl _) _))) (by dsimp only; omega) (.slice (some ⟨g3, 0, none⟩) (S.2.ws.length + 1) c3)
                go_roundw
                case rel => exact ⟨k + 1, _, by simp, by omega, by rw [NX1.out], by rw [NX1.out]; exact (r7.call y8.below).sur _ _, ((HasBlk.below met7 y8.below).set_other (by simp) _).set_other (by simp) _⟩
                case measure => simp [intOf]; omega
              · have HE := Lib.hid (C1.out rfl)
                clear NX C1
                go_wp2_with (first | (refine wpList_store_row rfl 83 _ _ rfl wr.heap.size _ rfl rfl 83 _ (Soft.heap_new _ _) (by kernel_rfl) rfl (by kernel_rfl) ?_; rw [setRow_alloc]) | (go_at_call 36; (with_reducible refine (CC.out _ (by with_reducible repeat (first | exact hq | refine Ho.At.alloc ?_ _ | refine Ho.At.bw ?_ _ | refine Tk.At.alloc ?_ _ | refine Tk.At.bw ?_ _))).mono ?_); rintro e w_ ⟨rfl, hb_⟩; obtain ⟨y9, rfl⟩ := Soft.BW.mk hb_; clear hb_) | (refine wpList_store_row rfl 58 _ _ rfl w.heap.size _ rfl rfl 58 _ (HREL.out.call (show Below wr.heap.size wr y9.w by (with_reducible repeat (first | exact blr _ | refine bla ?_ _ | refine blw _ ?_ | refine bld ?_ | refine bln _ ?_ | refine bls ?_ _ | refine blt ?_)))).res (by kernel_rfl) rfl (by kernel_rfl) ?_))
                have R9 := (HREL.out.call (show Below wr.heap.size wr y9.w by (with_reducible repeat (first | exact blr _ | refine bla ?_ _ | refine blw _ ?_ | refine bld ?_ | refine bln _ ?_ | refine bls ?_ _ | refine blt ?_))))
                have Z := setRow_heap _ w.heap.size _ (ldC (.slice none 0 0) ld0) _ _ R9.res
                have z0 := HasBlk.cell Z 0
                have z1 := HasBlk.cell Z 1
                have z2 := HasBlk.cell Z 2
                have z3 := HasBlk.cell Z 3
                have z4 := HasBlk.cell Z 4
                simp [ld0] at z0 z1 z2 z3 z4
                have zb := below_setRow (g := w.heap.size) R9.bel (Nat.le_refl _) (ldC (.slice none 0 0) ld0)
                refine bodyPost_ret (v := .tuple #[.agg #[.slice none 0 0, .int .i64 0, .int .i64 0, .int .i64 0, .int .i64 0], .int .i64 21]) (by simp [results, Tryz.results13, go_sem, z0, z1, z2, z3, z4]) rfl ?_
                exact loadPost_zero HE.out zb
            · have NE := Lib.hid (fun hd => N2.out hd he)
              clear N1 N2 HI
              have dE : (levelErr (⟨(n : Int), qal, qv, qm, qh⟩ : Tk) g != 0) = true := bne_iff_ne.2 he
              clear he CSU
              generalize balE (⟨(n : Int), qal, qv, qm, qh⟩ : Tk) g = W6 at *
              generalize levelErr (⟨(n : Int), qal, qv, qm, qh⟩ : Tk) g = ER at *
              dsimp only at *
              cases MB
              · have HE := Lib.hid (NE.out rfl)
                clear NE C1
                go_wp2_with (first | (refine wpList_store_row rfl 83 _ _ rfl wr.heap.size _ rfl rfl 83 _ (Soft.heap_new _ _) (by kernel_rfl) rfl (by kernel_rfl) ?_; rw [setRow_alloc]) | (go_at_call 36; (with_reducible refine (CC.out _ (by with_reducible repeat (first | exact hq | refine Ho.At.alloc ?_ _ | refine Ho.At.bw ?_ _ | refine Tk.At.alloc ?_ _ | refine Tk.At.bw ?_ _))).mono ?_); rintro e w_ ⟨rfl, hb_⟩; obtain ⟨y9, rfl⟩ := Soft.BW.mk hb_; clear hb_))
                have r5 : LdRel w (w.heap.size + 3) (y9.w.setCell ⟨w.heap.size + 1 + 1, n, none⟩ (.bool true)) v S.2 := (HREL.out.call (show Below wr.heap.size wr y9.w by (with_reducible repeat (first | exact blr _ | refine bla ?_ _ | refine blw _ ?_ | refine bld ?_ | refine bln _ ?_ | refine bls ?_ _ | refine blt ?_)))).other (by omega) n _
                have hb5 : HasBlk (y9.w.setCell ⟨w.heap.size + 1 + 1, n, none⟩ (.bool true)) wr.heap.size #[.int .i64 ((⟨(n : Int), qal, qv, qm, qh⟩ : Tk)).id, .int .i64 (((⟨(n : Int), qal, qv, qm, qh⟩ : Tk)).along).lo, .int .i64 (((⟨(n : Int), qal, qv, qm, qh⟩ : Tk)).along).hi, .slice (((⟨(n : Int), qal, qv, qm, qh⟩ : Tk)).vol).p (((⟨(n : Int), qal, qv, qm, qh⟩ : Tk)).vol).n (((⟨(n : Int), qal, qv, qm, qh⟩ : Tk)).vol).c, .slice (((⟨(n : Int), qal, qv, qm, qh⟩ : Tk)).sur).p (((⟨(n : Int), qal, qv, qm, qh⟩ : Tk)).sur).n (((⟨(n : Int), qal, qv, qm, qh⟩ : Tk)).sur).c, .slice (((⟨(n : Int), qal, qv, qm, qh⟩ : Tk)).hei).p (((⟨(n : Int), qal, qv, qm, qh⟩ : Tk)).hei).n (((⟨(n : Int), qal, qv, qm, qh⟩ : Tk)).hei).c] 83 := (HasBlk.below (Soft.heap_new wr _) y9.below).set_other (by dsimp only; omega) _
                generalize y9.w.setCell ⟨w.heap.size + 1 + 1, n, none⟩ (.bool true) = W5 at *
                have hq5 := AQ0.out.same (r5).bel
                have o05 := (r5).out.cell 0
                have o15 := (r5).out.cell 1
                have o25 := (r5).out.cell 2
                have o35 := (r5).out.cell 3
                have o45 := (r5).out.cell 4
                have f05 := (r5).out.frozen 0
                have f15 := (r5).out.frozen 1
                have f25 := (r5).out.frozen 2
                have f35 := (r5).out.frozen 3
                have f45 := (r5).out.frozen 4
                simp at o05 o15 o25 o35 o45
                have b05 := (hb5).cell 0
                have b15 := (hb5).cell 1
                have b25 := (hb5).cell 2
                have b35 := (hb5).cell 3
                have b45 := (hb5).cell 4
                have b55 := (hb5).cell 5
                simp at b05 b15 b25 b35 b45 b55
                have c05 : (W5).cell? ⟨fb, fo + k * 6, none⟩ = _ := ((r5).bel.cell (p := ⟨fb, fo + k * 6, none⟩) fbl0).trans ((HREL.out.bel.cell (p := ⟨fb, fo + k * 6, none⟩) fbl0).symm.trans y0)
                have c15 : (W5).cell? ⟨fb, fo + k * 6 + 1, none⟩ = _ := ((r5).bel.cell (p := ⟨fb, fo + k * 6 + 1, none⟩) fbl0).trans ((HREL.out.bel.cell (p := ⟨fb, fo + k * 6 + 1, none⟩) fbl0).symm.trans y1)
                have c25 : (W5).cell? ⟨fb, fo + k * 6 + 2, none⟩ = _ := ((r5).bel.cell (p := ⟨fb, fo + k * 6 + 2, none⟩) fbl0).trans ((HREL.out.bel.cell (p := ⟨fb, fo + k * 6 + 2, none⟩) fbl0).symm.trans y2)
                have c35 : (W5).cell? ⟨fb, fo + k * 6 + 3, none⟩ = _ := ((r5).bel.cell (p := ⟨fb, fo + k * 6 + 3, none⟩) fbl0).trans ((HREL.out.bel.cell (p := ⟨fb, fo + k * 6 + 3, none⟩) fbl0).symm.trans y3)
                have c45 : (W5).cell? ⟨fb, fo + k * 6 + 4, none⟩ = _ := ((r5).bel.cell (p := ⟨fb, fo + k * 6 + 4, none⟩) fbl0).trans ((HREL.out.bel.cell (p := ⟨fb, fo + k * 6 + 4, none⟩) fbl0).symm.trans y4)
                have c55 : (W5).cell? ⟨fb, fo + k * 6 + 5, none⟩ = _ := ((r5).bel.cell (p := ⟨fb, fo + k * 6 + 5, none⟩) fbl0).trans ((HREL.out.bel.cell (p := ⟨fb, fo + k * 6 + 5, none⟩) fbl0).symm.trans y5)
                have l05 := Soft.LtH.mk (b := w.heap.size) (w := W5) (r5).res.lt
                have l15 := Soft.LtH.mk (b := w.heap.size + 1) (w := W5) (r5).out.lt
                have l25 := Soft.LtH.mk (b := fb) (w := W5) (by have := (r5).bel.size; omega)
                have l35 := Soft.LtH.mk (b := wr.heap.size) (w := W5) (hb5).lt
                have R5 := Lib.hid r5
                clear r5 hb5
                (refine Soft.region1e 8 10 [0, 1, 2, 3, 4, 5, 6, 7, 8] 9 [10, 11] _ (by kernel_rfl) (by kernel_rfl) (by intro _ _ _ _ _ _ h; dsimp +zetaDelta only [Exit.then, Exit.inBlock] at h ⊢; exact Soft.bodyPost_put h) (by kernel_rfl) (by kernel_rfl) (by decide) rfl rfl (by kernel_rfl) ?_; change Soft.wpSoft _ _ _ _ _ [_, _, _, _, _, _, _, _, _] _; (repeat (refine Soft.soft_step (fun K hK => ?_); go_simp; (try go_bits); first | (refine hK _ ?_; clear hK K) | (apply Exists.intro; refine ⟨fun x => ?_, hK _ ?_⟩; ((go_at_call 37; exact CW.out _ (by with_reducible repeat (first | exact hq5 | refine Ho.At.alloc ?_ _ | refine Ho.At.bw ?_ _ | refine Tk.At.alloc ?_ _ | refine Tk.At.bw ?_ _)))); clear hK K))); refine Soft.soft_nil ?_)
                refine ⟨fun b => .pointer (some ⟨b, 0, none⟩), .cells #[.int .i64 0, .int .i64 0, .int .i64 0, .int .i64 0, .int .i64 0, .int .i64 0] 29, fun x => by go_simp, fun kb xx hnew => ?_⟩
                change wpList _ _ _ [_, _] _ _
                obtain ⟨N, xx1, rfl, ex⟩ := newSplit hnew
                rw [ex]
                clear hnew ex xx
                refine wpList_store_row rfl 29 _ _ rfl N.w.heap.size _ rfl rfl 29 _ (HasBlk.below (Soft.heap_new N.w _) xx1.below) (by kernel_rfl) rfl (by kernel_rfl) ?_
                obtain ⟨q1, ex2, ex3⟩ := bwStore xx1 #[.int .i64 ((W6).mass).lo, .int .i64 ((W6).mass).hi, .int .i64 ((W6).along).lo, .int .i64 ((W6).along).hi, .int .i64 ((W6).high).lo, .int .i64 ((W6).high).hi]
                rw [ex2]
                clear ex2 ex3 xx1
                have R6 := Lib.hid (R5.out.call (show Below W5.heap.size W5 q1.w by (with_reducible repeat (first | exact blr _ | refine bla ?_ _ | refine blw _ ?_ | refine bld ?_ | refine bln _ ?_ | refine bls ?_ _ | refine blt ?_))))
                go_wp2_with (refine wpList_store_row rfl 58 _ _ rfl w.heap.size _ rfl rfl 58 _ R6.out.res (by kernel_rfl) rfl (by kernel_rfl) ?_)
                have R9 := (R6.out)
                have Z := setRow_heap _ w.heap.size _ (ldC (.slice none 0 0) ld0) _ _ R9.res
                have z0 := HasBlk.cell Z 0
                have z1 := HasBlk.cell Z 1
                have z2 := HasBlk.cell Z 2
                have z3 := HasBlk.cell Z 3
                have z4 := HasBlk.cell Z 4
                simp [ld0] at z0 z1 z2 z3 z4
                have zb := below_setRow (g := w.heap.size) R9.bel (Nat.le_refl _) (ldC (.slice none 0 0) ld0)
                refine bodyPost_ret (v := .tuple #[.agg #[.slice none 0 0, .int .i64 0, .int .i64 0, .int .i64 0, .int .i64 0], .int .i64 ER]) (by simp [results, Tryz.results13, go_sem, z0, z1, z2, z3, z4]) rfl ?_
                exact loadPost_zero HE.out zb
              · have HE := Lib.hid (C1.out rfl)
                clear NE C1
                go_wp2_with (first | (refine wpList_store_row rfl 83 _ _ rfl wr.heap.size _ rfl rfl 83 _ (Soft.heap_new _ _) (by kernel_rfl) rfl (by kernel_rfl) ?_; rw [setRow_alloc]) | (go_at_call 36; (with_reducible refine (CC.out _ (by with_reducible repeat (first | exact hq | refine Ho.At.alloc ?_ _ | refine Ho.At.bw ?_ _ | refine Tk.At.alloc ?_ _ | refine Tk.At.bw ?_ _))).mono ?_); rintro e w_ ⟨rfl, hb_⟩; obtain ⟨y9, rfl⟩ := Soft.BW.mk hb_; clear hb_) | (refine wpList_store_row rfl 58 _ _ rfl w.heap.size _ rfl rfl 58 _ (HREL.out.call (show Below wr.heap.size wr y9.w by (with_reducible repeat (first | exact blr _ | refine bla ?_ _ | refine blw _ ?_ | refine bld ?_ | refine bln _ ?_ | refine bls ?_ _ | refine blt ?_)))).res (by kernel_rfl) rfl (by kernel_rfl) ?_))
                have R9 := (HREL.out.call (show Below wr.heap.size wr y9.w by (with_reducible repeat (first | exact blr _ | refine bla ?_ _ | refine blw _ ?_ | refine bld ?_ | refine bln _ ?_ | refine bls ?_ _ | refine blt ?_))))
                have Z := setRow_heap _ w.heap.size _ (ldC (.slice none 0 0) ld0) _ _ R9.res
                have z0 := HasBlk.cell Z 0
                have z1 := HasBlk.cell Z 1
                have z2 := HasBlk.cell Z 2
                have z3 := HasBlk.cell Z 3
                have z4 := HasBlk.cell Z 4
                simp [ld0] at z0 z1 z2 z3 z4
                have zb := below_setRow (g := w.heap.size) R9.bel (Nat.le_refl _) (ldC (.slice none 0 0) ld0)
                refine bodyPost_ret (v := .tuple #[.agg #[.slice none 0 0, .int .i64 0, .int .i64 0, .int .i64 0, .int .i64 0], .int .i64 21]) (by simp [results, Tryz.results13, go_sem, z0, z1, z2, z3, z4]) rfl ?_
                exact loadPost_zero HE.out zb
          · have HE : Hid (E0 = (21, ld0)) := by
              cases hD : DU
              · have e : levelErr q g = 21 := if_neg h0
                have := N2.out hD (by rw [e]; decide)
                rw [e] at this
                exact Lib.hid this
              · exact Lib.hid (C1.out hD)
            have EC : tankErr q = 21 := if_neg h0
            rw [EC] at CC
            have hq := aQ
            clear N1 N2 C1 EC h0
            go_wp2_with (first | (refine wpList_store_row rfl 83 _ _ rfl wr.heap.size _ rfl rfl 83 _ (Soft.heap_new _ _) (by kernel_rfl) rfl (by kernel_rfl) ?_; rw [setRow_alloc]) | (go_at_call 36; (with_reducible refine (CC.out _ (by with_reducible repeat (first | exact hq | refine Ho.At.alloc ?_ _ | refine Ho.At.bw ?_ _ | refine Tk.At.alloc ?_ _ | refine Tk.At.bw ?_ _))).mono ?_); rintro e w_ ⟨rfl, hb_⟩; obtain ⟨y9, rfl⟩ := Soft.BW.mk hb_; clear hb_) | (refine wpList_store_row rfl 58 _ _ rfl w.heap.size _ rfl rfl 58 _ (HREL.out.call (show Below wr.heap.size wr y9.w by (with_reducible repeat (first | exact blr _ | refine bla ?_ _ | refine blw _ ?_ | refine bld ?_ | refine bln _ ?_ | refine bls ?_ _ | refine blt ?_)))).res (by kernel_rfl) rfl (by kernel_rfl) ?_))
            have R9 := (HREL.out.call (show Below wr.heap.size wr y9.w by (with_reducible repeat (first | exact blr _ | refine bla ?_ _ | refine blw _ ?_ | refine bld ?_ | refine bln _ ?_ | refine bls ?_ _ | refine blt ?_))))
            have Z := setRow_heap _ w.heap.size _ (ldC (.slice none 0 0) ld0) _ _ R9.res
            have z0 := HasBlk.cell Z 0
            have z1 := HasBlk.cell Z 1
            have z2 := HasBlk.cell Z 2
            have z3 := HasBlk.cell Z 3
            have z4 := HasBlk.cell Z 4
            simp [ld0] at z0 z1 z2 z3 z4
            have zb := below_setRow (g := w.heap.size) R9.bel (Nat.le_refl _) (ldC (.slice none 0 0) ld0)
            refine bodyPost_ret (v := .tuple #[.agg #[.slice none 0 0, .int .i64 0, .int .i64 0, .int .i64 0, .int .i64 0], .int .i64 21]) (by simp [results, Tryz.results13, go_sem, z0, z1, z2, z3, z4]) rfl ?_
            exact loadPost_zero HE.out zb
        · obtain rfl : tn = k := by omega
          have HE := Lib.hid (show E0 = (0, (tRun tx lx S0 tn).2) by rw [HLA.out]; exact Prod.ext hz rfl)
          obtain ⟨vp, vc, rfl, _⟩ := hrel.own.at0
          have Z := setRow_heap wr w.heap.size _ (ldC (.slice vp (tRun tx lx S0 tn).2.ws.length vc) (tRun tx lx S0 tn).2) _ _ hrel.res
          have z0 := HasBlk.cell Z 0
          have z1 := HasBlk.cell Z 1
          have z2 := HasBlk.cell Z 2
          have z3 := HasBlk.cell Z 3
          have z4 := HasBlk.cell Z 4
          simp at z0 z1 z2 z3 z4
          have zb := below_setRow (g := w.heap.size) hrel.bel (Nat.le_refl _) (ldC (.slice vp (tRun tx lx S0 tn).2.ws.length vc) (tRun tx lx S0 tn).2)
          have HREL := Lib.hid hrel
          clear hrel hz hmet
          go_wp2_with (first | (refine wpList_load_row rfl 58 _ rfl (w.heap.size + 1) rfl 58 _ _ _ HREL.out.out Tryz.underlying58 rfl (by kernel_rfl) ?_) | (refine wpList_store_row rfl 58 _ _ rfl w.heap.size _ rfl rfl 58 _ HREL.out.res (by kernel_rfl) rfl (by kernel_rfl) ?_))
          refine bodyPost_ret (v := .tuple #[.agg (ldC (.slice vp (tRun tx lx S0 tn).2.ws.length vc) (tRun tx lx S0 tn).2), .int .i64 0]) (by simp [results, Tryz.results13, go_sem, z0, z1, z2, z3, z4]) rfl ?_
          exact loadPost_end HE.out (HREL.out.own.row (by omega) _) zb

end Go.Proofs.YteagdcgmmdiakaaGreat
