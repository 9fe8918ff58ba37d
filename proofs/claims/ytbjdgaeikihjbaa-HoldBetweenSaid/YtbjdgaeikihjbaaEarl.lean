/-
  hold: earliest and its closure; candidates and what it yields.
  Conditions: each theorem's own premises.
-/
import Derived.Test.YtbjdgaeikihjbaaWorp
namespace Go.Proofs.Ytbjdgaeikihjbaa
set_option linter.unusedSimpArgs false
set_option linter.unusedVariables false
open Go.RowKit Go.Shelf
set_option maxRecDepth 100000
set_option maxHeartbeats 2000000
attribute [local go_sem] Instr.field asAgg Soft.upon Soft.BW.cell_if Soft.BW.frozen_if Soft.cell_alloc_if Soft.frozen_alloc_if

theorem HasBlk.lowAt {W W' : World} {B X : Nat} {c : Array Value} {t : TypeId} (h : HasBlk W X c t) (hb : Below B W W') (hX : X < B) : HasBlk W' X c t := (hb.block X hX).trans h

theorem earliest_test (t : Tb) (m : Int) (Bt Bm : Nat) (x : Int) (w : World) (ht : t.At w) (hT : HasBlk w Bt #[.slice (t).p (t).n (t).c] 33) (hM : HasBlk w Bm #[.int .i64 m] 3) (r : Bool) (hr : r = decide (m ≤ hiE t.ps x)) :
    Calls Try.prog 127 #[.int .i64 x, .pointer (some ⟨Bt, 0, none⟩), .pointer (some ⟨Bm, 0, none⟩)] w fun e w' => e = .returned (.bool r) ∧ Below w.heap.size w w' := by
  have c1 := hT.cell 0
  have c2 := hM.cell 0
  have l1 := Soft.LtH.mk (w := w) hT.lt
  have l2 := Soft.LtH.mk (w := w) hM.lt
  simp at c1 c2
  clear hT hM
  have HR := Lib.hid hr; clear hr
  go_enter Try.func127, Try.ntmps127
  go_wp2_with (go_at_call 86; (with_reducible refine (fix_At t x _ (by repeat (first | exact ht | refine Tb.At.alloc ?_ _ | refine Tb.At.bw ?_ _))).mono ?_); rintro e w_ ⟨rfl, hb_⟩; obtain ⟨y1, rfl⟩ := Soft.BW.mk hb_; clear hb_)
  go_ret
  refine ⟨ret_bool ?_, ?_⟩
  · rw [HR.out]
  · (repeat (first | with_reducible exact bel_refl _ | with_reducible refine bel_alloc ?_ _ | with_reducible refine bel_bw _ ?_ | with_reducible refine bel_drew ?_ | with_reducible refine bel_drewN _ ?_ | ((with_reducible refine bel_set ?_ ?_ _); rotate_left; focus (first | (simp; done) | omega | (simp; omega))) | refine bel_step ?_ (by with_reducible assumption)))

theorem hold_earliest (t : Tb) (from_ x m : Int) (w : World) (ht : t.At w) (hok : TabOk t.ps) (h1 : -1000000000 ≤ from_) (h2 : x ≤ 1000000000) (hs : startS t.ps from_ x ≤ x)
    (hmono : ∀ y z, startS t.ps from_ x ≤ y → y ≤ z → z ≤ x → hiE t.ps y ≤ hiE t.ps z) :
    Calls Try.prog 87 #[.agg #[.slice (t).p (t).n (t).c], .int .i64 from_, .int .i64 x, .int .i64 m] w fun e w' => e = .returned (.int .i64 (earlS t.ps from_ x m)) ∧ Below w.heap.size w w' := by
  have hsp : ∀ k, from_ ≤ startK t.ps x from_ k := fun k => (startK_spec t.ps x from_ k).1
  have hs0 : from_ ≤ startS t.ps from_ x := (startK_spec t.ps x from_ t.ps.length).1
  obtain ⟨r1, r2, r3, r4⟩ := searchS_spec (q := fun y => decide (m ≤ hiE t.ps y)) (a := startS t.ps from_ x) (b := x) (by omega) (fun y z hy hyz hz hq => by
    have := hmono y z hy hyz hz
    simp only [decide_eq_true_eq] at hq ⊢
    omega)
  have R3 := Lib.hid r3; have R4 := Lib.hid r4
  have HE := Lib.hid (show earlS t.ps from_ x m = searchS (fun y => decide (m ≤ hiE t.ps y)) (startS t.ps from_ x) x from rfl)
  clear r3 r4 hmono
  generalize searchS (fun y => decide (m ≤ hiE t.ps y)) (startS t.ps from_ x) x = res at *
  have HSP := Lib.hid hsp; clear hsp
  obtain ⟨p, n, c, ps⟩ := t
  have ht' := ht
  obtain ⟨e1, e2, e3, e4, e5⟩ := ht'
  dsimp only at *
  have hpos := hok.pos
  have hle := hok.le
  obtain ⟨b, o, rfl, hb, hc⟩ := e5 (by omega)
  have HC := Lib.hid hc
  have HOK := Lib.hid hok
  have HL := Lib.hid e1
  have HST := Lib.hid (show startK ps x from_ n = startS ps from_ x by unfold startS; rw [e1])
  have hn1 : 1 ≤ n := by omega
  have hn2 : n ≤ 40 := by omega
  clear e5 hc hok hpos hle e1
  go_enter Try.func87, Try.ntmps87
  go_wp2_with fail
  go_loopw [9, 11, 16] (fun st _ i wr => ∃ (k : Nat), st = .int .i64 (startK ps x from_ k) ∧ i = .int .i64 k ∧ k ≤ n ∧ Below (w.heap.size + 1 + 1) ((w.alloc (.cells #[.slice (some ⟨b, o, none⟩) n c] 33)).alloc (.cells #[.int .i64 m] 3)) wr) (fun _ _ i _ => n - (intOf i).toNat)
  case atStart => exact ⟨0, rfl, rfl, by omega, Below.refl _ _⟩
  case round =>
    obtain ⟨k, rfl, rfl, hk, hB⟩ := hrel
    have hsz := hB.size
    simp at hsz
    have lb := Soft.LtH.mk (b := b) (w := wr) (by omega)
    have hbel : Below w.heap.size w wr := (((Below.refl _ _).alloc (Nat.le_refl _) _).alloc (by simp) _).trans (hB.mono (by omega))
    have HB := Lib.hid hB
    have HBEL := Lib.hid hbel
    by_cases hlt : k < n
    · have c1 := (hbel.cell (p := ⟨b, o + k * 3, none⟩) hb).trans (HC.out k hlt).1
      have c2 := (hbel.cell (p := ⟨b, o + k * 3 + 1, none⟩) hb).trans (HC.out k hlt).2.1
      have c3 := (hbel.cell (p := ⟨b, o + k * 3 + 2, none⟩) hb).trans (HC.out k hlt).2.2
      have i1 : (k : Int) < n := by omega
      obtain ⟨q1, q2, _⟩ := HOK.out.all k (by have := HL.out; omega)
      by_cases hq : (pt ps k).x < x
      · have HN := Lib.hid (show startK ps x from_ (k + 1) = max (startK ps x from_ k) (pt ps k).x from if_pos hq)
        clear hB hbel
        generalize pt ps k = q at *
        generalize hst : startK ps x from_ k = st at *
        clear hst
        go_wp2_with fail
        all_goals
          go_roundw
          case rel => exact ⟨k + 1, by rw [HN.out]; congr 1; omega, by simp, by omega, HB.out.trans ((Below.refl _ _).alloc (by omega) _)⟩
          case measure => simp [intOf]; omega
      · have HN := Lib.hid (show startK ps x from_ (k + 1) = startK ps x from_ k from if_neg hq)
        clear hB hbel
        generalize pt ps k = q at *
        generalize hst : startK ps x from_ k = st at *
        clear hst
        go_wp2_with fail
        go_roundw
        case rel => exact ⟨k + 1, by rw [HN.out], by simp, by omega, HB.out.trans ((Below.refl _ _).alloc (by omega) _)⟩
        case measure => simp [intOf]; omega
    · obtain rfl : k = n := by omega
      have hT : HasBlk wr w.heap.size #[.slice (some ⟨b, o, none⟩) k c] 33 := HasBlk.lowAt (by simp only [HasBlk, Soft.heap_alloc_if, Soft.heap_new]) hB (by omega)
      have hM : HasBlk wr (w.heap.size + 1) #[.int .i64 m] 3 := HasBlk.lowAt (by simp only [HasBlk, Soft.heap_new1]) hB (by omega)
      have htr : Tb.At wr ⟨some ⟨b, o, none⟩, k, c, ps⟩ := ht.same hbel
      have HT := Lib.hid hT; have HM := Lib.hid hM; have HTR := Lib.hid htr
      have hst := HST.out
      clear hB hbel hT hM htr
      generalize startK ps x from_ k = st at *
      subst hst
      go_wp2_with (go_at_call 119; (with_reducible refine (search_worst ⟨w.heap.size, 0, none⟩ ⟨w.heap.size + 1, 0, none⟩ (fun y => decide (m ≤ hiE ps y)) _ x res _ (by omega) (by omega) (by omega) r1 r2 R3.out R4.out (fun y w' _ _ hb => earliest_test ⟨some ⟨b, o, none⟩, k, c, ps⟩ m w.heap.size (w.heap.size + 1) y w' (HTR.out.same hb) (HT.out.below hb) (HM.out.below hb) _ rfl)).mono ?_); rintro e w_ ⟨rfl, hb_⟩; obtain ⟨y1, rfl⟩ := Soft.BW.mk hb_; clear hb_)
      go_ret
      refine ⟨ret_int HE.out.symm, ?_⟩
      exact HBEL.out.trans (y1.below.mono HBEL.out.size)

end Go.Proofs.Ytbjdgaeikihjbaa
