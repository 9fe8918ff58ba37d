/-
  The library's Values at weights, as an iterator.
  The library's Collect and SortedFunc at weights.
  cond: mixes, as an iterator.
  Conditions: each theorem's own premises.
-/
import Derived.Test.YteagdcgmmdiakaaGreatP14
import Derived.RangeFuncBox
import Derived.OwnWalkIn
namespace Go.Proofs.YteagdcgmmdiakaaGreat
set_option linter.unusedSimpArgs false
set_option linter.unusedVariables false
open Go.RowKit Go.Shelf
set_option maxRecDepth 100000
set_option maxHeartbeats 4000000
attribute [local go_sem] Soft.upon Soft.BW.cell_if Soft.BW.frozen_if Soft.cell_alloc_if Soft.frozen_alloc_if Oper.semAt_some Soft.upon0

def encW (x : Wt) : Array Value := #[.agg #[.int .i64 ((x).mass).lo, .int .i64 ((x).mass).hi, .int .i64 ((x).along).lo, .int .i64 ((x).along).hi, .int .i64 ((x).high).lo, .int .i64 ((x).high).hi]]
theorem take_succ_wv (l : List Wt) (k : Nat) (h : k < l.length) : l.take k ++ [wv l k] = l.take (k + 1) := by
  rw [List.take_succ_eq_append_getElem h]
  simp [wv, h]

theorem values_in (F : Fence) (m : Nat) (h7 : F.fn 153) (hro : F.round = none) (hm : 1 ≤ m) (l Bs b off n cap : Nat) (xs : List Wt) (hreach : n ≤ 1000) (hlc : n ≤ cap) (hcap : cap ≤ 9223372036854775807) (hxs : xs.length = n) (J Jx : List Wt → World → Prop)
    (hY : ∀ pre x W, J pre W → pre.length < n → YieldAt F (m - 1) Tryz.prog l (encW x) W fun e W' =>
      (e = .returned (.bool true) ∧ J (pre ++ [x]) W' ∧ KeptL [b, Bs] W W') ∨ (e = .returned (.bool false) ∧ Jx (pre ++ [x]) W'))
    (hJ : ∀ s A B, J s A → Below A.heap.size A B → J s B)
    (W : World) (hBs : W.cell? ⟨Bs, 0, none⟩ = some (.slice (some ⟨b, off, none⟩) n cap))
    (hc : WsAt W ⟨some ⟨b, off, none⟩, n, cap, xs⟩) (h0 : J [] W) :
    CallsIn F m Tryz.prog 153 #[.func (.yield l) #[] #[], .pointer (some ⟨Bs, 0, none⟩)] W fun e W' => (∃ v, e = .returned v) ∧
      ((∃ ys, ys = xs ∧ J ys W') ∨ (∃ pre, (∃ k, k ≤ n ∧ pre = xs.take k) ∧ Jx pre W')) := by
  refine callsIn_of_wp Tryz.func153 rfl h7 ?_ hro
  simp only [Tryz.ntmps153, List.size_toArray, List.length_cons, List.length_nil, Nat.reduceAdd, Nat.reduceSub, Array.replicate_succ, Array.replicate_zero, List.push_toArray, List.append_toArray, List.nil_append, List.cons_append]
  have HC := Lib.hid hc; clear hc
  have HX := Lib.hid hxs; clear hxs
  gi_wp2
  gi_loopw [7] (fun i wr => ∃ k : Nat, k ≤ n ∧ i = .int .i64 k ∧ J (xs.take k) wr ∧ KeptL [b, Bs] W wr) (fun i _ => n - (intOf i).toNat)
  case atStart => exact ⟨0, Nat.zero_le _, rfl, h0, KeptL.refl _ _⟩
  case round =>
    obtain ⟨k, hk, rfl, hJs, hB⟩ := hrel
    by_cases hlt : k < n
    · have hBs' := (hB.cell (b := Bs) (by simp) 0).trans hBs
      obtain ⟨b', o', e, hb, hcs⟩ := HC.out.cells (by dsimp only; omega)
      cases e
      obtain ⟨c0, c1, c2, c3, c4, c5⟩ := hcs k hlt
      have c0 := (hB.cell (b := b) (by simp) _).trans c0
      have c1 := (hB.cell (b := b) (by simp) _).trans c1
      have c2 := (hB.cell (b := b) (by simp) _).trans c2
      have c3 := (hB.cell (b := b) (by simp) _).trans c3
      have c4 := (hB.cell (b := b) (by simp) _).trans c4
      have c5 := (hB.cell (b := b) (by simp) _).trans c5
      dsimp only at c0 c1 c2 c3 c4 c5
      have HNX := Lib.hid (take_succ_wv xs k (by rw [HX.out]; exact hlt))
      have hlk : (xs.take k).length < n := by have := HX.out; rw [List.length_take]; omega
      have HB := Lib.hid hB; clear hB
      have lb := Soft.LtH.mk (b := b) (w := wr) (World.block_lt_of_cell? _ _ c0)
      have lB := Soft.LtH.mk (b := Bs) (w := wr) (World.block_lt_of_cell? _ _ hBs')
      clear hcs
      generalize wv xs k = q at *
      have hJ2 : J (xs.take k) (wr.alloc (.cells #[.int .i64 ((q).mass).lo, .int .i64 ((q).mass).hi, .int .i64 ((q).along).lo, .int .i64 ((q).along).hi, .int .i64 ((q).high).lo, .int .i64 ((q).high).hi] 29)) := hJ _ _ _ hJs ((Below.refl _ _).alloc (Nat.le_refl _) _)
      obtain ⟨fn, tmps, assign, body, hy, hR⟩ := hY _ q _ hJ2 hlk
      simp only [encW] at hy
      gi_wp2
      refine hR.mono ?_
      rintro e W3 (⟨rfl, hJ3, hk3⟩ | ⟨rfl, hJx3⟩)
      · gi_wp2
        go_roundw
        case rel => exact ⟨k + 1, by omega, by simp, by rw [← HNX.out]; exact hJ3, HB.out.trans (KeptL.trans (b := (wr.alloc (.cells #[.int .i64 ((q).mass).lo, .int .i64 ((q).mass).hi, .int .i64 ((q).along).lo, .int .i64 ((q).along).hi, .int .i64 ((q).high).lo, .int .i64 ((q).high).hi] 29))) (KeptL.alloc (by intro k hk; simp at hk; rcases hk with rfl | rfl <;> first | exact lb.lt | exact lB.lt) _) hk3)⟩
        case measure => simp [intOf]; omega
      · gi_wp2
        refine bodyPost_ret (results_none rfl _ _ _) rfl ?_
        exact ⟨⟨_, rfl⟩, .inr ⟨_, ⟨k + 1, by omega, HNX.out⟩, hJx3⟩⟩
    · obtain rfl : k = n := by omega
      gi_wp2
      go_end0
      refine ⟨⟨_, rfl⟩, .inl ⟨_, rfl, ?_⟩⟩
      rw [List.take_of_length_le (by rw [HX.out]; omega)] at hJs
      exact hJs

theorem values_stops (F : Fence) (m : Nat) (h7 : F.fn 153) (hro : F.round = none) (hm : 1 ≤ m) (Bs b off n cap : Nat) (xs : List Wt) (hreach : n ≤ 1000) (w : World) (hs : WsAt w ⟨some ⟨b, off, none⟩, n, cap, xs⟩) (hBs : Bs < w.heap.size)
    (hc : w.cell? ⟨Bs, 0, none⟩ = some (.slice (some ⟨b, off, none⟩) n cap)) :
    SeqStopsK F m Tryz.prog 153 #[.pointer (some ⟨Bs, 0, none⟩)] encW (KeptL [b, Bs]) (fun ys => ys = xs) (fun pre => ∃ k, k ≤ n ∧ pre = xs.take k) n w := fun l J Jx W hW hJ _ hY h0 => by
  have hJ' : ∀ s A B, J s A → Below A.heap.size A B → J s B := fun s A B hs hAB => hJ s A B none hs ⟨hAB.os, hAB.tape, hAB.output, hAB.size, fun k hk _ => hAB.block k hk⟩ (fun r e => by cases e)
  have hc' := (hW.cell (p := ⟨Bs, 0, none⟩) hBs).trans hc
  have hs' := hs.same hW
  exact values_in F m h7 hro hm l Bs b off n cap xs hreach hs.2.1 hs.2.2.1 hs.1 J Jx hY hJ' W hc' hs' h0

theorem slices_Values (p : Option Addr) (n c : Nat) (w : World) :
    Calls Tryz.prog 131 #[.slice p n c] w fun e w' => e = .returned (.func (.func 153) #[] #[.pointer (some ⟨w.heap.size, 0, none⟩)]) ∧ w' = w.alloc (.cells #[.slice p n c] 56) := by
  go_enter Tryz.func131, Tryz.ntmps131
  go_wp2
  go_ret
  exact ⟨rfl, rfl⟩

theorem ownW_own (N B : Nat) : Own (fun (s : List Wt) W => ∃ v, HasBlk W N #[v] 56 ∧ OwnW W B v s) := by
  rintro s X Y row ⟨v, hv, hr⟩ hg hrow
  refine ⟨v, hasBlk_own N _ _ s X Y row hv hg hrow, World.ownsRow.kept hr hg ?_⟩
  rcases hr.2 with ⟨rfl, _⟩ | ⟨g, cap, cur, rfl, _, hgb, _⟩
  · exact .inl rfl
  · refine .inr fun e' => ?_
    obtain ⟨o, ho, hc⟩ := hrow g (by simpa [Value.ownBlock] using e'.symm)
    rw [hgb] at ho; cases ho; cases hc

theorem slices_AppendSeq (Bs b off n cap : Nat) (xs : List Wt) (hreach : n ≤ 1000) (w : World) (hs : WsAt w ⟨some ⟨b, off, none⟩, n, cap, xs⟩) (hb : b < w.heap.size) (hBs : Bs < w.heap.size) (hc : w.cell? ⟨Bs, 0, none⟩ = some (.slice (some ⟨b, off, none⟩) n cap)) :
    Calls Tryz.prog 171 #[.slice none 0 0, .func (.func 153) #[] #[.pointer (some ⟨Bs, 0, none⟩)]] w fun e w' => (∃ v, e = .returned v ∧ OwnW w' (w.heap.size + 1) v xs) ∧ Below w.heap.size w w' := by
  have hT : ∀ f, Fence.wide.fn f := fun _ => trivial
  refine (callsIn_wide (n := 6)).1 ?_
  refine callsIn_of_wp_marks Tryz.func171 rfl (hT _) ?_ rfl
  simp only [Tryz.ntmps171, List.size_toArray, List.length_cons, List.length_nil, Nat.reduceAdd, Nat.reduceSub, Array.replicate_succ, Array.replicate_zero, List.push_toArray, List.append_toArray, List.nil_append, List.cons_append]
  gi_wp2_with fail
  have h0 : HasBlk (w.alloc (.cells #[.slice none 0 0] 56)) w.heap.size #[.slice none 0 0] 56 := Soft.heap_new w _
  have hB0 : Below w.heap.size w (w.alloc (.cells #[.slice none 0 0] 56)) := by (with_reducible repeat (first | exact blr _ | refine bla ?_ _ | refine blw _ ?_ | refine bld ?_ | refine bln _ ?_ | refine bls ?_ _ | refine blt ?_))
  have hsz : (w.alloc (.cells #[.slice none 0 0] 56)).heap.size = w.heap.size + 1 := by simp
  obtain ⟨W0, hW0⟩ : ∃ W0, w.alloc (.cells #[.slice none 0 0] 56) = W0 := ⟨_, rfl⟩
  rw [hW0] at h0 hB0 hsz ⊢
  clear hW0
  have hs0 := hs.same hB0
  have hc0 := (hB0.cell (p := ⟨Bs, 0, none⟩) hBs).trans hc
  have hkl : ∀ k ∈ [b, Bs], k < w.heap.size := by intro k hk; simp at hk; omega
  obtain ⟨ib, hib, hz0, hz1, hz2⟩ := infos info_wt
  refine wpIn_rangeFunc_ownH (F := Fence.wide) (n := 6) rfl (by decide) (gf := 153) (lb := #[.pointer (some ⟨Bs, 0, none⟩)]) rfl (hT _) (enters_of Tryz.func153 (by kernel_rfl) rfl)
    (values_stops Fence.wide 5 (hT _) rfl (by decide) Bs b off n cap xs hreach W0 hs0 (by omega) hc0) keptL_t (keptL_b (fun k hk => by have := hkl k hk; omega)) (Below.refl _ _) (fun _ => rfl)
    (fun pre W => (∃ v, HasBlk W w.heap.size #[v] 56 ∧ OwnW W (w.heap.size + 1) v pre) ∧ Below w.heap.size W0 W)
    (fun c pre W => False)
    (OwnFrom.and (Own.from (ownW_own _ _) _) (ownFrom_below (by omega) (by omega)))
    (fun c => fun _ _ _ _ hs _ _ => hs)
    ⟨⟨_, h0, World.ownsRow_nil _ _ _ _⟩, Below.refl _ _⟩
    (fun p a' W => ∃ Bx, w.heap.size < Bx ∧ HasBlk W Bx #[.int .i64 ((p).mass).lo, .int .i64 ((p).mass).hi, .int .i64 ((p).along).lo, .int .i64 ((p).along).hi, .int .i64 ((p).high).lo, .int .i64 ((p).high).hi] 29 ∧ a' = { tmps := #[.slice none 0 0, .func (.func 153) #[] #[.pointer (some ⟨Bs, 0, none⟩)], .pointer (some ⟨w.heap.size, 0, none⟩), undef, .slice none 0 0, .pointer (some ⟨Bx, 0, none⟩), .func (.func 153) #[] #[.pointer (some ⟨Bs, 0, none⟩)], .agg #[.int .i64 ((p).mass).lo, .int .i64 ((p).mass).hi, .int .i64 ((p).along).lo, .int .i64 ((p).along).hi, .int .i64 ((p).high).lo, .int .i64 ((p).high).hi], undef, undef, undef, undef, undef], defers := [] })
    (fun p a' _ X Z row hs hg hr => by obtain ⟨Bx, e1, e2, e3⟩ := hs; exact ⟨Bx, e1, hasBlk_own Bx _ _ () X Z row e2 hg (fun r e => (hr r e).2), e3⟩)
    ?assign ?body ?done ?stop
  case assign =>
    rintro l pre p W K ⟨⟨v, q1, q2⟩, hB1⟩ hK
    have hsW := hB1.size
    simp only [encW]
    gi_wp2
    refine hK _ _ ((KeepsOthers.alloc _ _).from _) (KeptL.alloc (fun k hk => by have := hkl k hk; omega) _) ⟨⟨v, q1.below ((Below.refl _ _).alloc (Nat.le_refl _) _), q2.alloc _⟩, hB1.alloc (by omega) _⟩ ⟨W.heap.size, by omega, World.alloc_heap_new W _, rfl⟩
  case body =>
    rintro l pre p a' W hl ⟨r, hr⟩ ⟨⟨v, q1, q2⟩, hB1⟩ ⟨Bx, hBx, bX, rfl⟩ hlt
    have hsW := hB1.size
    have hq1 := q1.lt
    have c0 := q1.cell 0
    have f0 := q1.frozen 0
    have x0 := bX.cell 0
    have x1 := bX.cell 1
    have x2 := bX.cell 2
    have x3 := bX.cell 3
    have x4 := bX.cell 4
    have x5 := bX.cell 5
    simp at c0 x0 x1 x2 x3 x4 x5
    have l0 := Soft.LtH.mk (b := w.heap.size) (w := W) q1.lt
    have lX := Soft.LtH.mk (b := Bx) (w := W) bX.lt
    have Q1 := Lib.hid q1; have Q2 := Lib.hid q2; have HB1 := Lib.hid hB1
    clear q1 q2 hB1 hr hs0 hc0 hs hc
    gi_wp2_with (gi_at_builtin; go_loud (refine wpListIn_append_own _ rfl (.tmp 8) (.tmp 10) 56 rfl (w.heap.size + 1) 29 ib _ 6 48 Tryz.underlying56 hib hz0 hz1 hz2 rfl (by decide) v pre.length (wts pre) rfl (Q2.out.alloc _) ⟨W.heap.size, 0, none⟩ 1 1 (wtC p) rfl rfl (fun j u hu => by rw [show ((⟨W.heap.size, 0, none⟩ : Addr).add j) = ⟨W.heap.size, j, none⟩ from by simp [Addr.add]; omega]; exact (HasBlk.cell (c := #[.int .i64 ((p).mass).lo, .int .i64 ((p).mass).hi, .int .i64 ((p).along).lo, .int .i64 ((p).along).hi, .int .i64 ((p).high).lo, .int .i64 ((p).high).hi]) (t := 29) (Soft.heap_new W _) j).trans (by simpa [wtC] using hu)) (fun u hu => by simp [wtC] at hu; rcases hu with rfl | rfl | rfl | rfl | rfl | rfl <;> rfl) (by unfold maxLen; omega) (by omega) (by simp; omega) ?_); intro v3 w3 ho hg3 hn3; obtain ⟨g3, cap3, rfl⟩ := ownsRow_succ ho; have hb3 : Below (w.heap.size + 1) (W.alloc (.cells #[.int .i64 ((p).mass).lo, .int .i64 ((p).mass).hi, .int .i64 ((p).along).lo, .int .i64 ((p).along).hi, .int .i64 ((p).high).lo, .int .i64 ((p).high).hi] 29)) w3 := below_of_grown hg3 (by simp; omega) (fun k hk => (World.ownsRow.lt Q2.out k hk).1); have fs3 : HasBlk w3 w.heap.size #[v] 56 := (hb3.block _ (by omega)).trans (Q1.out.below (by (with_reducible repeat (first | exact blr _ | refine bla ?_ _ | refine blw _ ?_ | refine bld ?_ | refine bln _ ?_ | refine bls ?_ _ | refine blt ?_)))); have fs4 := fs3.cell 0; have fs5 := fs3.frozen 0; simp at fs4)
    have hA : Below w.heap.size W (w3.setCell ⟨w.heap.size, 0, none⟩ (.slice (some ⟨g3, 0, none⟩) (pre.length + 1) cap3)) := ((((Below.refl w.heap.size W).alloc (by omega) _).trans (hb3.mono (by omega))).setCell (p := ⟨w.heap.size, 0, none⟩) (Nat.le_refl _) _)
    have hkeep : KeepsOthers W w3 := (KeepsOthers.alloc W _).trans (KeepsOthers.of_grownBy hg3 fun j o ej hj => by
      rcases (Q2.out.alloc (.cells #[.int .i64 ((p).mass).lo, .int .i64 ((p).mass).hi, .int .i64 ((p).along).lo, .int .i64 ((p).along).hi, .int .i64 ((p).high).lo, .int .i64 ((p).high).hi] 29)).2 with ⟨rfl, _⟩ | ⟨g, cap, cur, rfl, _, hgb, _⟩
      · simp [Value.ownBlock] at ej
      · obtain rfl : g = j := by simpa [Value.ownBlock] using ej
        rw [hgb] at hj; cases hj; rfl)
    refine ⟨(hkeep.from _).trans ((KeepsOthers.setCell _ _ _).from _), KeptL.of_below hA hkl, ⟨_, fs3.put 0 _, ?_⟩, HB1.out.trans hA⟩
    have : OwnW w3 (w.heap.size + 1) (.slice (some ⟨g3, 0, none⟩) (pre.length + 1) cap3) (pre ++ [p]) := by
      unfold OwnW
      rw [List.length_append, wts_append]
      simpa [wts] using ho
    exact this.set (p := ⟨w.heap.size, 0, none⟩) (by dsimp only; omega) _
  case done =>
    rintro D ys W hD rfl ⟨⟨v, q1, q2⟩, hB1⟩ hK
    have c0 := q1.cell 0
    simp at c0
    have l0 := Soft.LtH.mk (b := w.heap.size) (w := W) q1.lt
    have Q2 := Lib.hid q2; have HB1 := Lib.hid hB1
    clear q1 q2 hB1 hs0 hc0 hs hc
    gi_wp2
    refine ⟨by simp, .inl ⟨_, _, rfl, run_takeDeferred hK, ?_⟩⟩
    refine ⟨v, ?_, ⟨v, rfl, ownsRow_putObj Q2.out _ hK rfl⟩, (hB0.trans HB1.out).trans (belowK_b (w := w) (Nat.le_refl _) W D _ _ (by omega) hK rfl rfl)⟩
    simp [results, Tryz.f171, go_sem]
  case stop =>
    rintro D c pre W hD _ hx _
    exact hx.elim

end Go.Proofs.YteagdcgmmdiakaaGreat

namespace Go.Proofs.YteagdcgmmdiakaaGreat
set_option linter.unusedSimpArgs false
set_option linter.unusedVariables false
open Go.RowKit Go.Shelf
set_option maxRecDepth 100000
set_option maxHeartbeats 4000000

theorem slices_Collect (Bs b off n cap : Nat) (xs : List Wt) (hreach : n ≤ 1000) (w : World) (hs : WsAt w ⟨some ⟨b, off, none⟩, n, cap, xs⟩) (hb : b < w.heap.size) (hBs : Bs < w.heap.size) (hc : w.cell? ⟨Bs, 0, none⟩ = some (.slice (some ⟨b, off, none⟩) n cap)) :
    Calls Tryz.prog 151 #[.func (.func 153) #[] #[.pointer (some ⟨Bs, 0, none⟩)]] w fun e w' => (∃ v, e = .returned v ∧ OwnW w' (w.heap.size + 1) v xs) ∧ Below w.heap.size w w' := by
  have CA := Lib.hid (slices_AppendSeq Bs b off n cap xs hreach w hs hb hBs hc)
  clear hs hb hBs hc
  go_enter Tryz.func151, Tryz.ntmps151
  go_wp2_with (go_at_call 171; (with_reducible refine CA.out.mono ?_); rintro e w_ ⟨⟨v, rfl, hv⟩, hb_⟩)
  go_ret
  exact ⟨⟨v, rfl, hv⟩, hb_⟩

/-- Weights in order, new. -/
def SortPost (LE : Wt → Wt → Prop) (xs : List Wt) (n : Nat) (w : World) (e : Ending) (w' : World) : Prop :=
  ∃ (blk cap : Nat) (l' : List Wt), e = .returned (.slice (some ⟨blk, 0, none⟩) n cap) ∧ l'.Perm xs ∧ (∀ i j, i < j → j < l'.length → LE (wv l' i) (wv l' j)) ∧ WsAt w' ⟨some ⟨blk, 0, none⟩, n, cap, l'⟩ ∧ w.heap.size ≤ blk ∧ blk < w'.heap.size ∧ Below w.heap.size w w'
theorem slices_SortedFunc3 {g : FuncId} {sel : Wt → Rg} (hg : SelFn g sel) (bl bo Bs b off n cap : Nat) (xs : List Wt) (hsel : ∀ x ∈ xs, I32x (sel x)) (hreach : n ≤ 1000) (hn : 1 ≤ n) (w : World) (hl : w.cell? ⟨bl, 0, none⟩ = some (.func (.func 127) #[] #[.pointer (some ⟨bo, 0, none⟩)])) (hbo : w.cell? ⟨bo, 0, none⟩ = some (.func (.func g) #[] #[])) (hs : WsAt w ⟨some ⟨b, off, none⟩, n, cap, xs⟩) (hb : b < w.heap.size) (hBs : Bs < w.heap.size) (hc : w.cell? ⟨Bs, 0, none⟩ = some (.slice (some ⟨b, off, none⟩) n cap)) :
    Calls Tryz.prog 130 #[.func (.func 153) #[] #[.pointer (some ⟨Bs, 0, none⟩)], .func (.func 132) #[] #[.pointer (some ⟨bl, 0, none⟩)]] w (SortPost (fun x y => (sel x).lo ≤ (sel y).lo) xs n w) := by
  have CC := Lib.hid (slices_Collect Bs b off n cap xs hreach w hs hb hBs hc)
  have hxs : xs.length = n := hs.1
  have h1 := World.block_lt_of_cell? _ _ hl
  have h2 := World.block_lt_of_cell? _ _ hbo
  dsimp only at h1 h2
  have HL := Lib.hid hl; have HO := Lib.hid hbo
  clear hs hb hBs hc hl hbo
  go_enter Tryz.func130, Tryz.ntmps130
  go_wp2_with (go_at_call 151; (with_reducible refine CC.out.mono ?_); rintro e w_ ⟨⟨v, rfl, hv⟩, hb_⟩)
  obtain ⟨blk, cap', rfl, e1, e2, e3, e4⟩ := hv.shape (by intro e; rw [e] at hxs; simp at hxs; omega)
  have C2 := Lib.hid (weights_sort3 hg bl bo blk cap' xs hsel (by omega) w_ ((hb_.cell (p := ⟨bl, 0, none⟩) h1).trans HL.out) ((hb_.cell (p := ⟨bo, 0, none⟩) h2).trans HO.out) (by omega) (by omega) hv.rowW (by omega) e3 e4)
  rw [hxs] at C2 e3 ⊢
  clear hv
  go_wp2_with (go_at_call 152; (with_reducible refine C2.out.mono ?_); rintro e w2 ⟨rfl, l', p1, p2, p3, p4⟩)
  go_ret
  exact ⟨blk, cap', l', rfl, p1, p2, p3, by omega, Nat.lt_of_lt_of_le e2 p4.size, hb_.trans (p4.below (by omega) (by have := hb_.size; omega))⟩
theorem slices_SortedFunc4 {g : FuncId} {sel : Wt → Rg} (hg : SelFn g sel) (bl bo Bs b off n cap : Nat) (xs : List Wt) (hsel : ∀ x ∈ xs, I32x (sel x)) (hreach : n ≤ 1000) (hn : 1 ≤ n) (w : World) (hl : w.cell? ⟨bl, 0, none⟩ = some (.func (.func 128) #[] #[.pointer (some ⟨bo, 0, none⟩)])) (hbo : w.cell? ⟨bo, 0, none⟩ = some (.func (.func g) #[] #[])) (hs : WsAt w ⟨some ⟨b, off, none⟩, n, cap, xs⟩) (hb : b < w.heap.size) (hBs : Bs < w.heap.size) (hc : w.cell? ⟨Bs, 0, none⟩ = some (.slice (some ⟨b, off, none⟩) n cap)) :
    Calls Tryz.prog 130 #[.func (.func 153) #[] #[.pointer (some ⟨Bs, 0, none⟩)], .func (.func 133) #[] #[.pointer (some ⟨bl, 0, none⟩)]] w (SortPost (fun x y => (sel y).hi ≤ (sel x).hi) xs n w) := by
  have CC := Lib.hid (slices_Collect Bs b off n cap xs hreach w hs hb hBs hc)
  have hxs : xs.length = n := hs.1
  have h1 := World.block_lt_of_cell? _ _ hl
  have h2 := World.block_lt_of_cell? _ _ hbo
  dsimp only at h1 h2
  have HL := Lib.hid hl; have HO := Lib.hid hbo
  clear hs hb hBs hc hl hbo
  go_enter Tryz.func130, Tryz.ntmps130
  go_wp2_with (go_at_call 151; (with_reducible refine CC.out.mono ?_); rintro e w_ ⟨⟨v, rfl, hv⟩, hb_⟩)
  obtain ⟨blk, cap', rfl, e1, e2, e3, e4⟩ := hv.shape (by intro e; rw [e] at hxs; simp at hxs; omega)
  have C2 := Lib.hid (weights_sort4 hg bl bo blk cap' xs hsel (by omega) w_ ((hb_.cell (p := ⟨bl, 0, none⟩) h1).trans HL.out) ((hb_.cell (p := ⟨bo, 0, none⟩) h2).trans HO.out) (by omega) (by omega) hv.rowW (by omega) e3 e4)
  rw [hxs] at C2 e3 ⊢
  clear hv
  go_wp2_with (go_at_call 152; (with_reducible refine C2.out.mono ?_); rintro e w2 ⟨rfl, l', p1, p2, p3, p4⟩)
  go_ret
  exact ⟨blk, cap', l', rfl, p1, p2, p3, by omega, Nat.lt_of_lt_of_le e2 p4.size, hb_.trans (p4.below (by omega) (by have := hb_.size; omega))⟩

end Go.Proofs.YteagdcgmmdiakaaGreat

namespace Go.Proofs.YteagdcgmmdiakaaGreat
set_option linter.unusedSimpArgs false
set_option linter.unusedVariables false
open Go.RowKit Go.Shelf
set_option maxRecDepth 100000
set_option maxHeartbeats 4000000
attribute [local go_sem] Oper.semAt_some Instr.field asAgg Soft.upon Soft.upon0 Soft.stepC Soft.BW.cell_if Soft.BW.frozen_if Soft.cell_alloc_if Soft.frozen_alloc_if
attribute [local irreducible] Soft.wpSoft Soft.wpMix

/-- Whatever is cells lies as it lay, but for some blocks. -/
def KeptC (ex : List Nat) (W W' : World) : Prop := W.heap.size ≤ W'.heap.size ∧ ∀ (k : Nat) (o : Obj), W.heap[k]? = some o → o.isCells = true → k ∉ ex → W'.heap[k]? = some o
theorem KeptC.refl (ex : List Nat) (W : World) : KeptC ex W W := ⟨Nat.le_refl _, fun _ _ h _ _ => h⟩
theorem KeptC.trans {ex : List Nat} {a b c : World} (h : KeptC ex a b) (k : KeptC ex b c) : KeptC ex a c := ⟨Nat.le_trans h.1 k.1, fun i o hi ho hn => k.2 i o (h.2 i o hi ho hn) ho hn⟩
theorem KeptC.of_below {ex : List Nat} {a b : World} (h : Below a.heap.size a b) : KeptC ex a b := ⟨h.size, fun k o hk _ _ => (h.block k (Array.getElem?_eq_some_iff.1 hk).1).trans hk⟩
theorem KeptC.set {ex : List Nat} {w : World} {p : Addr} (hp : p.block ∈ ex) (v : Value) : KeptC ex w (w.setCell p v) := ⟨by simp, fun k o hk _ hn => (Below.heap_setCell w p v k (fun e => hn (by rw [e]; exact hp))).trans hk⟩
theorem KeptC.cell {ex : List Nat} {a w : World} (h : KeptC ex a w) {b i : Nat} {v : Value} (hv : a.cell? ⟨b, i, none⟩ = some v) (hb : b ∉ ex) : w.cell? ⟨b, i, none⟩ = some v := by
  obtain ⟨o, ho, hc⟩ := cells_of_cell hv
  exact (World.cell?_of_block (a := ⟨b, i, none⟩) ((h.2 b o ho hc hb).trans ho.symm)).trans hv
theorem KeptC.blk {ex : List Nat} {a w : World} (h : KeptC ex a w) {b : Nat} {c : Array Value} {t : TypeId} (hv : HasBlk a b c t) (hb : b ∉ ex) : HasBlk w b c t := h.2 b _ hv rfl hb
theorem keptC_t {ex : List Nat} {A B C : World} (h : KeptC ex A B) (k : KeptC ex B C) : KeptC ex A C := h.trans k
theorem keptC_b {ex : List Nat} {w : World} (W : World) (n : Nat) (o o' : Obj) (hn : w.heap.size ≤ n) (h : W.heap[n]? = some o) (hc : o.isCells = false) (_ : o.isWalk = false) : KeptC ex W (W.putObj n o') :=
  ⟨by simp, fun k o2 hk ho _ => by
    refine (World.putObj_heap_other (fun e => ?_)).trans hk
    subst e
    rw [h] at hk
    cases hk
    rw [hc] at ho
    cases ho⟩

/-- The least masses of the first weights, and their moments. -/
def lowM (l : List Wt) (pl : Wt → Int) : Nat → Int × Int
  | 0 => (0, 0)
  | k + 1 => ((lowM l pl k).1 + (wv l k).mass.lo, (lowM l pl k).2 + (wv l k).mass.lo * pl (wv l k))
/-- The first ones with their greatest masses, all others with their least ones. -/
def mixP (l : List Wt) (pl : Wt → Int) : Nat → Int × Int
  | 0 => lowM l pl l.length
  | k + 1 => ((mixP l pl k).1 + ((wv l k).mass.hi - (wv l k).mass.lo), (mixP l pl k).2 + ((wv l k).mass.hi - (wv l k).mass.lo) * pl (wv l k))
/-- A mass above 0, and a moment, that are not too great. -/
def MixOk (p : Int × Int) : Prop := 1 ≤ p.1 ∧ p.1 ≤ 1000000000000 ∧ -1000000000000000000 ≤ p.2 ∧ p.2 ≤ 1000000000000000000
abbrev Mx := { p : Int × Int // MixOk p }
def encM (x : Mx) : Array Value := #[.int .i64 x.1.1, .int .i64 x.1.2]
instance : Inhabited Mx := ⟨⟨(1, 0), by unfold MixOk; decide⟩⟩
open Classical in
noncomputable def mxOf (l : List Wt) (pl : Wt → Int) (k : Nat) : Mx := if h : MixOk (mixP l pl k) then ⟨mixP l pl k, h⟩ else default
theorem mxOf_val {l : List Wt} {pl : Wt → Int} {k : Nat} (h : MixOk (mixP l pl k)) : (mxOf l pl k).1 = mixP l pl k := by unfold mxOf; rw [dif_pos h]

/-- Valid weights, with a place each. -/
structure WtsOk (l : List Wt) (pl : Wt → Int) : Prop where
  n : l.length ≤ 41
  w : ∀ k, k < l.length → isWt (wv l k)
  pl : ∀ k, k < l.length → -1000000 ≤ pl (wv l k) ∧ pl (wv l k) ≤ 1000000
  pos : ∃ k, k < l.length ∧ 1 ≤ (wv l k).mass.lo

theorem mul_in {m p M : Int} (hm : 0 ≤ m) (hM : m ≤ M) (h1 : -1000000 ≤ p) (h2 : p ≤ 1000000) : -(M * 1000000) ≤ m * p ∧ m * p ≤ M * 1000000 := by
  have a : m * p ≤ m * 1000000 := Int.mul_le_mul_of_nonneg_left h2 hm
  have b : m * (-1000000) ≤ m * p := Int.mul_le_mul_of_nonneg_left h1 hm
  omega

theorem WtsOk.low {l : List Wt} {pl : Wt → Int} (h : WtsOk l pl) : ∀ k, k ≤ l.length → (0 ≤ (lowM l pl k).1 ∧ (lowM l pl k).1 ≤ k * 1000000000) ∧ (-(k * 1000000000000000) ≤ (lowM l pl k).2 ∧ (lowM l pl k).2 ≤ k * 1000000000000000) ∧ ((∃ j, j < k ∧ 1 ≤ (wv l j).mass.lo) → 1 ≤ (lowM l pl k).1)
  | 0, _ => ⟨⟨Int.le_refl _, by show (0 : Int) ≤ ((0 : Nat) : Int) * 1000000000; omega⟩, ⟨by show -(((0 : Nat) : Int) * 1000000000000000) ≤ 0; omega, by show (0 : Int) ≤ ((0 : Nat) : Int) * 1000000000000000; omega⟩, fun ⟨j, hj, _⟩ => by omega⟩
  | k + 1, hk => by
    obtain ⟨⟨a1, a2⟩, ⟨b1, b2⟩, c⟩ := h.low k (by omega)
    obtain ⟨⟨w1, w2, w3⟩, _, _⟩ := h.w k (by omega)
    obtain ⟨p1, p2⟩ := h.pl k (by omega)
    have m := mul_in (m := (wv l k).mass.lo) (M := 1000000000) w1 (by omega) p1 p2
    unfold lowM
    dsimp only
    refine ⟨⟨by omega, by omega⟩, ⟨by omega, by omega⟩, fun ⟨j, hj, hp⟩ => ?_⟩
    by_cases e : j = k
    · subst e; omega
    · have := c ⟨j, by omega, hp⟩
      omega
theorem WtsOk.mix {l : List Wt} {pl : Wt → Int} (h : WtsOk l pl) : ∀ k, k ≤ l.length → (1 ≤ (mixP l pl k).1 ∧ (mixP l pl k).1 ≤ (l.length + k) * 1000000000) ∧ (-((l.length + k) * 1000000000000000) ≤ (mixP l pl k).2 ∧ (mixP l pl k).2 ≤ (l.length + k) * 1000000000000000)
  | 0, _ => by
    obtain ⟨⟨a1, a2⟩, ⟨b1, b2⟩, c⟩ := h.low l.length (Nat.le_refl _)
    have := c h.pos
    unfold mixP
    exact ⟨⟨this, by omega⟩, by omega, by omega⟩
  | k + 1, hk => by
    obtain ⟨⟨a1, a2⟩, b1, b2⟩ := h.mix k (by omega)
    obtain ⟨⟨w1, w2, w3⟩, _, _⟩ := h.w k (by omega)
    obtain ⟨p1, p2⟩ := h.pl k (by omega)
    have m := mul_in (m := (wv l k).mass.hi - (wv l k).mass.lo) (M := 1000000000) (by omega) (by omega) p1 p2
    unfold mixP
    dsimp only
    exact ⟨⟨by omega, by omega⟩, by omega, by omega⟩
theorem WtsOk.mxOk {l : List Wt} {pl : Wt → Int} (h : WtsOk l pl) {k : Nat} (hk : k ≤ l.length) : MixOk (mixP l pl k) := by
  obtain ⟨⟨a1, a2⟩, b1, b2⟩ := h.mix k hk
  have := h.n
  exact ⟨a1, by omega, by omega, by omega⟩

theorem cond_mixes (p : Option Addr) (n c : Nat) (g : FuncId) (bo : Nat) (w : World) :
    Calls Tryz.prog 129 #[.slice p n c, .func (.func g) #[] #[.pointer (some ⟨bo, 0, none⟩)]] w fun e w' => e = .returned (.func (.func 150) #[] #[.pointer (some ⟨w.heap.size, 0, none⟩), .pointer (some ⟨w.heap.size + 1, 0, none⟩)]) ∧ w' = (w.alloc (.cells #[.slice p n c] 56)).alloc (.cells #[.func (.func g) #[] #[.pointer (some ⟨bo, 0, none⟩)]] 171) := by
  go_enter Tryz.func129, Tryz.ntmps129
  go_wp2
  go_ret
  exact ⟨rfl, rfl⟩

theorem mixes_in1 {g : FuncId} {sel : Wt → Rg} (hg : SelFn g sel) (m : Nat) (hm : 1 ≤ m) (ex : List Nat) (lp b1 b2 bo blk off n cap : Nat) (xs : List Wt) (hok : WtsOk xs (fun x => (sel x).lo)) (hlc : n ≤ cap) (hcap : cap ≤ 9223372036854775807) (hxs : xs.length = n) (J Jx : List Mx → World → Prop)
    (hY : ∀ pre x W, J pre W → pre.length < n + 1 → YieldAt Fence.wide (m - 1) Tryz.prog lp (encM x) W fun e W' =>
      (e = .returned (.bool true) ∧ J (pre ++ [x]) W' ∧ KeptC ex W W') ∨ (e = .returned (.bool false) ∧ Jx (pre ++ [x]) W'))
    (hJ : ∀ s A B, J s A → Below A.heap.size A B → J s B)
    (W : World) (h1 : W.cell? ⟨b1, 0, none⟩ = some (.slice (some ⟨blk, off, none⟩) n cap)) (h2 : W.cell? ⟨b2, 0, none⟩ = some (.func (.func 127) #[] #[.pointer (some ⟨bo, 0, none⟩)])) (h3 : W.cell? ⟨bo, 0, none⟩ = some (.func (.func g) #[] #[])) (hex : ∀ k ∈ ex, k < W.heap.size ∧ k ≠ blk ∧ k ≠ b1 ∧ k ≠ b2 ∧ k ≠ bo)
    (hc : WsAt W ⟨some ⟨blk, off, none⟩, n, cap, xs⟩) (h0 : J [] W) :
    CallsIn Fence.wide m Tryz.prog 150 #[.func (.yield lp) #[] #[], .pointer (some ⟨b1, 0, none⟩), .pointer (some ⟨b2, 0, none⟩)] W fun e W' => (∃ v, e = .returned v) ∧
      ((∃ ys, ys = upto (mxOf xs (fun x => (sel x).lo)) (n + 1) ∧ J ys W') ∨ (∃ pre, (∃ k, k ≤ n + 1 ∧ pre = upto (mxOf xs (fun x => (sel x).lo)) k) ∧ Jx pre W')) := by
  have hlt0 : blk < W.heap.size ∨ n = 0 := by
    by_cases h : n = 0
    · exact .inr h
    · obtain ⟨b', o', e, hb, _⟩ := hc.2.2.2 h
      cases e
      exact .inl hb
  have hT : ∀ f, Fence.wide.fn f := fun _ => trivial
  refine callsIn_of_wp Tryz.func150 rfl trivial ?_ rfl
  simp only [Tryz.ntmps150, List.size_toArray, List.length_cons, List.length_nil, Nat.reduceAdd, Nat.reduceSub, Array.replicate_succ, Array.replicate_zero, List.push_toArray, List.append_toArray, List.nil_append, List.cons_append]
  have HC := Lib.hid hc
  have HX := Lib.hid hxs
  have HOK := Lib.hid hok
  have hn41 : n ≤ 41 := by have := hok.n; omega
  have H3 := Lib.hid h3
  have LB2 := Lib.hid (World.block_lt_of_cell? _ _ h2)
  have LB1 := Lib.hid (World.block_lt_of_cell? _ _ h1)
  have LBo := Lib.hid (World.block_lt_of_cell? _ _ h3)
  have hcf : ∀ args W, Sem.run Tryz.prog (callFunc 127 args) W = .ok (.enter 127 args) W := enters_of Tryz.func127 (by kernel_rfl) rfl
  clear hc hxs hok h3
  have l1 := Soft.LtH.mk (b := b1) (w := W) LB1.out
  gi_wp2
  gi_loopw [4, 5, 13] (fun ma mo i wr => ∃ k : Nat, k ≤ n ∧ i = .int .i64 k ∧ ma = .int .i64 (lowM xs (fun x => (sel x).lo) k).1 ∧ mo = .int .i64 (lowM xs (fun x => (sel x).lo) k).2 ∧ Below W.heap.size W wr) (fun _ _ i _ => n - (intOf i).toNat)
  case atStart => exact ⟨0, Nat.zero_le _, rfl, rfl, rfl, Below.refl _ _⟩
  case round =>
    obtain ⟨k, hk, rfl, rfl, rfl, hB⟩ := hrel
    by_cases hlt : k < n
    · obtain ⟨b', o', e, hb, hcs⟩ := (HC.out.same hB).cells (by dsimp only; omega)
      cases e
      obtain ⟨c0, c1, c2, c3, c4, c5⟩ := hcs k hlt
      dsimp only at c0 c1 c2 c3 c4 c5
      have HNX := Lib.hid (show lowM xs (fun x => (sel x).lo) (k + 1) = ((lowM xs (fun x => (sel x).lo) k).1 + (wv xs k).mass.lo, (lowM xs (fun x => (sel x).lo) k).2 + (wv xs k).mass.lo * (sel (wv xs k)).lo) from rfl)
      obtain ⟨⟨a1, a2⟩, ⟨a3, a4⟩, _⟩ := HOK.out.low k (by have := HX.out; omega)
      obtain ⟨⟨w1, w2, w3⟩, _, _⟩ := HOK.out.w k (by have := HX.out; omega)
      obtain ⟨p1, p2⟩ := HOK.out.pl k (by have := HX.out; omega)
      have hmul := mul_in (m := (wv xs k).mass.lo) (M := 1000000000) w1 (by omega) p1 p2
      have lb := Soft.LtH.mk (b := blk) (w := wr) hb
      have l2 := Soft.LtH.mk (b := b2) (w := wr) (Nat.lt_of_lt_of_le LB2.out hB.size)
      have d2 := (hB.cell (p := ⟨b2, 0, none⟩) LB2.out).trans h2
      have CP := Lib.hid (fun W' (hb_ : Below wr.heap.size wr W') => centre_fn1 hg (wv xs k) bo W' ((hb_.cell (p := ⟨bo, 0, none⟩) (Nat.lt_of_lt_of_le LBo.out hB.size)).trans ((hB.cell (p := ⟨bo, 0, none⟩) LBo.out).trans H3.out)))
      have HB := Lib.hid hB
      clear hcs hB h1 h2 h0
      generalize lowM xs (fun x => (sel x).lo) k = st at *
      generalize wv xs k = q at *
      generalize (sel q).lo = pv at *
      obtain ⟨m1, m2⟩ := hmul
      generalize hpr : q.mass.lo * pv = pr at *
      gi_wp2_with fail
      refine wpIn_wide.2 ?_
      ((refine Soft.region_mix [(true, 0), (true, 1), (true, 2), (true, 3), (true, 4), (true, 5), (false, 6), (true, 7), (true, 8), (true, 9)] [] (by kernel_rfl) (by kernel_rfl) (by kernel_rfl) (by kernel_rfl) ?_; change Soft.wpMix _ _ _ _ [(true, _), (true, _), (true, _), (true, _), (true, _), (true, _), (false, _), (true, _), (true, _), (true, _)] _ _); (refine Soft.mix_q (fun K hK => ?_); go_simp; (try go_bits); first | (refine hK _ ?_; clear hK K) | (apply Exists.intro; refine ⟨fun x => ?_, hK _ ?_⟩; fail)); (refine Soft.mix_q (fun K hK => ?_); go_simp; (try go_bits); first | (refine hK _ ?_; clear hK K) | (apply Exists.intro; refine ⟨fun x => ?_, hK _ ?_⟩; fail)); (refine Soft.mix_q (fun K hK => ?_); go_simp; (try go_bits); first | (refine hK _ ?_; clear hK K) | (apply Exists.intro; refine ⟨fun x => ?_, hK _ ?_⟩; fail)); (refine Soft.mix_q (fun K hK => ?_); go_simp; (try go_bits); first | (refine hK _ ?_; clear hK K) | (apply Exists.intro; refine ⟨fun x => ?_, hK _ ?_⟩; fail)); (refine Soft.mix_q (fun K hK => ?_); go_simp; (try go_bits); first | (refine hK _ ?_; clear hK K) | (apply Exists.intro; refine ⟨fun x => ?_, hK _ ?_⟩; fail)); (refine Soft.mix_q (fun K hK => ?_); go_simp; (try go_bits); first | (refine hK _ ?_; clear hK K) | (apply Exists.intro; refine ⟨fun x => ?_, hK _ ?_⟩; fail)); (refine Soft.mix_c (fun K hK => ?_); go_simp; (try go_bits); (go_at_call 127; (with_reducible refine (CP.out _ (by (with_reducible repeat (first | exact blr _ | refine bla ?_ _ | refine blw _ ?_ | refine bld ?_ | refine bln _ ?_ | refine bls ?_ _ | refine blt ?_)))).mono ?_); rintro e w_ ⟨rfl, hb_⟩; have hb_ := hb_.below; obtain ⟨y1, rfl⟩ := Soft.BW.mk hb_; clear hb_; refine ⟨_, rfl, (by first | with_reducible exact Soft.BW.below y1 | simpa using Soft.BW.below y1), hK _ _ ?_⟩); clear hK K); (refine Soft.mix_q (fun K hK => ?_); go_simp; (try go_bits); first | (refine hK _ ?_; clear hK K) | (apply Exists.intro; refine ⟨fun x => ?_, hK _ ?_⟩; fail)); (refine Soft.mix_q (fun K hK => ?_); go_simp; (try go_bits); first | (refine hK _ ?_; clear hK K) | (apply Exists.intro; refine ⟨fun x => ?_, hK _ ?_⟩; fail)); (refine Soft.mix_q (fun K hK => ?_); go_simp; (try go_bits); first | (refine hK _ ?_; clear hK K) | (apply Exists.intro; refine ⟨fun x => ?_, hK _ ?_⟩; fail)); (refine Soft.mix_nil ?_; intro hbx; change wpList _ _ _ [] _ _))
      go_wp2_with fail
      gi_wp2
      go_roundw
      case rel => exact ⟨k + 1, by omega, by simp, by rw [HNX.out], by rw [HNX.out], HB.out.trans ((show Below wr.heap.size wr _ by (with_reducible repeat (first | exact blr _ | refine bla ?_ _ | refine blw _ ?_ | refine bld ?_ | refine bln _ ?_ | refine bls ?_ _ | refine blt ?_))).mono HB.out.size)⟩
      case measure => simp [intOf]; omega
    · obtain rfl : k = n := by omega
      have hE : lowM xs (fun x => (sel x).lo) k = mixP xs (fun x => (sel x).lo) 0 := by show _ = lowM xs _ xs.length; rw [HX.out]
      rw [hE]
      clear hE
      have d1 := (hB.cell (p := ⟨b1, 0, none⟩) LB1.out).trans h1
      have l1 := Soft.LtH.mk (b := b1) (w := wr) (Nat.lt_of_lt_of_le LB1.out hB.size)
      have HB := Lib.hid hB
      clear hB
      gi_wp2
      rename World => W1
      have hj0 : J [] W1 := hJ _ _ _ h0 HB.out
      gi_loopw [4, 5, 34] (fun ma mo i wr => ∃ j : Nat, j ≤ k ∧ i = .int .i64 j ∧ ma = .int .i64 (mixP xs (fun x => (sel x).lo) j).1 ∧ mo = .int .i64 (mixP xs (fun x => (sel x).lo) j).2 ∧ J (upto (mxOf xs (fun x => (sel x).lo)) j) wr ∧ KeptC ex W wr) (fun _ _ i _ => k - (intOf i).toNat)
      case atStart => exact ⟨0, Nat.zero_le _, rfl, rfl, rfl, hj0, KeptC.of_below HB.out⟩
      case round =>
        obtain ⟨j, hj, rfl, rfl, rfl, hJs, hK⟩ := hrel
        have hmx := HOK.out.mxOk (k := j) (by have := HX.out; omega)
        have HEN := Lib.hid (show encM (mxOf xs (fun x => (sel x).lo) j) = #[.int .i64 (mixP xs (fun x => (sel x).lo) j).1, .int .i64 (mixP xs (fun x => (sel x).lo) j).2] by unfold encM; rw [mxOf_val hmx])
        have HSU := Lib.hid (upto_succ (mxOf xs (fun x => (sel x).lo)) j)
        have hlu : (upto (mxOf xs (fun x => (sel x).lo)) j).length < k + 1 := by rw [upto_length]; omega
        have hex' : blk ∉ ex ∧ b1 ∉ ex ∧ b2 ∉ ex ∧ bo ∉ ex := ⟨fun h => (hex _ h).2.1 rfl, fun h => (hex _ h).2.2.1 rfl, fun h => (hex _ h).2.2.2.1 rfl, fun h => (hex _ h).2.2.2.2 rfl⟩
        have HK := Lib.hid hK
        by_cases hlt : j < k
        · obtain ⟨b', o', e, hb, hcs⟩ := HC.out.cells (by dsimp only; omega)
          cases e
          obtain ⟨c0, c1, c2, c3, c4, c5⟩ := hcs j hlt
          have c0 := hK.cell c0 hex'.1
          have c1 := hK.cell c1 hex'.1
          have c2 := hK.cell c2 hex'.1
          have c3 := hK.cell c3 hex'.1
          have c4 := hK.cell c4 hex'.1
          have c5 := hK.cell c5 hex'.1
          dsimp only at c0 c1 c2 c3 c4 c5
          have d2 := hK.cell h2 hex'.2.2.1
          have d3 := hK.cell H3.out hex'.2.2.2
          have HNX := Lib.hid (show mixP xs (fun x => (sel x).lo) (j + 1) = ((mixP xs (fun x => (sel x).lo) j).1 + ((wv xs j).mass.hi - (wv xs j).mass.lo), (mixP xs (fun x => (sel x).lo) j).2 + ((wv xs j).mass.hi - (wv xs j).mass.lo) * (sel (wv xs j)).lo) from rfl)
          obtain ⟨a1, a2, a3, a4⟩ := hmx
          obtain ⟨⟨w1, w2, w3⟩, _, _⟩ := HOK.out.w j (by have := HX.out; omega)
          obtain ⟨p1, p2⟩ := HOK.out.pl j (by have := HX.out; omega)
          have hmul := mul_in (m := (wv xs j).mass.hi - (wv xs j).mass.lo) (M := 1000000000) (by omega) (by omega) p1 p2
          have lb := Soft.LtH.mk (b := blk) (w := wr) (World.block_lt_of_cell? _ _ c0)
          have l2 := Soft.LtH.mk (b := b2) (w := wr) (World.block_lt_of_cell? _ _ d2)
          have l3 := Soft.LtH.mk (b := bo) (w := wr) (World.block_lt_of_cell? _ _ d3)
          have CP := Lib.hid (fun W' h => centre_fn1 hg (wv xs j) bo W' h)
          have D2 := Lib.hid d2; have D3 := Lib.hid d3
          have hnew : wr.heap.size ∉ ex := fun h => by have := (hex _ h).1; have := HK.out.1; omega
          clear hcs hK h1 h2 h0 hj0 d3
          generalize mixP xs (fun x => (sel x).lo) j = st at *
          generalize wv xs j = q at *
          generalize (sel q).lo = pv at *
          obtain ⟨m1, m2⟩ := hmul
          generalize hpr : (q.mass.hi - q.mass.lo) * pv = pr at *
          have hJ2 : J (upto (mxOf xs (fun x => (sel x).lo)) j) (wr.alloc (.cells #[.int .i64 ((q).mass).lo, .int .i64 ((q).mass).hi, .int .i64 ((q).along).lo, .int .i64 ((q).along).hi, .int .i64 ((q).high).lo, .int .i64 ((q).high).hi] 29)) := hJ _ _ _ hJs ((Below.refl _ _).alloc (Nat.le_refl _) _)
          obtain ⟨fn, tmps, assign, body, hy, hR⟩ := hY _ (mxOf xs (fun x => (sel x).lo) j) _ hJ2 hlu
          rw [HEN.out] at hy
          gi_wp2
          refine hR.mono ?_
          rintro e W3 (⟨rfl, hJ3, hk3⟩ | ⟨rfl, hJx3⟩)
          · have x1 := hk3.blk (Soft.heap_new wr (.cells #[.int .i64 ((q).mass).lo, .int .i64 ((q).mass).hi, .int .i64 ((q).along).lo, .int .i64 ((q).along).hi, .int .i64 ((q).high).lo, .int .i64 ((q).high).hi] 29)) hnew
            have e0 := HasBlk.cell x1 0
            have e1 := HasBlk.cell x1 1
            have e2 := HasBlk.cell x1 2
            have e3 := HasBlk.cell x1 3
            have e4 := HasBlk.cell x1 4
            have e5 := HasBlk.cell x1 5
            simp at e0 e1 e2 e3 e4 e5
            have d4 := (hk3.cell (by rw [Soft.cell_alloc_if]; exact D2.out) hex'.2.2.1)
            have d5 := (hk3.cell (by rw [Soft.cell_alloc_if]; exact D3.out) hex'.2.2.2)
            have lx := Soft.LtH.mk (b := wr.heap.size) (w := W3) (HasBlk.lt x1)
            have ly := Soft.LtH.mk (b := b2) (w := W3) (World.block_lt_of_cell? _ _ d4)
            have D5 := Lib.hid d5
            have HK3 := Lib.hid (HK.out.trans ((KeptC.of_below ((Below.refl _ _).alloc (Nat.le_refl _) _)).trans hk3))
            clear x1 d5 hk3 hy hR
            gi_wp2_with (gi_at_call 127; refine (callsIn_wide.2 (CP.out _ D5.out)).mono ?_; rintro e w_ ⟨rfl, hg_⟩)
            go_roundw
            case rel => exact ⟨j + 1, by omega, by simp, by rw [HNX.out], by rw [HNX.out], by rw [HSU.out]; exact hJ _ _ _ hJ3 hg_.below, HK3.out.trans (KeptC.of_below hg_.below)⟩
            case measure => simp [intOf]; omega
          · gi_wp2
            refine bodyPost_ret (results_none rfl _ _ _) rfl ?_
            exact ⟨⟨_, rfl⟩, .inr ⟨_, ⟨j + 1, by omega, HSU.out.symm⟩, hJx3⟩⟩
        · obtain rfl : j = k := by omega
          obtain ⟨a1, a2, a3, a4⟩ := hmx
          clear hK h1 h2 h0 hj0
          generalize mixP xs (fun x => (sel x).lo) j = st at *
          obtain ⟨fn, tmps, assign, body, hy, hR⟩ := hY _ (mxOf xs (fun x => (sel x).lo) j) _ hJs hlu
          rw [HEN.out] at hy
          gi_wp2
          refine hR.mono ?_
          rintro e W3 (⟨rfl, hJ3, hk3⟩ | ⟨rfl, hJx3⟩)
          · gi_wp2
            go_end0
            exact ⟨⟨_, rfl⟩, .inl ⟨_, rfl, by rw [HSU.out]; exact hJ3⟩⟩
          · gi_wp2
            go_end0
            exact ⟨⟨_, rfl⟩, .inr ⟨_, ⟨j + 1, by omega, HSU.out.symm⟩, hJx3⟩⟩

theorem mixes_stops1 {g : FuncId} {sel : Wt → Rg} (hg : SelFn g sel) (m : Nat) (hm : 1 ≤ m) (ex : List Nat) (b1 b2 bo blk off n cap : Nat) (xs : List Wt) (hok : WtsOk xs (fun x => (sel x).lo)) (w : World)
    (h1 : w.cell? ⟨b1, 0, none⟩ = some (.slice (some ⟨blk, off, none⟩) n cap)) (h2 : w.cell? ⟨b2, 0, none⟩ = some (.func (.func 127) #[] #[.pointer (some ⟨bo, 0, none⟩)])) (h3 : w.cell? ⟨bo, 0, none⟩ = some (.func (.func g) #[] #[])) (hex : ∀ k ∈ ex, k < w.heap.size ∧ k ≠ blk ∧ k ≠ b1 ∧ k ≠ b2 ∧ k ≠ bo)
    (hc : WsAt w ⟨some ⟨blk, off, none⟩, n, cap, xs⟩) :
    SeqStopsK Fence.wide m Tryz.prog 150 #[.pointer (some ⟨b1, 0, none⟩), .pointer (some ⟨b2, 0, none⟩)] encM (KeptC ex) (fun ys => ys = upto (mxOf xs (fun x => (sel x).lo)) (n + 1)) (fun pre => ∃ k, k ≤ n + 1 ∧ pre = upto (mxOf xs (fun x => (sel x).lo)) k) (n + 1) w := fun l J Jx W hW hJ _ hY h0 => by
  have hJ' : ∀ s A B, J s A → Below A.heap.size A B → J s B := fun s A B hs hAB => hJ s A B none hs ⟨hAB.os, hAB.tape, hAB.output, hAB.size, fun k hk _ => hAB.block k hk⟩ (fun r e => by cases e)
  have hb1 := World.block_lt_of_cell? _ _ h1
  have hb2 := World.block_lt_of_cell? _ _ h2
  have hb3 := World.block_lt_of_cell? _ _ h3
  exact mixes_in1 hg m hm ex l b1 b2 bo blk off n cap xs hok hc.2.1 hc.2.2.1 hc.1 J Jx hY hJ' W ((hW.cell (p := ⟨b1, 0, none⟩) hb1).trans h1) ((hW.cell (p := ⟨b2, 0, none⟩) hb2).trans h2) ((hW.cell (p := ⟨bo, 0, none⟩) hb3).trans h3) (fun k hk => ⟨Nat.lt_of_lt_of_le (hex k hk).1 hW.size, (hex k hk).2⟩) (hc.same hW) h0
theorem mixes_in2 {g : FuncId} {sel : Wt → Rg} (hg : SelFn g sel) (m : Nat) (hm : 1 ≤ m) (ex : List Nat) (lp b1 b2 bo blk off n cap : Nat) (xs : List Wt) (hok : WtsOk xs (fun x => (sel x).hi)) (hlc : n ≤ cap) (hcap : cap ≤ 9223372036854775807) (hxs : xs.length = n) (J Jx : List Mx → World → Prop)
    (hY : ∀ pre x W, J pre W → pre.length < n + 1 → YieldAt Fence.wide (m - 1) Tryz.prog lp (encM x) W fun e W' =>
      (e = .returned (.bool true) ∧ J (pre ++ [x]) W' ∧ KeptC ex W W') ∨ (e = .returned (.bool false) ∧ Jx (pre ++ [x]) W'))
    (hJ : ∀ s A B, J s A → Below A.heap.size A B → J s B)
    (W : World) (h1 : W.cell? ⟨b1, 0, none⟩ = some (.slice (some ⟨blk, off, none⟩) n cap)) (h2 : W.cell? ⟨b2, 0, none⟩ = some (.func (.func 128) #[] #[.pointer (some ⟨bo, 0, none⟩)])) (h3 : W.cell? ⟨bo, 0, none⟩ = some (.func (.func g) #[] #[])) (hex : ∀ k ∈ ex, k < W.heap.size ∧ k ≠ blk ∧ k ≠ b1 ∧ k ≠ b2 ∧ k ≠ bo)
    (hc : WsAt W ⟨some ⟨blk, off, none⟩, n, cap, xs⟩) (h0 : J [] W) :
    CallsIn Fence.wide m Tryz.prog 150 #[.func (.yield lp) #[] #[], .pointer (some ⟨b1, 0, none⟩), .pointer (some ⟨b2, 0, none⟩)] W fun e W' => (∃ v, e = .returned v) ∧
      ((∃ ys, ys = upto (mxOf xs (fun x => (sel x).hi)) (n + 1) ∧ J ys W') ∨ (∃ pre, (∃ k, k ≤ n + 1 ∧ pre = upto (mxOf xs (fun x => (sel x).hi)) k) ∧ Jx pre W')) := by
  have hlt0 : blk < W.heap.size ∨ n = 0 := by
    by_cases h : n = 0
    · exact .inr h
    · obtain ⟨b', o', e, hb, _⟩ := hc.2.2.2 h
      cases e
      exact .inl hb
  have hT : ∀ f, Fence.wide.fn f := fun _ => trivial
  refine callsIn_of_wp Tryz.func150 rfl trivial ?_ rfl
  simp only [Tryz.ntmps150, List.size_toArray, List.length_cons, List.length_nil, Nat.reduceAdd, Nat.reduceSub, Array.replicate_succ, Array.replicate_zero, List.push_toArray, List.append_toArray, List.nil_append, List.cons_append]
  have HC := Lib.hid hc
  have HX := Lib.hid hxs
  have HOK := Lib.hid hok
  have hn41 : n ≤ 41 := by have := hok.n; omega
  have H3 := Lib.hid h3
  have LB2 := Lib.hid (World.block_lt_of_cell? _ _ h2)
  have LB1 := Lib.hid (World.block_lt_of_cell? _ _ h1)
  have LBo := Lib.hid (World.block_lt_of_cell? _ _ h3)
  have hcf : ∀ args W, Sem.run Tryz.prog (callFunc 128 args) W = .ok (.enter 128 args) W := enters_of Tryz.func128 (by kernel_rfl) rfl
  clear hc hxs hok h3
  have l1 := Soft.LtH.mk (b := b1) (w := W) LB1.out
  gi_wp2
  gi_loopw [4, 5, 13] (fun ma mo i wr => ∃ k : Nat, k ≤ n ∧ i = .int .i64 k ∧ ma = .int .i64 (lowM xs (fun x => (sel x).hi) k).1 ∧ mo = .int .i64 (lowM xs (fun x => (sel x).hi) k).2 ∧ Below W.heap.size W wr) (fun _ _ i _ => n - (intOf i).toNat)
  case atStart => exact ⟨0, Nat.zero_le _, rfl, rfl, rfl, Below.refl _ _⟩
  case round =>
    obtain ⟨k, hk, rfl, rfl, rfl, hB⟩ := hrel
    by_cases hlt : k < n
    · obtain ⟨b', o', e, hb, hcs⟩ := (HC.out.same hB).cells (by dsimp only; omega)
      cases e
      obtain ⟨c0, c1, c2, c3, c4, c5⟩ := hcs k hlt
      dsimp only at c0 c1 c2 c3 c4 c5
      have HNX := Lib.hid (show lowM xs (fun x => (sel x).hi) (k + 1) = ((lowM xs (fun x => (sel x).hi) k).1 + (wv xs k).mass.lo, (lowM xs (fun x => (sel x).hi) k).2 + (wv xs k).mass.lo * (sel (wv xs k)).hi) from rfl)
      obtain ⟨⟨a1, a2⟩, ⟨a3, a4⟩, _⟩ := HOK.out.low k (by have := HX.out; omega)
      obtain ⟨⟨w1, w2, w3⟩, _, _⟩ := HOK.out.w k (by have := HX.out; omega)
      obtain ⟨p1, p2⟩ := HOK.out.pl k (by have := HX.out; omega)
      have hmul := mul_in (m := (wv xs k).mass.lo) (M := 1000000000) w1 (by omega) p1 p2
      have lb := Soft.LtH.mk (b := blk) (w := wr) hb
      have l2 := Soft.LtH.mk (b := b2) (w := wr) (Nat.lt_of_lt_of_le LB2.out hB.size)
      have d2 := (hB.cell (p := ⟨b2, 0, none⟩) LB2.out).trans h2
      have CP := Lib.hid (fun W' (hb_ : Below wr.heap.size wr W') => centre_fn2 hg (wv xs k) bo W' ((hb_.cell (p := ⟨bo, 0, none⟩) (Nat.lt_of_lt_of_le LBo.out hB.size)).trans ((hB.cell (p := ⟨bo, 0, none⟩) LBo.out).trans H3.out)))
      have HB := Lib.hid hB
      clear hcs hB h1 h2 h0
      generalize lowM xs (fun x => (sel x).hi) k = st at *
      generalize wv xs k = q at *
      generalize (sel q).hi = pv at *
      obtain ⟨m1, m2⟩ := hmul
      generalize hpr : q.mass.lo * pv = pr at *
      gi_wp2_with fail
      refine wpIn_wide.2 ?_
      ((refine Soft.region_mix [(true, 0), (true, 1), (true, 2), (true, 3), (true, 4), (true, 5), (false, 6), (true, 7), (true, 8), (true, 9)] [] (by kernel_rfl) (by kernel_rfl) (by kernel_rfl) (by kernel_rfl) ?_; change Soft.wpMix _ _ _ _ [(true, _), (true, _), (true, _), (true, _), (true, _), (true, _), (false, _), (true, _), (true, _), (true, _)] _ _); (refine Soft.mix_q (fun K hK => ?_); go_simp; (try go_bits); first | (refine hK _ ?_; clear hK K) | (apply Exists.intro; refine ⟨fun x => ?_, hK _ ?_⟩; fail)); (refine Soft.mix_q (fun K hK => ?_); go_simp; (try go_bits); first | (refine hK _ ?_; clear hK K) | (apply Exists.intro; refine ⟨fun x => ?_, hK _ ?_⟩; fail)); (refine Soft.mix_q (fun K hK => ?_); go_simp; (try go_bits); first | (refine hK _ ?_; clear hK K) | (apply Exists.intro; refine ⟨fun x => ?_, hK _ ?_⟩; fail)); (refine Soft.mix_q (fun K hK => ?_); go_simp; (try go_bits); first | (refine hK _ ?_; clear hK K) | (apply Exists.intro; refine ⟨fun x => ?_, hK _ ?_⟩; fail)); (refine Soft.mix_q (fun K hK => ?_); go_simp; (try go_bits); first | (refine hK _ ?_; clear hK K) | (apply Exists.intro; refine ⟨fun x => ?_, hK _ ?_⟩; fail)); (refine Soft.mix_q (fun K hK => ?_); go_simp; (try go_bits); first | (refine hK _ ?_; clear hK K) | (apply Exists.intro; refine ⟨fun x => ?_, hK _ ?_⟩; fail)); (refine Soft.mix_c (fun K hK => ?_); go_simp; (try go_bits); (go_at_call 128; (with_reducible refine (CP.out _ (by (with_reducible repeat (first | exact blr _ | refine bla ?_ _ | refine blw _ ?_ | refine bld ?_ | refine bln _ ?_ | refine bls ?_ _ | refine blt ?_)))).mono ?_); rintro e w_ ⟨rfl, hb_⟩; have hb_ := hb_.below; obtain ⟨y1, rfl⟩ := Soft.BW.mk hb_; clear hb_; refine ⟨_, rfl, (by first | with_reducible exact Soft.BW.below y1 | simpa using Soft.BW.below y1), hK _ _ ?_⟩); clear hK K); (refine Soft.mix_q (fun K hK => ?_); go_simp; (try go_bits); first | (refine hK _ ?_; clear hK K) | (apply Exists.intro; refine ⟨fun x => ?_, hK _ ?_⟩; fail)); (refine Soft.mix_q (fun K hK => ?_); go_simp; (try go_bits); first | (refine hK _ ?_; clear hK K) | (apply Exists.intro; refine ⟨fun x => ?_, hK _ ?_⟩; fail)); (refine Soft.mix_q (fun K hK => ?_); go_simp; (try go_bits); first | (refine hK _ ?_; clear hK K) | (apply Exists.intro; refine ⟨fun x => ?_, hK _ ?_⟩; fail)); (refine Soft.mix_nil ?_; intro hbx; change wpList _ _ _ [] _ _))
      go_wp2_with fail
      gi_wp2
      go_roundw
      case rel => exact ⟨k + 1, by omega, by simp, by rw [HNX.out], by rw [HNX.out], HB.out.trans ((show Below wr.heap.size wr _ by (with_reducible repeat (first | exact blr _ | refine bla ?_ _ | refine blw _ ?_ | refine bld ?_ | refine bln _ ?_ | refine bls ?_ _ | refine blt ?_))).mono HB.out.size)⟩
      case measure => simp [intOf]; omega
    · obtain rfl : k = n := by omega
      have hE : lowM xs (fun x => (sel x).hi) k = mixP xs (fun x => (sel x).hi) 0 := by show _ = lowM xs _ xs.length; rw [HX.out]
      rw [hE]
      clear hE
      have d1 := (hB.cell (p := ⟨b1, 0, none⟩) LB1.out).trans h1
      have l1 := Soft.LtH.mk (b := b1) (w := wr) (Nat.lt_of_lt_of_le LB1.out hB.size)
      have HB := Lib.hid hB
      clear hB
      gi_wp2
      rename World => W1
      have hj0 : J [] W1 := hJ _ _ _ h0 HB.out
      gi_loopw [4, 5, 34] (fun ma mo i wr => ∃ j : Nat, j ≤ k ∧ i = .int .i64 j ∧ ma = .int .i64 (mixP xs (fun x => (sel x).hi) j).1 ∧ mo = .int .i64 (mixP xs (fun x => (sel x).hi) j).2 ∧ J (upto (mxOf xs (fun x => (sel x).hi)) j) wr ∧ KeptC ex W wr) (fun _ _ i _ => k - (intOf i).toNat)
      case atStart => exact ⟨0, Nat.zero_le _, rfl, rfl, rfl, hj0, KeptC.of_below HB.out⟩
      case round =>
        obtain ⟨j, hj, rfl, rfl, rfl, hJs, hK⟩ := hrel
        have hmx := HOK.out.mxOk (k := j) (by have := HX.out; omega)
        have HEN := Lib.hid (show encM (mxOf xs (fun x => (sel x).hi) j) = #[.int .i64 (mixP xs (fun x => (sel x).hi) j).1, .int .i64 (mixP xs (fun x => (sel x).hi) j).2] by unfold encM; rw [mxOf_val hmx])
        have HSU := Lib.hid (upto_succ (mxOf xs (fun x => (sel x).hi)) j)
        have hlu : (upto (mxOf xs (fun x => (sel x).hi)) j).length < k + 1 := by rw [upto_length]; omega
        have hex' : blk ∉ ex ∧ b1 ∉ ex ∧ b2 ∉ ex ∧ bo ∉ ex := ⟨fun h => (hex _ h).2.1 rfl, fun h => (hex _ h).2.2.1 rfl, fun h => (hex _ h).2.2.2.1 rfl, fun h => (hex _ h).2.2.2.2 rfl⟩
        have HK := Lib.hid hK
        by_cases hlt : j < k
        · obtain ⟨b', o', e, hb, hcs⟩ := HC.out.cells (by dsimp only; omega)
          cases e
          obtain ⟨c0, c1, c2, c3, c4, c5⟩ := hcs j hlt
          have c0 := hK.cell c0 hex'.1
          have c1 := hK.cell c1 hex'.1
          have c2 := hK.cell c2 hex'.1
          have c3 := hK.cell c3 hex'.1
          have c4 := hK.cell c4 hex'.1
          have c5 := hK.cell c5 hex'.1
          dsimp only at c0 c1 c2 c3 c4 c5
          have d2 := hK.cell h2 hex'.2.2.1
          have d3 := hK.cell H3.out hex'.2.2.2
          have HNX := Lib.hid (show mixP xs (fun x => (sel x).hi) (j + 1) = ((mixP xs (fun x => (sel x).hi) j).1 + ((wv xs j).mass.hi - (wv xs j).mass.lo), (mixP xs (fun x => (sel x).hi) j).2 + ((wv xs j).mass.hi - (wv xs j).mass.lo) * (sel (wv xs j)).hi) from rfl)
          obtain ⟨a1, a2, a3, a4⟩ := hmx
          obtain ⟨⟨w1, w2, w3⟩, _, _⟩ := HOK.out.w j (by have := HX.out; omega)
          obtain ⟨p1, p2⟩ := HOK.out.pl j (by have := HX.out; omega)
          have hmul := mul_in (m := (wv xs j).mass.hi - (wv xs j).mass.lo) (M := 1000000000) (by omega) (by omega) p1 p2
          have lb := Soft.LtH.mk (b := blk) (w := wr) (World.block_lt_of_cell? _ _ c0)
          have l2 := Soft.LtH.mk (b := b2) (w := wr) (World.block_lt_of_cell? _ _ d2)
          have l3 := Soft.LtH.mk (b := bo) (w := wr) (World.block_lt_of_cell? _ _ d3)
          have CP := Lib.hid (fun W' h => centre_fn2 hg (wv xs j) bo W' h)
          have D2 := Lib.hid d2; have D3 := Lib.hid d3
          have hnew : wr.heap.size ∉ ex := fun h => by have := (hex _ h).1; have := HK.out.1; omega
          clear hcs hK h1 h2 h0 hj0 d3
          generalize mixP xs (fun x => (sel x).hi) j = st at *
          generalize wv xs j = q at *
          generalize (sel q).hi = pv at *
          obtain ⟨m1, m2⟩ := hmul
          generalize hpr : (q.mass.hi - q.mass.lo) * pv = pr at *
          have hJ2 : J (upto (mxOf xs (fun x => (sel x).hi)) j) (wr.alloc (.cells #[.int .i64 ((q).mass).lo, .int .i64 ((q).mass).hi, .int .i64 ((q).along).lo, .int .i64 ((q).along).hi, .int .i64 ((q).high).lo, .int .i64 ((q).high).hi] 29)) := hJ _ _ _ hJs ((Below.refl _ _).alloc (Nat.le_refl _) _)
          obtain ⟨fn, tmps, assign, body, hy, hR⟩ := hY _ (mxOf xs (fun x => (sel x).hi) j) _ hJ2 hlu
          rw [HEN.out] at hy
          gi_wp2
          refine hR.mono ?_
          rintro e W3 (⟨rfl, hJ3, hk3⟩ | ⟨rfl, hJx3⟩)
          · have x1 := hk3.blk (Soft.heap_new wr (.cells #[.int .i64 ((q).mass).lo, .int .i64 ((q).mass).hi, .int .i64 ((q).along).lo, .int .i64 ((q).along).hi, .int .i64 ((q).high).lo, .int .i64 ((q).high).hi] 29)) hnew
            have e0 := HasBlk.cell x1 0
            have e1 := HasBlk.cell x1 1
            have e2 := HasBlk.cell x1 2
            have e3 := HasBlk.cell x1 3
            have e4 := HasBlk.cell x1 4
            have e5 := HasBlk.cell x1 5
            simp at e0 e1 e2 e3 e4 e5
            have d4 := (hk3.cell (by rw [Soft.cell_alloc_if]; exact D2.out) hex'.2.2.1)
            have d5 := (hk3.cell (by rw [Soft.cell_alloc_if]; exact D3.out) hex'.2.2.2)
            have lx := Soft.LtH.mk (b := wr.heap.size) (w := W3) (HasBlk.lt x1)
            have ly := Soft.LtH.mk (b := b2) (w := W3) (World.block_lt_of_cell? _ _ d4)
            have D5 := Lib.hid d5
            have HK3 := Lib.hid (HK.out.trans ((KeptC.of_below ((Below.refl _ _).alloc (Nat.le_refl _) _)).trans hk3))
            clear x1 d5 hk3 hy hR
            gi_wp2_with (gi_at_call 128; refine (callsIn_wide.2 (CP.out _ D5.out)).mono ?_; rintro e w_ ⟨rfl, hg_⟩)
            go_roundw
            case rel => exact ⟨j + 1, by omega, by simp, by rw [HNX.out], by rw [HNX.out], by rw [HSU.out]; exact hJ _ _ _ hJ3 hg_.below, HK3.out.trans (KeptC.of_below hg_.below)⟩
            case measure => simp [intOf]; omega
          · gi_wp2
            refine bodyPost_ret (results_none rfl _ _ _) rfl ?_
            exact ⟨⟨_, rfl⟩, .inr ⟨_, ⟨j + 1, by omega, HSU.out.symm⟩, hJx3⟩⟩
        · obtain rfl : j = k := by omega
          obtain ⟨a1, a2, a3, a4⟩ := hmx
          clear hK h1 h2 h0 hj0
          generalize mixP xs (fun x => (sel x).hi) j = st at *
          obtain ⟨fn, tmps, assign, body, hy, hR⟩ := hY _ (mxOf xs (fun x => (sel x).hi) j) _ hJs hlu
          rw [HEN.out] at hy
          gi_wp2
          refine hR.mono ?_
          rintro e W3 (⟨rfl, hJ3, hk3⟩ | ⟨rfl, hJx3⟩)
          · gi_wp2
            go_end0
            exact ⟨⟨_, rfl⟩, .inl ⟨_, rfl, by rw [HSU.out]; exact hJ3⟩⟩
          · gi_wp2
            go_end0
            exact ⟨⟨_, rfl⟩, .inr ⟨_, ⟨j + 1, by omega, HSU.out.symm⟩, hJx3⟩⟩

theorem mixes_stops2 {g : FuncId} {sel : Wt → Rg} (hg : SelFn g sel) (m : Nat) (hm : 1 ≤ m) (ex : List Nat) (b1 b2 bo blk off n cap : Nat) (xs : List Wt) (hok : WtsOk xs (fun x => (sel x).hi)) (w : World)
    (h1 : w.cell? ⟨b1, 0, none⟩ = some (.slice (some ⟨blk, off, none⟩) n cap)) (h2 : w.cell? ⟨b2, 0, none⟩ = some (.func (.func 128) #[] #[.pointer (some ⟨bo, 0, none⟩)])) (h3 : w.cell? ⟨bo, 0, none⟩ = some (.func (.func g) #[] #[])) (hex : ∀ k ∈ ex, k < w.heap.size ∧ k ≠ blk ∧ k ≠ b1 ∧ k ≠ b2 ∧ k ≠ bo)
    (hc : WsAt w ⟨some ⟨blk, off, none⟩, n, cap, xs⟩) :
    SeqStopsK Fence.wide m Tryz.prog 150 #[.pointer (some ⟨b1, 0, none⟩), .pointer (some ⟨b2, 0, none⟩)] encM (KeptC ex) (fun ys => ys = upto (mxOf xs (fun x => (sel x).hi)) (n + 1)) (fun pre => ∃ k, k ≤ n + 1 ∧ pre = upto (mxOf xs (fun x => (sel x).hi)) k) (n + 1) w := fun l J Jx W hW hJ _ hY h0 => by
  have hJ' : ∀ s A B, J s A → Below A.heap.size A B → J s B := fun s A B hs hAB => hJ s A B none hs ⟨hAB.os, hAB.tape, hAB.output, hAB.size, fun k hk _ => hAB.block k hk⟩ (fun r e => by cases e)
  have hb1 := World.block_lt_of_cell? _ _ h1
  have hb2 := World.block_lt_of_cell? _ _ h2
  have hb3 := World.block_lt_of_cell? _ _ h3
  exact mixes_in2 hg m hm ex l b1 b2 bo blk off n cap xs hok hc.2.1 hc.2.2.1 hc.1 J Jx hY hJ' W ((hW.cell (p := ⟨b1, 0, none⟩) hb1).trans h1) ((hW.cell (p := ⟨b2, 0, none⟩) hb2).trans h2) ((hW.cell (p := ⟨bo, 0, none⟩) hb3).trans h3) (fun k hk => ⟨Nat.lt_of_lt_of_le (hex k hk).1 hW.size, (hex k hk).2⟩) (hc.same hW) h0

end Go.Proofs.YteagdcgmmdiakaaGreat
