/-
  cond: Sum.
  Twice an area, plain: the sums stay small, so that nothing wraps.
  fix: Area.
  ullagetop: awake.
  Conditions: each theorem's own premises.
-/
import Derived.Test.YteagdcgmmdiakaaGreatP21
import Derived.Test.YteagdcgmmdiakaaGreatP19
import Derived.Test.YteagdcgmmdiakaaGreatP03
import Derived.Test.YteagdcgmmdiakaaGreatP06
namespace Go.Proofs.YteagdcgmmdiakaaGreat
set_option linter.unusedSimpArgs false
set_option linter.unusedVariables false
open Go.RowKit Go.Shelf
set_option maxRecDepth 100000
set_option maxHeartbeats 8000000
attribute [local go_sem] Oper.semAt_some Instr.field asAgg Soft.upon Soft.upon0 Soft.stepC Soft.BW.cell_if Soft.BW.frozen_if Soft.cell_alloc_if Soft.frozen_alloc_if
attribute [local irreducible] Soft.wpSoft Soft.wpMix

/-- The masses of the first weights together. -/
def mSum (xs : List Wt) : Nat → Rg
  | 0 => ⟨0, 0⟩
  | k + 1 => addR (mSum xs k) (wv xs k).mass
theorem mSum_in {xs : List Wt} : ∀ k, k ≤ 41 → (∀ j, j < k → isWt (wv xs j)) → 0 ≤ (mSum xs k).lo ∧ (mSum xs k).lo ≤ (mSum xs k).hi ∧ (mSum xs k).hi ≤ k * 1000000000
  | 0, _, _ => ⟨Int.le_refl _, Int.le_refl _, Int.le_refl _⟩
  | k + 1, hk, h => by
    obtain ⟨a, b, c⟩ := mSum_in k (by omega) (fun j hj => h j (by omega))
    obtain ⟨⟨w1, w2, w3⟩, _, _⟩ := h k (by omega)
    unfold mSum addR
    dsimp only
    omega
theorem mSum_pos {xs : List Wt} : ∀ k, (∀ j, j < k → isWt (wv xs j)) → (mSum xs k).lo ≠ 0 → ∃ j, j < k ∧ 1 ≤ (wv xs j).mass.lo
  | 0, _, h => absurd rfl h
  | k + 1, hw, h => by
    obtain ⟨⟨w1, w2, w3⟩, _, _⟩ := hw k (by omega)
    by_cases e : (mSum xs k).lo = 0
    · refine ⟨k, by omega, ?_⟩
      unfold mSum addR at h
      dsimp only at h
      omega
    · obtain ⟨j, hj, h1⟩ := mSum_pos k (fun j hj => hw j (by omega)) e
      exact ⟨j, by omega, h1⟩
theorem wv_mem {l : List Wt} {k : Nat} (h : k < l.length) : wv l k ∈ l := by
  simp [wv, List.getElem?_eq_getElem h]
theorem mem_wv {l : List Wt} {x : Wt} (h : x ∈ l) : ∃ k, k < l.length ∧ wv l k = x := by
  obtain ⟨k, hk, e⟩ := List.getElem_of_mem h
  exact ⟨k, hk, by simp [wv, List.getElem?_eq_getElem hk, e]⟩

/-- Valid weights, one of them with a mass. -/
structure AllWt (xs : List Wt) : Prop where
  n : xs.length ≤ 41
  w : ∀ k, k < xs.length → isWt (wv xs k)
  pos : (mSum xs xs.length).lo ≠ 0
theorem AllWt.mem {xs : List Wt} (h : AllWt xs) (x : Wt) (hx : x ∈ xs) : isWt x := by
  obtain ⟨k, hk, rfl⟩ := mem_wv hx
  exact h.w k hk
theorem AllWt.ok {xs l : List Wt} (h : AllWt xs) (hp : l.Perm xs) (pl : Wt → Int) (hpl : ∀ x, isWt x → -1000000 ≤ pl x ∧ pl x ≤ 1000000) : WtsOk l pl where
  n := by rw [hp.length_eq]; exact h.n
  w := fun k hk => h.mem _ (hp.subset (wv_mem hk))
  pl := fun k hk => hpl _ (h.mem _ (hp.subset (wv_mem hk)))
  pos := by
    obtain ⟨j, hj, h1⟩ := mSum_pos _ h.w h.pos
    obtain ⟨k, hk, e⟩ := mem_wv (hp.symm.subset (wv_mem hj))
    exact ⟨k, hk, by rw [e]; exact h1⟩

/-- What a centre is: the least of the quotients along one order of the weights, the greatest along another. -/
def CentreIs (sel : Wt → Rg) (xs : List Wt) (r : Rg) : Prop :=
  ∃ l1 l2 : List Wt, l1.Perm xs ∧ (∀ i j, i < j → j < l1.length → (sel (wv l1 i)).lo ≤ (sel (wv l1 j)).lo) ∧ l2.Perm xs ∧ (∀ i j, i < j → j < l2.length → (sel (wv l2 j)).hi ≤ (sel (wv l2 i)).hi) ∧
    r = ⟨(cLo ((upto (mixP l1 (fun x => (sel x).lo)) (xs.length + 1)))).2, (cHi ((upto (mixP l2 (fun x => (sel x).hi)) (xs.length + 1)))).2⟩
theorem sum_centre1 {xs : List Wt} (h : AllWt xs) (b off n cap : Nat) (hn : 1 ≤ n) (w : World) (hs : WsAt w ⟨some ⟨b, off, none⟩, n, cap, xs⟩) :
    Calls Tryz.prog 62 #[.slice (some ⟨b, off, none⟩) n cap, .func (.func 63) #[] #[]] w fun e w' => (∃ r, CentreIs Wt.along xs r ∧ e = .returned (.agg #[.int .i64 (r).lo, .int .i64 (r).hi])) ∧ Below w.heap.size w w' := by
  have hb : ∀ x : Wt, isWt x → -1000000 ≤ x.along.lo ∧ x.along.lo ≤ x.along.hi ∧ x.along.hi ≤ 1000000 := fun x hx => by
    obtain ⟨_, ⟨a1, a2, a3⟩, ⟨b1, b2, b3⟩⟩ := hx
    omega
  refine (cond_centre sum_fn1 b off n cap xs (fun x hx => ?_) w hs hn (fun l hp => h.ok hp _ fun x hx => ?_) (fun l hp => h.ok hp _ fun x hx => ?_)).mono ?_
  · have := hb x (h.mem x hx)
    unfold I32x
    omega
  · have := hb x hx
    omega
  · have := hb x hx
    omega
  · rintro e w' ⟨l1, l2, p1, p2, p3, p4, rfl, hB⟩
    exact ⟨⟨_, ⟨l1, l2, p1, p2, p3, p4, rfl⟩, rfl⟩, hB⟩
theorem sum_centre2 {xs : List Wt} (h : AllWt xs) (b off n cap : Nat) (hn : 1 ≤ n) (w : World) (hs : WsAt w ⟨some ⟨b, off, none⟩, n, cap, xs⟩) :
    Calls Tryz.prog 62 #[.slice (some ⟨b, off, none⟩) n cap, .func (.func 64) #[] #[]] w fun e w' => (∃ r, CentreIs Wt.high xs r ∧ e = .returned (.agg #[.int .i64 (r).lo, .int .i64 (r).hi])) ∧ Below w.heap.size w w' := by
  have hb : ∀ x : Wt, isWt x → -1000000 ≤ x.high.lo ∧ x.high.lo ≤ x.high.hi ∧ x.high.hi ≤ 1000000 := fun x hx => by
    obtain ⟨_, ⟨a1, a2, a3⟩, ⟨b1, b2, b3⟩⟩ := hx
    omega
  refine (cond_centre sum_fn2 b off n cap xs (fun x hx => ?_) w hs hn (fun l hp => h.ok hp _ fun x hx => ?_) (fun l hp => h.ok hp _ fun x hx => ?_)).mono ?_
  · have := hb x (h.mem x hx)
    unfold I32x
    omega
  · have := hb x hx
    omega
  · have := hb x hx
    omega
  · rintro e w' ⟨l1, l2, p1, p2, p3, p4, rfl, hB⟩
    exact ⟨⟨_, ⟨l1, l2, p1, p2, p3, p4, rfl⟩, rfl⟩, hB⟩

def zWt : Wt := ⟨⟨0, 0⟩, ⟨0, 0⟩, ⟨0, 0⟩⟩
/-- What Sum hands back. -/
def SumIs (xs : List Wt) (v : Wt) (c : Int) : Prop :=
  (41 < xs.length ∧ v = zWt ∧ c = 2) ∨
  (xs.length ≤ 41 ∧ (∃ k, k < xs.length ∧ ¬isWt (wv xs k)) ∧ v = zWt ∧ c = 31) ∨
  (xs.length ≤ 41 ∧ (∀ k, k < xs.length → isWt (wv xs k)) ∧ (mSum xs xs.length).lo = 0 ∧ v = zWt ∧ c = 3) ∨
  (AllWt xs ∧ c = 0 ∧ v.mass = mSum xs xs.length ∧ CentreIs Wt.along xs v.along ∧ CentreIs Wt.high xs v.high)
def SumPost (xs : List Wt) (w : World) (e : Ending) (w' : World) : Prop :=
  (∃ v c, SumIs xs v c ∧ e = .returned (.tuple #[.agg #[.int .i64 ((v).mass).lo, .int .i64 ((v).mass).hi, .int .i64 ((v).along).lo, .int .i64 ((v).along).hi, .int .i64 ((v).high).lo, .int .i64 ((v).high).hi], .int .i64 c])) ∧ Below w.heap.size w w'

/-- The result is stored: its cells, and the world. -/
theorem six_put {w W : World} {B : Nat} (v : Array Value) (hv : v.size = 6) (h : HasBlk W B v 29) (hB : Below w.heap.size w W) (hle : w.heap.size ≤ B) (a b c d e f : Value) :
    HasBlk ((((((W.setCell ⟨B, 0, none⟩ a).setCell ⟨B, 1, none⟩ b).setCell ⟨B, 2, none⟩ c).setCell ⟨B, 3, none⟩ d).setCell ⟨B, 4, none⟩ e).setCell ⟨B, 5, none⟩ f) B #[a, b, c, d, e, f] 29 ∧
    Below w.heap.size w ((((((W.setCell ⟨B, 0, none⟩ a).setCell ⟨B, 1, none⟩ b).setCell ⟨B, 2, none⟩ c).setCell ⟨B, 3, none⟩ d).setCell ⟨B, 4, none⟩ e).setCell ⟨B, 5, none⟩ f) := by
  refine ⟨?_, (((((hB.setCell (p := ⟨B, 0, none⟩) hle _).setCell (p := ⟨B, 1, none⟩) hle _).setCell (p := ⟨B, 2, none⟩) hle _).setCell (p := ⟨B, 3, none⟩) hle _).setCell (p := ⟨B, 4, none⟩) hle _).setCell (p := ⟨B, 5, none⟩) hle _⟩
  have := ((((((h.put 0 a).put 1 b).put 2 c).put 3 d).put 4 e).put 5 f)
  obtain ⟨l⟩ := v
  match l, hv with
  | [x0, x1, x2, x3, x4, x5], _ => exact this

theorem cond_Sum1 (b off n cap : Nat) (xs : List Wt) (hn : 1 ≤ n) (w : World) (hs : WsAt w ⟨some ⟨b, off, none⟩, n, cap, xs⟩) :
    Calls Tryz.prog 20 #[.slice (some ⟨b, off, none⟩) n cap] w (SumPost xs w) := by
  have hxs : xs.length = n := hs.1
  have hcap : n ≤ cap ∧ cap ≤ 9223372036854775807 := ⟨hs.2.1, hs.2.2.1⟩
  have HS := Lib.hid hs
  have HX := Lib.hid hxs
  clear hs
  go_enter Tryz.func20, Tryz.ntmps20
  by_cases h41 : 41 < n
  · have H41 := Lib.hid h41
    go_wp2
    refine bodyPost_ret (v := .tuple #[.agg #[.int .i64 0, .int .i64 0, .int .i64 0, .int .i64 0, .int .i64 0, .int .i64 0], .int .i64 2]) (by simp [results, Tryz.results20, go_sem]) rfl ?_
    exact ⟨⟨zWt, 2, .inl ⟨by omega, rfl, rfl⟩, rfl⟩, by (repeat (first | with_reducible exact bel_refl _ | with_reducible refine bel_alloc ?_ _ | with_reducible refine bel_bw _ ?_ | with_reducible refine bel_drew ?_ | with_reducible refine bel_drewN _ ?_ | ((with_reducible refine bel_set ?_ ?_ _); rotate_left; focus (first | (simp; done) | omega | (simp; omega))) | refine bel_step ?_ (by with_reducible assumption)))⟩
  · go_wp2_with fail
    have H41 := Lib.hid h41
    have g0 : HasBlk ((w.alloc (.cells #[.int .i64 0, .int .i64 0, .int .i64 0, .int .i64 0, .int .i64 0, .int .i64 0] 29)).alloc (.cells #[.int .i64 0, .int .i64 0] 27)) w.heap.size #[.int .i64 0, .int .i64 0, .int .i64 0, .int .i64 0, .int .i64 0, .int .i64 0] 29 := by simp only [HasBlk, Soft.heap_alloc_if, Soft.heap_new]
    have g1 : HasBlk ((w.alloc (.cells #[.int .i64 0, .int .i64 0, .int .i64 0, .int .i64 0, .int .i64 0, .int .i64 0] 29)).alloc (.cells #[.int .i64 0, .int .i64 0] 27)) (w.heap.size + 1) #[.int .i64 (mSum xs 0).lo, .int .i64 (mSum xs 0).hi] 27 := by simp only [HasBlk, Soft.heap_new1]; rfl
    have hB0 : Below w.heap.size w ((w.alloc (.cells #[.int .i64 0, .int .i64 0, .int .i64 0, .int .i64 0, .int .i64 0, .int .i64 0] 29)).alloc (.cells #[.int .i64 0, .int .i64 0] 27)) := by (repeat (first | with_reducible exact bel_refl _ | with_reducible refine bel_alloc ?_ _ | with_reducible refine bel_bw _ ?_ | with_reducible refine bel_drew ?_ | with_reducible refine bel_drewN _ ?_ | ((with_reducible refine bel_set ?_ ?_ _); rotate_left; focus (first | (simp; done) | omega | (simp; omega))) | refine bel_step ?_ (by with_reducible assumption)))
    generalize (w.alloc (.cells #[.int .i64 0, .int .i64 0, .int .i64 0, .int .i64 0, .int .i64 0, .int .i64 0] 29)).alloc (.cells #[.int .i64 0, .int .i64 0] 27) = W0 at *
    go_loopw [14] (fun i wr => ∃ k : Nat, k ≤ n ∧ i = .int .i64 k ∧ (∀ j, j < k → isWt (wv xs j)) ∧ HasBlk wr w.heap.size #[.int .i64 0, .int .i64 0, .int .i64 0, .int .i64 0, .int .i64 0, .int .i64 0] 29 ∧ HasBlk wr (w.heap.size + 1) #[.int .i64 (mSum xs k).lo, .int .i64 (mSum xs k).hi] 27 ∧ Below w.heap.size w wr) (fun i _ => n - (intOf i).toNat)
    case atStart => exact ⟨0, Nat.zero_le _, rfl, fun j hj => absurd hj (Nat.not_lt_zero j), g0, g1, hB0⟩
    case round =>
      obtain ⟨k, hk, rfl, hall, b0, b1, hB⟩ := hrel
      have hm := mSum_in k (by omega) hall
      have HALL := Lib.hid hall
      have q0 := b0.cell 0
      have q1 := b0.cell 1
      have q2 := b0.cell 2
      have q3 := b0.cell 3
      have q4 := b0.cell 4
      have q5 := b0.cell 5
      have m0 := b1.cell 0
      have m1 := b1.cell 1
      have z0 := b0.frozen 0
      have z1 := b0.frozen 1
      have z2 := b0.frozen 2
      have z3 := b0.frozen 3
      have z4 := b0.frozen 4
      have z5 := b0.frozen 5
      have n0 := b1.frozen 0
      have n1 := b1.frozen 1
      simp at q0 q1 q2 q3 q4 q5 m0 m1
      have l0 := Soft.LtH.mk (b := w.heap.size) (w := wr) b0.lt
      have l1 := Soft.LtH.mk (b := w.heap.size + 1) (w := wr) b1.lt
      have B0 := Lib.hid b0; have B1 := Lib.hid b1
      clear b0 b1 hall
      by_cases hlt : k < n
      · obtain ⟨b', o', e, hb, hcs⟩ := (HS.out.same hB).cells (by dsimp only; omega)
        cases e
        obtain ⟨c0, c1, c2, c3, c4, c5⟩ := hcs k hlt
        dsimp only at c0 c1 c2 c3 c4 c5
        have lb := Soft.LtH.mk (b := b) (w := wr) hb
        have HB := Lib.hid hB
        clear hcs hB
        by_cases hw : isWt (wv xs k)
        · have HNX := Lib.hid (show mSum xs (k + 1) = addR (mSum xs k) (wv xs k).mass from rfl)
          obtain ⟨w1, w2, w3⟩ := hw.1
          have HW := Lib.hid hw
          have CW := Lib.hid (fun W => cond_CheckWeight (wv xs k) W)
          rw [if_pos hw] at CW
          have CP := Lib.hid (fun W => cond_plus (mSum xs k) (wv xs k).mass W (by omega) (by omega) (by omega) (by omega))
          clear hw
          generalize mSum xs k = s at *
          generalize hq : wv xs k = q at *
          have HQ := Lib.hid hq; clear hq
          go_wp2_with (first | (go_at_call 60; (with_reducible refine (CW.out _).mono ?_); rintro e w_ ⟨rfl, hb_⟩; obtain ⟨y1, rfl⟩ := Soft.BW.mk hb_; clear hb_) | (go_at_call 61; (with_reducible refine (CP.out _).mono ?_); rintro e w_ ⟨rfl, hb_⟩; obtain ⟨y2, rfl⟩ := Soft.BW.mk hb_; clear hb_))
          have hbl : Below wr.heap.size wr y2.w := by (repeat (first | with_reducible exact bel_refl _ | with_reducible refine bel_alloc ?_ _ | with_reducible refine bel_bw _ ?_ | with_reducible refine bel_drew ?_ | with_reducible refine bel_drewN _ ?_ | ((with_reducible refine bel_set ?_ ?_ _); rotate_left; focus (first | (simp; done) | omega | (simp; omega))) | refine bel_step ?_ (by with_reducible assumption)))
          go_roundw
          case rel =>
            refine ⟨k + 1, by omega, by simp, fun j hj => ?_, HasBlk.set_other (HasBlk.set_other (B0.out.below hbl) (by dsimp only; omega) _) (by dsimp only; omega) _, ?_, ((HB.out.trans (hbl.mono HB.out.size)).setCell (p := ⟨w.heap.size + 1, 0, none⟩) (by dsimp only; omega) _).setCell (p := ⟨w.heap.size + 1, 1, none⟩) (by dsimp only; omega) _⟩
            · by_cases e : j = k
              · subst e; rw [HQ.out]; exact HW.out
              · exact HALL.out j (by omega)
            · rw [HNX.out]
              exact ((B1.out.below hbl).put 0 _).put 1 _
          case measure => simp [intOf]; omega
        · have HW := Lib.hid hw
          have CW := Lib.hid (fun W => cond_CheckWeight (wv xs k) W)
          rw [if_neg hw] at CW
          clear hw
          go_wp2_with (first | (go_at_call 60; (with_reducible refine (CW.out _).mono ?_); rintro e w_ ⟨rfl, hb_⟩; obtain ⟨y1, rfl⟩ := Soft.BW.mk hb_; clear hb_))
          have hB := HB.out.trans ((show Below wr.heap.size wr y1.w by (repeat (first | with_reducible exact bel_refl _ | with_reducible refine bel_alloc ?_ _ | with_reducible refine bel_bw _ ?_ | with_reducible refine bel_drew ?_ | with_reducible refine bel_drewN _ ?_ | ((with_reducible refine bel_set ?_ ?_ _); rotate_left; focus (first | (simp; done) | omega | (simp; omega))) | refine bel_step ?_ (by with_reducible assumption)))).mono HB.out.size)
          have b0 := B0.out.below (show Below wr.heap.size wr y1.w by (repeat (first | with_reducible exact bel_refl _ | with_reducible refine bel_alloc ?_ _ | with_reducible refine bel_bw _ ?_ | with_reducible refine bel_drew ?_ | with_reducible refine bel_drewN _ ?_ | ((with_reducible refine bel_set ?_ ?_ _); rotate_left; focus (first | (simp; done) | omega | (simp; omega))) | refine bel_step ?_ (by with_reducible assumption))))
          clear q0 q1 q2 q3 q4 q5
          obtain ⟨fin, hbf⟩ := six_put _ rfl b0 hB (Nat.le_refl w.heap.size) (.int .i64 0) (.int .i64 0) (.int .i64 0) (.int .i64 0) (.int .i64 0) (.int .i64 0)
          have FIN := Lib.hid fin; have HBF := Lib.hid hbf
          clear fin hbf
          generalize (((((((y1.w).setCell ⟨w.heap.size, 0, none⟩ (.int .i64 0)).setCell ⟨w.heap.size, 1, none⟩ (.int .i64 0)).setCell ⟨w.heap.size, 2, none⟩ (.int .i64 0)).setCell ⟨w.heap.size, 3, none⟩ (.int .i64 0)).setCell ⟨w.heap.size, 4, none⟩ (.int .i64 0)).setCell ⟨w.heap.size, 5, none⟩ (.int .i64 0)) = Wf at *
          have d0 := FIN.out.cell 0
          have d1 := FIN.out.cell 1
          have d2 := FIN.out.cell 2
          have d3 := FIN.out.cell 3
          have d4 := FIN.out.cell 4
          have d5 := FIN.out.cell 5
          simp at d0 d1 d2 d3 d4 d5
          go_wp2_with fail
          refine bodyPost_ret (v := .tuple #[.agg #[.int .i64 0, .int .i64 0, .int .i64 0, .int .i64 0, .int .i64 0, .int .i64 0], .int .i64 31]) (by simp [results, Tryz.f20, go_sem, d0, d1, d2, d3, d4, d5]) rfl ?_
          exact ⟨⟨zWt, 31, .inr (.inl ⟨by omega, ⟨k, by omega, HW.out⟩, rfl, rfl⟩), rfl⟩, HBF.out⟩
      · obtain rfl : k = n := by omega
        have HB := Lib.hid hB
        clear hB
        by_cases hz : (mSum xs k).lo = 0
        · have HZ := Lib.hid hz
          generalize hs2 : mSum xs k = s at *
          have HZ2 := Lib.hid hs2
          clear hs2
          go_wp2_with fail
          have hB := HB.out
          have b0 := B0.out
          clear q0 q1 q2 q3 q4 q5
          obtain ⟨fin, hbf⟩ := six_put _ rfl b0 hB (Nat.le_refl w.heap.size) (.int .i64 0) (.int .i64 0) (.int .i64 0) (.int .i64 0) (.int .i64 0) (.int .i64 0)
          have FIN := Lib.hid fin; have HBF := Lib.hid hbf
          clear fin hbf
          generalize (((((((wr).setCell ⟨w.heap.size, 0, none⟩ (.int .i64 0)).setCell ⟨w.heap.size, 1, none⟩ (.int .i64 0)).setCell ⟨w.heap.size, 2, none⟩ (.int .i64 0)).setCell ⟨w.heap.size, 3, none⟩ (.int .i64 0)).setCell ⟨w.heap.size, 4, none⟩ (.int .i64 0)).setCell ⟨w.heap.size, 5, none⟩ (.int .i64 0)) = Wf at *
          have d0 := FIN.out.cell 0
          have d1 := FIN.out.cell 1
          have d2 := FIN.out.cell 2
          have d3 := FIN.out.cell 3
          have d4 := FIN.out.cell 4
          have d5 := FIN.out.cell 5
          simp at d0 d1 d2 d3 d4 d5
          go_wp2_with fail
          refine bodyPost_ret (v := .tuple #[.agg #[.int .i64 0, .int .i64 0, .int .i64 0, .int .i64 0, .int .i64 0, .int .i64 0], .int .i64 3]) (by simp [results, Tryz.f20, go_sem, d0, d1, d2, d3, d4, d5]) rfl ?_
          exact ⟨⟨zWt, 3, .inr (.inr (.inl ⟨by omega, fun j hj => HALL.out j (by have := HX.out; omega), by rw [HX.out, HZ2.out]; exact HZ.out, rfl, rfl⟩)), rfl⟩, HBF.out⟩
        · have hall : AllWt xs := ⟨by omega, fun j hj => HALL.out j (by have := HX.out; omega), by rw [HX.out]; exact hz⟩
          have C1 := Lib.hid (fun W hW => sum_centre1 hall b off k cap hn W hW)
          have C2 := Lib.hid (fun W hW => sum_centre2 hall b off k cap hn W hW)
          have HA := Lib.hid hall
          have HSW := Lib.hid (HS.out.same HB.out)
          clear hall
          generalize hs2 : mSum xs k = s at *
          have HZ2 := Lib.hid hs2
          clear hs2
          go_wp2_with fail
          ((refine Soft.region_mix [(true, 0), (true, 1), (true, 3), (false, 2), (false, 4), (true, 5)] [6, 7] (by kernel_rfl) (by kernel_rfl) (by kernel_rfl) (by kernel_rfl) ?_; change Soft.wpMix _ _ _ _ [(true, _), (true, _), (true, _), (false, _), (false, _), (true, _)] _ _); (refine Soft.mix_q (fun K hK => ?_); go_simp; (try go_bits); first | (refine hK _ ?_; clear hK K) | (apply Exists.intro; refine ⟨fun x => ?_, hK _ ?_⟩; fail)); (refine Soft.mix_q (fun K hK => ?_); go_simp; (try go_bits); first | (refine hK _ ?_; clear hK K) | (apply Exists.intro; refine ⟨fun x => ?_, hK _ ?_⟩; fail)); (refine Soft.mix_q (fun K hK => ?_); go_simp; (try go_bits); first | (refine hK _ ?_; clear hK K) | (apply Exists.intro; refine ⟨fun x => ?_, hK _ ?_⟩; fail)); (refine Soft.mix_c (fun K hK => ?_); go_simp; (try go_bits); ((go_at_call 62; (with_reducible refine (C1.out _ (HSW.out.same (by (repeat (first | with_reducible exact bel_refl _ | with_reducible refine bel_alloc ?_ _ | with_reducible refine bel_bw _ ?_ | with_reducible refine bel_drew ?_ | with_reducible refine bel_drewN _ ?_ | ((with_reducible refine bel_set ?_ ?_ _); rotate_left; focus (first | (simp; done) | omega | (simp; omega))) | refine bel_step ?_ (by with_reducible assumption)))))).mono ?_); rintro e w_ ⟨⟨r1, hr1, rfl⟩, hb_⟩; obtain ⟨y1, rfl⟩ := Soft.BW.mk hb_; clear hb_; have R1 := Lib.hid hr1; clear hr1; refine ⟨_, rfl, (by first | with_reducible exact Soft.BW.below y1 | simpa using Soft.BW.below y1), hK _ _ ?_⟩)); clear hK K); (refine Soft.mix_c (fun K hK => ?_); go_simp; (try go_bits); ((go_at_call 62; (with_reducible refine (C2.out _ (HSW.out.same (by (repeat (first | with_reducible exact bel_refl _ | with_reducible refine bel_alloc ?_ _ | with_reducible refine bel_bw _ ?_ | with_reducible refine bel_drew ?_ | with_reducible refine bel_drewN _ ?_ | ((with_reducible refine bel_set ?_ ?_ _); rotate_left; focus (first | (simp; done) | omega | (simp; omega))) | refine bel_step ?_ (by with_reducible assumption)))))).mono ?_); rintro e w_ ⟨⟨r2, hr2, rfl⟩, hb_⟩; obtain ⟨y2, rfl⟩ := Soft.BW.mk hb_; clear hb_; have R2 := Lib.hid hr2; clear hr2; refine ⟨_, rfl, (by first | with_reducible exact Soft.BW.below y2 | simpa using Soft.BW.below y2), hK _ _ ?_⟩)); clear hK K); (refine Soft.mix_q (fun K hK => ?_); go_simp; (try go_bits); first | (refine hK _ ?_; clear hK K) | (apply Exists.intro; refine ⟨fun x => ?_, hK _ ?_⟩; fail)); (refine Soft.mix_nil ?_; intro hbx; change wpList _ _ _ [_, _] _ _))
          go_wp2_with fail
          have hbl : Below wr.heap.size wr y2.w := by (repeat (first | with_reducible exact bel_refl _ | with_reducible refine bel_alloc ?_ _ | with_reducible refine bel_bw _ ?_ | with_reducible refine bel_drew ?_ | with_reducible refine bel_drewN _ ?_ | ((with_reducible refine bel_set ?_ ?_ _); rotate_left; focus (first | (simp; done) | omega | (simp; omega))) | refine bel_step ?_ (by with_reducible assumption)))
          have hB := HB.out.trans (hbl.mono HB.out.size)
          have b0 := B0.out.below hbl
          clear q0 q1 q2 q3 q4 q5
          obtain ⟨fin, hbf⟩ := six_put _ rfl b0 hB (Nat.le_refl w.heap.size) (.int .i64 s.lo) (.int .i64 s.hi) (.int .i64 r1.lo) (.int .i64 r1.hi) (.int .i64 r2.lo) (.int .i64 r2.hi)
          have FIN := Lib.hid fin; have HBF := Lib.hid hbf
          clear fin hbf
          generalize (((((((y2.w).setCell ⟨w.heap.size, 0, none⟩ (.int .i64 s.lo)).setCell ⟨w.heap.size, 1, none⟩ (.int .i64 s.hi)).setCell ⟨w.heap.size, 2, none⟩ (.int .i64 r1.lo)).setCell ⟨w.heap.size, 3, none⟩ (.int .i64 r1.hi)).setCell ⟨w.heap.size, 4, none⟩ (.int .i64 r2.lo)).setCell ⟨w.heap.size, 5, none⟩ (.int .i64 r2.hi)) = Wf at *
          have d0 := FIN.out.cell 0
          have d1 := FIN.out.cell 1
          have d2 := FIN.out.cell 2
          have d3 := FIN.out.cell 3
          have d4 := FIN.out.cell 4
          have d5 := FIN.out.cell 5
          simp at d0 d1 d2 d3 d4 d5
          go_wp2_with fail
          refine bodyPost_ret (v := .tuple #[.agg #[.int .i64 s.lo, .int .i64 s.hi, .int .i64 r1.lo, .int .i64 r1.hi, .int .i64 r2.lo, .int .i64 r2.hi], .int .i64 0]) (by simp [results, Tryz.f20, go_sem, d0, d1, d2, d3, d4, d5]) rfl ?_
          exact ⟨⟨⟨s, r1, r2⟩, 0, .inr (.inr (.inr ⟨HA.out, rfl, by rw [HX.out]; exact HZ2.out.symm, R1.out, R2.out⟩)), rfl⟩, HBF.out⟩

end Go.Proofs.YteagdcgmmdiakaaGreat

namespace Go.Proofs.YteagdcgmmdiakaaGreat
set_option linter.unusedSimpArgs false
set_option linter.unusedVariables false
open Go.RowKit

theorem wrap64_id {n : Int} (h : -9223372036854775808 ≤ n ∧ n ≤ 9223372036854775807) : wrap64 n = n := by unfold wrap64; omega

/-- The same without wrapping. -/
def smAddX (s : Sm) (n d : Int) : Sm := if 0 < n - n / d * d then ⟨s.whole + n / d, s.num * d + (n - n / d * d) * s.den, s.den * d⟩ else ⟨s.whole + n / d, s.num, s.den⟩
def twNX (sel : Pt → Int) (p : Pt × Pt) (fr to : Int) : Sm → Sm := fun s =>
  smAddX ⟨s.whole + (2 * sel p.1 * (to - fr) + (sel p.2 - sel p.1) / (p.2.x - p.1.x) * ((to - fr) * (fr + to - 2 * p.1.x))), s.num, s.den⟩ (((sel p.2 - sel p.1) - (sel p.2 - sel p.1) / (p.2.x - p.1.x) * (p.2.x - p.1.x)) * ((to - fr) * (fr + to - 2 * p.1.x))) (p.2.x - p.1.x)
def twStepX (sel : Pt → Int) (a b : Int) (s : Sm) (p : Pt × Pt) : Sm :=
  if min p.2.x b ≤ max p.1.x a then s else twNX sel p (max p.1.x a) (min p.2.x b) s
def twX (sel : Pt → Int) (a b : Int) (l : List (Pt × Pt)) : Sm := l.foldl (twStepX sel a b) ⟨0, 0, 1⟩
theorem twX_snoc (sel : Pt → Int) (a b : Int) (l : List (Pt × Pt)) (p : Pt × Pt) : twX sel a b (l ++ [p]) = twStepX sel a b (twX sel a b l) p := by simp [twX]

/-- How great the sum is behind pieces up to the place x. -/
structure SmInv (a b x : Int) (k : Int) (s : Sm) : Prop where
  w1 : -(k * 8000000000000000) ≤ s.whole
  w2 : s.whole ≤ k * 8000000000000000
  d1 : 1 ≤ s.den
  n0 : 0 ≤ s.num
  i0 : x ≤ a → x ≤ b → s.den ≤ 1 ∧ s.num ≤ 0
  i1 : x ≤ a ∨ x ≤ b → s.den ≤ 1000000 ∧ s.num ≤ s.den
  i2 : s.den ≤ 1000000000000 ∧ s.num ≤ 2 * s.den

theorem twStep_step {sel : Pt → Int} (hb : ∀ p : Pt, -1000000000 ≤ p.lo → p.lo ≤ p.hi → p.hi ≤ 1000000000 → -1000000000 ≤ sel p ∧ sel p ≤ 1000000000) {a b : Int} {p q : Pt} (h : PieceOk p q) {k : Int} (hk : 0 ≤ k ∧ k ≤ 40) {s : Sm} (hs : SmInv a b p.x k s) :
    twStep sel a b s (p, q) = twStepX sel a b s (p, q) ∧ SmInv a b q.x (k + 1) (twStepX sel a b s (p, q)) := by
  obtain ⟨o1, o2, o3, o4, o5, o6, o7, o8, o9⟩ := h
  obtain ⟨w1, w2, d1, n0, i0, i1, i2⟩ := hs
  unfold twStep twStepX
  dsimp only
  have q1 : p.x ≤ max p.x a := by omega
  have q2 : min q.x b ≤ q.x := by omega
  have q3 : a ≤ max p.x a := by omega
  have q4 : min q.x b ≤ b := by omega
  by_cases hsk : min q.x b ≤ max p.x a
  · rw [if_pos hsk, if_pos hsk]
    exact ⟨rfl, by omega, by omega, d1, n0, fun x y => i0 (by omega) (by omega), fun x => i1 (by omega), i2⟩
  · rw [if_neg hsk, if_neg hsk]
    have q5 : max p.x a ≠ p.x → max p.x a = a := by omega
    have q6 : min q.x b ≠ q.x → min q.x b = b := by omega
    generalize hfr : max p.x a = fr at *
    generalize hto : min q.x b = to at *
    have y12 := hb p o4 o5 o6
    have z12 := hb q o7 o8 o9
    unfold twN twNX
    dsimp only
    generalize sel p = y at *
    generalize sel q = z at *
    have full : fr = p.x → to = q.x → ∀ r : Int, r * ((to - fr) * (fr + to - 2 * p.x)) - r * ((to - fr) * (fr + to - 2 * p.x)) / (q.x - p.x) * (q.x - p.x) = 0 := fun e1 e2 r => by
      rw [e1, e2, show p.x + q.x - 2 * p.x = q.x - p.x by omega, ← Int.mul_assoc, Int.mul_ediv_cancel _ (show q.x - p.x ≠ 0 by omega)]
      omega
    obtain ⟨⟨k1, k2⟩, ⟨t1, t2⟩, ⟨v1, v2⟩, ⟨u1, u2⟩, ⟨g1, g2⟩, r1, r2⟩ := tw_bounds o1 o2 o3 y12 z12 q1 (by omega) q2
    generalize hK : (to - fr) * (fr + to - 2 * p.x) = K at *
    generalize 2 * y * (to - fr) = yt at *
    generalize (z - y) / (q.x - p.x) * K = qk at *
    have full := full
    generalize hrr : (z - y - (z - y) / (q.x - p.x) * (q.x - p.x)) = r at *
    generalize hd : q.x - p.x = d at *
    have hd1 : 1 ≤ d ∧ d ≤ 1000000 := by omega
    have e1 : wrap64 (s.whole + (yt + qk)) = s.whole + (yt + qk) := wrap64_id (by omega)
    have hfull := full
    have m0 := Int.emod_nonneg (r * K) (show d ≠ 0 by omega)
    have m1 := Int.emod_lt_of_pos (r * K) (show 0 < d by omega)
    have m2 := Int.mul_ediv_add_emod (r * K) d
    rw [Int.mul_comm] at m2
    have m3 : 0 ≤ r * K / d := Int.ediv_nonneg r1 (by omega)
    have m4 : r * K / d ≤ 1000000000000 := by
      have a1 : r * K ≤ d * K := Int.mul_le_mul_of_nonneg_right (by omega) k1
      have a2 := Int.ediv_le_ediv (show 0 < d by omega) a1
      rw [Int.mul_ediv_cancel_left _ (show d ≠ 0 by omega)] at a2
      omega
    have hrest := hfull
    unfold smAdd smAddX
    dsimp only
    rw [e1]
    have e2 : wrap64 (s.whole + (yt + qk) + r * K / d) = s.whole + (yt + qk) + r * K / d := wrap64_id (by omega)
    rw [e2]
    by_cases hr : 0 < r * K - r * K / d * d
    · rw [if_pos hr, if_pos hr]
      have notfull : ¬(fr = p.x ∧ to = q.x) := fun ⟨e1, e2⟩ => by have := hfull e1 e2 r; omega
      generalize hm : r * K - r * K / d * d = m at *
      have hmd : m ≤ d := by omega
      -- the bounds behind the step
      have p1 : s.num * d ≤ 2000000000000 * 1000000 := Int.mul_le_mul (by omega) (by omega) (by omega) (by omega)
      have p2 : 0 ≤ s.num * d := Int.mul_nonneg n0 (by omega)
      have p3 : m * s.den ≤ 1000000 * 1000000000000 := Int.mul_le_mul (by omega) (by omega) (by omega) (by omega)
      have p4 : 0 ≤ m * s.den := Int.mul_nonneg (by omega) (by omega)
      have p5 : s.den * d ≤ 1000000000000 * 1000000 := Int.mul_le_mul (by omega) (by omega) (by omega) (by omega)
      have p6 : 1 * 1 ≤ s.den * d := Int.mul_le_mul d1 hd1.1 (by omega) (by omega)
      have p7 : m * s.den ≤ d * s.den := Int.mul_le_mul_of_nonneg_right hmd (by omega)
      rw [Int.mul_comm d] at p7
      refine ⟨by rw [wrap64_id (n := s.num * d) (by omega), wrap64_id (n := m * s.den) (by omega), wrap64_id (n := s.den * d) (by omega), wrap64_id (by omega)], ?_⟩
      by_cases ha : p.x ≤ a
      · obtain ⟨j1, j2⟩ := i0 ha (by omega)
        have b1 : s.den * d ≤ 1 * 1000000 := Int.mul_le_mul j1 (by omega) (by omega) (by omega)
        have b2 : s.num * d ≤ 0 * d := Int.mul_le_mul_of_nonneg_right j2 (by omega)
        exact ⟨by dsimp only; omega, by dsimp only; omega, by dsimp only; omega, by dsimp only; omega, fun x y => by omega, fun _ => ⟨by dsimp only; omega, by dsimp only; omega⟩, by dsimp only; omega, by dsimp only; omega⟩
      · obtain ⟨j1, j2⟩ := i1 (.inr (by omega))
        have b1 : s.den * d ≤ 1000000 * 1000000 := Int.mul_le_mul j1 (by omega) (by omega) (by omega)
        have b2 : s.num * d ≤ s.den * d := Int.mul_le_mul_of_nonneg_right j2 (by omega)
        have hbx : b < q.x := by omega
        exact ⟨by dsimp only; omega, by dsimp only; omega, by dsimp only; omega, by dsimp only; omega, fun x y => by omega, fun x => by omega, by dsimp only; omega, by dsimp only; omega⟩
    · rw [if_neg hr, if_neg hr]
      exact ⟨rfl, by dsimp only; omega, by dsimp only; omega, d1, n0, fun x y => i0 (by omega) (by omega), fun x => i1 (by omega), i2⟩

/-- All pieces of a valid table. -/
theorem twX_all {sel : Pt → Int} (hb : ∀ p : Pt, -1000000000 ≤ p.lo → p.lo ≤ p.hi → p.hi ≤ 1000000000 → -1000000000 ≤ sel p ∧ sel p ≤ 1000000000) (a b : Int) {ps : List Pt} (h : TabOk ps) (h2 : 2 ≤ ps.length) : ∀ k : Nat, k + 1 ≤ ps.length →
    twS sel a b (upto (fun j => (pt ps j, pt ps (j + 1))) k) = twX sel a b (upto (fun j => (pt ps j, pt ps (j + 1))) k) ∧ SmInv a b (pt ps k).x k (twX sel a b (upto (fun j => (pt ps j, pt ps (j + 1))) k))
  | 0, _ => ⟨rfl, by show -(((0 : Nat) : Int) * 8000000000000000) ≤ 0; omega, by show (0 : Int) ≤ ((0 : Nat) : Int) * 8000000000000000; omega, Int.le_refl _, Int.le_refl _, fun _ _ => ⟨Int.le_refl _, Int.le_refl _⟩, fun _ => ⟨by show (1 : Int) ≤ 1000000; decide, by show (0 : Int) ≤ 1; decide⟩, by show (1 : Int) ≤ 1000000000000; decide, by show (0 : Int) ≤ 2 * 1; decide⟩
  | k + 1, hk => by
    obtain ⟨e, hi⟩ := twX_all hb a b h h2 k (by omega)
    have hle := h.le
    have hp := h.piece (k := k) (by omega)
    obtain ⟨e2, hi2⟩ := twStep_step hb hp (a := a) (b := b) (k := (k : Int)) (by omega) hi
    rw [upto_succ, twS_snoc, twX_snoc, e, e2]
    refine ⟨rfl, ?_⟩
    have : ((k + 1 : Nat) : Int) = (k : Int) + 1 := by omega
    rw [this]
    exact hi2

/-- Twice the area of a line of a table. -/
def areaX (sel : Pt → Int) (ps : List Pt) (a b : Int) : Sm := if ps.length = 1 then ⟨0, 0, 1⟩ else twX sel a b (upto (fun j => (pt ps j, pt ps (j + 1))) (ps.length - 1))
theorem pcs_map {ps : List Pt} (h : TabOk ps) (h2 : 2 ≤ ps.length) : (upto (pcOf ps) (nPieces ps)).map (·.1) = upto (fun j => (pt ps j, pt ps (j + 1))) (ps.length - 1) := by
  have hn : nPieces ps = ps.length - 1 := if_neg (by omega)
  unfold upto
  rw [List.map_map, hn]
  refine List.map_congr_left fun j hj => ?_
  have hj' : j < nPieces ps := by rw [hn]; exact List.mem_range.1 hj
  show (pcOf ps j).1 = _
  rw [pcOf_val h hj']
  exact if_neg (by omega)
theorem area_all {sel : Pt → Int} (hb : ∀ p : Pt, -1000000000 ≤ p.lo → p.lo ≤ p.hi → p.hi ≤ 1000000000 → -1000000000 ≤ sel p ∧ sel p ≤ 1000000000) {a b : Int} {ps : List Pt} (h : TabOk ps) : 
    twS sel a b ((upto (pcOf ps) (nPieces ps)).map (·.1)) = areaX sel ps a b ∧ (-400000000000000000 ≤ (areaX sel ps a b).whole ∧ (areaX sel ps a b).whole ≤ 400000000000000000) ∧ (1 ≤ (areaX sel ps a b).den ∧ (areaX sel ps a b).den ≤ 1000000000000) ∧ 0 ≤ (areaX sel ps a b).num ∧ (areaX sel ps a b).num ≤ 2 * (areaX sel ps a b).den := by
  by_cases h1 : ps.length = 1
  · have hn : nPieces ps = 1 := if_pos h1
    have e : (upto (pcOf ps) (nPieces ps)).map (·.1) = [(pt ps 0, pt ps 0)] := by
      rw [hn]
      show [(pcOf ps 0).1] = _
      rw [pcOf_val h (by omega)]
      unfold pieceAt
      rw [if_pos h1]
    have e2 : areaX sel ps a b = ⟨0, 0, 1⟩ := if_pos h1
    rw [e, e2]
    refine ⟨?_, by decide⟩
    show twStep sel a b ⟨0, 0, 1⟩ (pt ps 0, pt ps 0) = _
    unfold twStep
    rw [if_pos (by dsimp only; omega)]
  · have hp := h.pos
    have h2 : 2 ≤ ps.length := by omega
    have e2 : areaX sel ps a b = twX sel a b (upto (fun j => (pt ps j, pt ps (j + 1))) (ps.length - 1)) := if_neg h1
    obtain ⟨e, w1, w2, d1, n0, i0, i1, i2⟩ := twX_all hb a b h h2 (ps.length - 1) (by omega)
    have hle := h.le
    rw [pcs_map h h2, e2, e]
    exact ⟨rfl, ⟨by omega, by omega⟩, ⟨d1, i2.1⟩, n0, i2.2⟩

end Go.Proofs.YteagdcgmmdiakaaGreat

namespace Go.Proofs.YteagdcgmmdiakaaGreat
set_option linter.unusedSimpArgs false
set_option linter.unusedVariables false
open Go.RowKit Go.Shelf
set_option maxRecDepth 100000
set_option maxHeartbeats 4000000
attribute [local go_sem] Instr.field asAgg Soft.upon Soft.upon0 Soft.stepC Soft.BW.cell_if Soft.BW.frozen_if Soft.cell_alloc_if Soft.frozen_alloc_if
attribute [local irreducible] Soft.wpSoft Soft.wpMix

theorem cf_enter2 {P : Program} {f : FuncId} {fn : Func} {c : Code} (hf : P.funcs[f]? = some fn) (hname : (fn.name == "runtime.NumGoroutine") = false) (hb : fn.body = some c) (args : Array Value) (w : World) :
    Sem.run P (callFunc f args) w = .ok (.enter f args) w := by
  have h1 : fn.name ≠ "runtime.NumGoroutine" := by simpa using hname
  simp [callFunc, hf, h1, hb]
theorem area_fn1 : LineFn 56 Pt.lo where
  enter := cf_enter2 Tryz.func56 (by kernel_rfl) rfl
  call := fun p W => by
    go_enter Tryz.func56, Tryz.ntmps56
    go_wp2
    go_ret
    refine ⟨rfl, ?_⟩
    (repeat (first | with_reducible exact bel_refl _ | with_reducible refine bel_alloc ?_ _ | with_reducible refine bel_bw _ ?_ | with_reducible refine bel_drew ?_ | with_reducible refine bel_drewN _ ?_ | ((with_reducible refine bel_set ?_ ?_ _); rotate_left; focus (first | (simp; done) | omega | (simp; omega))) | refine bel_step ?_ (by with_reducible assumption)))
  bd := fun p h1 h2 h3 => ⟨by omega, by omega⟩
theorem area_fn2 : LineFn 57 Pt.hi where
  enter := cf_enter2 Tryz.func57 (by kernel_rfl) rfl
  call := fun p W => by
    go_enter Tryz.func57, Tryz.ntmps57
    go_wp2
    go_ret
    refine ⟨rfl, ?_⟩
    (repeat (first | with_reducible exact bel_refl _ | with_reducible refine bel_alloc ?_ _ | with_reducible refine bel_bw _ ?_ | with_reducible refine bel_drew ?_ | with_reducible refine bel_drewN _ ?_ | ((with_reducible refine bel_set ?_ ?_ _); rotate_left; focus (first | (simp; done) | omega | (simp; omega))) | refine bel_step ?_ (by with_reducible assumption)))
  bd := fun p h1 h2 h3 => ⟨by omega, by omega⟩

def areaLo (ps : List Pt) (a b : Int) : Int := (areaX Pt.lo ps a b).whole + (areaX Pt.lo ps a b).num / (areaX Pt.lo ps a b).den
def areaHi (ps : List Pt) (a b : Int) : Int := (areaX Pt.hi ps a b).whole + -(-(areaX Pt.hi ps a b).num / (areaX Pt.hi ps a b).den)
/-- What Area hands back. -/
def areaE (ps : List Pt) (a b : Int) : (Int × Int) × Int :=
  if TabOk ps then if a ≤ b ∧ firstX ps ≤ a ∧ b ≤ lastX ps then ((areaLo ps a b, areaHi ps a b), 0) else ((0, 0), 4) else ((0, 0), 11)

theorem fix_Area (t : Tb) (a b : Int) (w : World) (ht : t.At w) :
    Calls Tryz.prog 19 #[.agg #[.slice (t).p (t).n (t).c], .int .i64 a, .int .i64 b] w fun e w' => e = .returned (.tuple #[.int .i64 (areaE t.ps a b).1.1, .int .i64 (areaE t.ps a b).1.2, .int .i64 (areaE t.ps a b).2]) ∧ Below w.heap.size w w' := by
  have HT := Lib.hid ht
  by_cases hok : TabOk t.ps
  · have hte : tabErr t.ps = 0 := if_pos hok
    have hn : 1 ≤ t.n := by rw [← ht.1]; exact hok.pos
    by_cases hab : a ≤ b
    · have CI := Lib.hid (fun W hW v hv => fix_isIn t ⟨a, b⟩ W hW hn v hv)
      by_cases hin : firstX t.ps ≤ a ∧ b ≤ lastX t.ps
      · have E : areaE t.ps a b = ((areaLo t.ps a b, areaHi t.ps a b), 0) := by unfold areaE; rw [if_pos hok, if_pos ⟨hab, hin⟩]
        have HIN := Lib.hid (show true = decide ((pt t.ps 0).x ≤ a ∧ b ≤ (pt t.ps (t.n - 1)).x) by rw [eq_comm, decide_eq_true_eq, isIn_len ht]; exact hin)
        have C1 := Lib.hid (fun W hW => fix_twice t a b _ _ area_fn1 W hW hok)
        have C2 := Lib.hid (fun W hW => fix_twice t a b _ _ area_fn2 W hW hok)
        obtain ⟨e1, ⟨a1, a2⟩, ⟨a3, a4⟩, a5, a6⟩ := area_all area_fn1.bd (a := a) (b := b) hok
        obtain ⟨e2, ⟨b1, b2⟩, ⟨b3, b4⟩, b5, b6⟩ := area_all area_fn2.bd (a := a) (b := b) hok
        rw [e1] at C1
        rw [e2] at C2
        have hv1 : areaLo t.ps a b = (areaX Pt.lo t.ps a b).whole + (areaX Pt.lo t.ps a b).num / (areaX Pt.lo t.ps a b).den := rfl
        have hv2 : areaHi t.ps a b = (areaX Pt.hi t.ps a b).whole + -(-(areaX Pt.hi t.ps a b).num / (areaX Pt.hi t.ps a b).den) := rfl
        rw [E]
        dsimp only
        rw [hv1, hv2]
        clear E hv1 hv2 e1 e2 hin ht hok hn
        generalize areaX Pt.lo t.ps a b = s at *
        generalize areaX Pt.hi t.ps a b = m at *
        obtain ⟨sw, sn, sd⟩ := s
        obtain ⟨mw, mn, md⟩ := m
        unfold smC at C1 C2
        dsimp only at *
        have CD := Lib.hid (fun W => fix_down sn sd W (by omega) (by omega) a3)
        have CU := Lib.hid (fun W => fix_up mn md W (by omega) (by omega) b3)
        have n1 := Int.ediv_nonneg a5 (show 0 ≤ sd by omega)
        have n2 : sn / sd ≤ sn := Int.ediv_le_self _ a5
        have n3 : -(-mn / md) ≤ 2 ∧ 0 ≤ -(-mn / md) := by
          have k1 := Int.ediv_le_ediv (show 0 < md by omega) (show md * (-2) ≤ -mn by omega)
          rw [Int.mul_ediv_cancel_left _ (show md ≠ 0 by omega)] at k1
          have k2 := Int.ediv_le_ediv (show 0 < md by omega) (show -mn ≤ 0 by omega)
          rw [Int.zero_ediv] at k2
          omega
        obtain ⟨n31, n32⟩ := n3
        generalize sn / sd = q1 at *
        generalize -(-mn / md) = q2 at *
        go_enter Tryz.func19, Tryz.ntmps19
        go_wp2_with (first | (go_at_call 52; (with_reducible refine (fix_CheckTable t _ (HT.out.same (by (repeat (first | with_reducible exact bel_refl _ | with_reducible refine bel_alloc ?_ _ | with_reducible refine bel_bw _ ?_ | with_reducible refine bel_drew ?_ | with_reducible refine bel_drewN _ ?_ | ((with_reducible refine bel_set ?_ ?_ _); rotate_left; focus (first | (simp; done) | omega | (simp; omega))) | refine bel_step ?_ (by with_reducible assumption)))))).mono ?_); rintro e w_ ⟨rfl, hb_⟩; obtain ⟨y1, rfl⟩ := Soft.BW.mk hb_; clear hb_) | (go_at_call 53; (with_reducible refine (CI.out _ (HT.out.same (by (repeat (first | with_reducible exact bel_refl _ | with_reducible refine bel_alloc ?_ _ | with_reducible refine bel_bw _ ?_ | with_reducible refine bel_drew ?_ | with_reducible refine bel_drewN _ ?_ | ((with_reducible refine bel_set ?_ ?_ _); rotate_left; focus (first | (simp; done) | omega | (simp; omega))) | refine bel_step ?_ (by with_reducible assumption))))) true HIN.out).mono ?_); rintro e w_ ⟨rfl, hb_⟩; obtain ⟨y2, rfl⟩ := Soft.BW.mk hb_; clear hb_) | (go_at_call 55; first | ((with_reducible refine (C1.out _ (HT.out.same (by (repeat (first | with_reducible exact bel_refl _ | with_reducible refine bel_alloc ?_ _ | with_reducible refine bel_bw _ ?_ | with_reducible refine bel_drew ?_ | with_reducible refine bel_drewN _ ?_ | ((with_reducible refine bel_set ?_ ?_ _); rotate_left; focus (first | (simp; done) | omega | (simp; omega))) | refine bel_step ?_ (by with_reducible assumption)))))).mono ?_); rintro e w_ ⟨rfl, hb_⟩; obtain ⟨y3, rfl⟩ := Soft.BW.mk hb_; clear hb_) | ((with_reducible refine (C2.out _ (HT.out.same (by (repeat (first | with_reducible exact bel_refl _ | with_reducible refine bel_alloc ?_ _ | with_reducible refine bel_bw _ ?_ | with_reducible refine bel_drew ?_ | with_reducible refine bel_drewN _ ?_ | ((with_reducible refine bel_set ?_ ?_ _); rotate_left; focus (first | (simp; done) | omega | (simp; omega))) | refine bel_step ?_ (by with_reducible assumption)))))).mono ?_); rintro e w_ ⟨rfl, hb_⟩; obtain ⟨y4, rfl⟩ := Soft.BW.mk hb_; clear hb_)))
        (refine Soft.region0 [0, 1, 2, 3, 4, 5, 6, 7, 8, 9, 10, 11, 12, 13, 14, 15, 16, 17, 18] [] (by kernel_rfl) (by kernel_rfl) (by kernel_rfl) (by kernel_rfl) ?_; change Soft.wpSoft _ _ _ _ _ [_, _, _, _, _, _, _, _, _, _, _, _, _, _, _, _, _, _, _] _; (repeat (refine Soft.soft_step (fun K hK => ?_); go_simp; (try go_bits); first | (refine hK _ ?_; clear hK K) | (apply Exists.intro; refine ⟨fun x => ?_, hK _ ?_⟩; (first | (go_at_call 58; exact Calls.bel (CD.out _)) | (go_at_call 59; exact Calls.bel (CU.out _))); clear hK K))); refine Soft.soft_nil ?_; intro xw; change wpList _ _ _ [] _ _)
        go_wp2_with fail
        refine bodyPost_ret (v := .tuple #[.int .i64 (sw + q1), .int .i64 (mw + q2), .int .i64 0]) (by simp [results, Tryz.results19, go_sem]) rfl ?_
        refine ⟨rfl, ?_⟩
        (repeat (first | with_reducible exact bel_refl _ | with_reducible refine bel_alloc ?_ _ | with_reducible refine bel_bw _ ?_ | with_reducible refine bel_drew ?_ | with_reducible refine bel_drewN _ ?_ | ((with_reducible refine bel_set ?_ ?_ _); rotate_left; focus (first | (simp; done) | omega | (simp; omega))) | refine bel_step ?_ (by with_reducible assumption)))
      · have E : areaE t.ps a b = ((0, 0), 4) := by unfold areaE; rw [if_pos hok, if_neg (fun h => hin h.2)]
        have HIN := Lib.hid (show false = decide ((pt t.ps 0).x ≤ a ∧ b ≤ (pt t.ps (t.n - 1)).x) by rw [eq_comm, decide_eq_false_iff_not, isIn_len ht]; exact hin)
        rw [E]
        clear E hin ht hok hn
        go_enter Tryz.func19, Tryz.ntmps19
        go_wp2_with (first | (go_at_call 52; (with_reducible refine (fix_CheckTable t _ (HT.out.same (by (repeat (first | with_reducible exact bel_refl _ | with_reducible refine bel_alloc ?_ _ | with_reducible refine bel_bw _ ?_ | with_reducible refine bel_drew ?_ | with_reducible refine bel_drewN _ ?_ | ((with_reducible refine bel_set ?_ ?_ _); rotate_left; focus (first | (simp; done) | omega | (simp; omega))) | refine bel_step ?_ (by with_reducible assumption)))))).mono ?_); rintro e w_ ⟨rfl, hb_⟩; obtain ⟨y1, rfl⟩ := Soft.BW.mk hb_; clear hb_) | (go_at_call 53; (with_reducible refine (CI.out _ (HT.out.same (by (repeat (first | with_reducible exact bel_refl _ | with_reducible refine bel_alloc ?_ _ | with_reducible refine bel_bw _ ?_ | with_reducible refine bel_drew ?_ | with_reducible refine bel_drewN _ ?_ | ((with_reducible refine bel_set ?_ ?_ _); rotate_left; focus (first | (simp; done) | omega | (simp; omega))) | refine bel_step ?_ (by with_reducible assumption))))) false HIN.out).mono ?_); rintro e w_ ⟨rfl, hb_⟩; obtain ⟨y2, rfl⟩ := Soft.BW.mk hb_; clear hb_))
        refine bodyPost_ret (v := .tuple #[.int .i64 0, .int .i64 0, .int .i64 4]) (by simp [results, Tryz.results19, go_sem]) rfl ?_
        refine ⟨rfl, ?_⟩
        (repeat (first | with_reducible exact bel_refl _ | with_reducible refine bel_alloc ?_ _ | with_reducible refine bel_bw _ ?_ | with_reducible refine bel_drew ?_ | with_reducible refine bel_drewN _ ?_ | ((with_reducible refine bel_set ?_ ?_ _); rotate_left; focus (first | (simp; done) | omega | (simp; omega))) | refine bel_step ?_ (by with_reducible assumption)))
    · have E : areaE t.ps a b = ((0, 0), 4) := by unfold areaE; rw [if_pos hok, if_neg (fun h => hab h.1)]
      rw [E]
      have hab' : b < a := by omega
      clear E ht hok hn hab
      go_enter Tryz.func19, Tryz.ntmps19
      go_wp2_with (first | (go_at_call 52; (with_reducible refine (fix_CheckTable t _ (HT.out.same (by (repeat (first | with_reducible exact bel_refl _ | with_reducible refine bel_alloc ?_ _ | with_reducible refine bel_bw _ ?_ | with_reducible refine bel_drew ?_ | with_reducible refine bel_drewN _ ?_ | ((with_reducible refine bel_set ?_ ?_ _); rotate_left; focus (first | (simp; done) | omega | (simp; omega))) | refine bel_step ?_ (by with_reducible assumption)))))).mono ?_); rintro e w_ ⟨rfl, hb_⟩; obtain ⟨y1, rfl⟩ := Soft.BW.mk hb_; clear hb_))
      refine bodyPost_ret (v := .tuple #[.int .i64 0, .int .i64 0, .int .i64 4]) (by simp [results, Tryz.results19, go_sem]) rfl ?_
      refine ⟨rfl, ?_⟩
      (repeat (first | with_reducible exact bel_refl _ | with_reducible refine bel_alloc ?_ _ | with_reducible refine bel_bw _ ?_ | with_reducible refine bel_drew ?_ | with_reducible refine bel_drewN _ ?_ | ((with_reducible refine bel_set ?_ ?_ _); rotate_left; focus (first | (simp; done) | omega | (simp; omega))) | refine bel_step ?_ (by with_reducible assumption)))
  · have hte : tabErr t.ps = 11 := if_neg hok
    have E : areaE t.ps a b = ((0, 0), 11) := by unfold areaE; rw [if_neg hok]
    rw [E]
    clear E ht hok
    go_enter Tryz.func19, Tryz.ntmps19
    go_wp2_with (first | (go_at_call 52; (with_reducible refine (fix_CheckTable t _ (HT.out.same (by (repeat (first | with_reducible exact bel_refl _ | with_reducible refine bel_alloc ?_ _ | with_reducible refine bel_bw _ ?_ | with_reducible refine bel_drew ?_ | with_reducible refine bel_drewN _ ?_ | ((with_reducible refine bel_set ?_ ?_ _); rotate_left; focus (first | (simp; done) | omega | (simp; omega))) | refine bel_step ?_ (by with_reducible assumption)))))).mono ?_); rintro e w_ ⟨rfl, hb_⟩; obtain ⟨y1, rfl⟩ := Soft.BW.mk hb_; clear hb_))
    refine bodyPost_ret (v := .tuple #[.int .i64 0, .int .i64 0, .int .i64 11]) (by simp [results, Tryz.results19, go_sem]) rfl ?_
    refine ⟨rfl, ?_⟩
    (repeat (first | with_reducible exact bel_refl _ | with_reducible refine bel_alloc ?_ _ | with_reducible refine bel_bw _ ?_ | with_reducible refine bel_drew ?_ | with_reducible refine bel_drewN _ ?_ | ((with_reducible refine bel_set ?_ ?_ _); rotate_left; focus (first | (simp; done) | omega | (simp; omega))) | refine bel_step ?_ (by with_reducible assumption)))

end Go.Proofs.YteagdcgmmdiakaaGreat

namespace Go.Proofs.YteagdcgmmdiakaaGreat
set_option linter.unusedSimpArgs false
set_option linter.unusedVariables false
open Go.RowKit Go.Shelf
set_option maxRecDepth 100000
set_option maxHeartbeats 8000000
attribute [local go_sem] Oper.semAt_some Instr.field asAgg Soft.upon Soft.upon0 Soft.stepC Soft.BW.cell_if Soft.BW.frozen_if Soft.cell_alloc_if Soft.frozen_alloc_if
attribute [local irreducible] Soft.wpSoft Soft.wpMix

theorem tbOf3 {w : World} {g : Nat} {a b c : Pt} {t : TypeId} (h : HasBlk w g #[.int .i64 a.x, .int .i64 a.lo, .int .i64 a.hi, .int .i64 b.x, .int .i64 b.lo, .int .i64 b.hi, .int .i64 c.x, .int .i64 c.lo, .int .i64 c.hi] t) : Tb.At w ⟨some ⟨g, 0, none⟩, 3, 3, [a, b, c]⟩ := by
  refine ⟨rfl, by dsimp only; omega, by dsimp only; omega, by dsimp only; omega, fun _ => ⟨g, 0, rfl, h.lt, fun i hi => ?_⟩⟩
  match i, hi with
  | 0, _ => exact ⟨h.cell 0, h.cell 1, h.cell 2⟩
  | 1, _ => exact ⟨h.cell 3, h.cell 4, h.cell 5⟩
  | 2, _ => exact ⟨h.cell 6, h.cell 7, h.cell 8⟩

def awT : List Pt := [⟨0, 0, 0⟩, ⟨10, 5, 8⟩, ⟨40, 20, 20⟩]
theorem aw_at : atE awT 11 = (⟨5, 9⟩, 0) := by kernel_rfl
theorem aw_area : areaE awT 5 11 = ((48, 77), 0) := by kernel_rfl
theorem aw_lit : litE ⟨10, 10⟩ ⟨700, 800⟩ = ⟨12, 15⟩ := by kernel_rfl
theorem aw_mass : massErr ⟨10, 10⟩ ⟨700, 800⟩ = 0 := by kernel_rfl

/-- The two weights. -/
def awA : Wt := ⟨⟨1, 3⟩, ⟨0, 0⟩, ⟨0, 0⟩⟩
def awB : Wt := ⟨⟨1, 1⟩, ⟨10, 10⟩, ⟨0, 0⟩⟩
theorem perm_two {l : List Wt} {a b : Wt} (hab : a ≠ b) (h : l.Perm [a, b]) : l = [a, b] ∨ l = [b, a] := by
  have hl := h.length_eq
  match l, hl with
  | [x, y], _ =>
    have hx : x ∈ [a, b] := h.subset (by simp)
    have hy : y ∈ [a, b] := h.subset (by simp)
    have ha : a ∈ [x, y] := h.symm.subset (by simp)
    have hb : b ∈ [x, y] := h.symm.subset (by simp)
    simp at hx hy ha hb
    rcases hx with rfl | rfl <;> rcases hy with rfl | rfl <;> simp_all
theorem aw_centre {r : Rg} (h : CentreIs Wt.along [awA, awB] r) : r = ⟨2, 5⟩ := by
  obtain ⟨l1, l2, p1, q1, p2, q2, rfl⟩ := h
  have hne : awA ≠ awB := by decide
  rcases perm_two hne p1 with rfl | rfl
  · rcases perm_two hne p2 with rfl | rfl
    · exact absurd (q2 0 1 (by decide) (by decide)) (by decide)
    · decide
  · exact absurd (q1 0 1 (by decide) (by decide)) (by decide)
theorem aw_all : AllWt [awA, awB] where
  n := by decide
  w := fun k hk => by
    match k, hk with
    | 0, _ => decide
    | 1, _ => decide
  pos := by decide
theorem aw_sum {v : Wt} {c : Int} (h : SumIs [awA, awB] v c) : c = 0 ∧ v.along = ⟨2, 5⟩ := by
  rcases h with ⟨h, _⟩ | ⟨_, ⟨k, hk, h⟩, _⟩ | ⟨_, _, h, _⟩ | ⟨_, rfl, _, h, _⟩
  · exact absurd h (by decide)
  · exact absurd (aw_all.w k hk) h
  · exact absurd h aw_all.pos
  · exact ⟨rfl, aw_centre h⟩

theorem wsOf2 {w : World} {g : Nat} {a b : Wt} {t : TypeId} (h : HasBlk w g #[.int .i64 ((a).mass).lo, .int .i64 ((a).mass).hi, .int .i64 ((a).along).lo, .int .i64 ((a).along).hi, .int .i64 ((a).high).lo, .int .i64 ((a).high).hi, .int .i64 ((b).mass).lo, .int .i64 ((b).mass).hi, .int .i64 ((b).along).lo, .int .i64 ((b).along).hi, .int .i64 ((b).high).lo, .int .i64 ((b).high).hi] t) : WsAt w ⟨some ⟨g, 0, none⟩, 2, 2, [a, b]⟩ := by
  refine ⟨rfl, Nat.le_refl _, by dsimp only; omega, fun _ => ⟨g, 0, rfl, h.lt, fun i hi j v hv => ?_⟩⟩
  have hj : j < 6 := by
    have := (List.getElem?_eq_some_iff.1 hv).1
    simpa [wtC] using this
  refine (h.cell _).trans ?_
  match i, hi with
  | 0, _ =>
    match j, hj with
    | 0, _ => exact hv
    | 1, _ => exact hv
    | 2, _ => exact hv
    | 3, _ => exact hv
    | 4, _ => exact hv
    | 5, _ => exact hv
  | 1, _ =>
    match j, hj with
    | 0, _ => exact hv
    | 1, _ => exact hv
    | 2, _ => exact hv
    | 3, _ => exact hv
    | 4, _ => exact hv
    | 5, _ => exact hv

theorem Top_awake (w : World) : Calls Tryz.prog 5 #[] w fun e w' => e = .returned (.bool true) ∧ Below w.heap.size w w' := by
  go_enter Tryz.func5, Tryz.ntmps5
  go_wp2_with fail
  have gT : HasBlk ((w.alloc (.cells #[.int .i64 0, .int .i64 0, .int .i64 0, .int .i64 10, .int .i64 5, .int .i64 8, .int .i64 40, .int .i64 20, .int .i64 20] 69)).alloc (.cells #[.slice (some ⟨w.heap.size, 0, none⟩) 3 3] 24)) w.heap.size #[.int .i64 0, .int .i64 0, .int .i64 0, .int .i64 10, .int .i64 5, .int .i64 8, .int .i64 40, .int .i64 20, .int .i64 20] 69 := by simp only [HasBlk, Soft.heap_alloc_if, Soft.heap_new]
  have HT := Lib.hid (tbOf3 (a := ⟨0, 0, 0⟩) (b := ⟨10, 5, 8⟩) (c := ⟨40, 20, 20⟩) gT)
  have gB : HasBlk ((w.alloc (.cells #[.int .i64 0, .int .i64 0, .int .i64 0, .int .i64 10, .int .i64 5, .int .i64 8, .int .i64 40, .int .i64 20, .int .i64 20] 69)).alloc (.cells #[.slice (some ⟨w.heap.size, 0, none⟩) 3 3] 24)) (w.heap.size + 1) #[.slice (some ⟨w.heap.size, 0, none⟩) 3 3] 24 := by simp only [HasBlk, Soft.heap_new1]
  have hB : Below w.heap.size w ((w.alloc (.cells #[.int .i64 0, .int .i64 0, .int .i64 0, .int .i64 10, .int .i64 5, .int .i64 8, .int .i64 40, .int .i64 20, .int .i64 20] 69)).alloc (.cells #[.slice (some ⟨w.heap.size, 0, none⟩) 3 3] 24)) := by (repeat (first | with_reducible exact bel_refl _ | with_reducible refine bel_alloc ?_ _ | with_reducible refine bel_bw _ ?_ | with_reducible refine bel_drew ?_ | with_reducible refine bel_drewN _ ?_ | ((with_reducible refine bel_set ?_ ?_ _); rotate_left; focus (first | (simp; done) | omega | (simp; omega))) | refine bel_step ?_ (by with_reducible assumption)))
  generalize (w.alloc (.cells #[.int .i64 0, .int .i64 0, .int .i64 0, .int .i64 10, .int .i64 5, .int .i64 8, .int .i64 40, .int .i64 20, .int .i64 20] 69)).alloc (.cells #[.slice (some ⟨w.heap.size, 0, none⟩) 3 3] 24) = W0 at *
  have cT := gB.cell 0
  simp at cT
  have lT := Soft.LtH.mk (b := w.heap.size + 1) (w := W0) gB.lt
  have HB := Lib.hid hB
  clear gT gB hB
  have CA := Lib.hid (fun W hW => fix_At ⟨some ⟨w.heap.size, 0, none⟩, 3, 3, awT⟩ 11 W hW)
  have CR := Lib.hid (fun W hW => fix_Area ⟨some ⟨w.heap.size, 0, none⟩, 3, 3, awT⟩ 5 11 W hW)
  have CL := Lib.hid (fun W => hold_Litres ⟨10, 10⟩ ⟨700, 800⟩ W)
  dsimp only at CA CR CL
  rw [aw_at] at CA
  rw [aw_area] at CR
  rw [aw_lit, aw_mass] at CL
  refine (CA.out W0 HT.out).mono ?_
  rintro e w1 ⟨rfl, hb_⟩
  obtain ⟨y1, rfl⟩ := Soft.BW.mk hb_
  clear hb_
  go_wp2_with (go_at_call 19; refine (CR.out _ (HT.out.same (by (repeat (first | with_reducible exact bel_refl _ | with_reducible refine bel_alloc ?_ _ | with_reducible refine bel_bw _ ?_ | with_reducible refine bel_drew ?_ | with_reducible refine bel_drewN _ ?_ | ((with_reducible refine bel_set ?_ ?_ _); rotate_left; focus (first | (simp; done) | omega | (simp; omega))) | refine bel_step ?_ (by with_reducible assumption)))))).mono ?_; rintro e w_ ⟨rfl, hb_⟩; obtain ⟨y2, rfl⟩ := Soft.BW.mk hb_; clear hb_)
  have hW : WsAt (y2.w.alloc (.cells #[.int .i64 ((awA).mass).lo, .int .i64 ((awA).mass).hi, .int .i64 ((awA).along).lo, .int .i64 ((awA).along).hi, .int .i64 ((awA).high).lo, .int .i64 ((awA).high).hi, .int .i64 ((awB).mass).lo, .int .i64 ((awB).mass).hi, .int .i64 ((awB).along).lo, .int .i64 ((awB).along).hi, .int .i64 ((awB).high).lo, .int .i64 ((awB).high).hi] 29)) ⟨some ⟨y2.w.heap.size, 0, none⟩, 2, 2, [awA, awB]⟩ := wsOf2 (a := awA) (b := awB) (t := 29) (Soft.heap_new _ _)
  refine (cond_Sum1 y2.w.heap.size 0 2 2 [awA, awB] (by decide) _ hW).mono ?_
  rintro e w3 ⟨⟨v, c, hv, rfl⟩, hb_⟩
  obtain ⟨rfl, hal⟩ := aw_sum hv
  obtain ⟨m, al, hg⟩ := v
  dsimp only at hal
  subst hal
  obtain ⟨y3, rfl⟩ := Soft.BW.mk hb_
  clear hb_ hW hv
  go_wp2_with (go_at_call 21; refine (CL.out _).mono ?_; rintro e w_ ⟨rfl, hb_⟩; obtain ⟨y4, rfl⟩ := Soft.BW.mk hb_; clear hb_)
  refine bodyPost_ret (v := .bool true) (by simp [results, Tryz.results5, go_sem]) rfl ?_
  exact ⟨rfl, HB.out.trans ((show Below W0.heap.size W0 _ by (repeat (first | with_reducible exact bel_refl _ | with_reducible refine bel_alloc ?_ _ | with_reducible refine bel_bw _ ?_ | with_reducible refine bel_drew ?_ | with_reducible refine bel_drewN _ ?_ | ((with_reducible refine bel_set ?_ ?_ _); rotate_left; focus (first | (simp; done) | omega | (simp; omega))) | refine bel_step ?_ (by with_reducible assumption)))).mono HB.out.size)⟩

end Go.Proofs.YteagdcgmmdiakaaGreat
