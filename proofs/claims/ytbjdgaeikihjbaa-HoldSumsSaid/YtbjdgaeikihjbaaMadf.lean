/-
  The reference's and the law's small functions: First, Last, between, Free, Filled, Density, span, Fill, Inside, Within, somewhere, dense, around.
  Conditions: each theorem's own premises.
-/
import Derived.Test.YtbjdgaeikihjbaaMade
import Derived.Test.YtbjdgaeikihjbaaMono
import Derived.Test.YtbjdgaeikihjbaaFille
namespace Go.Proofs.Ytbjdgaeikihjbaa
set_option linter.unusedSimpArgs false
set_option linter.unusedVariables false
open Go.RowKit
set_option maxRecDepth 100000
set_option maxHeartbeats 1000000
attribute [local go_sem] Instr.field asAgg Soft.upon Soft.BW.cell_if Soft.BW.frozen_if Soft.cell_alloc_if Soft.frozen_alloc_if

theorem R2_First (t : Tb) (w : World) (ht : t.At w) (hn : 1 ≤ t.n) :
    Calls Try.prog 20 #[.agg #[.slice (t).p (t).n (t).c]] w fun e w' => e = .returned (.int .i64 (firstX t.ps)) ∧ Below w.heap.size w w' := by
  unfold firstX
  obtain ⟨p, n, c, ps⟩ := t
  obtain ⟨h1, h2, h3, h4, h5⟩ := ht
  obtain ⟨b, o, rfl, hb, hc⟩ := h5 (by dsimp only at *; omega)
  dsimp only at *
  have c0 := (hc 0 (by omega)).1
  have H1 := Lib.hid h1; clear h1 hc h5
  generalize pt ps 0 = p0 at *
  simp only [Nat.zero_mul, Nat.add_zero] at c0
  have := Soft.LtH.mk (w := w) hb
  have i0 : 0 < n := by omega
  go_enter Try.func20, Try.ntmps20
  go_wp2
  go_ret
  refine ⟨rfl, ?_⟩
  (repeat (first | with_reducible exact bel_refl _ | with_reducible refine bel_alloc ?_ _ | with_reducible refine bel_bw _ ?_ | with_reducible refine bel_drew ?_ | with_reducible refine bel_drewN _ ?_ | ((with_reducible refine bel_set ?_ ?_ _); rotate_left; focus (first | (simp; done) | omega | (simp; omega))) | refine bel_step ?_ (by with_reducible assumption)))

theorem R2_Last (t : Tb) (w : World) (ht : t.At w) (hn : 1 ≤ t.n) :
    Calls Try.prog 18 #[.agg #[.slice (t).p (t).n (t).c]] w fun e w' => e = .returned (.int .i64 (lastX t.ps)) ∧ Below w.heap.size w w' := by
  have e0 := isIn_len ht
  unfold lastX
  rw [← e0]
  obtain ⟨p, n, c, ps⟩ := t
  obtain ⟨h1, h2, h3, h4, h5⟩ := ht
  obtain ⟨b, o, rfl, hb, hc⟩ := h5 (by dsimp only at *; omega)
  dsimp only at *
  have c1 := (hc (n - 1) (by omega)).1
  have H1 := Lib.hid h1; clear h1 hc h5 e0
  generalize pt ps (n - 1) = p1 at *
  have := Soft.LtH.mk (w := w) hb
  have i1 : (n : Int) - 1 < n := by omega
  have i2 : (1 : Int) ≤ n := by omega
  have i3 : ((n : Int) - 1).toNat = n - 1 := by omega
  go_enter Try.func18, Try.ntmps18
  go_wp2
  go_ret
  refine ⟨rfl, ?_⟩
  (repeat (first | with_reducible exact bel_refl _ | with_reducible refine bel_alloc ?_ _ | with_reducible refine bel_bw _ ?_ | with_reducible refine bel_drew ?_ | with_reducible refine bel_drewN _ ?_ | ((with_reducible refine bel_set ?_ ?_ _); rotate_left; focus (first | (simp; done) | omega | (simp; omega))) | refine bel_step ?_ (by with_reducible assumption)))

theorem R2_between (n lo hi : Int) (w : World) (v : Bool) (hv : v = decide (lo ≤ n ∧ n ≤ hi)) :
    Calls Try.prog 75 #[.int .i64 n, .int .i64 lo, .int .i64 hi] w fun e w' => e = .returned (.bool v) ∧ w' = w := by
  have HV := Lib.hid hv; clear hv
  go_enter Try.func75, Try.ntmps75
  go_wp2
  all_goals
    go_ret
    refine ⟨ret_bool ?_, rfl⟩
    rw [HV.out, Bool.eq_iff_iff]
    simp
    omega

theorem R2_Free (n : Int) (w : World) (v : Bool) (hv : v = decide (3 ≤ n ∧ n ≤ 5)) :
    Calls Try.prog 28 #[.int .i64 n] w fun e w' => e = .returned (.bool v) ∧ w' = w := by
  have HV := Lib.hid hv; clear hv
  go_enter Try.func28, Try.ntmps28
  go_wp2_with (go_at_call 75; (with_reducible refine (R2_between _ _ _ _ v HV.out).mono ?_); rintro e w_ ⟨rfl, hw_⟩; subst w_)
  go_ret
  exact ⟨rfl, rfl⟩
theorem R2_Filled (n : Int) (w : World) (v : Bool) (hv : v = decide (1 ≤ n ∧ n ≤ 2)) :
    Calls Try.prog 100 #[.int .i64 n] w fun e w' => e = .returned (.bool v) ∧ w' = w := by
  have HV := Lib.hid hv; clear hv
  go_enter Try.func100, Try.ntmps100
  go_wp2_with (go_at_call 75; (with_reducible refine (R2_between _ _ _ _ v HV.out).mono ?_); rintro e w_ ⟨rfl, hw_⟩; subst w_)
  go_ret
  exact ⟨rfl, rfl⟩

/-- A density that two numbers describe. -/
def denS (a b : Int) : Rg := ⟨500 + a % 900, 500 + a % 900 + b % 200⟩
theorem denS_in (a b : Int) : isDen (denS a b) := by
  have a1 := Int.emod_nonneg a (show (900 : Int) ≠ 0 by omega)
  have a2 := Int.emod_lt_of_pos a (show (0 : Int) < 900 by omega)
  have b1 := Int.emod_nonneg b (show (200 : Int) ≠ 0 by omega)
  have b2 := Int.emod_lt_of_pos b (show (0 : Int) < 200 by omega)
  unfold isDen isPart denS
  dsimp only
  omega

theorem R2_Density (a b : Int) (w : World) :
    Calls Try.prog 17 #[.int .i64 a, .int .i64 b] w fun e w' => e = .returned (.agg #[.int .i64 (denS a b).lo, .int .i64 (denS a b).hi]) ∧ Below w.heap.size w w' := by
  obtain ⟨z1, hz1⟩ : ∃ z, z = a % 900 := ⟨_, rfl⟩
  have z11 := Int.emod_nonneg a (show (900 : Int) ≠ 0 by omega)
  have z12 := Int.emod_lt_of_pos a (show (0 : Int) < 900 by omega)
  rw [← hz1] at z11 z12
  obtain ⟨z2, hz2⟩ : ∃ z, z = b % 200 := ⟨_, rfl⟩
  have z21 := Int.emod_nonneg b (show (200 : Int) ≠ 0 by omega)
  have z22 := Int.emod_lt_of_pos b (show (0 : Int) < 200 by omega)
  rw [← hz2] at z21 z22
  have HV := Lib.hid (show denS a b = ⟨500 + z1, 500 + z1 + z2⟩ by unfold denS; rw [← hz1, ← hz2])
  have HZ1 := Lib.hid hz1; have HZ2 := Lib.hid hz2; clear hz1 hz2
  go_enter Try.func17, Try.ntmps17
  go_wp2_with (first | (go_at_call 37; (with_reducible refine (R2_Mod _ _ z1 _ (by omega) (by omega) HZ1.out).mono ?_); rintro e w_ ⟨rfl, hw_⟩; subst w_) | (go_at_call 37; (with_reducible refine (R2_Mod _ _ z2 _ (by omega) (by omega) HZ2.out).mono ?_); rintro e w_ ⟨rfl, hw_⟩; subst w_))
  rw [HV.out]
  refine bodyPost_ret (v := .agg #[.int .i64 ((⟨500 + z1, 500 + z1 + z2⟩ : Rg)).lo, .int .i64 ((⟨500 + z1, 500 + z1 + z2⟩ : Rg)).hi]) (by simp [results, Try.results17, go_sem]) rfl ?_
  refine ⟨rfl, ?_⟩
  (repeat (first | with_reducible exact bel_refl _ | with_reducible refine bel_alloc ?_ _ | with_reducible refine bel_bw _ ?_ | with_reducible refine bel_drew ?_ | with_reducible refine bel_drewN _ ?_ | ((with_reducible refine bel_set ?_ ?_ _); rotate_left; focus (first | (simp; done) | omega | (simp; omega))) | refine bel_step ?_ (by with_reducible assumption)))

/-- A range of places of a table. -/
def spanS (f l a b : Int) : Rg := ⟨f + a % (l - f + 1), f + a % (l - f + 1) + b % (min (l - (f + a % (l - f + 1))) 25 + 1)⟩
theorem spanS_in (f l a b : Int) (h : f ≤ l) : isPart (spanS f l a b) f l := by
  have a1 := Int.emod_nonneg a (show l - f + 1 ≠ 0 by omega)
  have a2 := Int.emod_lt_of_pos a (show 0 < l - f + 1 by omega)
  unfold isPart spanS
  dsimp only
  generalize a % (l - f + 1) = z at *
  have b1 := Int.emod_nonneg b (show min (l - (f + z)) 25 + 1 ≠ 0 by omega)
  have b2 := Int.emod_lt_of_pos b (show 0 < min (l - (f + z)) 25 + 1 by omega)
  omega

theorem R2_span (t : Tb) (a b : Int) (w : World) (ht : t.At w) (hok : TabOk t.ps) :
    Calls Try.prog 66 #[.agg #[.slice (t).p (t).n (t).c], .int .i64 a, .int .i64 b] w fun e w' => e = .returned (.agg #[.int .i64 (spanS (firstX t.ps) (lastX t.ps) a b).lo, .int .i64 (spanS (firstX t.ps) (lastX t.ps) a b).hi]) ∧ Below w.heap.size w w' := by
  have hn : 1 ≤ t.n := by rw [← ht.1]; exact hok.pos
  obtain ⟨e1, e2, e3⟩ := hok.ends
  clear hok
  generalize hf : firstX t.ps = f at *
  generalize hl : lastX t.ps = l at *
  obtain ⟨z1, hz1⟩ : ∃ z, z = a % (l - f + 1) := ⟨_, rfl⟩
  have z11 := Int.emod_nonneg a (show l - f + 1 ≠ 0 by omega)
  have z12 := Int.emod_lt_of_pos a (show 0 < l - f + 1 by omega)
  rw [← hz1] at z11 z12
  obtain ⟨m, hm⟩ : ∃ m, m = min (l - (f + z1)) 25 := ⟨_, rfl⟩
  have m1 : 0 ≤ m ∧ m ≤ 25 := by omega
  obtain ⟨z2, hz2⟩ : ∃ z, z = b % (m + 1) := ⟨_, rfl⟩
  have z21 := Int.emod_nonneg b (show m + 1 ≠ 0 by omega)
  have z22 := Int.emod_lt_of_pos b (show 0 < m + 1 by omega)
  rw [← hz2] at z21 z22
  have HV := Lib.hid (show spanS f l a b = ⟨f + z1, f + z1 + z2⟩ by unfold spanS; rw [← hz1, ← hm, ← hz2])
  have HF := Lib.hid hf; have HL := Lib.hid hl
  have HZ1 := Lib.hid hz1; have HZ2 := Lib.hid hz2; have HM := Lib.hid hm; clear hz1 hz2 hf hl hm
  obtain ⟨m11, m12⟩ := m1
  have CF : ∀ W : World, t.At W → Calls Try.prog 20 #[.agg #[.slice (t).p (t).n (t).c]] W fun e w' => e = .returned (.int .i64 f) ∧ Below W.heap.size W w' := fun W h => by
    have := R2_First t W h hn; rwa [HF.out] at this
  have CL : ∀ W : World, t.At W → Calls Try.prog 18 #[.agg #[.slice (t).p (t).n (t).c]] W fun e w' => e = .returned (.int .i64 l) ∧ Below W.heap.size W w' := fun W h => by
    have := R2_Last t W h hn; rwa [HL.out] at this
  have HCF := Lib.hid CF; have HCL := Lib.hid CL; clear CF CL
  go_enter Try.func66, Try.ntmps66
  go_wp2_with fail
  (refine Soft.region0 [0, 1, 2, 3, 4, 5, 6] [] (by kernel_rfl) (by kernel_rfl) (by kernel_rfl) (by kernel_rfl) ?_; change Soft.wpSoft _ _ _ _ _ [_, _, _, _, _, _, _] _; (repeat (refine Soft.soft_step (fun K hK => ?_); go_simp; (try go_bits); first | (refine hK _ ?_; clear hK K) | (apply Exists.intro; refine ⟨fun x => ?_, hK _ ?_⟩; (first | (go_at_call 20; exact HCF.out _ (by repeat (first | exact ht | refine Tb.At.alloc ?_ _ | refine Tb.At.bw ?_ _))) | (go_at_call 18; exact HCL.out _ (by repeat (first | exact ht | refine Tb.At.alloc ?_ _ | refine Tb.At.bw ?_ _)))); clear hK K))); refine Soft.soft_nil ?_; intro xw; change wpList _ _ _ [] _ _)
  go_wp2_with (first | (go_at_call 20; (with_reducible refine (HCF.out _ (by repeat (first | exact ht | refine Tb.At.alloc ?_ _ | refine Tb.At.bw ?_ _))).mono ?_); rintro e w_ ⟨rfl, hb_⟩; obtain ⟨y1, rfl⟩ := Soft.BW.mk hb_; clear hb_) | (go_at_call 18; (with_reducible refine (HCL.out _ (by repeat (first | exact ht | refine Tb.At.alloc ?_ _ | refine Tb.At.bw ?_ _))).mono ?_); rintro e w_ ⟨rfl, hb_⟩; obtain ⟨y2, rfl⟩ := Soft.BW.mk hb_; clear hb_) | (go_at_call 37; (with_reducible refine (R2_Mod _ _ z1 _ (by omega) (by omega) HZ1.out).mono ?_); rintro e w_ ⟨rfl, hw_⟩; subst w_))
  all_goals
    go_at_call 37
    refine (R2_Mod _ _ z2 _ (by omega) (by omega) (by have h1 := HM.out; have h2 := HZ2.out; rw [h2]; congr 1; omega)).mono ?_
    rintro e w_ ⟨rfl, hw_⟩
    subst w_
    go_wp2_with fail
    rw [HV.out]
    refine bodyPost_ret (v := .agg #[.int .i64 ((⟨f + z1, f + z1 + z2⟩ : Rg)).lo, .int .i64 ((⟨f + z1, f + z1 + z2⟩ : Rg)).hi]) (by simp [results, Try.results66, go_sem]) rfl ?_
    refine ⟨rfl, ?_⟩
    (repeat (first | with_reducible exact bel_refl _ | with_reducible refine bel_alloc ?_ _ | with_reducible refine bel_bw _ ?_ | with_reducible refine bel_drew ?_ | with_reducible refine bel_drewN _ ?_ | ((with_reducible refine bel_set ?_ ?_ _); rotate_left; focus (first | (simp; done) | omega | (simp; omega))) | refine bel_step ?_ (by with_reducible assumption)))

def stS (x : Int) : Int := if 5 < x % 9 then 3 else x % 9
theorem stS_in (x : Int) : 0 ≤ stS x ∧ stS x ≤ 5 := by
  have a1 := Int.emod_nonneg x (show (9 : Int) ≠ 0 by omega)
  unfold stS
  split <;> omega
/-- The valid fill of a valid hold that numbers describe. -/
def fiS (h : Ho) (x0 x1 x2 x3 x4 : Int) : Fi :=
  if stS x0 = 0 then ⟨h.id, 0, ⟨0, 0⟩, ⟨0, 0⟩⟩ else if 3 ≤ stS x0 then ⟨h.id, stS x0, spanS (firstX h.vol.ps) (lastX h.vol.ps) x1 x2, denS x3 x4⟩ else ⟨h.id, stS x0, ⟨0, 0⟩, denS x3 x4⟩
theorem fiS_in {h : Ho} (h0 : HoldOk h) (x0 x1 x2 x3 x4 : Int) : FillIn h (fiS h x0 x1 x2 x3 x4) := by
  have hs := stS_in x0
  unfold fiS
  split
  · exact ⟨rfl, .inl ⟨rfl, rfl, rfl⟩⟩
  · split
    · exact ⟨rfl, .inr (.inr ⟨⟨by assumption, hs.2⟩, spanS_in _ _ _ _ h0.tabs.1.ok.ends.2.1, denS_in _ _⟩)⟩
    · exact ⟨rfl, .inr (.inl ⟨by show stS x0 = 1 ∨ stS x0 = 2; omega, rfl, denS_in _ _⟩)⟩

theorem HasBlk.row_other {W : World} {B : Nat} {c : Array Value} {t : TypeId} (h : HasBlk W B c t) {g : Nat} (hg : B ≠ g) (cs : Array Value) : HasBlk (W.setRow g cs) B c t := (setRow_other W g B cs hg).trans h


theorem R2_Fill (h : Ho) (x0 x1 x2 x3 x4 : Int) (w : World) (hh : h.At w) (h0 : HoldOk h) :
    Calls Try.prog 16 #[.agg #[.int .i64 (h).id, .int .i64 ((h).along).lo, .int .i64 ((h).along).hi, .slice ((h).vol).p ((h).vol).n ((h).vol).c, .slice ((h).mom).p ((h).mom).n ((h).mom).c, .slice ((h).hei).p ((h).hei).n ((h).hei).c, .int .i64 ((h).tri).lo, .int .i64 ((h).tri).hi, .int .i64 ((h).unt).lo, .int .i64 ((h).unt).hi, .int .i64 ((h).v0).lo, .int .i64 ((h).v0).hi, .int .i64 ((h).h0).lo, .int .i64 ((h).h0).hi], .agg #[.int .i64 x0, .int .i64 x1, .int .i64 x2, .int .i64 x3, .int .i64 x4]] w fun e w' => e = .returned (.agg #[.int .i64 (fiS h x0 x1 x2 x3 x4).hold, .int .i64 (fiS h x0 x1 x2 x3 x4).state, .int .i64 ((fiS h x0 x1 x2 x3 x4).ull).lo, .int .i64 ((fiS h x0 x1 x2 x3 x4).ull).hi, .int .i64 ((fiS h x0 x1 x2 x3 x4).den).lo, .int .i64 ((fiS h x0 x1 x2 x3 x4).den).hi]) ∧ Below w.heap.size w w' := by
  have hv := hh.1
  have hok := Lib.hid h0.tabs.1.ok
  have hvb : Hid (∀ b o, h.vol.p = some ⟨b, o, none⟩ → b < w.heap.size) := Lib.hid (fun b o e => by
    have hn : 1 ≤ h.vol.n := by rw [← hv.1]; exact h0.tabs.1.ok.pos
    obtain ⟨_, _, _, _, h5⟩ := hv
    obtain ⟨b', o', e', hl, _⟩ := h5 (by omega)
    rw [e] at e'
    cases e'
    exact hl)
  obtain ⟨z, hz⟩ : ∃ z, z = x0 % 9 := ⟨_, rfl⟩
  have z1 := Int.emod_nonneg x0 (show (9 : Int) ≠ 0 by omega)
  have z2 := Int.emod_lt_of_pos x0 (show (0 : Int) < 9 by omega)
  rw [← hz] at z1 z2
  have HZ := Lib.hid hz
  by_cases c5 : 5 < z
  · have HV := Lib.hid (show fiS h x0 x1 x2 x3 x4 = ⟨h.id, 3, spanS (firstX h.vol.ps) (lastX h.vol.ps) x1 x2, denS x3 x4⟩ by
      have e : stS x0 = 3 := by unfold stS; rw [← hz, if_pos c5]
      unfold fiS; rw [e]; rfl)
    clear hz h0
    go_enter Try.func16, Try.ntmps16
    go_wp2_with fail
    have B0 : HasBlk (((w.alloc (.cells #[.int .i64 (h).id, .int .i64 ((h).along).lo, .int .i64 ((h).along).hi, .slice ((h).vol).p ((h).vol).n ((h).vol).c, .slice ((h).mom).p ((h).mom).n ((h).mom).c, .slice ((h).hei).p ((h).hei).n ((h).hei).c, .int .i64 ((h).tri).lo, .int .i64 ((h).tri).hi, .int .i64 ((h).unt).lo, .int .i64 ((h).unt).hi, .int .i64 ((h).v0).lo, .int .i64 ((h).v0).hi, .int .i64 ((h).h0).lo, .int .i64 ((h).h0).hi] 35)).alloc (.cells #[.int .i64 x0, .int .i64 x1, .int .i64 x2, .int .i64 x3, .int .i64 x4] 25)).alloc (.cells #[.int .i64 0, .int .i64 0, .int .i64 0, .int .i64 0, .int .i64 0, .int .i64 0] 38)) w.heap.size #[.int .i64 (h).id, .int .i64 ((h).along).lo, .int .i64 ((h).along).hi, .slice ((h).vol).p ((h).vol).n ((h).vol).c, .slice ((h).mom).p ((h).mom).n ((h).mom).c, .slice ((h).hei).p ((h).hei).n ((h).hei).c, .int .i64 ((h).tri).lo, .int .i64 ((h).tri).hi, .int .i64 ((h).unt).lo, .int .i64 ((h).unt).hi, .int .i64 ((h).v0).lo, .int .i64 ((h).v0).hi, .int .i64 ((h).h0).lo, .int .i64 ((h).h0).hi] 35 := by simp only [HasBlk, Soft.heap_alloc_if, Soft.heap_new]
    have B1 : HasBlk (((w.alloc (.cells #[.int .i64 (h).id, .int .i64 ((h).along).lo, .int .i64 ((h).along).hi, .slice ((h).vol).p ((h).vol).n ((h).vol).c, .slice ((h).mom).p ((h).mom).n ((h).mom).c, .slice ((h).hei).p ((h).hei).n ((h).hei).c, .int .i64 ((h).tri).lo, .int .i64 ((h).tri).hi, .int .i64 ((h).unt).lo, .int .i64 ((h).unt).hi, .int .i64 ((h).v0).lo, .int .i64 ((h).v0).hi, .int .i64 ((h).h0).lo, .int .i64 ((h).h0).hi] 35)).alloc (.cells #[.int .i64 x0, .int .i64 x1, .int .i64 x2, .int .i64 x3, .int .i64 x4] 25)).alloc (.cells #[.int .i64 0, .int .i64 0, .int .i64 0, .int .i64 0, .int .i64 0, .int .i64 0] 38)) (w.heap.size + 1) #[.int .i64 x0, .int .i64 x1, .int .i64 x2, .int .i64 x3, .int .i64 x4] 25 := by simp only [HasBlk, Soft.heap_alloc_if, Soft.heap_new1]
    have B2 : HasBlk (((w.alloc (.cells #[.int .i64 (h).id, .int .i64 ((h).along).lo, .int .i64 ((h).along).hi, .slice ((h).vol).p ((h).vol).n ((h).vol).c, .slice ((h).mom).p ((h).mom).n ((h).mom).c, .slice ((h).hei).p ((h).hei).n ((h).hei).c, .int .i64 ((h).tri).lo, .int .i64 ((h).tri).hi, .int .i64 ((h).unt).lo, .int .i64 ((h).unt).hi, .int .i64 ((h).v0).lo, .int .i64 ((h).v0).hi, .int .i64 ((h).h0).lo, .int .i64 ((h).h0).hi] 35)).alloc (.cells #[.int .i64 x0, .int .i64 x1, .int .i64 x2, .int .i64 x3, .int .i64 x4] 25)).alloc (.cells #[.int .i64 0, .int .i64 0, .int .i64 0, .int .i64 0, .int .i64 0, .int .i64 0] 38)) (w.heap.size + 1 + 1) #[.int .i64 0, .int .i64 0, .int .i64 0, .int .i64 0, .int .i64 0, .int .i64 0] 38 := by simp only [HasBlk, Soft.heap_new2]
    have HB0 := Lib.hid B0; have HB1 := Lib.hid B1; have HB2 := Lib.hid B2; clear B0 B1 B2
    (refine Soft.region1 [0, 1, 2, 3, 4, 5] 6 [7] _ (by kernel_rfl) (by kernel_rfl) (by kernel_rfl) rfl rfl (by kernel_rfl) ?_; change Soft.wpSoft _ _ _ _ _ [_, _, _, _, _, _] _; (repeat (refine Soft.soft_step (fun K hK => ?_); go_simp; (try go_bits); first | (refine hK _ ?_; clear hK K) | (apply Exists.intro; refine ⟨fun x => ?_, hK _ ?_⟩; ((go_at_call 37; exact Calls.bel (R2_Mod _ _ z _ (by omega) (by omega) HZ.out))); clear hK K))); refine Soft.soft_nil ?_)
    refine ⟨fun b => .pointer (some ⟨b, 0, none⟩), .cells #[.int .i64 0, .int .i64 0, .int .i64 0, .int .i64 0, .int .i64 0, .int .i64 0] 38, fun x => by go_simp, fun kb x hnew => ?_⟩
    have k0 := hnew.le
    simp at k0
    have W0 := HB0.out.below x.below
    have W1 := HB1.out.below x.below
    have W2 := HB2.out.below x.below
    have HH := ((((hh.alloc (.cells #[.int .i64 (h).id, .int .i64 ((h).along).lo, .int .i64 ((h).along).hi, .slice ((h).vol).p ((h).vol).n ((h).vol).c, .slice ((h).mom).p ((h).mom).n ((h).mom).c, .slice ((h).hei).p ((h).hei).n ((h).hei).c, .int .i64 ((h).tri).lo, .int .i64 ((h).tri).hi, .int .i64 ((h).unt).lo, .int .i64 ((h).unt).hi, .int .i64 ((h).v0).lo, .int .i64 ((h).v0).hi, .int .i64 ((h).h0).lo, .int .i64 ((h).h0).hi] 35)).alloc (.cells #[.int .i64 x0, .int .i64 x1, .int .i64 x2, .int .i64 x3, .int .i64 x4] 25)).alloc (.cells #[.int .i64 0, .int .i64 0, .int .i64 0, .int .i64 0, .int .i64 0, .int .i64 0] 38)).bw x).1
    have hbel : Below w.heap.size w x.w := by (repeat (first | with_reducible exact bel_refl _ | with_reducible refine bel_alloc ?_ _ | with_reducible refine bel_bw _ ?_ | with_reducible refine bel_drew ?_ | with_reducible refine bel_drewN _ ?_ | ((with_reducible refine bel_set ?_ ?_ _); rotate_left; focus (first | (simp; done) | omega | (simp; omega))) | refine bel_step ?_ (by with_reducible assumption)))
    have hk := hnew.at_
    have hkl := hnew.lt
    have m1 : ¬(kb = w.heap.size) := by omega
    have m2 : ¬(kb = w.heap.size + 1) := by omega
    have m3 : ¬(kb = w.heap.size + 1 + 1) := by omega
    have m4 : ¬(w.heap.size = kb) := by omega
    have m5 : ¬(w.heap.size + 1 = kb) := by omega
    have m6 : ¬(w.heap.size + 1 + 1 = kb) := by omega
    have X0 := Lib.hid W0; have X1 := Lib.hid W1; have X2 := Lib.hid W2; have XH := Lib.hid HH; have XB := Lib.hid hbel; have XK := Lib.hid hk
    clear W0 W1 W2 HH hbel hk hnew
    change wpList _ _ _ [_] _ _
    go_wp2_with (first | (refine wpList_store_row rfl 38 _ _ rfl kb _ rfl rfl 38 _ XK.out (by kernel_rfl) rfl (by kernel_rfl) ?_; have b0 := HasBlk.row_other X0.out (show w.heap.size ≠ kb by omega) #[.int .i64 h.id, .int .i64 z, .int .i64 0, .int .i64 0, .int .i64 0, .int .i64 0]; have b1 := HasBlk.row_other X1.out (show w.heap.size + 1 ≠ kb by omega) #[.int .i64 h.id, .int .i64 z, .int .i64 0, .int .i64 0, .int .i64 0, .int .i64 0]; have b2 := HasBlk.row_other X2.out (show w.heap.size + 1 + 1 ≠ kb by omega) #[.int .i64 h.id, .int .i64 z, .int .i64 0, .int .i64 0, .int .i64 0, .int .i64 0]; have bk : HasBlk (x.w.setRow kb #[.int .i64 h.id, .int .i64 z, .int .i64 0, .int .i64 0, .int .i64 0, .int .i64 0]) kb #[.int .i64 h.id, .int .i64 z, .int .i64 0, .int .i64 0, .int .i64 0, .int .i64 0] 38 := setRow_heap _ _ _ _ _ _ XK.out; have bv := Tb.At.row XH.out (g := kb) (fun b o e => by have := hvb.out b o e; omega) #[.int .i64 h.id, .int .i64 z, .int .i64 0, .int .i64 0, .int .i64 0, .int .i64 0]; have bb := below_setRow (g := kb) XB.out (by omega) #[.int .i64 h.id, .int .i64 z, .int .i64 0, .int .i64 0, .int .i64 0, .int .i64 0]; generalize x.w.setRow kb #[.int .i64 h.id, .int .i64 z, .int .i64 0, .int .i64 0, .int .i64 0, .int .i64 0] = W1 at *; have i0 := Soft.LtH.mk (b := w.heap.size) (w := W1) b0.lt; have i1 := Soft.LtH.mk (b := w.heap.size + 1) (w := W1) b1.lt; have i2 := Soft.LtH.mk (b := w.heap.size + 1 + 1) (w := W1) b2.lt; have ik := Soft.LtH.mk (b := kb) (w := W1) bk.lt; have c03 := b0.cell 3; have c11 := b1.cell 1; have c12 := b1.cell 2; have c13 := b1.cell 3; have c14 := b1.cell 4; have c20 := b2.cell 0; have c21 := b2.cell 1; have c22 := b2.cell 2; have c23 := b2.cell 3; have c24 := b2.cell 4; have c25 := b2.cell 5; have d20 := b2.frozen 0; have d21 := b2.frozen 1; have d22 := b2.frozen 2; have d23 := b2.frozen 3; have d24 := b2.frozen 4; have d25 := b2.frozen 5; have ck0 := bk.cell 0; have ck1 := bk.cell 1; have ck2 := bk.cell 2; have ck3 := bk.cell 3; have ck4 := bk.cell 4; have ck5 := bk.cell 5; have dk1 := bk.frozen 1; have dk2 := bk.frozen 2; have dk3 := bk.frozen 3; have dk4 := bk.frozen 4; have dk5 := bk.frozen 5; simp at c03 c11 c12 c13 c14 c20 c21 c22 c23 c24 c25 ck0 ck1 ck2 ck3 ck4 ck5; have BB := Lib.hid bb; have BV := Lib.hid bv; clear b0 b1 b2 bk bb bv) | (go_at_call 17; (with_reducible refine (R2_Density _ _ _).mono ?_); rintro e w_ ⟨rfl, hb_⟩; obtain ⟨y1, rfl⟩ := Soft.BW.mk hb_; clear hb_) | (go_at_call 28; (with_reducible refine (R2_Free _ _ _ rfl).mono ?_); rintro e w_ ⟨rfl, hw_⟩; subst w_) | (go_at_call 66; (with_reducible refine (R2_span h.vol _ _ _ (by with_reducible repeat (first | exact BV.out | refine Tb.At.alloc ?_ _ | refine Tb.At.bw ?_ _ | refine Tb.At.setCell ?_ (fun b o e => by have := hvb.out b o e; dsimp only; omega) _)) hok.out).mono ?_); rintro e w_ ⟨rfl, hb_⟩; obtain ⟨y2, rfl⟩ := Soft.BW.mk hb_; clear hb_))
    rw [HV.out]
    refine bodyPost_ret (v := .agg #[.int .i64 ((⟨h.id, 3, spanS (firstX h.vol.ps) (lastX h.vol.ps) x1 x2, denS x3 x4⟩ : Fi)).hold, .int .i64 ((⟨h.id, 3, spanS (firstX h.vol.ps) (lastX h.vol.ps) x1 x2, denS x3 x4⟩ : Fi)).state, .int .i64 (((⟨h.id, 3, spanS (firstX h.vol.ps) (lastX h.vol.ps) x1 x2, denS x3 x4⟩ : Fi)).ull).lo, .int .i64 (((⟨h.id, 3, spanS (firstX h.vol.ps) (lastX h.vol.ps) x1 x2, denS x3 x4⟩ : Fi)).ull).hi, .int .i64 (((⟨h.id, 3, spanS (firstX h.vol.ps) (lastX h.vol.ps) x1 x2, denS x3 x4⟩ : Fi)).den).lo, .int .i64 (((⟨h.id, 3, spanS (firstX h.vol.ps) (lastX h.vol.ps) x1 x2, denS x3 x4⟩ : Fi)).den).hi]) (by simp [results, Try.results16, go_sem, c20, c21, c22, c23, c24, c25, d20, d21, d22, d23, d24, d25]) rfl ?_
    refine ⟨rfl, ?_⟩
    (repeat (first | with_reducible exact bel_refl _ | with_reducible refine bel_alloc ?_ _ | with_reducible refine bel_bw _ ?_ | with_reducible refine bel_drew ?_ | with_reducible refine bel_drewN _ ?_ | ((with_reducible refine bel_set ?_ ?_ _); rotate_left; focus (first | (simp; done) | omega | (simp; omega))) | refine bel_step ?_ (by with_reducible assumption)))
    exact BB.out
  · have e : stS x0 = z := by unfold stS; rw [← hz, if_neg c5]
    by_cases c0 : z = 0
    · have HV := Lib.hid (show fiS h x0 x1 x2 x3 x4 = ⟨h.id, 0, ⟨0, 0⟩, ⟨0, 0⟩⟩ by unfold fiS; rw [e, c0]; rfl)
      have d0 : (z == 0) = true := by rw [c0]; rfl
      clear hz h0 e
      have C0 := Lib.hid c0; clear c0
      go_enter Try.func16, Try.ntmps16
      go_wp2_with fail
      have B0 : HasBlk (((w.alloc (.cells #[.int .i64 (h).id, .int .i64 ((h).along).lo, .int .i64 ((h).along).hi, .slice ((h).vol).p ((h).vol).n ((h).vol).c, .slice ((h).mom).p ((h).mom).n ((h).mom).c, .slice ((h).hei).p ((h).hei).n ((h).hei).c, .int .i64 ((h).tri).lo, .int .i64 ((h).tri).hi, .int .i64 ((h).unt).lo, .int .i64 ((h).unt).hi, .int .i64 ((h).v0).lo, .int .i64 ((h).v0).hi, .int .i64 ((h).h0).lo, .int .i64 ((h).h0).hi] 35)).alloc (.cells #[.int .i64 x0, .int .i64 x1, .int .i64 x2, .int .i64 x3, .int .i64 x4] 25)).alloc (.cells #[.int .i64 0, .int .i64 0, .int .i64 0, .int .i64 0, .int .i64 0, .int .i64 0] 38)) w.heap.size #[.int .i64 (h).id, .int .i64 ((h).along).lo, .int .i64 ((h).along).hi, .slice ((h).vol).p ((h).vol).n ((h).vol).c, .slice ((h).mom).p ((h).mom).n ((h).mom).c, .slice ((h).hei).p ((h).hei).n ((h).hei).c, .int .i64 ((h).tri).lo, .int .i64 ((h).tri).hi, .int .i64 ((h).unt).lo, .int .i64 ((h).unt).hi, .int .i64 ((h).v0).lo, .int .i64 ((h).v0).hi, .int .i64 ((h).h0).lo, .int .i64 ((h).h0).hi] 35 := by simp only [HasBlk, Soft.heap_alloc_if, Soft.heap_new]
      have B1 : HasBlk (((w.alloc (.cells #[.int .i64 (h).id, .int .i64 ((h).along).lo, .int .i64 ((h).along).hi, .slice ((h).vol).p ((h).vol).n ((h).vol).c, .slice ((h).mom).p ((h).mom).n ((h).mom).c, .slice ((h).hei).p ((h).hei).n ((h).hei).c, .int .i64 ((h).tri).lo, .int .i64 ((h).tri).hi, .int .i64 ((h).unt).lo, .int .i64 ((h).unt).hi, .int .i64 ((h).v0).lo, .int .i64 ((h).v0).hi, .int .i64 ((h).h0).lo, .int .i64 ((h).h0).hi] 35)).alloc (.cells #[.int .i64 x0, .int .i64 x1, .int .i64 x2, .int .i64 x3, .int .i64 x4] 25)).alloc (.cells #[.int .i64 0, .int .i64 0, .int .i64 0, .int .i64 0, .int .i64 0, .int .i64 0] 38)) (w.heap.size + 1) #[.int .i64 x0, .int .i64 x1, .int .i64 x2, .int .i64 x3, .int .i64 x4] 25 := by simp only [HasBlk, Soft.heap_alloc_if, Soft.heap_new1]
      have B2 : HasBlk (((w.alloc (.cells #[.int .i64 (h).id, .int .i64 ((h).along).lo, .int .i64 ((h).along).hi, .slice ((h).vol).p ((h).vol).n ((h).vol).c, .slice ((h).mom).p ((h).mom).n ((h).mom).c, .slice ((h).hei).p ((h).hei).n ((h).hei).c, .int .i64 ((h).tri).lo, .int .i64 ((h).tri).hi, .int .i64 ((h).unt).lo, .int .i64 ((h).unt).hi, .int .i64 ((h).v0).lo, .int .i64 ((h).v0).hi, .int .i64 ((h).h0).lo, .int .i64 ((h).h0).hi] 35)).alloc (.cells #[.int .i64 x0, .int .i64 x1, .int .i64 x2, .int .i64 x3, .int .i64 x4] 25)).alloc (.cells #[.int .i64 0, .int .i64 0, .int .i64 0, .int .i64 0, .int .i64 0, .int .i64 0] 38)) (w.heap.size + 1 + 1) #[.int .i64 0, .int .i64 0, .int .i64 0, .int .i64 0, .int .i64 0, .int .i64 0] 38 := by simp only [HasBlk, Soft.heap_new2]
      have HB0 := Lib.hid B0; have HB1 := Lib.hid B1; have HB2 := Lib.hid B2; clear B0 B1 B2
      (refine Soft.region1 [0, 1, 2, 3, 4, 5] 6 [7] _ (by kernel_rfl) (by kernel_rfl) (by kernel_rfl) rfl rfl (by kernel_rfl) ?_; change Soft.wpSoft _ _ _ _ _ [_, _, _, _, _, _] _; (repeat (refine Soft.soft_step (fun K hK => ?_); go_simp; (try go_bits); first | (refine hK _ ?_; clear hK K) | (apply Exists.intro; refine ⟨fun x => ?_, hK _ ?_⟩; ((go_at_call 37; exact Calls.bel (R2_Mod _ _ z _ (by omega) (by omega) HZ.out))); clear hK K))); refine Soft.soft_nil ?_)
      refine ⟨fun b => .pointer (some ⟨b, 0, none⟩), .cells #[.int .i64 0, .int .i64 0, .int .i64 0, .int .i64 0, .int .i64 0, .int .i64 0] 38, fun x => by go_simp, fun kb x hnew => ?_⟩
      have k0 := hnew.le
      simp at k0
      have W0 := HB0.out.below x.below
      have W1 := HB1.out.below x.below
      have W2 := HB2.out.below x.below
      have HH := ((((hh.alloc (.cells #[.int .i64 (h).id, .int .i64 ((h).along).lo, .int .i64 ((h).along).hi, .slice ((h).vol).p ((h).vol).n ((h).vol).c, .slice ((h).mom).p ((h).mom).n ((h).mom).c, .slice ((h).hei).p ((h).hei).n ((h).hei).c, .int .i64 ((h).tri).lo, .int .i64 ((h).tri).hi, .int .i64 ((h).unt).lo, .int .i64 ((h).unt).hi, .int .i64 ((h).v0).lo, .int .i64 ((h).v0).hi, .int .i64 ((h).h0).lo, .int .i64 ((h).h0).hi] 35)).alloc (.cells #[.int .i64 x0, .int .i64 x1, .int .i64 x2, .int .i64 x3, .int .i64 x4] 25)).alloc (.cells #[.int .i64 0, .int .i64 0, .int .i64 0, .int .i64 0, .int .i64 0, .int .i64 0] 38)).bw x).1
      have hbel : Below w.heap.size w x.w := by (repeat (first | with_reducible exact bel_refl _ | with_reducible refine bel_alloc ?_ _ | with_reducible refine bel_bw _ ?_ | with_reducible refine bel_drew ?_ | with_reducible refine bel_drewN _ ?_ | ((with_reducible refine bel_set ?_ ?_ _); rotate_left; focus (first | (simp; done) | omega | (simp; omega))) | refine bel_step ?_ (by with_reducible assumption)))
      have hk := hnew.at_
      have hkl := hnew.lt
      have m1 : ¬(kb = w.heap.size) := by omega
      have m2 : ¬(kb = w.heap.size + 1) := by omega
      have m3 : ¬(kb = w.heap.size + 1 + 1) := by omega
      have m4 : ¬(w.heap.size = kb) := by omega
      have m5 : ¬(w.heap.size + 1 = kb) := by omega
      have m6 : ¬(w.heap.size + 1 + 1 = kb) := by omega
      have X0 := Lib.hid W0; have X1 := Lib.hid W1; have X2 := Lib.hid W2; have XH := Lib.hid HH; have XB := Lib.hid hbel; have XK := Lib.hid hk
      clear W0 W1 W2 HH hbel hk hnew
      change wpList _ _ _ [_] _ _
      go_wp2_with (first | (refine wpList_store_row rfl 38 _ _ rfl kb _ rfl rfl 38 _ XK.out (by kernel_rfl) rfl (by kernel_rfl) ?_; have b0 := HasBlk.row_other X0.out (show w.heap.size ≠ kb by omega) #[.int .i64 h.id, .int .i64 z, .int .i64 0, .int .i64 0, .int .i64 0, .int .i64 0]; have b1 := HasBlk.row_other X1.out (show w.heap.size + 1 ≠ kb by omega) #[.int .i64 h.id, .int .i64 z, .int .i64 0, .int .i64 0, .int .i64 0, .int .i64 0]; have b2 := HasBlk.row_other X2.out (show w.heap.size + 1 + 1 ≠ kb by omega) #[.int .i64 h.id, .int .i64 z, .int .i64 0, .int .i64 0, .int .i64 0, .int .i64 0]; have bk : HasBlk (x.w.setRow kb #[.int .i64 h.id, .int .i64 z, .int .i64 0, .int .i64 0, .int .i64 0, .int .i64 0]) kb #[.int .i64 h.id, .int .i64 z, .int .i64 0, .int .i64 0, .int .i64 0, .int .i64 0] 38 := setRow_heap _ _ _ _ _ _ XK.out; have bv := Tb.At.row XH.out (g := kb) (fun b o e => by have := hvb.out b o e; omega) #[.int .i64 h.id, .int .i64 z, .int .i64 0, .int .i64 0, .int .i64 0, .int .i64 0]; have bb := below_setRow (g := kb) XB.out (by omega) #[.int .i64 h.id, .int .i64 z, .int .i64 0, .int .i64 0, .int .i64 0, .int .i64 0]; generalize x.w.setRow kb #[.int .i64 h.id, .int .i64 z, .int .i64 0, .int .i64 0, .int .i64 0, .int .i64 0] = W1 at *; have i0 := Soft.LtH.mk (b := w.heap.size) (w := W1) b0.lt; have i1 := Soft.LtH.mk (b := w.heap.size + 1) (w := W1) b1.lt; have i2 := Soft.LtH.mk (b := w.heap.size + 1 + 1) (w := W1) b2.lt; have ik := Soft.LtH.mk (b := kb) (w := W1) bk.lt; have c03 := b0.cell 3; have c11 := b1.cell 1; have c12 := b1.cell 2; have c13 := b1.cell 3; have c14 := b1.cell 4; have c20 := b2.cell 0; have c21 := b2.cell 1; have c22 := b2.cell 2; have c23 := b2.cell 3; have c24 := b2.cell 4; have c25 := b2.cell 5; have d20 := b2.frozen 0; have d21 := b2.frozen 1; have d22 := b2.frozen 2; have d23 := b2.frozen 3; have d24 := b2.frozen 4; have d25 := b2.frozen 5; have ck0 := bk.cell 0; have ck1 := bk.cell 1; have ck2 := bk.cell 2; have ck3 := bk.cell 3; have ck4 := bk.cell 4; have ck5 := bk.cell 5; have dk1 := bk.frozen 1; have dk2 := bk.frozen 2; have dk3 := bk.frozen 3; have dk4 := bk.frozen 4; have dk5 := bk.frozen 5; simp at c03 c11 c12 c13 c14 c20 c21 c22 c23 c24 c25 ck0 ck1 ck2 ck3 ck4 ck5; have BB := Lib.hid bb; have BV := Lib.hid bv; clear b0 b1 b2 bk bb bv) | (go_at_call 17; (with_reducible refine (R2_Density _ _ _).mono ?_); rintro e w_ ⟨rfl, hb_⟩; obtain ⟨y1, rfl⟩ := Soft.BW.mk hb_; clear hb_) | (go_at_call 28; (with_reducible refine (R2_Free _ _ _ rfl).mono ?_); rintro e w_ ⟨rfl, hw_⟩; subst w_) | (go_at_call 66; (with_reducible refine (R2_span h.vol _ _ _ (by with_reducible repeat (first | exact BV.out | refine Tb.At.alloc ?_ _ | refine Tb.At.bw ?_ _ | refine Tb.At.setCell ?_ (fun b o e => by have := hvb.out b o e; dsimp only; omega) _)) hok.out).mono ?_); rintro e w_ ⟨rfl, hb_⟩; obtain ⟨y2, rfl⟩ := Soft.BW.mk hb_; clear hb_))
      rw [HV.out]
      refine bodyPost_ret (v := .agg #[.int .i64 ((⟨h.id, z, ⟨0, 0⟩, ⟨0, 0⟩⟩ : Fi)).hold, .int .i64 ((⟨h.id, z, ⟨0, 0⟩, ⟨0, 0⟩⟩ : Fi)).state, .int .i64 (((⟨h.id, z, ⟨0, 0⟩, ⟨0, 0⟩⟩ : Fi)).ull).lo, .int .i64 (((⟨h.id, z, ⟨0, 0⟩, ⟨0, 0⟩⟩ : Fi)).ull).hi, .int .i64 (((⟨h.id, z, ⟨0, 0⟩, ⟨0, 0⟩⟩ : Fi)).den).lo, .int .i64 (((⟨h.id, z, ⟨0, 0⟩, ⟨0, 0⟩⟩ : Fi)).den).hi]) (by simp [results, Try.results16, go_sem, c20, c21, c22, c23, c24, c25, d20, d21, d22, d23, d24, d25]) rfl ?_
      refine ⟨by rw [C0.out], ?_⟩
      (repeat (first | with_reducible exact bel_refl _ | with_reducible refine bel_alloc ?_ _ | with_reducible refine bel_bw _ ?_ | with_reducible refine bel_drew ?_ | with_reducible refine bel_drewN _ ?_ | ((with_reducible refine bel_set ?_ ?_ _); rotate_left; focus (first | (simp; done) | omega | (simp; omega))) | refine bel_step ?_ (by with_reducible assumption)))
      exact BB.out
    · have d0 : (z == 0) = false := beq_eq_false_iff_ne.2 c0
      by_cases c3 : 3 ≤ z
      · have HV := Lib.hid (show fiS h x0 x1 x2 x3 x4 = ⟨h.id, z, spanS (firstX h.vol.ps) (lastX h.vol.ps) x1 x2, denS x3 x4⟩ by unfold fiS; rw [e, if_neg c0, if_pos c3])
        clear hz h0 e
        go_enter Try.func16, Try.ntmps16
        go_wp2_with fail
        have B0 : HasBlk (((w.alloc (.cells #[.int .i64 (h).id, .int .i64 ((h).along).lo, .int .i64 ((h).along).hi, .slice ((h).vol).p ((h).vol).n ((h).vol).c, .slice ((h).mom).p ((h).mom).n ((h).mom).c, .slice ((h).hei).p ((h).hei).n ((h).hei).c, .int .i64 ((h).tri).lo, .int .i64 ((h).tri).hi, .int .i64 ((h).unt).lo, .int .i64 ((h).unt).hi, .int .i64 ((h).v0).lo, .int .i64 ((h).v0).hi, .int .i64 ((h).h0).lo, .int .i64 ((h).h0).hi] 35)).alloc (.cells #[.int .i64 x0, .int .i64 x1, .int .i64 x2, .int .i64 x3, .int .i64 x4] 25)).alloc (.cells #[.int .i64 0, .int .i64 0, .int .i64 0, .int .i64 0, .int .i64 0, .int .i64 0] 38)) w.heap.size #[.int .i64 (h).id, .int .i64 ((h).along).lo, .int .i64 ((h).along).hi, .slice ((h).vol).p ((h).vol).n ((h).vol).c, .slice ((h).mom).p ((h).mom).n ((h).mom).c, .slice ((h).hei).p ((h).hei).n ((h).hei).c, .int .i64 ((h).tri).lo, .int .i64 ((h).tri).hi, .int .i64 ((h).unt).lo, .int .i64 ((h).unt).hi, .int .i64 ((h).v0).lo, .int .i64 ((h).v0).hi, .int .i64 ((h).h0).lo, .int .i64 ((h).h0).hi] 35 := by simp only [HasBlk, Soft.heap_alloc_if, Soft.heap_new]
        have B1 : HasBlk (((w.alloc (.cells #[.int .i64 (h).id, .int .i64 ((h).along).lo, .int .i64 ((h).along).hi, .slice ((h).vol).p ((h).vol).n ((h).vol).c, .slice ((h).mom).p ((h).mom).n ((h).mom).c, .slice ((h).hei).p ((h).hei).n ((h).hei).c, .int .i64 ((h).tri).lo, .int .i64 ((h).tri).hi, .int .i64 ((h).unt).lo, .int .i64 ((h).unt).hi, .int .i64 ((h).v0).lo, .int .i64 ((h).v0).hi, .int .i64 ((h).h0).lo, .int .i64 ((h).h0).hi] 35)).alloc (.cells #[.int .i64 x0, .int .i64 x1, .int .i64 x2, .int .i64 x3, .int .i64 x4] 25)).alloc (.cells #[.int .i64 0, .int .i64 0, .int .i64 0, .int .i64 0, .int .i64 0, .int .i64 0] 38)) (w.heap.size + 1) #[.int .i64 x0, .int .i64 x1, .int .i64 x2, .int .i64 x3, .int .i64 x4] 25 := by simp only [HasBlk, Soft.heap_alloc_if, Soft.heap_new1]
        have B2 : HasBlk (((w.alloc (.cells #[.int .i64 (h).id, .int .i64 ((h).along).lo, .int .i64 ((h).along).hi, .slice ((h).vol).p ((h).vol).n ((h).vol).c, .slice ((h).mom).p ((h).mom).n ((h).mom).c, .slice ((h).hei).p ((h).hei).n ((h).hei).c, .int .i64 ((h).tri).lo, .int .i64 ((h).tri).hi, .int .i64 ((h).unt).lo, .int .i64 ((h).unt).hi, .int .i64 ((h).v0).lo, .int .i64 ((h).v0).hi, .int .i64 ((h).h0).lo, .int .i64 ((h).h0).hi] 35)).alloc (.cells #[.int .i64 x0, .int .i64 x1, .int .i64 x2, .int .i64 x3, .int .i64 x4] 25)).alloc (.cells #[.int .i64 0, .int .i64 0, .int .i64 0, .int .i64 0, .int .i64 0, .int .i64 0] 38)) (w.heap.size + 1 + 1) #[.int .i64 0, .int .i64 0, .int .i64 0, .int .i64 0, .int .i64 0, .int .i64 0] 38 := by simp only [HasBlk, Soft.heap_new2]
        have HB0 := Lib.hid B0; have HB1 := Lib.hid B1; have HB2 := Lib.hid B2; clear B0 B1 B2
        (refine Soft.region1 [0, 1, 2, 3, 4, 5] 6 [7] _ (by kernel_rfl) (by kernel_rfl) (by kernel_rfl) rfl rfl (by kernel_rfl) ?_; change Soft.wpSoft _ _ _ _ _ [_, _, _, _, _, _] _; (repeat (refine Soft.soft_step (fun K hK => ?_); go_simp; (try go_bits); first | (refine hK _ ?_; clear hK K) | (apply Exists.intro; refine ⟨fun x => ?_, hK _ ?_⟩; ((go_at_call 37; exact Calls.bel (R2_Mod _ _ z _ (by omega) (by omega) HZ.out))); clear hK K))); refine Soft.soft_nil ?_)
        refine ⟨fun b => .pointer (some ⟨b, 0, none⟩), .cells #[.int .i64 0, .int .i64 0, .int .i64 0, .int .i64 0, .int .i64 0, .int .i64 0] 38, fun x => by go_simp, fun kb x hnew => ?_⟩
        have k0 := hnew.le
        simp at k0
        have W0 := HB0.out.below x.below
        have W1 := HB1.out.below x.below
        have W2 := HB2.out.below x.below
        have HH := ((((hh.alloc (.cells #[.int .i64 (h).id, .int .i64 ((h).along).lo, .int .i64 ((h).along).hi, .slice ((h).vol).p ((h).vol).n ((h).vol).c, .slice ((h).mom).p ((h).mom).n ((h).mom).c, .slice ((h).hei).p ((h).hei).n ((h).hei).c, .int .i64 ((h).tri).lo, .int .i64 ((h).tri).hi, .int .i64 ((h).unt).lo, .int .i64 ((h).unt).hi, .int .i64 ((h).v0).lo, .int .i64 ((h).v0).hi, .int .i64 ((h).h0).lo, .int .i64 ((h).h0).hi] 35)).alloc (.cells #[.int .i64 x0, .int .i64 x1, .int .i64 x2, .int .i64 x3, .int .i64 x4] 25)).alloc (.cells #[.int .i64 0, .int .i64 0, .int .i64 0, .int .i64 0, .int .i64 0, .int .i64 0] 38)).bw x).1
        have hbel : Below w.heap.size w x.w := by (repeat (first | with_reducible exact bel_refl _ | with_reducible refine bel_alloc ?_ _ | with_reducible refine bel_bw _ ?_ | with_reducible refine bel_drew ?_ | with_reducible refine bel_drewN _ ?_ | ((with_reducible refine bel_set ?_ ?_ _); rotate_left; focus (first | (simp; done) | omega | (simp; omega))) | refine bel_step ?_ (by with_reducible assumption)))
        have hk := hnew.at_
        have hkl := hnew.lt
        have m1 : ¬(kb = w.heap.size) := by omega
        have m2 : ¬(kb = w.heap.size + 1) := by omega
        have m3 : ¬(kb = w.heap.size + 1 + 1) := by omega
        have m4 : ¬(w.heap.size = kb) := by omega
        have m5 : ¬(w.heap.size + 1 = kb) := by omega
        have m6 : ¬(w.heap.size + 1 + 1 = kb) := by omega
        have X0 := Lib.hid W0; have X1 := Lib.hid W1; have X2 := Lib.hid W2; have XH := Lib.hid HH; have XB := Lib.hid hbel; have XK := Lib.hid hk
        clear W0 W1 W2 HH hbel hk hnew
        change wpList _ _ _ [_] _ _
        go_wp2_with (first | (refine wpList_store_row rfl 38 _ _ rfl kb _ rfl rfl 38 _ XK.out (by kernel_rfl) rfl (by kernel_rfl) ?_; have b0 := HasBlk.row_other X0.out (show w.heap.size ≠ kb by omega) #[.int .i64 h.id, .int .i64 z, .int .i64 0, .int .i64 0, .int .i64 0, .int .i64 0]; have b1 := HasBlk.row_other X1.out (show w.heap.size + 1 ≠ kb by omega) #[.int .i64 h.id, .int .i64 z, .int .i64 0, .int .i64 0, .int .i64 0, .int .i64 0]; have b2 := HasBlk.row_other X2.out (show w.heap.size + 1 + 1 ≠ kb by omega) #[.int .i64 h.id, .int .i64 z, .int .i64 0, .int .i64 0, .int .i64 0, .int .i64 0]; have bk : HasBlk (x.w.setRow kb #[.int .i64 h.id, .int .i64 z, .int .i64 0, .int .i64 0, .int .i64 0, .int .i64 0]) kb #[.int .i64 h.id, .int .i64 z, .int .i64 0, .int .i64 0, .int .i64 0, .int .i64 0] 38 := setRow_heap _ _ _ _ _ _ XK.out; have bv := Tb.At.row XH.out (g := kb) (fun b o e => by have := hvb.out b o e; omega) #[.int .i64 h.id, .int .i64 z, .int .i64 0, .int .i64 0, .int .i64 0, .int .i64 0]; have bb := below_setRow (g := kb) XB.out (by omega) #[.int .i64 h.id, .int .i64 z, .int .i64 0, .int .i64 0, .int .i64 0, .int .i64 0]; generalize x.w.setRow kb #[.int .i64 h.id, .int .i64 z, .int .i64 0, .int .i64 0, .int .i64 0, .int .i64 0] = W1 at *; have i0 := Soft.LtH.mk (b := w.heap.size) (w := W1) b0.lt; have i1 := Soft.LtH.mk (b := w.heap.size + 1) (w := W1) b1.lt; have i2 := Soft.LtH.mk (b := w.heap.size + 1 + 1) (w := W1) b2.lt; have ik := Soft.LtH.mk (b := kb) (w := W1) bk.lt; have c03 := b0.cell 3; have c11 := b1.cell 1; have c12 := b1.cell 2; have c13 := b1.cell 3; have c14 := b1.cell 4; have c20 := b2.cell 0; have c21 := b2.cell 1; have c22 := b2.cell 2; have c23 := b2.cell 3; have c24 := b2.cell 4; have c25 := b2.cell 5; have d20 := b2.frozen 0; have d21 := b2.frozen 1; have d22 := b2.frozen 2; have d23 := b2.frozen 3; have d24 := b2.frozen 4; have d25 := b2.frozen 5; have ck0 := bk.cell 0; have ck1 := bk.cell 1; have ck2 := bk.cell 2; have ck3 := bk.cell 3; have ck4 := bk.cell 4; have ck5 := bk.cell 5; have dk1 := bk.frozen 1; have dk2 := bk.frozen 2; have dk3 := bk.frozen 3; have dk4 := bk.frozen 4; have dk5 := bk.frozen 5; simp at c03 c11 c12 c13 c14 c20 c21 c22 c23 c24 c25 ck0 ck1 ck2 ck3 ck4 ck5; have BB := Lib.hid bb; have BV := Lib.hid bv; clear b0 b1 b2 bk bb bv) | (go_at_call 17; (with_reducible refine (R2_Density _ _ _).mono ?_); rintro e w_ ⟨rfl, hb_⟩; obtain ⟨y1, rfl⟩ := Soft.BW.mk hb_; clear hb_) | (go_at_call 28; (with_reducible refine (R2_Free _ _ _ rfl).mono ?_); rintro e w_ ⟨rfl, hw_⟩; subst w_) | (go_at_call 66; (with_reducible refine (R2_span h.vol _ _ _ (by with_reducible repeat (first | exact BV.out | refine Tb.At.alloc ?_ _ | refine Tb.At.bw ?_ _ | refine Tb.At.setCell ?_ (fun b o e => by have := hvb.out b o e; dsimp only; omega) _)) hok.out).mono ?_); rintro e w_ ⟨rfl, hb_⟩; obtain ⟨y2, rfl⟩ := Soft.BW.mk hb_; clear hb_))
        rw [HV.out]
        refine bodyPost_ret (v := .agg #[.int .i64 ((⟨h.id, z, spanS (firstX h.vol.ps) (lastX h.vol.ps) x1 x2, denS x3 x4⟩ : Fi)).hold, .int .i64 ((⟨h.id, z, spanS (firstX h.vol.ps) (lastX h.vol.ps) x1 x2, denS x3 x4⟩ : Fi)).state, .int .i64 (((⟨h.id, z, spanS (firstX h.vol.ps) (lastX h.vol.ps) x1 x2, denS x3 x4⟩ : Fi)).ull).lo, .int .i64 (((⟨h.id, z, spanS (firstX h.vol.ps) (lastX h.vol.ps) x1 x2, denS x3 x4⟩ : Fi)).ull).hi, .int .i64 (((⟨h.id, z, spanS (firstX h.vol.ps) (lastX h.vol.ps) x1 x2, denS x3 x4⟩ : Fi)).den).lo, .int .i64 (((⟨h.id, z, spanS (firstX h.vol.ps) (lastX h.vol.ps) x1 x2, denS x3 x4⟩ : Fi)).den).hi]) (by simp [results, Try.results16, go_sem, c20, c21, c22, c23, c24, c25, d20, d21, d22, d23, d24, d25]) rfl ?_
        refine ⟨rfl, ?_⟩
        (repeat (first | with_reducible exact bel_refl _ | with_reducible refine bel_alloc ?_ _ | with_reducible refine bel_bw _ ?_ | with_reducible refine bel_drew ?_ | with_reducible refine bel_drewN _ ?_ | ((with_reducible refine bel_set ?_ ?_ _); rotate_left; focus (first | (simp; done) | omega | (simp; omega))) | refine bel_step ?_ (by with_reducible assumption)))
        exact BB.out
      · have HV := Lib.hid (show fiS h x0 x1 x2 x3 x4 = ⟨h.id, z, ⟨0, 0⟩, denS x3 x4⟩ by unfold fiS; rw [e, if_neg c0, if_neg c3])
        clear hz h0 e
        go_enter Try.func16, Try.ntmps16
        go_wp2_with fail
        have B0 : HasBlk (((w.alloc (.cells #[.int .i64 (h).id, .int .i64 ((h).along).lo, .int .i64 ((h).along).hi, .slice ((h).vol).p ((h).vol).n ((h).vol).c, .slice ((h).mom).p ((h).mom).n ((h).mom).c, .slice ((h).hei).p ((h).hei).n ((h).hei).c, .int .i64 ((h).tri).lo, .int .i64 ((h).tri).hi, .int .i64 ((h).unt).lo, .int .i64 ((h).unt).hi, .int .i64 ((h).v0).lo, .int .i64 ((h).v0).hi, .int .i64 ((h).h0).lo, .int .i64 ((h).h0).hi] 35)).alloc (.cells #[.int .i64 x0, .int .i64 x1, .int .i64 x2, .int .i64 x3, .int .i64 x4] 25)).alloc (.cells #[.int .i64 0, .int .i64 0, .int .i64 0, .int .i64 0, .int .i64 0, .int .i64 0] 38)) w.heap.size #[.int .i64 (h).id, .int .i64 ((h).along).lo, .int .i64 ((h).along).hi, .slice ((h).vol).p ((h).vol).n ((h).vol).c, .slice ((h).mom).p ((h).mom).n ((h).mom).c, .slice ((h).hei).p ((h).hei).n ((h).hei).c, .int .i64 ((h).tri).lo, .int .i64 ((h).tri).hi, .int .i64 ((h).unt).lo, .int .i64 ((h).unt).hi, .int .i64 ((h).v0).lo, .int .i64 ((h).v0).hi, .int .i64 ((h).h0).lo, .int .i64 ((h).h0).hi] 35 := by simp only [HasBlk, Soft.heap_alloc_if, Soft.heap_new]
        have B1 : HasBlk (((w.alloc (.cells #[.int .i64 (h).id, .int .i64 ((h).along).lo, .int .i64 ((h).along).hi, .slice ((h).vol).p ((h).vol).n ((h).vol).c, .slice ((h).mom).p ((h).mom).n ((h).mom).c, .slice ((h).hei).p ((h).hei).n ((h).hei).c, .int .i64 ((h).tri).lo, .int .i64 ((h).tri).hi, .int .i64 ((h).unt).lo, .int .i64 ((h).unt).hi, .int .i64 ((h).v0).lo, .int .i64 ((h).v0).hi, .int .i64 ((h).h0).lo, .int .i64 ((h).h0).hi] 35)).alloc (.cells #[.int .i64 x0, .int .i64 x1, .int .i64 x2, .int .i64 x3, .int .i64 x4] 25)).alloc (.cells #[.int .i64 0, .int .i64 0, .int .i64 0, .int .i64 0, .int .i64 0, .int .i64 0] 38)) (w.heap.size + 1) #[.int .i64 x0, .int .i64 x1, .int .i64 x2, .int .i64 x3, .int .i64 x4] 25 := by simp only [HasBlk, Soft.heap_alloc_if, Soft.heap_new1]
        have B2 : HasBlk (((w.alloc (.cells #[.int .i64 (h).id, .int .i64 ((h).along).lo, .int .i64 ((h).along).hi, .slice ((h).vol).p ((h).vol).n ((h).vol).c, .slice ((h).mom).p ((h).mom).n ((h).mom).c, .slice ((h).hei).p ((h).hei).n ((h).hei).c, .int .i64 ((h).tri).lo, .int .i64 ((h).tri).hi, .int .i64 ((h).unt).lo, .int .i64 ((h).unt).hi, .int .i64 ((h).v0).lo, .int .i64 ((h).v0).hi, .int .i64 ((h).h0).lo, .int .i64 ((h).h0).hi] 35)).alloc (.cells #[.int .i64 x0, .int .i64 x1, .int .i64 x2, .int .i64 x3, .int .i64 x4] 25)).alloc (.cells #[.int .i64 0, .int .i64 0, .int .i64 0, .int .i64 0, .int .i64 0, .int .i64 0] 38)) (w.heap.size + 1 + 1) #[.int .i64 0, .int .i64 0, .int .i64 0, .int .i64 0, .int .i64 0, .int .i64 0] 38 := by simp only [HasBlk, Soft.heap_new2]
        have HB0 := Lib.hid B0; have HB1 := Lib.hid B1; have HB2 := Lib.hid B2; clear B0 B1 B2
        (refine Soft.region1 [0, 1, 2, 3, 4, 5] 6 [7] _ (by kernel_rfl) (by kernel_rfl) (by kernel_rfl) rfl rfl (by kernel_rfl) ?_; change Soft.wpSoft _ _ _ _ _ [_, _, _, _, _, _] _; (repeat (refine Soft.soft_step (fun K hK => ?_); go_simp; (try go_bits); first | (refine hK _ ?_; clear hK K) | (apply Exists.intro; refine ⟨fun x => ?_, hK _ ?_⟩; ((go_at_call 37; exact Calls.bel (R2_Mod _ _ z _ (by omega) (by omega) HZ.out))); clear hK K))); refine Soft.soft_nil ?_)
        refine ⟨fun b => .pointer (some ⟨b, 0, none⟩), .cells #[.int .i64 0, .int .i64 0, .int .i64 0, .int .i64 0, .int .i64 0, .int .i64 0] 38, fun x => by go_simp, fun kb x hnew => ?_⟩
        have k0 := hnew.le
        simp at k0
        have W0 := HB0.out.below x.below
        have W1 := HB1.out.below x.below
        have W2 := HB2.out.below x.below
        have HH := ((((hh.alloc (.cells #[.int .i64 (h).id, .int .i64 ((h).along).lo, .int .i64 ((h).along).hi, .slice ((h).vol).p ((h).vol).n ((h).vol).c, .slice ((h).mom).p ((h).mom).n ((h).mom).c, .slice ((h).hei).p ((h).hei).n ((h).hei).c, .int .i64 ((h).tri).lo, .int .i64 ((h).tri).hi, .int .i64 ((h).unt).lo, .int .i64 ((h).unt).hi, .int .i64 ((h).v0).lo, .int .i64 ((h).v0).hi, .int .i64 ((h).h0).lo, .int .i64 ((h).h0).hi] 35)).alloc (.cells #[.int .i64 x0, .int .i64 x1, .int .i64 x2, .int .i64 x3, .int .i64 x4] 25)).alloc (.cells #[.int .i64 0, .int .i64 0, .int .i64 0, .int .i64 0, .int .i64 0, .int .i64 0] 38)).bw x).1
        have hbel : Below w.heap.size w x.w := by (repeat (first | with_reducible exact bel_refl _ | with_reducible refine bel_alloc ?_ _ | with_reducible refine bel_bw _ ?_ | with_reducible refine bel_drew ?_ | with_reducible refine bel_drewN _ ?_ | ((with_reducible refine bel_set ?_ ?_ _); rotate_left; focus (first | (simp; done) | omega | (simp; omega))) | refine bel_step ?_ (by with_reducible assumption)))
        have hk := hnew.at_
        have hkl := hnew.lt
        have m1 : ¬(kb = w.heap.size) := by omega
        have m2 : ¬(kb = w.heap.size + 1) := by omega
        have m3 : ¬(kb = w.heap.size + 1 + 1) := by omega
        have m4 : ¬(w.heap.size = kb) := by omega
        have m5 : ¬(w.heap.size + 1 = kb) := by omega
        have m6 : ¬(w.heap.size + 1 + 1 = kb) := by omega
        have X0 := Lib.hid W0; have X1 := Lib.hid W1; have X2 := Lib.hid W2; have XH := Lib.hid HH; have XB := Lib.hid hbel; have XK := Lib.hid hk
        clear W0 W1 W2 HH hbel hk hnew
        change wpList _ _ _ [_] _ _
        go_wp2_with (first | (refine wpList_store_row rfl 38 _ _ rfl kb _ rfl rfl 38 _ XK.out (by kernel_rfl) rfl (by kernel_rfl) ?_; have b0 := HasBlk.row_other X0.out (show w.heap.size ≠ kb by omega) #[.int .i64 h.id, .int .i64 z, .int .i64 0, .int .i64 0, .int .i64 0, .int .i64 0]; have b1 := HasBlk.row_other X1.out (show w.heap.size + 1 ≠ kb by omega) #[.int .i64 h.id, .int .i64 z, .int .i64 0, .int .i64 0, .int .i64 0, .int .i64 0]; have b2 := HasBlk.row_other X2.out (show w.heap.size + 1 + 1 ≠ kb by omega) #[.int .i64 h.id, .int .i64 z, .int .i64 0, .int .i64 0, .int .i64 0, .int .i64 0]; have bk : HasBlk (x.w.setRow kb #[.int .i64 h.id, .int .i64 z, .int .i64 0, .int .i64 0, .int .i64 0, .int .i64 0]) kb #[.int .i64 h.id, .int .i64 z, .int .i64 0, .int .i64 0, .int .i64 0, .int .i64 0] 38 := setRow_heap _ _ _ _ _ _ XK.out; have bv := Tb.At.row XH.out (g := kb) (fun b o e => by have := hvb.out b o e; omega) #[.int .i64 h.id, .int .i64 z, .int .i64 0, .int .i64 0, .int .i64 0, .int .i64 0]; have bb := below_setRow (g := kb) XB.out (by omega) #[.int .i64 h.id, .int .i64 z, .int .i64 0, .int .i64 0, .int .i64 0, .int .i64 0]; generalize x.w.setRow kb #[.int .i64 h.id, .int .i64 z, .int .i64 0, .int .i64 0, .int .i64 0, .int .i64 0] = W1 at *; have i0 := Soft.LtH.mk (b := w.heap.size) (w := W1) b0.lt; have i1 := Soft.LtH.mk (b := w.heap.size + 1) (w := W1) b1.lt; have i2 := Soft.LtH.mk (b := w.heap.size + 1 + 1) (w := W1) b2.lt; have ik := Soft.LtH.mk (b := kb) (w := W1) bk.lt; have c03 := b0.cell 3; have c11 := b1.cell 1; have c12 := b1.cell 2; have c13 := b1.cell 3; have c14 := b1.cell 4; have c20 := b2.cell 0; have c21 := b2.cell 1; have c22 := b2.cell 2; have c23 := b2.cell 3; have c24 := b2.cell 4; have c25 := b2.cell 5; have d20 := b2.frozen 0; have d21 := b2.frozen 1; have d22 := b2.frozen 2; have d23 := b2.frozen 3; have d24 := b2.frozen 4; have d25 := b2.frozen 5; have ck0 := bk.cell 0; have ck1 := bk.cell 1; have ck2 := bk.cell 2; have ck3 := bk.cell 3; have ck4 := bk.cell 4; have ck5 := bk.cell 5; have dk1 := bk.frozen 1; have dk2 := bk.frozen 2; have dk3 := bk.frozen 3; have dk4 := bk.frozen 4; have dk5 := bk.frozen 5; simp at c03 c11 c12 c13 c14 c20 c21 c22 c23 c24 c25 ck0 ck1 ck2 ck3 ck4 ck5; have BB := Lib.hid bb; have BV := Lib.hid bv; clear b0 b1 b2 bk bb bv) | (go_at_call 17; (with_reducible refine (R2_Density _ _ _).mono ?_); rintro e w_ ⟨rfl, hb_⟩; obtain ⟨y1, rfl⟩ := Soft.BW.mk hb_; clear hb_) | (go_at_call 28; (with_reducible refine (R2_Free _ _ _ rfl).mono ?_); rintro e w_ ⟨rfl, hw_⟩; subst w_) | (go_at_call 66; (with_reducible refine (R2_span h.vol _ _ _ (by with_reducible repeat (first | exact BV.out | refine Tb.At.alloc ?_ _ | refine Tb.At.bw ?_ _ | refine Tb.At.setCell ?_ (fun b o e => by have := hvb.out b o e; dsimp only; omega) _)) hok.out).mono ?_); rintro e w_ ⟨rfl, hb_⟩; obtain ⟨y2, rfl⟩ := Soft.BW.mk hb_; clear hb_))
        rw [HV.out]
        refine bodyPost_ret (v := .agg #[.int .i64 ((⟨h.id, z, ⟨0, 0⟩, denS x3 x4⟩ : Fi)).hold, .int .i64 ((⟨h.id, z, ⟨0, 0⟩, denS x3 x4⟩ : Fi)).state, .int .i64 (((⟨h.id, z, ⟨0, 0⟩, denS x3 x4⟩ : Fi)).ull).lo, .int .i64 (((⟨h.id, z, ⟨0, 0⟩, denS x3 x4⟩ : Fi)).ull).hi, .int .i64 (((⟨h.id, z, ⟨0, 0⟩, denS x3 x4⟩ : Fi)).den).lo, .int .i64 (((⟨h.id, z, ⟨0, 0⟩, denS x3 x4⟩ : Fi)).den).hi]) (by simp [results, Try.results16, go_sem, c20, c21, c22, c23, c24, c25, d20, d21, d22, d23, d24, d25]) rfl ?_
        refine ⟨rfl, ?_⟩
        (repeat (first | with_reducible exact bel_refl _ | with_reducible refine bel_alloc ?_ _ | with_reducible refine bel_bw _ ?_ | with_reducible refine bel_drew ?_ | with_reducible refine bel_drewN _ ?_ | ((with_reducible refine bel_set ?_ ?_ _); rotate_left; focus (first | (simp; done) | omega | (simp; omega))) | refine bel_step ?_ (by with_reducible assumption)))
        exact BB.out

end Go.Proofs.Ytbjdgaeikihjbaa
