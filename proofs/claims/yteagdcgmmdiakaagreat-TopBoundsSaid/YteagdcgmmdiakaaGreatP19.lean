/-
  cond: what Heeling and Margin draw at an angle.
  cond: what Righting draws at an angle.
  cond: ints in order, without doubles; the angles at which the tables over the angle have points, plain.
  cond: stations.
  Conditions: each theorem's own premises.
-/
import Derived.Test.YteagdcgmmdiakaaGreatP18
import Derived.Test.YteagdcgmmdiakaaGreatP09
import Derived.Test.YteagdcgmmdiakaaGreatP14
import Derived.Lib.RowBridge
namespace Go.Proofs.YteagdcgmmdiakaaGreat
set_option linter.unusedSimpArgs false
set_option linter.unusedVariables false
open Go.RowKit
set_option maxRecDepth 100000
set_option maxHeartbeats 4000000
attribute [local go_sem] Instr.field asAgg Soft.upon Soft.upon0 Soft.stepC Soft.BW.cell_if Soft.BW.frozen_if Soft.cell_alloc_if Soft.frozen_alloc_if
attribute [local irreducible] Soft.wpSoft Soft.wpMix

theorem atE_lim {ps : List Pt} {lo hi most : Int} (h : isTab ps lo hi most) (h0 : lo ≤ 0) (h1 : 0 ≤ hi) (x : Int) : lo ≤ (atE ps x).1.lo ∧ (atE ps x).1.lo ≤ (atE ps x).1.hi ∧ (atE ps x).1.hi ≤ hi := by
  unfold atE
  rw [if_pos h.1]
  split
  · rename_i hc
    exact atS_bd h hc.1 hc.2
  · dsimp only; omega
theorem atE_vals (ps : List Pt) (x : Int) : -1000000000 ≤ (atE ps x).1.lo ∧ (atE ps x).1.lo ≤ (atE ps x).1.hi ∧ (atE ps x).1.hi ≤ 1000000000 := by
  by_cases h : TabOk ps
  · refine atE_lim (most := 1000000) ⟨h, fun k hk => ?_⟩ (by decide) (by decide) x
    obtain ⟨_, a, _, b, c, _⟩ := h.all k hk
    exact ⟨b, c, a⟩
  · unfold atE
    rw [if_neg h]
    dsimp only
    omega

/-- A product in thousandths; in millionths. -/
def partR (a b : Rg) (d : Int) : Rg := ⟨a.lo * b.lo / d, -(-(a.hi * b.hi) / d)⟩
def heelF (ps : List Pt) (arm : Rg) (x : Int) : Rg × Int := (partR arm (atE ps x).1 1000, 0)
def mgnF (a b : List Pt) (x : Int) : Rg × Int := (subR (atE a x).1 (atE b x).1, 0)

theorem cond_Margin1 (a b : Tb) (x : Int) (ba bb : Nat) (w : World) (ha : a.At w) (hb : b.At w) (ga : w.cell? ⟨ba, 0, none⟩ = some (.slice a.p a.n a.c)) (gb : w.cell? ⟨bb, 0, none⟩ = some (.slice b.p b.n b.c)) :
    Calls Tryz.prog 49 #[.int .i64 x, .pointer (some ⟨ba, 0, none⟩), .pointer (some ⟨bb, 0, none⟩)] w fun e w' => e = .returned (.tuple #[.agg #[.int .i64 ((mgnF a.ps b.ps x).1).lo, .int .i64 ((mgnF a.ps b.ps x).1).hi], .int .i64 (mgnF a.ps b.ps x).2]) ∧ Below w.heap.size w w' := by
  have CA := Lib.hid (fun W (hW : Below w.heap.size w W) => cond_at a x W (ha.same hW))
  have CB := Lib.hid (fun W (hW : Below w.heap.size w W) => cond_at b x W (hb.same hW))
  obtain ⟨a1, a2, a3⟩ := atE_vals a.ps x
  obtain ⟨b1, b2, b3⟩ := atE_vals b.ps x
  have CM := Lib.hid (fun W => cond_minus (atE a.ps x).1 (atE b.ps x).1 W ⟨by omega, by omega⟩ ⟨by omega, by omega⟩ ⟨by omega, by omega⟩ ⟨by omega, by omega⟩)
  have HM := Lib.hid (show mgnF a.ps b.ps x = (subR (atE a.ps x).1 (atE b.ps x).1, 0) from rfl)
  rw [HM.out]
  clear a1 a2 a3 b1 b2 b3 ha hb HM
  generalize (atE a.ps x).1 = ra at *
  generalize (atE b.ps x).1 = rb at *
  generalize subR ra rb = r at *
  have la := Soft.LtH.mk (b := ba) (w := w) (World.block_lt_of_cell? _ _ ga)
  have lb := Soft.LtH.mk (b := bb) (w := w) (World.block_lt_of_cell? _ _ gb)
  generalize Value.slice a.p a.n a.c = va at *
  generalize Value.slice b.p b.n b.c = vb at *
  go_enter Tryz.func49, Tryz.ntmps49
  go_wp2_with fail
  (refine Soft.region0 [0, 1, 2, 3, 4, 5, 6] [7, 8] (by kernel_rfl) (by kernel_rfl) (by kernel_rfl) (by kernel_rfl) ?_; change Soft.wpSoft _ _ _ _ _ [_, _, _, _, _, _, _] _; (repeat (refine Soft.soft_step (fun K hK => ?_); go_simp; (try go_bits); first | (refine hK _ ?_; clear hK K) | (apply Exists.intro; refine ⟨fun x => ?_, hK _ ?_⟩; (first | (go_at_call 51; with_reducible exact (CA.out _ (by (with_reducible repeat (first | exact blr _ | refine bla ?_ _ | refine blw _ ?_ | refine bld ?_ | refine bln _ ?_ | refine bls ?_ _ | refine blt ?_))))) | (go_at_call 51; with_reducible exact (CB.out _ (by (with_reducible repeat (first | exact blr _ | refine bla ?_ _ | refine blw _ ?_ | refine bld ?_ | refine bln _ ?_ | refine bls ?_ _ | refine blt ?_))))) | (go_at_call 50; with_reducible exact (CM.out _))); clear hK K))); refine Soft.soft_nil ?_; intro xw; change wpList _ _ _ [_, _] _ _)
  go_wp2_with fail
  refine bodyPost_ret (v := .tuple #[.agg #[.int .i64 (r).lo, .int .i64 (r).hi], .int .i64 0]) (by simp [results, Tryz.results49, go_sem]) rfl ?_
  refine ⟨rfl, ?_⟩
  (with_reducible repeat (first | exact blr _ | refine bla ?_ _ | refine blw _ ?_ | refine bld ?_ | refine bln _ ?_ | refine bls ?_ _ | refine blt ?_))

theorem cond_Heeling1 (t : Tb) (arm : Rg) (x : Int) (bs bt : Nat) (w : World) (ht : t.At w) (hlim : isTab t.ps 0 10000 900) (h1 : 0 ≤ arm.lo) (h2 : arm.lo ≤ arm.hi) (h3 : arm.hi ≤ 1000000000000) (gs : w.cell? ⟨bs, 8, none⟩ = some (.slice t.p t.n t.c)) (g0 : w.cell? ⟨bt, 0, none⟩ = some (.int .i64 arm.lo)) (g1 : w.cell? ⟨bt, 1, none⟩ = some (.int .i64 arm.hi)) :
    Calls Tryz.prog 118 #[.int .i64 x, .pointer (some ⟨bs, 0, none⟩), .pointer (some ⟨bt, 0, none⟩)] w fun e w' => e = .returned (.tuple #[.agg #[.int .i64 ((heelF t.ps arm x).1).lo, .int .i64 ((heelF t.ps arm x).1).hi], .int .i64 (heelF t.ps arm x).2]) ∧ Below w.heap.size w w' := by
  have CA := Lib.hid (fun W (hW : Below w.heap.size w W) => cond_at t x W (ht.same hW))
  obtain ⟨a1, a2, a3⟩ := atE_lim hlim (by decide) (by decide) x
  have HM := Lib.hid (show heelF t.ps arm x = (⟨arm.lo * (atE t.ps x).1.lo / 1000, -(-(arm.hi * (atE t.ps x).1.hi) / 1000)⟩, 0) from rfl)
  rw [HM.out]
  clear ht hlim HM
  generalize (atE t.ps x).1 = r at *
  have k1 := mul_bdR (x := arm.lo) (y := r.lo) (A := 1000000000000) (B := 10000) h1 (by omega) (by omega) (by omega)
  have k2 := mul_bdR (x := arm.hi) (y := r.hi) (A := 1000000000000) (B := 10000) (by omega) h3 (by omega) (by omega)
  have CD := Lib.hid (fun W => Calls.bel (cond_down (arm.lo * r.lo) 1000 W (by omega) (by omega) (by decide)))
  have CU := Lib.hid (fun W => Calls.bel (cond_up (arm.hi * r.hi) 1000 W (by omega) (by omega) (by decide)))
  obtain ⟨k11, k12⟩ := k1
  obtain ⟨k21, k22⟩ := k2
  generalize arm.lo * r.lo / 1000 = q1 at *
  generalize -(-(arm.hi * r.hi) / 1000) = q2 at *
  have la := Soft.LtH.mk (b := bs) (w := w) (World.block_lt_of_cell? _ _ gs)
  have lb := Soft.LtH.mk (b := bt) (w := w) (World.block_lt_of_cell? _ _ g0)
  clear h1 h2 h3 a1 a2 a3
  generalize Value.slice t.p t.n t.c = va at *
  go_enter Tryz.func118, Tryz.ntmps118
  go_wp2_with ((go_at_call 51; (with_reducible refine (CA.out _ (by (with_reducible repeat (first | exact blr _ | refine bla ?_ _ | refine blw _ ?_ | refine bld ?_ | refine bln _ ?_ | refine bls ?_ _ | refine blt ?_)))).mono ?_); rintro e w_ ⟨rfl, hb_⟩; obtain ⟨y1, rfl⟩ := Soft.BW.mk hb_; clear hb_))
  (refine Soft.region0 [0, 1, 2, 3, 4, 5, 6, 7, 8, 9, 10, 11, 12] [13, 14] (by kernel_rfl) (by kernel_rfl) (by kernel_rfl) (by kernel_rfl) ?_; change Soft.wpSoft _ _ _ _ _ [_, _, _, _, _, _, _, _, _, _, _, _, _] _; (repeat (refine Soft.soft_step (fun K hK => ?_); go_simp; (try go_bits); first | (refine hK _ ?_; clear hK K) | (apply Exists.intro; refine ⟨fun x => ?_, hK _ ?_⟩; (first | (go_at_call 114; with_reducible exact (CD.out _)) | (go_at_call 115; with_reducible exact (CU.out _))); clear hK K))); refine Soft.soft_nil ?_; intro xw; change wpList _ _ _ [_, _] _ _)
  go_wp2_with fail
  refine bodyPost_ret (v := .tuple #[.agg #[.int .i64 q1, .int .i64 q2], .int .i64 0]) (by simp [results, Tryz.results118, go_sem]) rfl ?_
  refine ⟨rfl, ?_⟩
  (with_reducible repeat (first | exact blr _ | refine bla ?_ _ | refine blw _ ?_ | refine bld ?_ | refine bln _ ?_ | refine bls ?_ _ | refine blt ?_))

end Go.Proofs.YteagdcgmmdiakaaGreat

namespace Go.Proofs.YteagdcgmmdiakaaGreat
set_option linter.unusedSimpArgs false
set_option linter.unusedVariables false
open Go.RowKit
set_option maxRecDepth 100000
set_option maxHeartbeats 8000000
attribute [local go_sem] Instr.field asAgg Soft.upon Soft.upon0 Soft.stepC Soft.BW.cell_if Soft.BW.frozen_if Soft.cell_alloc_if Soft.frozen_alloc_if
attribute [local irreducible] Soft.wpSoft Soft.wpMix

theorem overE_vals {ps : List Pt} {r : Rg} (h0 : (overE ps r).2 = 0) : -1000000000 ≤ (overE ps r).1.lo ∧ (overE ps r).1.lo ≤ (overE ps r).1.hi ∧ (overE ps r).1.hi ≤ 1000000000 := by
  by_cases h : TabOk ps
  · refine overE_bd (most := 1000000) ⟨h, fun k hk => ?_⟩ r h0
    obtain ⟨_, a, _, b, c, _⟩ := h.all k hk
    exact ⟨b, c, a⟩
  · unfold overE at h0
    rw [if_neg h] at h0
    cases h0

/-- The arms at an angle, over the displacement. -/
def armPt (l : List Cr) (x : Int) (j : Nat) : Pt := ⟨(crv l j).tonnes, (atE (crv l j).arms.ps x).1.lo, (atE (crv l j).arms.ps x).1.hi⟩
def armsP (l : List Cr) (x : Int) : List Pt := upto (armPt l x) l.length
def rgtF (S : Sh) (t high : Rg) (x : Int) : Rg × Int :=
  if (overE (armsP S.cross.xs x) t).2 = 0 then (subR (overE (armsP S.cross.xs x) t).1 (partR high (atE S.sin.ps x).1 1000000), 0) else (⟨0, 0⟩, (overE (armsP S.cross.xs x) t).2)

theorem cond_Righting1 (S : Sh) (t high : Rg) (x : Int) (bs bt bh : Nat) (w : World) (hS : S.At w) (hlim : isTab S.sin.ps 0 1000000 900) (hc12 : S.cross.n ≤ 12) (h1 : 0 ≤ high.lo) (h2 : high.lo ≤ high.hi) (h3 : high.hi ≤ 1100000000000)
    (gs : w.cell? ⟨bs, 6, none⟩ = some (.slice S.cross.p S.cross.n S.cross.c)) (gn : w.cell? ⟨bs, 7, none⟩ = some (.slice S.sin.p S.sin.n S.sin.c)) (g0 : w.cell? ⟨bt, 0, none⟩ = some (.int .i64 t.lo)) (g1 : w.cell? ⟨bt, 1, none⟩ = some (.int .i64 t.hi)) (g2 : w.cell? ⟨bh, 0, none⟩ = some (.int .i64 high.lo)) (g3 : w.cell? ⟨bh, 1, none⟩ = some (.int .i64 high.hi)) :
    Calls Tryz.prog 113 #[.int .i64 x, .pointer (some ⟨bs, 0, none⟩), .pointer (some ⟨bt, 0, none⟩), .pointer (some ⟨bh, 0, none⟩)] w fun e w' => e = .returned (.tuple #[.agg #[.int .i64 ((rgtF S t high x).1).lo, .int .i64 ((rgtF S t high x).1).hi], .int .i64 (rgtF S t high x).2]) ∧ Below w.heap.size w w' := by
  have HS := Lib.hid hS
  obtain ⟨a1, a2, a3⟩ := atE_lim hlim (by decide) (by decide) x
  have CS := Lib.hid (fun W (hW : Below w.heap.size w W) => cond_at S.sin x W (hS.sin.same hW))
  have HR := Lib.hid (show rgtF S t high x = if (overE (armsP S.cross.xs x) t).2 = 0 then (subR (overE (armsP S.cross.xs x) t).1 ⟨high.lo * (atE S.sin.ps x).1.lo / 1000000, -(-(high.hi * (atE S.sin.ps x).1.hi) / 1000000)⟩, 0) else (⟨0, 0⟩, (overE (armsP S.cross.xs x) t).2) from rfl)
  have k1 := mul_bdR (x := high.lo) (y := (atE S.sin.ps x).1.lo) (A := 1100000000000) (B := 1000000) h1 (by omega) (by omega) (by omega)
  have k2 := mul_bdR (x := high.hi) (y := (atE S.sin.ps x).1.hi) (A := 1100000000000) (B := 1000000) (by omega) h3 (by omega) (by omega)
  have CD := Lib.hid (fun W => Calls.bel (cond_down (high.lo * (atE S.sin.ps x).1.lo) 1000000 W (by omega) (by omega) (by decide)))
  have CU := Lib.hid (fun W => Calls.bel (cond_up (high.hi * (atE S.sin.ps x).1.hi) 1000000 W (by omega) (by omega) (by decide)))
  have d1 := div_bd (x := high.lo * (atE S.sin.ps x).1.lo) (b := 1000000) (K := 1100000000000000000) (by omega) (by omega) (by decide) (by decide)
  have d2 := div_bd (x := -(high.hi * (atE S.sin.ps x).1.hi)) (b := 1000000) (K := 1100000000000000000) (by omega) (by omega) (by decide) (by decide)
  have d3 : -1100000000000000000 ≤ -(-(high.hi * (atE S.sin.ps x).1.hi) / 1000000) ∧ -(-(high.hi * (atE S.sin.ps x).1.hi) / 1000000) ≤ 1100000000000000000 := by omega
  clear d2
  obtain ⟨k11, k12⟩ := k1
  obtain ⟨k21, k22⟩ := k2
  have hcn := hS.cross.1
  have hcc := hS.cross.2.1.1
  have hcc2 := hS.cross.2.1.2.1
  have HCN := Lib.hid hcn
  have ls := Soft.LtH.mk (b := bs) (w := w) (World.block_lt_of_cell? _ _ gs)
  have lt := Soft.LtH.mk (b := bt) (w := w) (World.block_lt_of_cell? _ _ g0)
  have lh := Soft.LtH.mk (b := bh) (w := w) (World.block_lt_of_cell? _ _ g2)
  clear hS hlim h2 hcn
  generalize (atE S.sin.ps x).1 = r at *
  generalize high.lo * r.lo / 1000000 = q1 at *
  generalize -(-(high.hi * r.hi) / 1000000) = q2 at *
  generalize hD : rgtF S t high x = D at *
  clear hD
  generalize Value.slice S.sin.p S.sin.n S.sin.c = vs at *
  go_enter Tryz.func113, Tryz.ntmps113
  go_wp2_with fail
  go_loopw [17] (fun i wr => ∃ (k : Nat) (v : Value), i = .int .i64 k ∧ k ≤ S.cross.n ∧ HasBlk wr (w.heap.size + 1) #[v] 24 ∧ HasBlk wr w.heap.size #[.int .i64 0, .int .i64 0] 27 ∧ OwnP wr (w.heap.size + 2) v (upto (armPt S.cross.xs x) k) ∧ Below w.heap.size w wr) (fun i _ => S.cross.n - (intOf i).toNat)
  case atStart => exact ⟨0, .slice none 0 0, rfl, by omega, by simp only [HasBlk, Soft.heap_new1], HasBlk.below (Soft.heap_new w _) (bel_alloc (bel_refl _) _), World.ownsRow_nil _ _ _ _, by (with_reducible repeat (first | exact blr _ | refine bla ?_ _ | refine blw _ ?_ | refine bld ?_ | refine bln _ ?_ | refine bls ?_ _ | refine blt ?_))⟩
  case round =>
    obtain ⟨k, v, rfl, hk, hblk, hres, hown, hbel⟩ := hrel
    have l2 := Soft.LtH.mk (b := w.heap.size + 1) (w := wr) hblk.lt
    have l1 := Soft.LtH.mk (b := w.heap.size) (w := wr) hres.lt
    by_cases hlt : k < S.cross.n
    · have hcs := (HS.out.same hbel).cross
      obtain ⟨b, o, hp, hb, hc⟩ := hcs.cells (by omega)
      obtain ⟨c0, c1⟩ := hc k hlt
      have hat := hcs.2.2 k hlt
      have lb := Soft.LtH.mk (b := b) (w := wr) hb
      have CA := Lib.hid (fun W (hW : Below wr.heap.size wr W) => cond_at (crv S.cross.xs k).arms x W (hat.same hW))
      have HNX := Lib.hid (show upto (armPt S.cross.xs x) (k + 1) = upto (armPt S.cross.xs x) k ++ [⟨(crv S.cross.xs k).tonnes, (atE (crv S.cross.xs k).arms.ps x).1.lo, (atE (crv S.cross.xs k).arms.ps x).1.hi⟩] from upto_succ _ _)
      have hl : (upto (armPt S.cross.xs x) k).length = k := upto_length _ _
      have hb0 : w.heap.size + 1 < wr.heap.size := hblk.lt
      have HBEL := Lib.hid hbel
      have HBLK := Lib.hid hblk
      have HRES := Lib.hid hres
      have HOWN := Lib.hid hown
      have cs := hblk.cell 0
      have fs := hblk.frozen 0
      simp at cs
      rw [hp]
      clear hbel hblk hres hown hc hcs hat hb hp
      generalize (atE (crv S.cross.xs k).arms.ps x).1 = E at *
      generalize upto (armPt S.cross.xs x) k = l at *
      generalize crv S.cross.xs k = q at *
      obtain ⟨el, eh⟩ := E
      dsimp only at CA HNX
      go_wp2_with (first | (go_at_call 51; (with_reducible refine (CA.out _ (by (with_reducible repeat (first | exact blr _ | refine bla ?_ _ | refine blw _ ?_ | refine bld ?_ | refine bln _ ?_ | refine bls ?_ _ | refine blt ?_)))).mono ?_); rintro e w_ ⟨rfl, hb_⟩; obtain ⟨y1, rfl⟩ := Soft.BW.mk hb_; clear hb_) | (at_builtin; go_loud (refine app_pt rfl (.tmp 26) (.tmp 34) rfl (w.heap.size + 2) v l rfl ((((HOWN.out.alloc _).bw y1).alloc _).alloc _) (y1.w.heap.size + 1) ⟨q.tonnes, el, eh⟩ rfl (by simp) (by simp) (by simp) (by omega) (by have := (show Below wr.heap.size wr ((y1.w.alloc (.cells #[.int .i64 el, .int .i64 eh] 27)).alloc (.cells #[.int .i64 q.tonnes, .int .i64 el, .int .i64 eh] 69)) by (with_reducible repeat (first | exact blr _ | refine bla ?_ _ | refine blw _ ?_ | refine bld ?_ | refine bln _ ?_ | refine bls ?_ _ | refine blt ?_))).size; omega) ?_); intro v3 w3 ho hb3 hgr3; have fs3 := HasBlk.belowAt (HasBlk.below HBLK.out (show Below wr.heap.size wr ((y1.w.alloc (.cells #[.int .i64 el, .int .i64 eh] 27)).alloc (.cells #[.int .i64 q.tonnes, .int .i64 el, .int .i64 eh] 69)) by (with_reducible repeat (first | exact blr _ | refine bla ?_ _ | refine blw _ ?_ | refine bld ?_ | refine bln _ ?_ | refine bls ?_ _ | refine blt ?_)))) hb3 (by omega); have fr3 := HasBlk.belowAt (HasBlk.below HRES.out (show Below wr.heap.size wr ((y1.w.alloc (.cells #[.int .i64 el, .int .i64 eh] 27)).alloc (.cells #[.int .i64 q.tonnes, .int .i64 el, .int .i64 eh] 69)) by (with_reducible repeat (first | exact blr _ | refine bla ?_ _ | refine blw _ ?_ | refine bld ?_ | refine bln _ ?_ | refine bls ?_ _ | refine blt ?_)))) hb3 (by omega); have fs4 := fs3.frozen 0; have fs5 := fs3.cell 0; simp at fs5; obtain ⟨g3, c3, rfl, hg5, hg6, hg7, hg8⟩ := ho.shape (by simp); have bl3 := (bel_step HBEL.out (show Below wr.heap.size wr ((y1.w.alloc (.cells #[.int .i64 el, .int .i64 eh] 27)).alloc (.cells #[.int .i64 q.tonnes, .int .i64 el, .int .i64 eh] 69)) by (with_reducible repeat (first | exact blr _ | refine bla ?_ _ | refine blw _ ?_ | refine bld ?_ | refine bln _ ?_ | refine bls ?_ _ | refine blt ?_)))).trans (hb3.mono (by omega))))
      rw [show (l ++ [(⟨q.tonnes, el, eh⟩ : Pt)]).length = k + 1 by simp [hl]] at ho
      go_roundw
      case rel => exact ⟨k + 1, _, by simp, by omega, fs3.put 0 _, fr3.set_other (by simp) _, by rw [HNX.out]; exact ho.set (p := ⟨w.heap.size + 1, 0, none⟩) (by dsimp only; omega) _, bl3.setCell (p := ⟨w.heap.size + 1, 0, none⟩) (by dsimp only; omega) _⟩
      case measure => simp [intOf]; omega
    · obtain rfl : k = S.cross.n := by omega
      have hl : (upto (armPt S.cross.xs x) S.cross.n).length = S.cross.n := upto_length _ _
      obtain ⟨q, rfl, hq, hqp, hqf⟩ := ownP_tb hown (by omega)
      have cs := hblk.cell 0
      have cr := hres.cell 0
      have cr1 := hres.cell 1
      have fr := hres.frozen 0
      have fr1 := hres.frozen 1
      simp at cs cr cr1
      have HBEL := Lib.hid hbel
      have hps : q.ps = armsP S.cross.xs x := by rw [hqp]; unfold armsP; rw [HCN.out]
      have CO := Lib.hid (fun W (hW : Below wr.heap.size wr W) => cond_over q t W (hq.same hW))
      rw [hps] at CO
      have HV := Lib.hid (fun h => overE_vals (ps := armsP S.cross.xs x) (r := t) h)
      have CS2 := Lib.hid (fun W (hW : Below wr.heap.size wr W) => CS.out W (bel_step HBEL.out hW))
      have gs' : wr.cell? ⟨bs, 7, none⟩ = some vs := (hbel.cell (p := ⟨bs, 7, none⟩) (World.block_lt_of_cell? _ _ gn)).trans gn
      have gt0 : wr.cell? ⟨bt, 0, none⟩ = some (.int .i64 t.lo) := (hbel.cell (p := ⟨bt, 0, none⟩) (World.block_lt_of_cell? _ _ g0)).trans g0
      have gt1 : wr.cell? ⟨bt, 1, none⟩ = some (.int .i64 t.hi) := (hbel.cell (p := ⟨bt, 1, none⟩) (World.block_lt_of_cell? _ _ g1)).trans g1
      have gh0 : wr.cell? ⟨bh, 0, none⟩ = some (.int .i64 high.lo) := (hbel.cell (p := ⟨bh, 0, none⟩) (World.block_lt_of_cell? _ _ g2)).trans g2
      have gh1 : wr.cell? ⟨bh, 1, none⟩ = some (.int .i64 high.hi) := (hbel.cell (p := ⟨bh, 1, none⟩) (World.block_lt_of_cell? _ _ g3)).trans g3
      have ms := Soft.LtH.mk (b := bs) (w := wr) (World.block_lt_of_cell? _ _ gs')
      have mt := Soft.LtH.mk (b := bt) (w := wr) (World.block_lt_of_cell? _ _ gt0)
      have mh := Soft.LtH.mk (b := bh) (w := wr) (World.block_lt_of_cell? _ _ gh0)
      clear hown hblk hres hbel hps hqp hqf hq CS gs gn g0 g1 g2 g3 ls lt lh
      generalize overE (armsP S.cross.xs x) t = O at *
      obtain ⟨⟨ol, oh⟩, oe⟩ := O
      dsimp only at CO HV HR
      by_cases h0 : oe = 0
      · subst h0
        obtain ⟨o1, o2, o3⟩ := HV.out rfl
        have HD := Lib.hid (HR.out.trans (if_pos rfl))
        have CM := Lib.hid (fun W => show Calls Tryz.prog 50 #[.agg #[.int .i64 ol, .int .i64 oh], .agg #[.int .i64 q1, .int .i64 q2]] W (fun e w' => e = .returned (.agg #[.int .i64 ((subR ⟨ol, oh⟩ ⟨q1, q2⟩)).lo, .int .i64 ((subR ⟨ol, oh⟩ ⟨q1, q2⟩)).hi]) ∧ Below W.heap.size W w') from cond_minus ⟨ol, oh⟩ ⟨q1, q2⟩ W (by dsimp only at *; omega) (by dsimp only at *; omega) (by dsimp only; omega) (by dsimp only; omega))
        clear HV HR
        generalize subR ⟨ol, oh⟩ ⟨q1, q2⟩ = sb at *
        go_wp2_with (first | (go_at_call 107; (with_reducible refine (CO.out _ (by (with_reducible repeat (first | exact blr _ | refine bla ?_ _ | refine blw _ ?_ | refine bld ?_ | refine bln _ ?_ | refine bls ?_ _ | refine blt ?_)))).mono ?_); rintro e w_ ⟨rfl, hb_⟩; obtain ⟨y2, rfl⟩ := Soft.BW.mk hb_; clear hb_) | (go_at_call 51; (with_reducible refine (CS2.out _ (by (with_reducible repeat (first | exact blr _ | refine bla ?_ _ | refine blw _ ?_ | refine bld ?_ | refine bln _ ?_ | refine bls ?_ _ | refine blt ?_)))).mono ?_); rintro e w_ ⟨rfl, hb_⟩; obtain ⟨y3, rfl⟩ := Soft.BW.mk hb_; clear hb_))
        (refine Soft.region0 [0, 1, 2, 3, 4, 5, 6, 7, 8, 9, 10, 11, 12, 13, 14] [15, 16] (by kernel_rfl) (by kernel_rfl) (by kernel_rfl) (by kernel_rfl) ?_; change Soft.wpSoft _ _ _ _ _ [_, _, _, _, _, _, _, _, _, _, _, _, _, _, _] _; (repeat (refine Soft.soft_step (fun K hK => ?_); go_simp; (try go_bits); first | (refine hK _ ?_; clear hK K) | (apply Exists.intro; refine ⟨fun x => ?_, hK _ ?_⟩; (first | (go_at_call 114; with_reducible exact (CD.out _)) | (go_at_call 115; with_reducible exact (CU.out _)) | (go_at_call 50; with_reducible exact (CM.out _))); clear hK K))); refine Soft.soft_nil ?_; intro xw; change wpList _ _ _ [_, _] _ _)
        go_wp2_with fail
        refine bodyPost_ret (v := .tuple #[.agg #[.int .i64 (sb).lo, .int .i64 (sb).hi], .int .i64 0]) (by simp [results, Tryz.results113, go_sem, cr, cr1, fr, fr1]) rfl ?_
        refine ⟨by rw [HD.out], ?_⟩
        have hbl := HBEL.out
        (with_reducible repeat (first | exact blr _ | refine bla ?_ _ | refine blw _ ?_ | refine bld ?_ | refine bln _ ?_ | refine bls ?_ _ | refine blt ?_))
      · have HD := Lib.hid (HR.out.trans (if_neg h0))
        have dO : (oe != 0) = true := bne_iff_ne.2 h0
        clear HV HR h0
        go_wp2_with (first | (go_at_call 107; (with_reducible refine (CO.out _ (by (with_reducible repeat (first | exact blr _ | refine bla ?_ _ | refine blw _ ?_ | refine bld ?_ | refine bln _ ?_ | refine bls ?_ _ | refine blt ?_)))).mono ?_); rintro e w_ ⟨rfl, hb_⟩; obtain ⟨y2, rfl⟩ := Soft.BW.mk hb_; clear hb_))
        refine bodyPost_ret (v := .tuple #[.agg #[.int .i64 0, .int .i64 0], .int .i64 oe]) (by simp [results, Tryz.results113, go_sem, cr, cr1, fr, fr1]) rfl ?_
        refine ⟨by rw [HD.out], ?_⟩
        have hbl := HBEL.out
        (with_reducible repeat (first | exact blr _ | refine bla ?_ _ | refine blw _ ?_ | refine bld ?_ | refine bln _ ?_ | refine bls ?_ _ | refine blt ?_))

end Go.Proofs.YteagdcgmmdiakaaGreat

namespace Go.Proofs.YteagdcgmmdiakaaGreat
set_option linter.unusedSimpArgs false
set_option linter.unusedVariables false
open Go.RowKit Go.Shelf Go.Lib Go.Sort
set_option maxRecDepth 100000
set_option maxHeartbeats 4000000

theorem putRow_otherI (w : World) (blk off : Nat) (d : Array Int) (k : Nat) (h : k ≠ blk) : (putRow (Value.int .i64) w blk off d).heap[k]? = w.heap[k]? := by
  unfold putRow mapBlock
  simp [Array.getElem?_modify, Ne.symm h]

/-- A row of ints that lies at the head of its block. -/
structure RowI (w : World) (blk : Nat) (l : List Int) : Prop where
  lt : blk < w.heap.size
  cell : ∀ j, j < l.length → w.cell? ⟨blk, j, none⟩ = some (.int .i64 (iv l j)) ∧ w.frozen? ⟨blk, j, none⟩ = false
theorem OwnI.rowI {w : World} {B : Nat} {l : List Int} {blk n cap : Nat} (h : OwnI w B (.slice (some ⟨blk, 0, none⟩) n cap) l) : RowI w blk l := by
  unfold OwnI at h
  rcases h.2 with ⟨e, _⟩ | ⟨g, c, cur, e, hb, hg, h1, h2, h3, h4⟩
  · cases e
  · cases e
    refine ⟨(Array.getElem?_eq_some_iff.1 hg).1, fun j hj => ⟨?_, by simp [World.frozen?, hg]⟩⟩
    have := h.cellAt j (by omega)
    rw [this]
    simp [ints, iv, hj]
theorem iv_bang (l : List Int) (j : Nat) (h : j < l.length) : l.toArray[j]! = iv l j := by
  rw [getElem!_pos l.toArray j (by simpa using h)]
  simp [iv, h]
theorem RowI.holds {w : World} {blk : Nat} {l : List Int} (h : RowI w blk l) : Holds (Value.int .i64) w blk 0 l.toArray := fun j hj => by
  have hj' : j < l.length := by simpa using hj
  rw [Nat.zero_add, iv_bang l j hj']
  exact h.cell j hj'
theorem holds_rowI {w : World} {blk : Nat} {l : List Int} (hb : blk < w.heap.size) (h : Holds (Value.int .i64) w blk 0 l.toArray) : RowI w blk l :=
  ⟨hb, fun j hj => by
    have := h j (by simpa using hj)
    rw [Nat.zero_add, iv_bang l j hj] at this
    exact this⟩

def sortI (l : List Int) : List Int := l.mergeSort fun x y => decide (x ≤ y)
theorem ints_sort (blk cap : Nat) (l : List Int) (w : World) (h : RowI w blk l) (hn : l.length ≤ 1000) :
    Calls Tryz.prog 119 #[.slice (some ⟨blk, 0, none⟩) l.length cap] w fun e w' => e = .returned (.tuple #[]) ∧ RowI w' blk (sortI l) ∧ ButG blk w w' := by
  refine (Tryz.slices_Sort_int blk 0 cap l w h.holds h.lt (by omega)).mono ?_
  rintro e w' ⟨rfl, n, os, rfl⟩
  have hs : (sortI l).toArray.size = l.toArray.size := by simp [sortI]
  refine ⟨rfl, holds_rowI (by simp [grow]; have := h.lt; omega) ?_, rfl, rfl, rfl, by simp [grow], fun k hk hkg => ?_⟩
  · exact holds_grow _ _ os blk 0 _ (by simpa using h.lt) (holds_putRow _ (Sort.ahead w n) blk 0 l.toArray _ h.holds hs)
  · show ((putRow (Value.int .i64) (Sort.ahead w n) blk 0 _).heap ++ os)[k]? = _
    rw [Array.getElem?_append_left (by simpa using hk), putRow_otherI _ _ _ _ _ hkg]
    rfl

theorem ints_compact (blk cap : Nat) (l : List Int) (w : World) (h : RowI w blk l) (hn : l.length ≤ 1000) (hc : l.length ≤ cap) :
    Calls Tryz.prog 120 #[.slice (some ⟨blk, 0, none⟩) l.length cap] w fun e w' => e = .returned (.slice (some ⟨blk, 0, none⟩) (Lib.compact l).length cap) ∧ RowI w' blk (Lib.compact l) ∧ ButG blk w w' := by
  refine (Tryz.slices_Compact_int blk 0 cap l w h.holds (by omega) hc).mono ?_
  rintro e w' ⟨rfl, q, rfl⟩
  have hl := compact_length_le l
  have hs : (Lib.compact l ++ List.replicate (l.length - (Lib.compact l).length) 0).toArray.size = l.toArray.size := by simp; omega
  have hh := holds_putRow _ (Sort.ahead w q) blk 0 l.toArray (Lib.compact l ++ List.replicate (l.length - (Lib.compact l).length) 0).toArray h.holds hs
  refine ⟨rfl, ⟨by simpa using h.lt, fun j hj => ?_⟩, rfl, rfl, rfl, by simp, fun k hk hkg => ?_⟩
  · have := hh j (by simp; omega)
    rw [Nat.zero_add, iv_bang _ j (by simp; omega)] at this
    simpa [iv, List.getElem?_append_left hj] using this
  · rw [putRow_otherI _ _ _ _ _ hkg]
    rfl

/-- The points of a table that lie between two places, behind others; of all tables. -/
def stJ (lo hi : Int) (ps : List Pt) (base : List Int) : Nat → List Int
  | 0 => base
  | j + 1 => if lo ≤ (pt ps j).x ∧ (pt ps j).x ≤ hi then stJ lo hi ps base j ++ [(pt ps j).x] else stJ lo hi ps base j
def stK (lo hi : Int) (l : List Tb) : Nat → List Int
  | 0 => [lo, hi]
  | k + 1 => stJ lo hi (tbv l k).ps (stK lo hi l k) (tbv l k).ps.length
def statS (S : Sh) : List Int := Lib.compact (sortI (stK (angLo S) (angHi S) (uprT S) (2 + S.cross.xs.length)))
theorem stJ_len (lo hi : Int) (ps : List Pt) (base : List Int) : ∀ j, (stJ lo hi ps base j).length ≤ base.length + j
  | 0 => Nat.le_refl _
  | j + 1 => by
    have := stJ_len lo hi ps base j
    unfold stJ
    split
    · simp; omega
    · omega
theorem stK_len {lo hi : Int} {l : List Tb} {n : Nat} (h : ∀ i, i < n → TabOk (tbv l i).ps) : ∀ k, k ≤ n → (stK lo hi l k).length ≤ 2 + 40 * k
  | 0, _ => Nat.le_refl _
  | k + 1, hk => by
    have := stK_len (lo := lo) (hi := hi) h k (by omega)
    have := stJ_len lo hi (tbv l k).ps (stK lo hi l k) (tbv l k).ps.length
    have := (h k (by omega)).le
    unfold stK
    omega

theorem OwnI.cap {w : World} {B : Nat} {l : List Int} {blk n cap : Nat} (h : OwnI w B (.slice (some ⟨blk, 0, none⟩) n cap) l) : n ≤ cap ∧ cap ≤ 9223372036854775807 := by
  unfold OwnI at h
  rcases h.2 with ⟨e, _⟩ | ⟨g, c, cur, e, hb, hg, h1, h2, _⟩
  · cases e
  · cases e
    exact ⟨h1, h2⟩
theorem sortI_len (l : List Int) : (sortI l).length = l.length := List.length_mergeSort _
theorem sortI_mem {l : List Int} {x : Int} : x ∈ sortI l ↔ x ∈ l := List.mem_mergeSort
theorem compact_mem {l : List Int} {x : Int} (h : x ∈ Lib.compact l) : x ∈ l := by
  unfold Lib.compact compactUpTo at h
  obtain ⟨j, hj, rfl⟩ := List.mem_map.1 h
  have hj2 := List.mem_range.1 (List.mem_filter.1 hj).1
  rw [iv_bang l j hj2]
  simp [iv, hj2]
theorem stJ_mem {lo hi : Int} {ps : List Pt} {base : List Int} {x : Int} : ∀ j, x ∈ stJ lo hi ps base j → x ∈ base ∨ ∃ i, i < j ∧ x = (pt ps i).x ∧ lo ≤ x ∧ x ≤ hi
  | 0, h => .inl h
  | j + 1, h => by
    unfold stJ at h
    split at h
    · rename_i hc
      rcases List.mem_append.1 h with h | h
      · rcases stJ_mem j h with h | ⟨i, a, b⟩
        · exact .inl h
        · exact .inr ⟨i, by omega, b⟩
      · obtain rfl := List.mem_singleton.1 h
        exact .inr ⟨j, by omega, rfl, hc⟩
    · rcases stJ_mem j h with h | ⟨i, a, b⟩
      · exact .inl h
      · exact .inr ⟨i, by omega, b⟩
theorem stK_mem {lo hi : Int} {l : List Tb} {x : Int} : ∀ k, x ∈ stK lo hi l k → x = lo ∨ x = hi ∨ (lo ≤ x ∧ x ≤ hi)
  | 0, h => by
    unfold stK at h
    simp at h
    omega
  | k + 1, h => by
    unfold stK at h
    rcases stJ_mem _ h with h | ⟨i, _, _, a, b⟩
    · exact stK_mem k h
    · exact .inr (.inr ⟨a, b⟩)

end Go.Proofs.YteagdcgmmdiakaaGreat

namespace Go.Proofs.YteagdcgmmdiakaaGreat
set_option linter.unusedSimpArgs false
set_option linter.unusedVariables false
open Go.RowKit
set_option maxRecDepth 100000
set_option maxHeartbeats 8000000
attribute [local go_sem] Instr.field asAgg Soft.upon Soft.upon0 Soft.stepC Soft.BW.cell_if Soft.BW.frozen_if Soft.cell_alloc_if Soft.frozen_alloc_if
attribute [local irreducible] Soft.wpSoft Soft.wpMix

theorem ButG.cellAt {g : Nat} {w w' : World} (h : ButG g w w') {b i : Nat} (hb : b < w.heap.size) (hne : b ≠ g) : w'.cell? ⟨b, i, none⟩ = w.cell? ⟨b, i, none⟩ := World.cell?_of_block (a := ⟨b, i, none⟩) (h.block b hb hne)
theorem ButG.below2 {g : Nat} {a b c : World} (h : ButG g a b) (k : Below b.heap.size b c) : ButG g a c := h.trans (ButG.of_below k)
/-- One more block may turn, if it is the one, or laid behind. -/
theorem ButG.grown {g g1 : Nat} {a b c : World} (h : ButG g a b) (hg : g1 = g ∨ a.heap.size ≤ g1) (k : b.grownBy c (some g1)) : ButG g a c :=
  ⟨k.os.trans h.os, k.tape.trans h.tape, k.output.trans h.output, Nat.le_trans h.size k.size, fun i hi hne => (k.block i (by have := h.size; omega) (by simp; omega)).trans (h.block i hi hne)⟩

def StatPost (S : Sh) (w : World) (e : Ending) (w' : World) : Prop := ∃ s : Is, e = .returned (.slice s.p s.n s.c) ∧ s.At w' ∧ s.xs = statS S ∧ Below w.heap.size w w'

theorem cond_stations (S : Sh) (w : World) (hS : S.At w) (ok : ShipOk S) :
    Calls Tryz.prog 48 #[.agg #[.int .i64 (S).len, .slice ((S).dra).p ((S).dra).n ((S).dra).c, .slice ((S).hei).p ((S).hei).n ((S).hei).c, .slice ((S).cen).p ((S).cen).n ((S).cen).c, .slice ((S).tri).p ((S).tri).n ((S).tri).c, .slice ((S).flo).p ((S).flo).n ((S).flo).c, .slice ((S).cross).p ((S).cross).n ((S).cross).c, .slice ((S).sin).p ((S).sin).n ((S).sin).c, .slice ((S).shi).p ((S).shi).n ((S).shi).c, .int .i64 (((S).light).mass).lo, .int .i64 (((S).light).mass).hi, .int .i64 (((S).light).along).lo, .int .i64 (((S).light).along).hi, .int .i64 (((S).light).high).lo, .int .i64 (((S).light).high).hi]] w (StatPost S w) := by
  have hn : S.cross.xs.length = S.cross.n := hS.cross.1
  have h12 : S.cross.n ≤ 12 := by have := ok.n.2; omega
  have hup := upr_ok (S := S) ok.sin.1 ok.shi.1 (fun j hj => (ok.cross j hj).2.1)
  have CA := Lib.hid (fun W (hb : Below w.heap.size w W) => cond_angles S W (hS.same hb) h12 hup)
  have CU := Lib.hid (fun W (hb : Below w.heap.size w W) => cond_upright S W (hS.same hb) h12)
  have HS := Lib.hid hS
  have HUP := Lib.hid hup
  have HST := Lib.hid (show statS S = Lib.compact (sortI (stK (angLo S) (angHi S) (uprT S) (2 + S.cross.n))) by unfold statS; rw [hn])
  have HRNG := Lib.hid (show (-1000000 ≤ angLo S ∧ angLo S ≤ 1000000) ∧ -1000000 ≤ angHi S ∧ angHi S ≤ 1000000 from by
    have a := aLo_in (l := uprT S) (n := 2 + S.cross.xs.length) hup _ (Nat.le_refl _)
    have b := aHi_in (l := uprT S) (n := 2 + S.cross.xs.length) hup _ (Nat.le_refl _)
    unfold angLo angHi
    omega)
  clear hS ok hup
  obtain ⟨v0, v1, v2, v3, v4, v5, v6, v7, v8, v9, v10, v11, v12, v13, v14, HS0, E1, E2, E3, E4, E5, E6, E7, E8, E9⟩ := ship_letters S
  rw [HS0.out] at CA CU ⊢
  generalize angLo S = lo at *
  generalize angHi S = hi at *
  have HIN := Lib.hid hn
  clear hn
  go_enter Tryz.func48, Tryz.ntmps48
  go_wp2_with (first | (go_at_call 43; (with_reducible refine (CA.out _ (by (with_reducible repeat (first | exact blr _ | refine bla ?_ _ | refine blw _ ?_ | refine bld ?_ | refine bln _ ?_ | refine bls ?_ _ | refine blt ?_)))).mono ?_); rintro e w_ ⟨rfl, hb_⟩; obtain ⟨y1, rfl⟩ := Soft.BW.mk hb_; clear hb_) | (go_at_call 96; refine (CU.out _ (by (with_reducible repeat (first | exact blr _ | refine bla ?_ _ | refine blw _ ?_ | refine bld ?_ | refine bln _ ?_ | refine bls ?_ _ | refine blt ?_)))).mono ?_))
  rintro e w2 ⟨s, rfl, hsx, hst, hb2⟩
  have hB1 : Below w.heap.size w y1.w := by (with_reducible repeat (first | exact blr _ | refine bla ?_ _ | refine blw _ ?_ | refine bld ?_ | refine bln _ ?_ | refine bls ?_ _ | refine blt ?_))
  have a0 : HasBlk w2 y1.w.heap.size #[.int .i64 lo, .int .i64 hi] 3 := HasBlk.below (Soft.heap_new y1.w _) hb2
  have hB2 : Below w.heap.size w w2 := bel_step (bel_alloc hB1 _) hb2
  have hg0 := hB1.size
  clear hb2 hB1 CA CU
  generalize y1.w.heap.size = g0 at *
  have own0 : OwnI w2 w.heap.size (.slice (some ⟨g0, 0, none⟩) 2 2) [lo, hi] := ⟨rfl, .inr ⟨g0, 2, _, rfl, hg0, a0, Nat.le_refl _, by decide, rfl, rfl⟩⟩
  obtain ⟨sp, sn, sc, sx⟩ := s
  dsimp only at hsx
  subst hsx
  have hsl := hst.1
  have hsc := hst.2.1.1
  have hsc2 := hst.2.1.2.1
  dsimp only at hsl hsc hsc2
  have hN : sn = 2 + S.cross.n := by rw [← hsl]; unfold uprT; rw [uprK_len, HIN.out]
  obtain ⟨bT, oT, hpT, hbT, hcT⟩ := hst.cells (by dsimp only; omega)
  dsimp only at hpT hcT
  subst hpT
  have hneT : bT ≠ g0 := fun e => by
    subst e
    have h0 := hcT 0 (by omega)
    have h1 := a0.cell (oT + 0)
    rw [h0] at h1
    match oT with
    | 0 => cases h1
    | 1 => cases h1
    | n + 2 => cases h1
  have HCT := Lib.hid hcT
  have HAT := Lib.hid (fun (W : World) (hb : Below w.heap.size w W) (i : Nat) (hi : i < sn) => (HS.out.same hb).upr (i := i) (by rw [HIN.out]; omega))
  have HTO := Lib.hid (fun (i : Nat) (hi : i < sn) => HUP.out i (by rw [HIN.out]; omega))
  have HSR := Lib.hid (show statS S = Lib.compact (sortI (stK lo hi (uprT S) sn)) by rw [HST.out, hN])
  have HB2 := Lib.hid hB2
  clear HUP HST hst hcT hsl hB2 a0
  generalize uprT S = T at *
  have hlen := stK_len (lo := lo) (hi := hi) HTO.out
  have HLEN := Lib.hid hlen
  clear hlen HS HS0 E1 E2 E3 E4 E5 E6 E7 E8 E9 HIN
  go_wp2_with fail
  go_loopw [5, 21] (fun v i wr => ∃ (k g c : Nat), v = .slice (some ⟨g, 0, none⟩) (stK lo hi T k).length c ∧ i = .int .i64 k ∧ k ≤ sn ∧ OwnI wr w.heap.size v (stK lo hi T k) ∧ ButG g0 w2 wr ∧ (g = g0 ∨ w2.heap.size ≤ g)) (fun _ i _ => sn - (intOf i).toNat)
  case atStart => exact ⟨0, g0, 2, rfl, rfl, by omega, own0, ButG.of_below (bel_refl _), .inl rfl⟩
  case round =>
    obtain ⟨k, g, c, rfl, rfl, hk, hown, hbg, hgg⟩ := hrel
    clear own0
    by_cases hlt : k < sn
    · have hbw : Below w.heap.size w wr := HB2.out.trans (hbg.below hg0 HB2.out.size)
      have hat := HAT.out wr hbw k hlt
      have hto := HTO.out k hlt
      have hln := HLEN.out k (by omega)
      have xk := (hbg.cellAt (i := oT + k) hbT hneT).trans (HCT.out k hlt)
      have lT := Soft.LtH.mk (b := bT) (w := wr) (Nat.lt_of_lt_of_le hbT hbg.size)
      have HNX := Lib.hid (show stK lo hi T (k + 1) = stJ lo hi (tbv T k).ps (stK lo hi T k) (tbv T k).ps.length from rfl)
      have HTA := Lib.hid (fun W hb => HAT.out W hb k hlt)
      have HBG := Lib.hid hbg
      have HOWN := Lib.hid hown
      have hgs := World.ownsRow.lt hown g rfl
      clear hbw hbg hown
      generalize stK lo hi T k = bs at *
      generalize tbv T k = t at *
      obtain ⟨tp, tn, tc, tps⟩ := t
      have htl := hat.1
      have htn := hto.pos
      have ht40 := hto.le
      dsimp only at htl htn ht40 xk
      obtain ⟨bp, op, rfl, hbp, _⟩ := hat.2.2.2.2 (by dsimp only; omega)
      have htc := hat.2.2.1
      have htc2 := hat.2.2.2.1
      dsimp only at htc htc2
      have HTL := Lib.hid htl
      clear hat hto htl hbp
      go_wp2_with fail
      go_loopw [5, 28] (fun v i wr => ∃ (j g c : Nat), v = .slice (some ⟨g, 0, none⟩) (stJ lo hi tps bs j).length c ∧ i = .int .i64 j ∧ j ≤ tn ∧ OwnI wr w.heap.size v (stJ lo hi tps bs j) ∧ ButG g0 w2 wr ∧ (g = g0 ∨ w2.heap.size ≤ g)) (fun _ i _ => tn - (intOf i).toNat)
      case atStart => exact ⟨0, g, c, rfl, rfl, by omega, ownsRow_same HOWN.out (show Below wr.heap.size wr _ by (with_reducible repeat (first | exact blr _ | refine bla ?_ _ | refine blw _ ?_ | refine bld ?_ | refine bln _ ?_ | refine bls ?_ _ | refine blt ?_))), HBG.out.below2 (show Below wr.heap.size wr _ by (with_reducible repeat (first | exact blr _ | refine bla ?_ _ | refine blw _ ?_ | refine bld ?_ | refine bln _ ?_ | refine bls ?_ _ | refine blt ?_))), hgg⟩
      case round =>
        obtain ⟨j, g, c, rfl, rfl, hj, hown, hbg, hgg⟩ := hrel
        clear HOWN HBG xk lT hgs
        by_cases hjl : j < tn
        · have hbw : Below w.heap.size w wr := HB2.out.trans (hbg.below hg0 HB2.out.size)
          obtain ⟨_, _, _, _, h5⟩ := HTA.out wr hbw
          obtain ⟨b', o', e, hb, hc⟩ := h5 (by dsimp only; omega)
          cases e
          obtain ⟨c1, c2, c3⟩ := hc j hjl
          dsimp only at c1 c2 c3
          have lp := Soft.LtH.mk (b := bp) (w := wr) hb
          have HN2 := Lib.hid (show stJ lo hi tps bs (j + 1) = if lo ≤ (pt tps j).x ∧ (pt tps j).x ≤ hi then stJ lo hi tps bs j ++ [(pt tps j).x] else stJ lo hi tps bs j from rfl)
          have hl2 := stJ_len lo hi tps bs j
          have HBG := Lib.hid hbg
          have HOWN := Lib.hid hown
          have hgs := World.ownsRow.lt hown g rfl
          clear h5 hc hb hbw hbg hown
          generalize pt tps j = q at *
          generalize stJ lo hi tps bs j = cs at *
          by_cases hin : lo ≤ q.x ∧ q.x ≤ hi
          · have HIN := Lib.hid (decide_eq_true hin).symm
            have HN3 := Lib.hid (HN2.out.trans (if_pos hin))
            clear hin HN2
            go_wp2_with (first | (go_at_call 39; (with_reducible refine (cond_isWithin q.x lo hi _ true HIN.out).mono ?_); rintro e w_ ⟨rfl, hw_⟩; subst w_) | (at_builtin; refine app_intx rfl (.tmp 37) (.tmp 40) rfl w.heap.size (.slice (some ⟨g, 0, none⟩) cs.length c) cs rfl (ownsRow_same HOWN.out (show Below wr.heap.size wr ((wr.alloc (.cells #[.int .i64 (q).x, .int .i64 (q).lo, .int .i64 (q).hi] 69)).alloc (.cells #[.int .i64 q.x] 3)) by (with_reducible repeat (first | exact blr _ | refine bla ?_ _ | refine blw _ ?_ | refine bld ?_ | refine bln _ ?_ | refine bls ?_ _ | refine blt ?_)))) (wr.heap.size + 1) q.x rfl (by simp) (by omega) (by simp; omega) ?_; intro g3 c3_ w3 ho hb3 hgr hl3 hg3))
            go_roundw
            case rel =>
              have hW : ButG g0 w2 ((wr.alloc (.cells #[.int .i64 (q).x, .int .i64 (q).lo, .int .i64 (q).hi] 69)).alloc (.cells #[.int .i64 q.x] 3)) := HBG.out.below2 (show Below wr.heap.size wr _ by (with_reducible repeat (first | exact blr _ | refine bla ?_ _ | refine blw _ ?_ | refine bld ?_ | refine bln _ ?_ | refine bls ?_ _ | refine blt ?_)))
              have hg4 : g3 = g0 ∨ w2.heap.size ≤ g3 := by
                rcases hl3 with e | e
                · have : g = g3 := by simpa [Value.ownBlock] using e
                  omega
                · exact .inr (by rw [e]; exact hW.size)
              exact ⟨j + 1, g3, c3_, by rw [HN3.out]; simp, by simp, by omega, by rw [HN3.out]; simpa using ho, hW.grown hgg hgr, hg4⟩
            case measure => simp [intOf]; omega
          · have HIN := Lib.hid (decide_eq_false hin).symm
            have HN3 := Lib.hid (HN2.out.trans (if_neg hin))
            clear hin HN2
            go_wp2_with (first | (go_at_call 39; (with_reducible refine (cond_isWithin q.x lo hi _ false HIN.out).mono ?_); rintro e w_ ⟨rfl, hw_⟩; subst w_))
            go_roundw
            case rel => exact ⟨j + 1, g, c, by rw [HN3.out], by simp, by omega, by rw [HN3.out]; exact ownsRow_same HOWN.out (show Below wr.heap.size wr _ by (with_reducible repeat (first | exact blr _ | refine bla ?_ _ | refine blw _ ?_ | refine bld ?_ | refine bln _ ?_ | refine bls ?_ _ | refine blt ?_))), HBG.out.below2 (show Below wr.heap.size wr _ by (with_reducible repeat (first | exact blr _ | refine bla ?_ _ | refine blw _ ?_ | refine bld ?_ | refine bln _ ?_ | refine bls ?_ _ | refine blt ?_))), hgg⟩
            case measure => simp [intOf]; omega
        · obtain rfl : j = tn := by omega
          have HBG := Lib.hid hbg
          have HOWN := Lib.hid hown
          clear hbg hown
          go_wp2_with fail
          go_roundw
          case rel => exact ⟨k + 1, g, c, by rw [HNX.out, HTL.out], by simp, by omega, by rw [HNX.out, HTL.out]; exact HOWN.out, HBG.out, hgg⟩
          case measure => simp [intOf]; omega
    · obtain rfl : k = sn := by omega
      have hln := HLEN.out k (Nat.le_refl _)
      have hcap := hown.cap
      have hgs := World.ownsRow.lt hown g rfl
      have HROW := Lib.hid (OwnI.rowI hown)
      have hbw : Below w.heap.size w wr := HB2.out.trans (hbg.below hg0 HB2.out.size)
      have HBW := Lib.hid hbw
      have HMEM := Lib.hid (fun x hx => stK_mem (x := x) (lo := lo) (hi := hi) (l := T) k hx)
      clear hown hbg hbw
      generalize stK lo hi T k = zs at *
      have hsl := sortI_len zs
      have HSL := Lib.hid hsl
      clear hsl
      go_wp2_with (go_at_call 119; refine (ints_sort g c zs wr HROW.out (by omega)).mono ?_; rintro e w3 ⟨rfl, hr3, hb3⟩; have HR3 := Lib.hid hr3; have HB3 := Lib.hid hb3; clear hr3 hb3)
      have CC := Lib.hid (ints_compact g c (sortI zs) w3 HR3.out (by rw [HSL.out]; omega) (by rw [HSL.out]; exact hcap.1))
      rw [HSL.out] at CC
      go_wp2_with (go_at_call 120; refine CC.out.mono ?_; rintro e w4 ⟨rfl, hr4, hb4⟩; have HR4 := Lib.hid hr4; have HB4 := Lib.hid hb4; clear hr4 hb4)
      go_ret
      refine ⟨⟨some ⟨g, 0, none⟩, (Lib.compact (sortI zs)).length, c, Lib.compact (sortI zs)⟩, rfl, ⟨rfl, ?_, ?_, hcap.2, fun i => ?_, fun _ => ⟨g, 0, rfl, HR4.out.lt, fun i hi => ?_⟩⟩, HSR.out.symm, ?_⟩
      · have := Lib.compact_length_le (sortI zs)
        have := HSL.out
        dsimp only
        omega
      · have := Lib.compact_length_le (sortI zs)
        have := HSL.out
        dsimp only
        omega
      · dsimp only [iv]
        cases e : (Lib.compact (sortI zs))[i]? with
        | none => simp [I64]
        | some v =>
          have := HMEM.out v (sortI_mem.1 (compact_mem (List.mem_of_getElem? e)))
          obtain ⟨r1, r2⟩ := HRNG.out
          show I64 v
          unfold I64
          omega
      · rw [Nat.zero_add]
        exact (HR4.out.cell i hi).1
      · exact HBW.out.trans (((HB3.out.trans HB4.out)).below (by omega) (by omega))

end Go.Proofs.YteagdcgmmdiakaaGreat
