/-
  The tops' leaves: pick, one, within, curve, side.
  Ships as they lie in memory; cond: upright, angles.
  Conditions: each theorem's own premises.
-/
import Derived.Test.YteagdcgmmdiakaaGreatP06
import Derived.Test.YteagdcgmmdiakaaGreatP05
import Derived.Test.YteagdcgmmdiakaaGreatP08
namespace Go.Proofs.YteagdcgmmdiakaaGreat
set_option linter.unusedSimpArgs false
set_option linter.unusedVariables false
open Go.RowKit
set_option maxRecDepth 100000
set_option maxHeartbeats 4000000
attribute [local go_sem] Instr.field asAgg Soft.upon Soft.upon0 Soft.stepC Soft.BW.cell_if Soft.BW.frozen_if Soft.cell_alloc_if Soft.frozen_alloc_if
attribute [local irreducible] Soft.wpSoft Soft.wpMix

theorem Tb.At.drew {w : World} {t : Tb} (h : t.At w) : t.At w.drew := h
theorem Is.At.drew {w : World} {t : Is} (h : t.At w) : t.At w.drew := h
theorem Ho.At.drew {w : World} {t : Ho} (h : t.At w) : t.At w.drew := h
theorem Tk.At.drew {w : World} {t : Tk} (h : t.At w) : t.At w.drew := h

/-- A number that is not below 0, out of any one. -/
def absI (c : Int) : Int := if c < 0 then -(c + 1) else c
/-- A choice among n candidates. -/
def pickN (xs : List Int) (i : Nat) (n : Int) : Int := if xs.length = 0 ∨ n < 1 then 0 else absI (iv xs (i % xs.length)) % n
theorem pickN_in (xs : List Int) (i : Nat) {n : Int} (h : 1 ≤ n) : 0 ≤ pickN xs i n ∧ pickN xs i n < n := by
  unfold pickN
  split
  · omega
  · exact ⟨Int.emod_nonneg _ (by omega), Int.emod_lt_of_pos _ (by omega)⟩
theorem pickN_small (xs : List Int) (i : Nat) {n : Int} (h : n < 1) : pickN xs i n = 0 := by
  unfold pickN
  rw [if_pos (.inr h)]

theorem Top_pick (s : Is) (i : Nat) (n : Int) (w : World) (hs : s.At w) (hi : i ≤ 1000000) (hn : I64 n) :
    Calls Tryz.prog 11 #[.slice s.p s.n s.c, .int .i64 i, .int .i64 n] w fun e w' => e = .returned (.int .i64 (pickN s.xs i n)) ∧ w' = w := by
  obtain ⟨p, m, c, xs⟩ := s
  obtain ⟨h1, h2, h3, h4, h6, h5⟩ := hs
  dsimp only at *
  by_cases hm : m = 0
  · have HV := Lib.hid (show pickN xs i n = 0 from if_pos (by omega))
    subst hm
    clear h1 h5 h6
    go_enter Tryz.func11, Tryz.ntmps11
    go_wp2
    all_goals
      go_ret
      exact ⟨ret_int HV.out.symm, rfl⟩
  have d0 : ((m : Int) == 0) = false := by rw [beq_eq_false_iff_ne]; omega
  by_cases hn1 : n < 1
  · have HV := Lib.hid (pickN_small xs i hn1)
    clear h1 h5 h6
    go_enter Tryz.func11, Tryz.ntmps11
    go_wp2
    all_goals
      go_ret
      exact ⟨ret_int HV.out.symm, rfl⟩
  obtain ⟨b, o, rfl, hb, hc⟩ := h5 hm
  have hj := Nat.mod_lt i (show 0 < m by omega)
  have c1 := hc (i % m) hj
  have hv := h6 (i % m)
  have HV := Lib.hid (show pickN xs i n = absI (iv xs (i % m)) % n by unfold pickN; rw [h1, if_neg (by omega)])
  have e1 : ((i : Int).tmod (m : Int)) = ((i % m : Nat) : Int) := by rw [Int.tmod_eq_emod_of_nonneg (by omega)]; omega
  have hj2 : ((i % m : Nat) : Int) < m := by omega
  have := Soft.LtH.mk (w := w) hb
  clear h1 hc h5 h6
  generalize iv xs (i % m) = v at *
  generalize i % m = j at *
  obtain ⟨v1, v2⟩ := hv
  have dn : (n == 0) = false := by rw [beq_eq_false_iff_ne]; omega
  go_enter Tryz.func11, Tryz.ntmps11
  by_cases hv0 : v < 0
  · have HE := Lib.hid (show absI v % n = -((v + 1).tmod n) by unfold absI; rw [if_pos hv0, ← Int.neg_tmod, Int.tmod_eq_emod_of_nonneg (by omega)])
    go_wp2
    all_goals
      go_ret
      refine ⟨ret_int ?_, rfl⟩
      rw [HV.out, HE.out]
  · have HE := Lib.hid (show absI v % n = v % n by unfold absI; rw [if_neg hv0])
    go_wp2
    all_goals
      go_ret
      refine ⟨ret_int ?_, rfl⟩
      rw [HV.out, HE.out]

/-- One number of a range. -/
def oneN (r : Rg) (xs : List Int) (i : Nat) : Int := r.lo + pickN xs i (r.hi - r.lo + 1)
def oneR (r : Rg) (xs : List Int) (i : Nat) : Rg := ⟨oneN r xs i, oneN r xs i⟩
theorem oneN_in {r : Rg} (h : r.lo ≤ r.hi) (xs : List Int) (i : Nat) : r.lo ≤ oneN r xs i ∧ oneN r xs i ≤ r.hi := by
  have := pickN_in xs i (show 1 ≤ r.hi - r.lo + 1 by omega)
  unfold oneN
  omega
/-- Numbers that a range may have. -/
def RgOk (r : Rg) : Prop := -2000000000000000 ≤ r.lo ∧ r.lo ≤ 2000000000000000 ∧ -2000000000000000 ≤ r.hi ∧ r.hi ≤ 2000000000000000

theorem Top_one (r : Rg) (s : Is) (i : Nat) (w : World) (hs : s.At w) (hi : i ≤ 1000000) (hr : RgOk r) :
    Calls Tryz.prog 9 #[.agg #[.int .i64 (r).lo, .int .i64 (r).hi], .slice s.p s.n s.c, .int .i64 i] w fun e w' => e = .returned (.agg #[.int .i64 (oneR r s.xs i).lo, .int .i64 (oneR r s.xs i).hi]) ∧ Below w.heap.size w w' := by
  obtain ⟨r1, r2, r3, r4⟩ := hr
  have hv : -5000000000000000 ≤ pickN s.xs i (r.hi - r.lo + 1) ∧ pickN s.xs i (r.hi - r.lo + 1) ≤ 5000000000000000 := by
    by_cases h : 1 ≤ r.hi - r.lo + 1
    · have := pickN_in s.xs i h; omega
    · rw [pickN_small _ _ (by omega)]; omega
  obtain ⟨hv1, hv2⟩ := hv
  have CP := Lib.hid (fun W (hW : s.At W) => Top_pick s i (r.hi - r.lo + 1) W hW hi ⟨by omega, by omega⟩)
  have HV := Lib.hid (show oneR r s.xs i = ⟨r.lo + pickN s.xs i (r.hi - r.lo + 1), r.lo + pickN s.xs i (r.hi - r.lo + 1)⟩ from rfl)
  generalize pickN s.xs i (r.hi - r.lo + 1) = v at *
  go_enter Tryz.func9, Tryz.ntmps9
  go_wp2_with fail
  ((refine Soft.region_mix [(true, 0), (true, 1), (true, 2), (true, 3), (true, 4), (true, 5), (true, 6), (true, 7), (true, 8), (true, 9), (false, 10), (true, 11), (true, 12)] [] (by kernel_rfl) (by kernel_rfl) (by kernel_rfl) (by kernel_rfl) ?_; change Soft.wpMix _ _ _ _ [(true, _), (true, _), (true, _), (true, _), (true, _), (true, _), (true, _), (true, _), (true, _), (true, _), (false, _), (true, _), (true, _)] _ _); (refine Soft.mix_q (fun K hK => ?_); go_simp; (try go_bits); first | (refine hK _ ?_; clear hK K) | (apply Exists.intro; refine ⟨fun x => ?_, hK _ ?_⟩; fail)); (refine Soft.mix_q (fun K hK => ?_); go_simp; (try go_bits); first | (refine hK _ ?_; clear hK K) | (apply Exists.intro; refine ⟨fun x => ?_, hK _ ?_⟩; fail)); (refine Soft.mix_q (fun K hK => ?_); go_simp; (try go_bits); first | (refine hK _ ?_; clear hK K) | (apply Exists.intro; refine ⟨fun x => ?_, hK _ ?_⟩; fail)); (refine Soft.mix_q (fun K hK => ?_); go_simp; (try go_bits); first | (refine hK _ ?_; clear hK K) | (apply Exists.intro; refine ⟨fun x => ?_, hK _ ?_⟩; fail)); (refine Soft.mix_q (fun K hK => ?_); go_simp; (try go_bits); first | (refine hK _ ?_; clear hK K) | (apply Exists.intro; refine ⟨fun x => ?_, hK _ ?_⟩; fail)); (refine Soft.mix_q (fun K hK => ?_); go_simp; (try go_bits); first | (refine hK _ ?_; clear hK K) | (apply Exists.intro; refine ⟨fun x => ?_, hK _ ?_⟩; fail)); (refine Soft.mix_q (fun K hK => ?_); go_simp; (try go_bits); first | (refine hK _ ?_; clear hK K) | (apply Exists.intro; refine ⟨fun x => ?_, hK _ ?_⟩; fail)); (refine Soft.mix_q (fun K hK => ?_); go_simp; (try go_bits); first | (refine hK _ ?_; clear hK K) | (apply Exists.intro; refine ⟨fun x => ?_, hK _ ?_⟩; fail)); (refine Soft.mix_q (fun K hK => ?_); go_simp; (try go_bits); first | (refine hK _ ?_; clear hK K) | (apply Exists.intro; refine ⟨fun x => ?_, hK _ ?_⟩; fail)); (refine Soft.mix_q (fun K hK => ?_); go_simp; (try go_bits); first | (refine hK _ ?_; clear hK K) | (apply Exists.intro; refine ⟨fun x => ?_, hK _ ?_⟩; fail)); (refine Soft.mix_c (fun K hK => ?_); go_simp; (try go_bits); (go_at_call 11; (with_reducible refine (CP.out _ (by with_reducible repeat (first | exact hs | refine Is.At.alloc ?_ _ | refine Is.At.bw ?_ _ | refine Is.At.drew ?_))).mono ?_); rintro e w_ ⟨rfl, rfl⟩; refine ⟨_, rfl, Below.refl _ _, hK _ _ ?_⟩); clear hK K); (refine Soft.mix_q (fun K hK => ?_); go_simp; (try go_bits); first | (refine hK _ ?_; clear hK K) | (apply Exists.intro; refine ⟨fun x => ?_, hK _ ?_⟩; fail)); (refine Soft.mix_q (fun K hK => ?_); go_simp; (try go_bits); first | (refine hK _ ?_; clear hK K) | (apply Exists.intro; refine ⟨fun x => ?_, hK _ ?_⟩; fail)); (refine Soft.mix_nil ?_; intro hbx; change wpList _ _ _ [] _ _))
  go_wp2_with fail
  rw [HV.out]
  refine bodyPost_ret (v := .agg #[.int .i64 (r.lo + v), .int .i64 (r.lo + v)]) (by simp [results, Tryz.results9, go_sem]) rfl ?_
  refine ⟨rfl, ?_⟩
  (with_reducible repeat (first | exact blr _ | refine bla ?_ _ | refine blw _ ?_ | refine bld ?_ | refine bln _ ?_ | refine bls ?_ _ | refine blt ?_))

theorem Top_within (a b : Rg) (w : World) (v : Bool) (hv : v = decide (b.lo ≤ a.lo ∧ a.hi ≤ b.hi)) :
    Calls Tryz.prog 12 #[.agg #[.int .i64 (a).lo, .int .i64 (a).hi], .agg #[.int .i64 (b).lo, .int .i64 (b).hi]] w fun e w' => e = .returned (.bool v) ∧ Below w.heap.size w w' := by
  have HV := Lib.hid hv; clear hv
  go_enter Tryz.func12, Tryz.ntmps12
  go_wp2
  all_goals
    go_ret
    refine ⟨ret_bool ?_, ?_⟩
    · rw [HV.out, Bool.eq_iff_iff]
      simp
      omega
    · (with_reducible repeat (first | exact blr _ | refine bla ?_ _ | refine blw _ ?_ | refine bld ?_ | refine bln _ ?_ | refine bls ?_ _ | refine blt ?_))

/-- A table that a call has made. -/
def TbPost (w : World) (ps : List Pt) (e : Ending) (w' : World) : Prop :=
  ∃ q : Tb, e = .returned (.agg #[.slice q.p q.n q.c]) ∧ q.At w' ∧ q.ps = ps ∧ (∀ b o, q.p = some ⟨b, o, none⟩ → w.heap.size ≤ b) ∧ Below w.heap.size w w'

/-- A point of a curve within a table; of one of its lines. -/
def curvePt (ps : List Pt) (xs : List Int) (from_ k : Nat) : Pt := ⟨(pt ps k).x, oneN ⟨(pt ps k).lo, (pt ps k).hi⟩ xs (from_ + k), oneN ⟨(pt ps k).lo, (pt ps k).hi⟩ xs (from_ + k)⟩
def sidePt (ps : List Pt) (up : Bool) (k : Nat) : Pt := if up then ⟨(pt ps k).x, (pt ps k).hi, (pt ps k).hi⟩ else ⟨(pt ps k).x, (pt ps k).lo, (pt ps k).lo⟩
def curveP (ps : List Pt) (xs : List Int) (from_ : Nat) : List Pt := upto (curvePt ps xs from_) ps.length
def sideP (ps : List Pt) (up : Bool) : List Pt := upto (sidePt ps up) ps.length
/-- Tables of a sane size. -/
def TbSane (t : Tb) : Prop := t.n ≤ 1000 ∧ ∀ k, k < t.n → RgOk ⟨(pt t.ps k).lo, (pt t.ps k).hi⟩

theorem HasBlk.belowAt {W W' : World} {B X : Nat} {c : Array Value} {t : TypeId} (h : HasBlk W X c t) (hb : Below B W W') (hX : X < B) : HasBlk W' X c t := (hb.block X hX).trans h

/-- The table that is handed back. -/
theorem ownP_tb {w : World} {B : Nat} {v : Value} {l : List Pt} (h : OwnP w B v l) (hn : l.length ≤ 1000) : ∃ q : Tb, v = .slice q.p q.n q.c ∧ q.At w ∧ q.ps = l ∧ (∀ b o, q.p = some ⟨b, o, none⟩ → B ≤ b) := by
  by_cases h0 : l = []
  · subst h0
    rcases h.2 with ⟨e, _⟩ | ⟨g, c, cur, e, hb, hg, h1, h2, _⟩
    · exact ⟨⟨none, 0, 0, []⟩, e, ⟨rfl, by dsimp only; omega, by dsimp only; omega, by dsimp only; omega, fun h => absurd rfl h⟩, rfl, fun b o e => by cases e⟩
    · exact ⟨⟨some ⟨g, 0, none⟩, 0, c, []⟩, e, ⟨rfl, by dsimp only; omega, h1, h2, fun h => absurd rfl h⟩, rfl, fun b o e => by cases e; exact hb⟩
  · obtain ⟨g, c, rfl, hg, hg2, hg3, hg4⟩ := h.shape h0
    exact ⟨_, rfl, h.at hn h0, rfl, fun b o e => by cases e; exact hg⟩

theorem Top_curve (t : Tb) (s : Is) (from_ : Nat) (w : World) (ht : t.At w) (hs : s.At w) (hf : from_ ≤ 1000) (hsane : TbSane t) :
    Calls Tryz.prog 22 #[.agg #[.slice (t).p (t).n (t).c], .slice s.p s.n s.c, .int .i64 from_] w (TbPost w (curveP t.ps s.xs from_)) := by
  obtain ⟨p, n, c, ps⟩ := t
  obtain ⟨hn, hR⟩ := hsane
  have hlen := ht.1
  have hcap := ht.2.2
  obtain ⟨hc1, hc2, _⟩ := hcap
  dsimp only at *
  have HSN := Lib.hid hR; clear hR
  have HV := Lib.hid (show curveP ps s.xs from_ = upto (curvePt ps s.xs from_) n by unfold curveP; rw [hlen])
  have HT := Lib.hid ht; have HS := Lib.hid hs; clear ht hs hlen
  go_enter Tryz.func22, Tryz.ntmps22
  go_wp2_with fail
  go_loopw [14] (fun i wr => ∃ (k : Nat) (v : Value), i = .int .i64 k ∧ k ≤ n ∧ HasBlk wr (w.heap.size + 2) #[v] 24 ∧ HasBlk wr (w.heap.size + 1) #[.slice none 0 0] 24 ∧ OwnP wr (w.heap.size + 3) v (upto (curvePt ps s.xs from_) k) ∧ Below w.heap.size w wr) (fun i _ => n - (intOf i).toNat)
  case atStart => exact ⟨0, .slice none 0 0, rfl, by omega, by simp only [HasBlk, Soft.heap_new2], HasBlk.below (HasBlk.below (Soft.heap_new1 _ _ _) (bel_alloc (bel_refl _) _)) (bel_refl _), World.ownsRow_nil _ _ _ _, by (with_reducible repeat (first | exact blr _ | refine bla ?_ _ | refine blw _ ?_ | refine bld ?_ | refine bln _ ?_ | refine bls ?_ _ | refine blt ?_))⟩
  case round =>
    obtain ⟨k, v, rfl, hk, hblk, hres, hown, hbel⟩ := hrel
    have l2 := Soft.LtH.mk (b := w.heap.size + 2) (w := wr) hblk.lt
    have l1 := Soft.LtH.mk (b := w.heap.size + 1) (w := wr) hres.lt
    by_cases hlt : k < n
    · have hk2 : (k : Int) < n := by omega
      have hat := HT.out.same hbel
      have hsr := HS.out.below hbel
      have hr := HSN.out k hlt
      obtain ⟨_, _, _, _, h5⟩ := hat
      obtain ⟨b, o, rfl, hb, hc⟩ := h5 (by dsimp only; omega)
      dsimp only at *
      obtain ⟨c0, c1, c2⟩ := hc k hlt
      have lb := Soft.LtH.mk (b := b) (w := wr) hb
      have HNX := Lib.hid (show upto (curvePt ps s.xs from_) (k + 1) = upto (curvePt ps s.xs from_) k ++ [⟨(pt ps k).x, oneN ⟨(pt ps k).lo, (pt ps k).hi⟩ s.xs (from_ + k), oneN ⟨(pt ps k).lo, (pt ps k).hi⟩ s.xs (from_ + k)⟩] from upto_succ _ _)
      have HL : (upto (curvePt ps s.xs from_) k).length = k := upto_length _ _
      have CO := Lib.hid (fun W (hW : s.At W) => Top_one ⟨(pt ps k).lo, (pt ps k).hi⟩ s (from_ + k) W hW (by omega) hr)
      have hO : oneR ⟨(pt ps k).lo, (pt ps k).hi⟩ s.xs (from_ + k) = ⟨oneN ⟨(pt ps k).lo, (pt ps k).hi⟩ s.xs (from_ + k), oneN ⟨(pt ps k).lo, (pt ps k).hi⟩ s.xs (from_ + k)⟩ := rfl
      rw [hO] at CO
      clear hO hc h5
      generalize oneN ⟨(pt ps k).lo, (pt ps k).hi⟩ s.xs (from_ + k) = u at *
      generalize pt ps k = q at *
      generalize upto (curvePt ps s.xs from_) k = l at *
      have hb0 : w.heap.size + 2 < wr.heap.size := hblk.lt
      rw [show (((from_ + k : Nat)) : Int) = (from_ : Int) + (k : Int) by omega] at CO
      have HBEL := Lib.hid hbel
      have HBLK := Lib.hid hblk
      have HRES := Lib.hid hres
      have HOWN := Lib.hid hown
      have cs := hblk.cell 0
      have fs := hblk.frozen 0
      simp at cs
      clear hbel hblk hres hown
      go_wp2_with (first | (go_at_call 9; (with_reducible refine (CO.out _ (by with_reducible repeat (first | exact hsr | refine Is.At.alloc ?_ _ | refine Is.At.bw ?_ _))).mono ?_); rintro e w_ ⟨rfl, hb_⟩; obtain ⟨y1, rfl⟩ := Soft.BW.mk hb_; clear hb_) | (at_builtin; go_loud (refine app_pt rfl (.tmp 30) (.tmp 38) rfl (w.heap.size + 3) v l rfl (((HOWN.out.alloc _).bw y1).alloc _ |>.alloc _) (y1.w.heap.size + 1) ⟨q.x, u, u⟩ rfl (by simp) (by simp) (by simp) (by omega) (by have := y1.below.size; simp at this ⊢; omega) ?_); intro v3 w3 ho hb3 hgr3; have fs3 := HasBlk.belowAt (HasBlk.below HBLK.out (show Below wr.heap.size wr ((y1.w.alloc (.cells #[.int .i64 u, .int .i64 u] 27)).alloc (.cells #[.int .i64 q.x, .int .i64 u, .int .i64 u] 69)) by (with_reducible repeat (first | exact blr _ | refine bla ?_ _ | refine blw _ ?_ | refine bld ?_ | refine bln _ ?_ | refine bls ?_ _ | refine blt ?_)))) hb3 (by omega); have fr3 := HasBlk.belowAt (HasBlk.below HRES.out (show Below wr.heap.size wr ((y1.w.alloc (.cells #[.int .i64 u, .int .i64 u] 27)).alloc (.cells #[.int .i64 q.x, .int .i64 u, .int .i64 u] 69)) by (with_reducible repeat (first | exact blr _ | refine bla ?_ _ | refine blw _ ?_ | refine bld ?_ | refine bln _ ?_ | refine bls ?_ _ | refine blt ?_)))) hb3 (by omega); have fs4 := fs3.frozen 0; have fs5 := fs3.cell 0; simp at fs5; obtain ⟨g3, c3, rfl, hg5, hg6, hg7, hg8⟩ := ho.shape (by simp); have bl3 := (bel_step HBEL.out (show Below wr.heap.size wr ((y1.w.alloc (.cells #[.int .i64 u, .int .i64 u] 27)).alloc (.cells #[.int .i64 q.x, .int .i64 u, .int .i64 u] 69)) by (with_reducible repeat (first | exact blr _ | refine bla ?_ _ | refine blw _ ?_ | refine bld ?_ | refine bln _ ?_ | refine bls ?_ _ | refine blt ?_)))).trans (hb3.mono (by omega))))
      rw [show (l ++ [(⟨q.x, u, u⟩ : Pt)]).length = k + 1 by simp [HL]] at ho
      go_roundw
      case rel => exact ⟨k + 1, _, by simp, by omega, fs3.put 0 _, fr3.set_other (by simp) _, by rw [HNX.out]; exact ho.set (p := ⟨w.heap.size + 2, 0, none⟩) (by dsimp only; omega) _, bl3.setCell (p := ⟨w.heap.size + 2, 0, none⟩) (by dsimp only; omega) _⟩
      case measure => simp [intOf]; omega
    · obtain rfl : k = n := by omega
      obtain ⟨q, rfl, hq, hqp, hqf⟩ := ownP_tb hown (by rw [upto_length]; omega)
      have cs := hblk.cell 0
      have cr := hres.cell 0
      have fr := hres.frozen 0
      simp at cs cr
      have HBEL := Lib.hid hbel
      have hq2 : q.At (wr.setCell ⟨w.heap.size + 1, 0, none⟩ (.slice q.p q.n q.c)) := hq.setCell (fun b o e => by have := hqf b o e; dsimp only; omega) _
      clear hown hblk hres hbel
      go_wp2_with fail
      refine bodyPost_ret (v := .agg #[.slice q.p q.n q.c]) (by simp [results, Tryz.results22, go_sem, cr, fr]) rfl ?_
      exact ⟨q, rfl, hq2, by rw [HV.out, hqp], fun b o e => by have := hqf b o e; omega, HBEL.out.setCell (p := ⟨w.heap.size + 1, 0, none⟩) (by dsimp only; omega) _⟩

theorem Top_side (t : Tb) (up : Bool) (w : World) (ht : t.At w) (hn : t.n ≤ 1000) :
    Calls Tryz.prog 23 #[.agg #[.slice (t).p (t).n (t).c], .bool up] w (TbPost w (sideP t.ps up)) := by
  obtain ⟨p, n, c, ps⟩ := t
  have hlen := ht.1
  have hcap := ht.2.2
  obtain ⟨hc1, hc2, _⟩ := hcap
  dsimp only at *
  have HV := Lib.hid (show sideP ps up = upto (sidePt ps up) n by unfold sideP; rw [hlen])
  have HT := Lib.hid ht; clear ht hlen
  go_enter Tryz.func23, Tryz.ntmps23
  go_wp2_with fail
  go_loopw [12] (fun i wr => ∃ (k : Nat) (v : Value), i = .int .i64 k ∧ k ≤ n ∧ HasBlk wr (w.heap.size + 2) #[v] 24 ∧ HasBlk wr (w.heap.size + 1) #[.slice none 0 0] 24 ∧ OwnP wr (w.heap.size + 3) v (upto (sidePt ps up) k) ∧ Below w.heap.size w wr) (fun i _ => n - (intOf i).toNat)
  case atStart => exact ⟨0, .slice none 0 0, rfl, by omega, by simp only [HasBlk, Soft.heap_new2], HasBlk.below (HasBlk.below (Soft.heap_new1 _ _ _) (bel_alloc (bel_refl _) _)) (bel_refl _), World.ownsRow_nil _ _ _ _, by (with_reducible repeat (first | exact blr _ | refine bla ?_ _ | refine blw _ ?_ | refine bld ?_ | refine bln _ ?_ | refine bls ?_ _ | refine blt ?_))⟩
  case round =>
    obtain ⟨k, v, rfl, hk, hblk, hres, hown, hbel⟩ := hrel
    have l2 := Soft.LtH.mk (b := w.heap.size + 2) (w := wr) hblk.lt
    have l1 := Soft.LtH.mk (b := w.heap.size + 1) (w := wr) hres.lt
    by_cases hlt : k < n
    · have hk2 : (k : Int) < n := by omega
      have hat := HT.out.same hbel
      obtain ⟨_, _, _, _, h5⟩ := hat
      obtain ⟨b, o, rfl, hb, hc⟩ := h5 (by dsimp only; omega)
      dsimp only at *
      obtain ⟨c0, c1, c2⟩ := hc k hlt
      have lb := Soft.LtH.mk (b := b) (w := wr) hb
      have HNX := Lib.hid (show upto (sidePt ps up) (k + 1) = upto (sidePt ps up) k ++ [sidePt ps up k] from upto_succ _ _)
      have HL : (upto (sidePt ps up) k).length = k := upto_length _ _
      have hb0 : w.heap.size + 2 < wr.heap.size := hblk.lt
      have HBEL := Lib.hid hbel
      have HBLK := Lib.hid hblk
      have HRES := Lib.hid hres
      have HOWN := Lib.hid hown
      have cs := hblk.cell 0
      have fs := hblk.frozen 0
      simp at cs
      clear hc h5 hbel hblk hres hown
      have hsp : sidePt ps up k = if up then ⟨(pt ps k).x, (pt ps k).hi, (pt ps k).hi⟩ else ⟨(pt ps k).x, (pt ps k).lo, (pt ps k).lo⟩ := rfl
      rw [hsp] at HNX
      clear hsp
      generalize pt ps k = q at *
      generalize upto (sidePt ps up) k = l at *
      cases up
      · go_wp2_with (at_builtin; go_loud (refine app_pt rfl (.tmp 22) (.tmp 28) rfl (w.heap.size + 3) v l rfl ((HOWN.out.alloc _).alloc _) (wr.heap.size + 1) ⟨q.x, q.lo, q.lo⟩ rfl (by simp) (by simp) (by simp) (by omega) (by simp; omega) ?_); intro v3 w3 ho hb3 hgr3; have fs3 := HasBlk.belowAt (HasBlk.below HBLK.out (show Below wr.heap.size wr ((wr.alloc (.cells #[.int .i64 q.x, .int .i64 q.lo, .int .i64 q.hi] 69)).alloc (.cells #[.int .i64 q.x, .int .i64 q.lo, .int .i64 q.lo] 69)) by (with_reducible repeat (first | exact blr _ | refine bla ?_ _ | refine blw _ ?_ | refine bld ?_ | refine bln _ ?_ | refine bls ?_ _ | refine blt ?_)))) hb3 (by omega); have fr3 := HasBlk.belowAt (HasBlk.below HRES.out (show Below wr.heap.size wr ((wr.alloc (.cells #[.int .i64 q.x, .int .i64 q.lo, .int .i64 q.hi] 69)).alloc (.cells #[.int .i64 q.x, .int .i64 q.lo, .int .i64 q.lo] 69)) by (with_reducible repeat (first | exact blr _ | refine bla ?_ _ | refine blw _ ?_ | refine bld ?_ | refine bln _ ?_ | refine bls ?_ _ | refine blt ?_)))) hb3 (by omega); have fs4 := fs3.frozen 0; have fs5 := fs3.cell 0; simp at fs5; obtain ⟨g3, c3, rfl, hg5, hg6, hg7, hg8⟩ := ho.shape (by simp); have bl3 := (bel_step HBEL.out (show Below wr.heap.size wr ((wr.alloc (.cells #[.int .i64 q.x, .int .i64 q.lo, .int .i64 q.hi] 69)).alloc (.cells #[.int .i64 q.x, .int .i64 q.lo, .int .i64 q.lo] 69)) by (with_reducible repeat (first | exact blr _ | refine bla ?_ _ | refine blw _ ?_ | refine bld ?_ | refine bln _ ?_ | refine bls ?_ _ | refine blt ?_)))).trans (hb3.mono (by omega)))
        rw [show (l ++ [(⟨q.x, q.lo, q.lo⟩ : Pt)]).length = k + 1 by simp [HL]] at ho
        go_roundw
        case rel => exact ⟨k + 1, _, by simp, by omega, fs3.put 0 _, fr3.set_other (by simp) _, by rw [HNX.out]; exact ho.set (p := ⟨w.heap.size + 2, 0, none⟩) (by dsimp only; omega) _, bl3.setCell (p := ⟨w.heap.size + 2, 0, none⟩) (by dsimp only; omega) _⟩
        case measure => simp [intOf]; omega
      · go_wp2_with (at_builtin; go_loud (refine app_pt rfl (.tmp 22) (.tmp 28) rfl (w.heap.size + 3) v l rfl ((HOWN.out.alloc _).alloc _) (wr.heap.size + 1) ⟨q.x, q.hi, q.hi⟩ rfl (by simp) (by simp) (by simp) (by omega) (by simp; omega) ?_); intro v3 w3 ho hb3 hgr3; have fs3 := HasBlk.belowAt (HasBlk.below HBLK.out (show Below wr.heap.size wr ((wr.alloc (.cells #[.int .i64 q.x, .int .i64 q.lo, .int .i64 q.hi] 69)).alloc (.cells #[.int .i64 q.x, .int .i64 q.hi, .int .i64 q.hi] 69)) by (with_reducible repeat (first | exact blr _ | refine bla ?_ _ | refine blw _ ?_ | refine bld ?_ | refine bln _ ?_ | refine bls ?_ _ | refine blt ?_)))) hb3 (by omega); have fr3 := HasBlk.belowAt (HasBlk.below HRES.out (show Below wr.heap.size wr ((wr.alloc (.cells #[.int .i64 q.x, .int .i64 q.lo, .int .i64 q.hi] 69)).alloc (.cells #[.int .i64 q.x, .int .i64 q.hi, .int .i64 q.hi] 69)) by (with_reducible repeat (first | exact blr _ | refine bla ?_ _ | refine blw _ ?_ | refine bld ?_ | refine bln _ ?_ | refine bls ?_ _ | refine blt ?_)))) hb3 (by omega); have fs4 := fs3.frozen 0; have fs5 := fs3.cell 0; simp at fs5; obtain ⟨g3, c3, rfl, hg5, hg6, hg7, hg8⟩ := ho.shape (by simp); have bl3 := (bel_step HBEL.out (show Below wr.heap.size wr ((wr.alloc (.cells #[.int .i64 q.x, .int .i64 q.lo, .int .i64 q.hi] 69)).alloc (.cells #[.int .i64 q.x, .int .i64 q.hi, .int .i64 q.hi] 69)) by (with_reducible repeat (first | exact blr _ | refine bla ?_ _ | refine blw _ ?_ | refine bld ?_ | refine bln _ ?_ | refine bls ?_ _ | refine blt ?_)))).trans (hb3.mono (by omega)))
        rw [show (l ++ [(⟨q.x, q.hi, q.hi⟩ : Pt)]).length = k + 1 by simp [HL]] at ho
        go_roundw
        case rel => exact ⟨k + 1, _, by simp, by omega, fs3.put 0 _, fr3.set_other (by simp) _, by rw [HNX.out]; exact ho.set (p := ⟨w.heap.size + 2, 0, none⟩) (by dsimp only; omega) _, bl3.setCell (p := ⟨w.heap.size + 2, 0, none⟩) (by dsimp only; omega) _⟩
        case measure => simp [intOf]; omega
    · obtain rfl : k = n := by omega
      obtain ⟨q, rfl, hq, hqp, hqf⟩ := ownP_tb hown (by rw [upto_length]; omega)
      have cs := hblk.cell 0
      have cr := hres.cell 0
      have fr := hres.frozen 0
      simp at cs cr
      have HBEL := Lib.hid hbel
      have hq2 : q.At (wr.setCell ⟨w.heap.size + 1, 0, none⟩ (.slice q.p q.n q.c)) := hq.setCell (fun b o e => by have := hqf b o e; dsimp only; omega) _
      clear hown hblk hres hbel
      go_wp2_with fail
      refine bodyPost_ret (v := .agg #[.slice q.p q.n q.c]) (by simp [results, Tryz.results23, go_sem, cr, fr]) rfl ?_
      exact ⟨q, rfl, hq2, by rw [HV.out, hqp], fun b o e => by have := hqf b o e; omega, HBEL.out.setCell (p := ⟨w.heap.size + 1, 0, none⟩) (by dsimp only; omega) _⟩

end Go.Proofs.YteagdcgmmdiakaaGreat

namespace Go.Proofs.YteagdcgmmdiakaaGreat
set_option linter.unusedSimpArgs false
set_option linter.unusedVariables false
open Go.RowKit
set_option maxRecDepth 100000
set_option maxHeartbeats 4000000
attribute [local go_sem] Instr.field asAgg Soft.upon Soft.upon0 Soft.stepC Soft.BW.cell_if Soft.BW.frozen_if Soft.cell_alloc_if Soft.frozen_alloc_if
attribute [local irreducible] Soft.wpSoft Soft.wpMix

/-- A cross curve. -/
structure Cr where
  tonnes : Int
  arms : Tb
instance : Inhabited Cr := ⟨⟨0, default⟩⟩
instance : Inhabited Wt := ⟨⟨default, default, default⟩⟩

/-- A ship. -/
structure Sh where
  len : Int
  dra : Tb
  hei : Tb
  cen : Tb
  tri : Tb
  flo : Tb
  cross : Sl Cr
  sin : Tb
  shi : Tb
  light : Wt

def crC (c : Cr) : List Value := [.int .i64 (c).tonnes, .slice ((c).arms).p ((c).arms).n ((c).arms).c]
def tbC (t : Tb) : List Value := [.slice (t).p (t).n (t).c]
abbrev crv (l : List Cr) (i : Nat) : Cr := l[i]?.getD default
abbrev tbv (l : List Tb) (i : Nat) : Tb := l[i]?.getD default
def CsAt (w : World) (s : Sl Cr) : Prop := s.xs.length = s.n ∧ RowsAt w s.p s.n s.c 2 (fun i => crC (crv s.xs i)) ∧ ∀ i, i < s.n → (crv s.xs i).arms.At w
def TbsAt (w : World) (s : Sl Tb) : Prop := s.xs.length = s.n ∧ RowsAt w s.p s.n s.c 1 (fun i => tbC (tbv s.xs i)) ∧ ∀ i, i < s.n → (tbv s.xs i).At w
theorem CsAt.same {w w' : World} {s : Sl Cr} (h : CsAt w s) (hb : Below w.heap.size w w') : CsAt w' s := ⟨h.1, h.2.1.same hb, fun i hi => (h.2.2 i hi).same hb⟩
theorem TbsAt.same {w w' : World} {s : Sl Tb} (h : TbsAt w s) (hb : Below w.heap.size w w') : TbsAt w' s := ⟨h.1, h.2.1.same hb, fun i hi => (h.2.2 i hi).same hb⟩
theorem CsAt.cells {w : World} {s : Sl Cr} (h : CsAt w s) (hn : s.n ≠ 0) : ∃ b o, s.p = some ⟨b, o, none⟩ ∧ b < w.heap.size ∧ ∀ i, i < s.n →
    w.cell? ⟨b, o + i * 2, none⟩ = some (.int .i64 (crv s.xs i).tonnes) ∧ w.cell? ⟨b, o + i * 2 + 1, none⟩ = some (.slice (crv s.xs i).arms.p (crv s.xs i).arms.n (crv s.xs i).arms.c) := by
  obtain ⟨b, o, e, hb, hc⟩ := h.2.1.2.2 hn
  refine ⟨b, o, e, hb, fun i hi => ?_⟩
  have k := hc i hi
  exact ⟨k 0 _ rfl, k 1 _ rfl⟩
theorem TbsAt.cells {w : World} {s : Sl Tb} (h : TbsAt w s) (hn : s.n ≠ 0) : ∃ b o, s.p = some ⟨b, o, none⟩ ∧ b < w.heap.size ∧ ∀ i, i < s.n →
    w.cell? ⟨b, o + i, none⟩ = some (.slice (tbv s.xs i).p (tbv s.xs i).n (tbv s.xs i).c) := by
  obtain ⟨b, o, e, hb, hc⟩ := h.2.1.2.2 hn
  refine ⟨b, o, e, hb, fun i hi => ?_⟩
  have k := hc i hi 0 _ rfl
  rw [Nat.mul_one] at k
  exact k

/-- The ship lies in this world's memory. -/
structure Sh.At (w : World) (S : Sh) : Prop where
  dra : S.dra.At w
  hei : S.hei.At w
  cen : S.cen.At w
  tri : S.tri.At w
  flo : S.flo.At w
  cross : CsAt w S.cross
  sin : S.sin.At w
  shi : S.shi.At w
theorem Sh.At.same {w w' : World} {S : Sh} (h : S.At w) (hb : Below w.heap.size w w') : S.At w' :=
  ⟨h.dra.same hb, h.hei.same hb, h.cen.same hb, h.tri.same hb, h.flo.same hb, h.cross.same hb, h.sin.same hb, h.shi.same hb⟩

theorem rt_table : RowTy 149 24 1 := ⟨Tryz.underlying149, by
  obtain ⟨i, h1, h2, h3, h4⟩ := infos (show (Tryz.prog.info? 24).map (fun i => (i.zero, i.size, i.bytes)) = some (some (.agg #[.slice none 0 0]), 1, 24) by kernel_rfl)
  exact ⟨i, _, h1, h2, h3, by omega, rfl⟩, by decide⟩

/-- The tables over the angle. -/
def uprK (S : Sh) (k : Nat) : List Tb := [S.sin, S.shi] ++ upto (fun j => (crv S.cross.xs j).arms) k
def uprT (S : Sh) : List Tb := uprK S S.cross.xs.length
theorem uprK_len (S : Sh) (k : Nat) : (uprK S k).length = 2 + k := by simp [uprK, upto]; omega
theorem uprK_succ (S : Sh) (k : Nat) : uprK S (k + 1) = uprK S k ++ [(crv S.cross.xs k).arms] := by unfold uprK; rw [upto_succ, List.append_assoc]
def UprPost (S : Sh) (w : World) (e : Ending) (w' : World) : Prop := ∃ s : Sl Tb, e = .returned (.slice s.p s.n s.c) ∧ s.xs = uprT S ∧ TbsAt w' s ∧ Below w.heap.size w w'

theorem Sh.At.upr {w : World} {S : Sh} (h : S.At w) {i : Nat} (hi : i < 2 + S.cross.xs.length) : (tbv (uprT S) i).At w := by
  unfold uprT uprK tbv
  match i with
  | 0 => exact h.sin
  | 1 => exact h.shi
  | j + 2 =>
    have hj : j < S.cross.xs.length := by omega
    have e : (([S.sin, S.shi] ++ upto (fun j => (crv S.cross.xs j).arms) S.cross.xs.length)[j + 2]?).getD default = (crv S.cross.xs j).arms := by
      simp [upto, List.getElem?_append_right, List.getElem?_range hj, hj]
    rw [e]
    exact h.cross.2.2 j (by rw [← h.cross.1]; exact hj)

theorem cond_upright (S : Sh) (w : World) (hS : S.At w) (h12 : S.cross.n ≤ 12) :
    Calls Tryz.prog 96 #[.agg #[.int .i64 (S).len, .slice ((S).dra).p ((S).dra).n ((S).dra).c, .slice ((S).hei).p ((S).hei).n ((S).hei).c, .slice ((S).cen).p ((S).cen).n ((S).cen).c, .slice ((S).tri).p ((S).tri).n ((S).tri).c, .slice ((S).flo).p ((S).flo).n ((S).flo).c, .slice ((S).cross).p ((S).cross).n ((S).cross).c, .slice ((S).sin).p ((S).sin).n ((S).sin).c, .slice ((S).shi).p ((S).shi).n ((S).shi).c, .int .i64 (((S).light).mass).lo, .int .i64 (((S).light).mass).hi, .int .i64 (((S).light).along).lo, .int .i64 (((S).light).along).hi, .int .i64 (((S).light).high).lo, .int .i64 (((S).light).high).hi]] w (UprPost S w) := by
  have HS := Lib.hid hS
  have hn : S.cross.xs.length = S.cross.n := hS.cross.1
  have hcap := hS.cross.2.1.1
  have hcap2 := hS.cross.2.1.2.1
  have HU := Lib.hid (show uprT S = uprK S S.cross.n by unfold uprT; rw [hn])
  clear hS hn
  go_enter Tryz.func96, Tryz.ntmps96
  generalize Value.int .i64 S.len = v0
  generalize Value.slice S.dra.p S.dra.n S.dra.c = v1
  generalize Value.slice S.hei.p S.hei.n S.hei.c = v2
  generalize Value.slice S.cen.p S.cen.n S.cen.c = v3
  generalize Value.slice S.tri.p S.tri.n S.tri.c = v4
  generalize Value.slice S.flo.p S.flo.n S.flo.c = v5
  generalize Value.int .i64 S.light.mass.lo = v6
  generalize Value.int .i64 S.light.mass.hi = v7
  generalize Value.int .i64 S.light.along.lo = v8
  generalize Value.int .i64 S.light.along.hi = v9
  generalize Value.int .i64 S.light.high.lo = v10
  generalize Value.int .i64 S.light.high.hi = v11
  have own0 : ((w.alloc (.cells #[v0, v1, v2, v3, v4, v5, .slice S.cross.p S.cross.n S.cross.c, .slice (S.sin).p (S.sin).n (S.sin).c, .slice (S.shi).p (S.shi).n (S.shi).c, v6, v7, v8, v9, v10, v11] 31)).alloc (.cells #[.slice (S.sin).p (S.sin).n (S.sin).c, .slice (S.shi).p (S.shi).n (S.shi).c] 24)).ownsRow (w.heap.size + 1) 24 1 (.slice (some ⟨w.heap.size + 1, 0, none⟩) 2 2) (2 + 0) ((uprK S 0).flatMap tbC) := by
    have := World.ownsRow_lit (base := w.heap.size + 1) (size := 1) (e := 24) (w.alloc (.cells #[v0, v1, v2, v3, v4, v5, .slice S.cross.p S.cross.n S.cross.c, .slice (S.sin).p (S.sin).n (S.sin).c, .slice (S.shi).p (S.shi).n (S.shi).c, v6, v7, v8, v9, v10, v11] 31)) #[.slice (S.sin).p (S.sin).n (S.sin).c, .slice (S.shi).p (S.shi).n (S.shi).c] 2 (by simp) (by decide) rfl
    simpa [uprK, upto, tbC] using this
  go_wp2_with fail
  go_loopw [3, 14] (fun v i wr => ∃ (k : Nat) (g c : Nat), v = .slice (some ⟨g, 0, none⟩) (2 + k) c ∧ i = .int .i64 k ∧ k ≤ S.cross.n ∧ wr.ownsRow (w.heap.size + 1) 24 1 (.slice (some ⟨g, 0, none⟩) (2 + k) c) (2 + k) ((uprK S k).flatMap tbC) ∧ Below w.heap.size w wr) (fun _ i _ => S.cross.n - (intOf i).toNat)
  case atStart => exact ⟨0, w.heap.size + 1, 2, rfl, rfl, by omega, own0, by (with_reducible repeat (first | exact blr _ | refine bla ?_ _ | refine blw _ ?_ | refine bld ?_ | refine bln _ ?_ | refine bls ?_ _ | refine blt ?_))⟩
  case round =>
    obtain ⟨k, g, c, rfl, rfl, hk, hown, hbel⟩ := hrel
    clear own0
    have hg := World.ownsRow.lt hown g rfl
    have lg := Soft.LtH.mk (b := g) (w := wr) hg.2
    by_cases hlt : k < S.cross.n
    · have hk2 : (k : Int) < S.cross.n := by omega
      have hcs := (HS.out.same hbel).cross
      obtain ⟨b, o, hp, hb, hc⟩ := hcs.cells (by omega)
      obtain ⟨c0, c1⟩ := hc k hlt
      have lb := Soft.LtH.mk (b := b) (w := wr) hb
      have HNX := Lib.hid (uprK_succ S k)
      have HL : (uprK S k).length = 2 + k := uprK_len S k
      clear hc hcs
      generalize crv S.cross.xs k = q at *
      have HBEL := Lib.hid hbel; clear hbel
      have HOWN := Lib.hid hown; clear hown
      have HG := Lib.hid hg; clear hg
      rw [hp]
      go_wp2_with (at_builtin; go_must (refine app_row rt_table rfl (.tmp 18) (.tmp 21) rfl (w.heap.size + 1) (.slice (some ⟨g, 0, none⟩) (2 + k) c) (2 + k) ((uprK S k).flatMap tbC) rfl (ownsRow_same HOWN.out (show Below wr.heap.size wr ((wr.alloc (.cells #[.int .i64 q.tonnes, .slice (q.arms).p (q.arms).n (q.arms).c] 80)).alloc (.cells #[.slice (q.arms).p (q.arms).n (q.arms).c] 24)) by (with_reducible repeat (first | exact blr _ | refine bla ?_ _ | refine blw _ ?_ | refine bld ?_ | refine bln _ ?_ | refine bls ?_ _ | refine blt ?_)))) (wr.heap.size + 1) (tbC q.arms) rfl rfl (fun u hu => by simp [tbC] at hu; subst hu; rfl) (fun jj uu huu => by match jj, huu with | 0, huu => cases huu; simp) (by omega) (by have := HG.out.2; have := HG.out.1; simp; omega) ?_); intro g3 c3 w3 ho hb3 hgr3 hl3 hg4 hg5 hc4 hc5)
      go_roundw
      case rel => exact ⟨k + 1, g3, c3, by rw [Nat.add_assoc], by simp, by omega, by rw [HNX.out, List.flatMap_append]; simpa [Nat.add_assoc] using ho, HBEL.out.trans ((show Below w.heap.size wr ((wr.alloc (.cells #[.int .i64 q.tonnes, .slice (q.arms).p (q.arms).n (q.arms).c] 80)).alloc (.cells #[.slice (q.arms).p (q.arms).n (q.arms).c] 24)) from Below.mono (show Below wr.heap.size wr _ by (with_reducible repeat (first | exact blr _ | refine bla ?_ _ | refine blw _ ?_ | refine bld ?_ | refine bln _ ?_ | refine bls ?_ _ | refine blt ?_))) HBEL.out.size).trans (hb3.mono (by omega)))⟩
      case measure => simp [intOf]; omega
    · obtain rfl : k = S.cross.n := by omega
      have hat := (HS.out.same hbel)
      have ha : ∀ i, i < 2 + S.cross.n → (tbv (uprT S) i).At wr := fun i hi => hat.upr (by rw [hat.cross.1]; exact hi)
      obtain ⟨s, e1, e2, e3, e4⟩ := rowsAt_own tbC (fun _ => rfl) (l := uprK S S.cross.n) (by rw [uprK_len]; exact hown)
      have HBEL := Lib.hid hbel; clear hbel
      have HA := Lib.hid ha
      clear hown ha hat
      go_wp2_with fail
      go_ret
      refine ⟨s, by rw [← e1]; rfl, by rw [HU.out]; exact e2, ⟨e3, e4, fun i hi => ?_⟩, HBEL.out⟩
      rw [e2, ← HU.out]
      refine HA.out i ?_
      rw [← e3, e2, uprK_len] at hi
      exact hi

/-- The least and the greatest angle. -/
def aLo (l : List Tb) : Nat → Int
  | 0 => 0
  | k + 1 => max (aLo l k) (firstX (tbv l k).ps)
def aHi (l : List Tb) : Nat → Int
  | 0 => 900
  | k + 1 => min (aHi l k) (lastX (tbv l k).ps)
def angLo (S : Sh) : Int := aLo (uprT S) (2 + S.cross.xs.length)
def angHi (S : Sh) : Int := aHi (uprT S) (2 + S.cross.xs.length)
def UprOk (S : Sh) : Prop := ∀ i, i < 2 + S.cross.xs.length → TabOk (tbv (uprT S) i).ps
theorem TabOk.first_in {ps : List Pt} (h : TabOk ps) : 0 ≤ firstX ps ∧ firstX ps ≤ 1000000 ∧ 0 ≤ lastX ps ∧ lastX ps ≤ 1000000 := by
  have a := h.all 0 h.pos
  have b := h.all (ps.length - 1) (by have := h.pos; omega)
  unfold ptOk at a b
  exact ⟨a.1, a.2.1, b.1, b.2.1⟩
theorem aLo_in {l : List Tb} {n : Nat} (h : ∀ i, i < n → TabOk (tbv l i).ps) : ∀ k, k ≤ n → 0 ≤ aLo l k ∧ aLo l k ≤ 1000000
  | 0, _ => ⟨Int.le_refl _, by show (0 : Int) ≤ 1000000; decide⟩
  | k + 1, hk => by
    have ih := aLo_in h k (by omega)
    have t := (h k (by omega)).first_in
    unfold aLo
    omega
theorem aHi_in {l : List Tb} {n : Nat} (h : ∀ i, i < n → TabOk (tbv l i).ps) : ∀ k, k ≤ n → 0 ≤ aHi l k ∧ aHi l k ≤ 900
  | 0, _ => ⟨by show (0 : Int) ≤ 900; decide, Int.le_refl _⟩
  | k + 1, hk => by
    have ih := aHi_in h k (by omega)
    have t := (h k (by omega)).first_in
    unfold aHi
    omega

theorem max_if (a b : Int) : (if a < b then b else a) = max a b := by
  by_cases h : a < b
  · rw [if_pos h]; omega
  · rw [if_neg h]; omega
theorem min_if (a b : Int) : (if b < a then b else a) = min a b := by
  by_cases h : b < a
  · rw [if_pos h]; omega
  · rw [if_neg h]; omega

theorem cond_angles (S : Sh) (w : World) (hS : S.At w) (h12 : S.cross.n ≤ 12) (hok : UprOk S) :
    Calls Tryz.prog 43 #[.agg #[.int .i64 (S).len, .slice ((S).dra).p ((S).dra).n ((S).dra).c, .slice ((S).hei).p ((S).hei).n ((S).hei).c, .slice ((S).cen).p ((S).cen).n ((S).cen).c, .slice ((S).tri).p ((S).tri).n ((S).tri).c, .slice ((S).flo).p ((S).flo).n ((S).flo).c, .slice ((S).cross).p ((S).cross).n ((S).cross).c, .slice ((S).sin).p ((S).sin).n ((S).sin).c, .slice ((S).shi).p ((S).shi).n ((S).shi).c, .int .i64 (((S).light).mass).lo, .int .i64 (((S).light).mass).hi, .int .i64 (((S).light).along).lo, .int .i64 (((S).light).along).hi, .int .i64 (((S).light).high).lo, .int .i64 (((S).light).high).hi]] w fun e w' => e = .returned (.tuple #[.int .i64 (angLo S), .int .i64 (angHi S)]) ∧ Below w.heap.size w w' := by
  have CU := Lib.hid (fun W (hW : S.At W) => cond_upright S W hW h12)
  have HS := Lib.hid hS
  have hn : S.cross.xs.length = S.cross.n := hS.cross.1
  have HV := Lib.hid (show angLo S = aLo (uprT S) (2 + S.cross.n) ∧ angHi S = aHi (uprT S) (2 + S.cross.n) by unfold angLo angHi; rw [hn]; exact ⟨rfl, rfl⟩)
  have HOK := Lib.hid hok
  unfold UprOk at HOK
  have hul : (uprT S).length = 2 + S.cross.n := by unfold uprT; rw [uprK_len, hn]
  rw [hn] at HOK
  clear hS hn hok
  go_enter Tryz.func43, Tryz.ntmps43
  generalize Value.int .i64 S.len = v0 at *
  generalize Value.slice S.dra.p S.dra.n S.dra.c = v1 at *
  generalize Value.slice S.hei.p S.hei.n S.hei.c = v2 at *
  generalize Value.slice S.cen.p S.cen.n S.cen.c = v3 at *
  generalize Value.slice S.tri.p S.tri.n S.tri.c = v4 at *
  generalize Value.slice S.flo.p S.flo.n S.flo.c = v5 at *
  generalize Value.slice S.cross.p S.cross.n S.cross.c = v12 at *
  generalize Value.slice S.sin.p S.sin.n S.sin.c = v13 at *
  generalize Value.slice S.shi.p S.shi.n S.shi.c = v14 at *
  generalize Value.int .i64 S.light.mass.lo = v6 at *
  generalize Value.int .i64 S.light.mass.hi = v7 at *
  generalize Value.int .i64 S.light.along.lo = v8 at *
  generalize Value.int .i64 S.light.along.hi = v9 at *
  generalize Value.int .i64 S.light.high.lo = v10 at *
  generalize Value.int .i64 S.light.high.hi = v11 at *
  go_wp2_with (go_at_call 96; (with_reducible refine (CU.out _ (HS.out.same (by (with_reducible repeat (first | exact blr _ | refine bla ?_ _ | refine blw _ ?_ | refine bld ?_ | refine bln _ ?_ | refine bls ?_ _ | refine blt ?_))))).mono ?_); rintro e w_ ⟨s, rfl, hsx, hst, hb_⟩; obtain ⟨y1, rfl⟩ := Soft.BW.mk hb_; clear hb_)
  have hsn : s.n = 2 + S.cross.n := by rw [← hst.1, hsx, hul]
  have hcap := hst.2.1
  obtain ⟨hcap1, hcap2, _⟩ := hcap
  have HST := Lib.hid hst; clear hst
  obtain ⟨sp, sn, sc, sx⟩ := s
  dsimp only at *
  subst hsx
  have HM := Lib.hid hsn
  rw [← hsn] at HOK HV
  clear hsn hul
  have hbel1 : Below w.heap.size w y1.w := by (with_reducible repeat (first | exact blr _ | refine bla ?_ _ | refine blw _ ?_ | refine bld ?_ | refine bln _ ?_ | refine bls ?_ _ | refine blt ?_))
  generalize y1.w = W1 at *
  go_loopw [4, 5, 11] (fun lo hi i wr => ∃ k : Nat, lo = .int .i64 (aLo (uprT S) k) ∧ hi = .int .i64 (aHi (uprT S) k) ∧ i = .int .i64 k ∧ k ≤ sn ∧ Below W1.heap.size W1 wr) (fun _ _ i _ => sn - (intOf i).toNat)
  case atStart => exact ⟨0, rfl, rfl, rfl, by omega, Below.refl _ _⟩
  case round =>
    obtain ⟨k, rfl, rfl, rfl, hk, hbel⟩ := hrel
    by_cases hlt : k < sn
    · have hk2 : (k : Int) < (sn : Int) := by omega
      have hst := HST.out.same hbel
      obtain ⟨b, o, rfl, hb, hc⟩ := hst.cells (by dsimp only; omega)
      have c0 := hc k hlt
      have ht := hst.2.2 k hlt
      have hok := HOK.out k hlt
      have lb := Soft.LtH.mk (b := b) (w := wr) hb
      dsimp only at *
      have hlo := aLo_in HOK.out k (by omega)
      have hhi := aHi_in HOK.out k (by omega)
      have hfx := hok.first_in
      have HNX := Lib.hid (show aLo (uprT S) (k + 1) = max (aLo (uprT S) k) (firstX (tbv (uprT S) k).ps) ∧ aHi (uprT S) (k + 1) = min (aHi (uprT S) k) (lastX (tbv (uprT S) k).ps) from ⟨rfl, rfl⟩)
      clear hc hst
      generalize tbv (uprT S) k = t at *
      generalize aLo (uprT S) k = lo at *
      generalize aHi (uprT S) k = hi at *
      obtain ⟨tp, tn, tc, tps⟩ := t
      have hpos := hok.pos
      obtain ⟨t1, t2, t3, t4, t5⟩ := ht
      dsimp only at *
      rw [t1] at hpos
      obtain ⟨tb, to, rfl, tl, tcs⟩ := t5 (by omega)
      have z0 := (tcs 0 (by omega)).1
      have z1 := (tcs (tn - 1) (by omega)).1
      have ltb := Soft.LtH.mk (b := tb) (w := wr) tl
      have hF := Lib.hid (show firstX tps = (pt tps 0).x from rfl)
      have hLs := Lib.hid (show lastX tps = (pt tps (tn - 1)).x by unfold lastX; rw [t1])
      have hfl : firstX tps = (pt tps 0).x ∧ lastX tps = (pt tps (tn - 1)).x := ⟨hF.out, hLs.out⟩
      rw [hfl.1, hfl.2] at HNX hfx
      clear hF hLs hfl t5 tcs t1 hok
      generalize (pt tps 0).x = fx at *
      generalize (pt tps (tn - 1)).x = lx at *
      simp only [Nat.zero_mul, Nat.add_zero] at z0
      have i0 : 0 < tn := by omega
      have i1 : (tn : Int) - 1 < tn := by omega
      have i2 : (1 : Int) ≤ tn := by omega
      have i3 : ((tn : Int) - 1).toNat = tn - 1 := by omega
      have HBEL := Lib.hid hbel; clear hbel
      go_wp2_with fail
      ((refine Soft.region_mix [(true, 0), (true, 1), (true, 2), (true, 3), (true, 4), (true, 5), (true, 6), (true, 7), (true, 8), (true, 9), (true, 10), (true, 11), (true, 12), (true, 13), (true, 14), (true, 15), (true, 16), (true, 17), (true, 18), (true, 19)] [] (by kernel_rfl) (by kernel_rfl) (by kernel_rfl) (by kernel_rfl) ?_; change Soft.wpMix _ _ _ _ [(true, _), (true, _), (true, _), (true, _), (true, _), (true, _), (true, _), (true, _), (true, _), (true, _), (true, _), (true, _), (true, _), (true, _), (true, _), (true, _), (true, _), (true, _), (true, _), (true, _)] _ _); (refine Soft.mix_q (fun K hK => ?_); go_simp; (try go_bits); first | (refine hK _ ?_; clear hK K) | (apply Exists.intro; refine ⟨fun x => ?_, hK _ ?_⟩; fail)); (refine Soft.mix_q (fun K hK => ?_); go_simp; (try go_bits); first | (refine hK _ ?_; clear hK K) | (apply Exists.intro; refine ⟨fun x => ?_, hK _ ?_⟩; fail)); (refine Soft.mix_q (fun K hK => ?_); go_simp; (try go_bits); first | (refine hK _ ?_; clear hK K) | (apply Exists.intro; refine ⟨fun x => ?_, hK _ ?_⟩; fail)); (refine Soft.mix_q (fun K hK => ?_); go_simp; (try go_bits); first | (refine hK _ ?_; clear hK K) | (apply Exists.intro; refine ⟨fun x => ?_, hK _ ?_⟩; fail)); (refine Soft.mix_q (fun K hK => ?_); go_simp; (try go_bits); first | (refine hK _ ?_; clear hK K) | (apply Exists.intro; refine ⟨fun x => ?_, hK _ ?_⟩; fail)); (refine Soft.mix_q (fun K hK => ?_); go_simp; (try go_bits); first | (refine hK _ ?_; clear hK K) | (apply Exists.intro; refine ⟨fun x => ?_, hK _ ?_⟩; fail)); (refine Soft.mix_q (fun K hK => ?_); go_simp; (try go_bits); first | (refine hK _ ?_; clear hK K) | (apply Exists.intro; refine ⟨fun x => ?_, hK _ ?_⟩; fail)); (refine Soft.mix_q (fun K hK => ?_); go_simp; (try go_bits); first | (refine hK _ ?_; clear hK K) | (apply Exists.intro; refine ⟨fun x => ?_, hK _ ?_⟩; fail)); (refine Soft.mix_q (fun K hK => ?_); go_simp; (try go_bits); first | (refine hK _ ?_; clear hK K) | (apply Exists.intro; refine ⟨fun x => ?_, hK _ ?_⟩; fail)); (refine Soft.mix_q (fun K hK => ?_); go_simp; (try go_bits); first | (refine hK _ ?_; clear hK K) | (apply Exists.intro; refine ⟨fun x => ?_, hK _ ?_⟩; fail)); (refine Soft.mix_q (fun K hK => ?_); go_simp; (try go_bits); first | (refine hK _ ?_; clear hK K) | (apply Exists.intro; refine ⟨fun x => ?_, hK _ ?_⟩; fail)); (refine Soft.mix_q (fun K hK => ?_); go_simp; (try go_bits); first | (refine hK _ ?_; clear hK K) | (apply Exists.intro; refine ⟨fun x => ?_, hK _ ?_⟩; fail)); (refine Soft.mix_q (fun K hK => ?_); go_simp; (try go_bits); first | (refine hK _ ?_; clear hK K) | (apply Exists.intro; refine ⟨fun x => ?_, hK _ ?_⟩; fail)); (refine Soft.mix_q (fun K hK => ?_); go_simp; (try go_bits); first | (refine hK _ ?_; clear hK K) | (apply Exists.intro; refine ⟨fun x => ?_, hK _ ?_⟩; fail)); (refine Soft.mix_q (fun K hK => ?_); go_simp; (try go_bits); first | (refine hK _ ?_; clear hK K) | (apply Exists.intro; refine ⟨fun x => ?_, hK _ ?_⟩; fail)); (refine Soft.mix_q (fun K hK => ?_); go_simp; (try go_bits); first | (refine hK _ ?_; clear hK K) | (apply Exists.intro; refine ⟨fun x => ?_, hK _ ?_⟩; fail)); (refine Soft.mix_q (fun K hK => ?_); go_simp; (try go_bits); first | (refine hK _ ?_; clear hK K) | (apply Exists.intro; refine ⟨fun x => ?_, hK _ ?_⟩; fail)); (refine Soft.mix_q (fun K hK => ?_); go_simp; (try go_bits); first | (refine hK _ ?_; clear hK K) | (apply Exists.intro; refine ⟨fun x => ?_, hK _ ?_⟩; fail)); (refine Soft.mix_q (fun K hK => ?_); go_simp; (try go_bits); first | (refine hK _ ?_; clear hK K) | (apply Exists.intro; refine ⟨fun x => ?_, hK _ ?_⟩; fail)); (refine Soft.mix_q (fun K hK => ?_); go_simp; (try go_bits); first | (refine hK _ ?_; clear hK K) | (apply Exists.intro; refine ⟨fun x => ?_, hK _ ?_⟩; fail)); (refine Soft.mix_nil ?_; intro hbx; change wpList _ _ _ [] _ _))
      go_wp2_with fail
      go_roundw
      case rel => exact ⟨k + 1, by rw [HNX.out.1, max_if], by rw [HNX.out.2, min_if], by simp, by omega, HBEL.out.trans ((Below.refl _ _).alloc HBEL.out.size _).drew⟩
      case measure => simp [intOf]; omega
    · obtain rfl : k = sn := by omega
      have HBEL := Lib.hid hbel
      go_wp2_with fail
      go_ret2
      refine ⟨by rw [HV.out.1, HV.out.2]; rfl, ?_⟩
      exact hbel1.trans (HBEL.out.mono hbel1.size)

end Go.Proofs.YteagdcgmmdiakaaGreat
