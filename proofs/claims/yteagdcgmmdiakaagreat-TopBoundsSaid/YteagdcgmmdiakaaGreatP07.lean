/-
  hold: held, Liquid, Surface, Ballast.
  Slices of holds, fills, tanks, levels and weights as they lie in memory; loads; SameWeights.
  Loads, plain: what the holds and the tanks of a ship make together.
  Loads, plain: what each step of the two runs comes to, and how great the sums are.
  Conditions: each theorem's own premises.
-/
import Derived.Test.YteagdcgmmdiakaaGreatP05
import Derived.Test.YteagdcgmmdiakaaGreatP06
namespace Go.Proofs.YteagdcgmmdiakaaGreat
set_option linter.unusedSimpArgs false
set_option linter.unusedVariables false
open Go.RowKit
set_option maxRecDepth 100000
set_option maxHeartbeats 2000000
attribute [local go_sem] Instr.field asAgg Soft.upon Soft.BW.cell_if Soft.BW.frozen_if Soft.cell_alloc_if Soft.frozen_alloc_if

def heldS (t : Tk) (l : Lv) : Rg := (overE t.vol.ps l.snd).1
theorem hold_held (t : Tk) (l : Lv) (w : World) (hh : t.At w) :
    Calls Tryz.prog 87 #[.agg #[.int .i64 (t).id, .int .i64 ((t).along).lo, .int .i64 ((t).along).hi, .slice ((t).vol).p ((t).vol).n ((t).vol).c, .slice ((t).sur).p ((t).sur).n ((t).sur).c, .slice ((t).hei).p ((t).hei).n ((t).hei).c], .agg #[.int .i64 (l).tank, .bool (l).pressed, .int .i64 ((l).snd).lo, .int .i64 ((l).snd).hi, .int .i64 ((l).den).lo, .int .i64 ((l).den).hi]] w fun e w' => e = .returned (.agg #[.int .i64 (heldS t l).lo, .int .i64 (heldS t l).hi]) ∧ Below w.heap.size w w' := by
  obtain ⟨hv, hm, hz⟩ := hh
  go_enter Tryz.func87, Tryz.ntmps87
  go_wp2_with (go_at_call 85; (with_reducible refine (hold_over t.vol l.snd _ (by repeat (first | exact hv | refine Tb.At.alloc ?_ _ | refine Tb.At.bw ?_ _))).mono ?_); rintro e w_ ⟨rfl, hb_⟩; obtain ⟨y1, rfl⟩ := Soft.BW.mk hb_; clear hb_)
  refine bodyPost_ret (v := .agg #[.int .i64 (heldS t l).lo, .int .i64 (heldS t l).hi]) (by simp [results, Tryz.results87, go_sem, heldS]) rfl ?_
  refine ⟨rfl, ?_⟩
  (with_reducible repeat (first | exact blr _ | refine bla ?_ _ | refine blw _ ?_ | refine bld ?_ | refine bln _ ?_ | refine bls ?_ _ | refine blt ?_))

theorem level_ok {t : Tk} {l : Lv} (e : levelErr t l = 0) : TankOk t ∧ LevelIn t l := by
  unfold levelErr at e
  by_cases h0 : TankOk t
  · rw [if_pos h0] at e
    by_cases h1 : LevelIn t l
    · exact ⟨h0, h1⟩
    · rw [if_neg h1] at e; omega
  · rw [if_neg h0] at e; omega
theorem lden_in {t : Tk} {l : Lv} (h1 : LevelIn t l) : RgIn l.den 0 2000 := (part_in h1.2.1).mono (by omega) (by omega)

def liqE (t : Tk) (l : Lv) : Rg := if levelErr t l = 0 then weighS (heldS t l) l.den else ⟨0, 0⟩

theorem hold_Liquid (t : Tk) (l : Lv) (w : World) (hh : t.At w) :
    Calls Tryz.prog 84 #[.agg #[.int .i64 (t).id, .int .i64 ((t).along).lo, .int .i64 ((t).along).hi, .slice ((t).vol).p ((t).vol).n ((t).vol).c, .slice ((t).sur).p ((t).sur).n ((t).sur).c, .slice ((t).hei).p ((t).hei).n ((t).hei).c], .agg #[.int .i64 (l).tank, .bool (l).pressed, .int .i64 ((l).snd).lo, .int .i64 ((l).snd).hi, .int .i64 ((l).den).lo, .int .i64 ((l).den).hi]] w fun e w' => e = .returned (.tuple #[.agg #[.int .i64 (liqE t l).lo, .int .i64 (liqE t l).hi], .int .i64 (levelErr t l)]) ∧ Below w.heap.size w w' := by
  by_cases hc : levelErr t l = 0
  · have HB := Lib.hid (overE_any t.vol.ps l.snd)
    have HD := Lib.hid (lden_in (level_ok hc).2)
    have HV := Lib.hid (show liqE t l = weighS (heldS t l) l.den from if_pos hc)
    have d0 : (levelErr t l != 0) = false := by rw [hc]; rfl
    have HC := Lib.hid hc
    clear hc
    go_enter Tryz.func84, Tryz.ntmps84
    go_wp2_with (first | (go_at_call 86; (with_reducible refine (hold_CheckLevel t l _ (by with_reducible repeat (first | exact hh | refine Ho.At.alloc ?_ _ | refine Ho.At.bw ?_ _ | refine Tk.At.alloc ?_ _ | refine Tk.At.bw ?_ _))).mono ?_); rintro e w_ ⟨rfl, hb_⟩; obtain ⟨y1, rfl⟩ := Soft.BW.mk hb_; clear hb_))
    (refine Soft.region0 [0, 1, 2, 3, 4, 5] [6, 7] (by kernel_rfl) (by kernel_rfl) (by kernel_rfl) (by kernel_rfl) ?_; change Soft.wpSoft _ _ _ _ _ [_, _, _, _, _, _] _; (repeat (refine Soft.soft_step (fun K hK => ?_); go_simp; (try go_bits); first | (refine hK _ ?_; clear hK K) | (apply Exists.intro; refine ⟨fun x => ?_, hK _ ?_⟩; (first | (go_at_call 87; exact hold_held t l _ (by with_reducible repeat (first | exact hh | refine Ho.At.alloc ?_ _ | refine Ho.At.bw ?_ _ | refine Tk.At.alloc ?_ _ | refine Tk.At.bw ?_ _))) | (go_at_call 82; exact hold_weighed (heldS t l) l.den _ HB.out HD.out)); clear hK K))); refine Soft.soft_nil ?_; intro xw; change wpList _ _ _ [_, _] _ _)
    go_wp2_with fail
    rw [HV.out, HC.out]
    refine bodyPost_ret (v := .tuple #[.agg #[.int .i64 (weighS (heldS t l) l.den).lo, .int .i64 (weighS (heldS t l) l.den).hi], .int .i64 0]) (by simp [results, Tryz.results84, go_sem]) rfl ?_
    refine ⟨rfl, ?_⟩
    (with_reducible repeat (first | exact blr _ | refine bla ?_ _ | refine blw _ ?_ | refine bld ?_ | refine bln _ ?_ | refine bls ?_ _ | refine blt ?_))
  · have HV := Lib.hid (show liqE t l = ⟨0, 0⟩ from if_neg hc)
    have d0 : (levelErr t l != 0) = true := bne_iff_ne.2 hc
    clear hc
    go_enter Tryz.func84, Tryz.ntmps84
    go_wp2_with (first | (go_at_call 86; (with_reducible refine (hold_CheckLevel t l _ (by with_reducible repeat (first | exact hh | refine Ho.At.alloc ?_ _ | refine Ho.At.bw ?_ _ | refine Tk.At.alloc ?_ _ | refine Tk.At.bw ?_ _))).mono ?_); rintro e w_ ⟨rfl, hb_⟩; obtain ⟨y1, rfl⟩ := Soft.BW.mk hb_; clear hb_))
    rw [HV.out]
    refine bodyPost_ret (v := .tuple #[.agg #[.int .i64 ((⟨0, 0⟩ : Rg)).lo, .int .i64 ((⟨0, 0⟩ : Rg)).hi], .int .i64 (levelErr t l)]) (by simp [results, Tryz.results84, go_sem]) rfl ?_
    refine ⟨rfl, ?_⟩
    (with_reducible repeat (first | exact blr _ | refine bla ?_ _ | refine blw _ ?_ | refine bld ?_ | refine bln _ ?_ | refine bls ?_ _ | refine blt ?_))

def balE (t : Tk) (l : Lv) : Wt := if levelErr t l = 0 then ⟨weighS (heldS t l) l.den, t.along, (overE t.hei.ps l.snd).1⟩ else ⟨⟨0, 0⟩, ⟨0, 0⟩, ⟨0, 0⟩⟩

theorem hold_Ballast (t : Tk) (l : Lv) (w : World) (hh : t.At w) :
    Calls Tryz.prog 37 #[.agg #[.int .i64 (t).id, .int .i64 ((t).along).lo, .int .i64 ((t).along).hi, .slice ((t).vol).p ((t).vol).n ((t).vol).c, .slice ((t).sur).p ((t).sur).n ((t).sur).c, .slice ((t).hei).p ((t).hei).n ((t).hei).c], .agg #[.int .i64 (l).tank, .bool (l).pressed, .int .i64 ((l).snd).lo, .int .i64 ((l).snd).hi, .int .i64 ((l).den).lo, .int .i64 ((l).den).hi]] w fun e w' => e = .returned (.tuple #[.agg #[.int .i64 ((balE t l).mass).lo, .int .i64 ((balE t l).mass).hi, .int .i64 ((balE t l).along).lo, .int .i64 ((balE t l).along).hi, .int .i64 ((balE t l).high).lo, .int .i64 ((balE t l).high).hi], .int .i64 (levelErr t l)]) ∧ Below w.heap.size w w' := by
  have hz := hh.2.2
  by_cases hc : levelErr t l = 0
  · have HL := Lib.hid (show liqE t l = weighS (heldS t l) l.den from if_pos hc)
    have HV := Lib.hid (show balE t l = ⟨weighS (heldS t l) l.den, t.along, (overE t.hei.ps l.snd).1⟩ from if_pos hc)
    have d0 : (levelErr t l != 0) = false := by rw [hc]; rfl
    have HC := Lib.hid hc
    have CL : Hid (∀ W, t.At W → Calls Tryz.prog 84 #[.agg #[.int .i64 (t).id, .int .i64 ((t).along).lo, .int .i64 ((t).along).hi, .slice ((t).vol).p ((t).vol).n ((t).vol).c, .slice ((t).sur).p ((t).sur).n ((t).sur).c, .slice ((t).hei).p ((t).hei).n ((t).hei).c], .agg #[.int .i64 (l).tank, .bool (l).pressed, .int .i64 ((l).snd).lo, .int .i64 ((l).snd).hi, .int .i64 ((l).den).lo, .int .i64 ((l).den).hi]] W fun e w' => e = .returned (.tuple #[.agg #[.int .i64 (weighS (heldS t l) l.den).lo, .int .i64 (weighS (heldS t l) l.den).hi], .int .i64 (levelErr t l)]) ∧ Below W.heap.size W w') := Lib.hid (fun W hW => by
      have := hold_Liquid t l W hW
      rwa [HL.out] at this)
    clear hc
    generalize weighS (heldS t l) l.den = a at *
    have HV := Lib.hid (show balE t l = ⟨a, t.along, (overE t.hei.ps l.snd).1⟩ from HV.out)
    have CO : Hid (∀ W, t.hei.At W → Calls Tryz.prog 85 #[.agg #[.slice (t.hei).p (t.hei).n (t.hei).c], .agg #[.int .i64 (l.snd).lo, .int .i64 (l.snd).hi]] W fun e w' => e = .returned (.agg #[.int .i64 ((overE t.hei.ps l.snd).1).lo, .int .i64 ((overE t.hei.ps l.snd).1).hi]) ∧ Below W.heap.size W w') := Lib.hid (fun W hW => hold_over t.hei l.snd W hW)
    generalize (overE t.hei.ps l.snd).1 = b at *
    go_enter Tryz.func37, Tryz.ntmps37
    go_wp2_with (first | (go_at_call 84; (with_reducible refine (CL.out _ (by with_reducible repeat (first | exact hh | refine Ho.At.alloc ?_ _ | refine Ho.At.bw ?_ _ | refine Tk.At.alloc ?_ _ | refine Tk.At.bw ?_ _))).mono ?_); rintro e w_ ⟨rfl, hb_⟩; obtain ⟨y1, rfl⟩ := Soft.BW.mk hb_; clear hb_))
    (refine Soft.region0 [0, 1, 2, 3, 4, 5, 6, 7, 8] [9, 10] (by kernel_rfl) (by kernel_rfl) (by kernel_rfl) (by kernel_rfl) ?_; change Soft.wpSoft _ _ _ _ _ [_, _, _, _, _, _, _, _, _] _; (repeat (refine Soft.soft_step (fun K hK => ?_); go_simp; (try go_bits); first | (refine hK _ ?_; clear hK K) | (apply Exists.intro; refine ⟨fun x => ?_, hK _ ?_⟩; ((go_at_call 85; exact CO.out _ (by repeat (first | exact hz | refine Tb.At.alloc ?_ _ | refine Tb.At.bw ?_ _)))); clear hK K))); refine Soft.soft_nil ?_; intro xw; change wpList _ _ _ [_, _] _ _)
    go_wp2_with fail
    rw [HV.out, HC.out]
    refine bodyPost_ret (v := .tuple #[.agg #[.int .i64 a.lo, .int .i64 a.hi, .int .i64 t.along.lo, .int .i64 t.along.hi, .int .i64 b.lo, .int .i64 b.hi], .int .i64 0]) (by simp [results, Tryz.results37, go_sem]) rfl ?_
    refine ⟨rfl, ?_⟩
    (with_reducible repeat (first | exact blr _ | refine bla ?_ _ | refine blw _ ?_ | refine bld ?_ | refine bln _ ?_ | refine bls ?_ _ | refine blt ?_))
  · have HL := Lib.hid (show liqE t l = ⟨0, 0⟩ from if_neg hc)
    have HV := Lib.hid (show balE t l = ⟨⟨0, 0⟩, ⟨0, 0⟩, ⟨0, 0⟩⟩ from if_neg hc)
    have d0 : (levelErr t l != 0) = true := bne_iff_ne.2 hc
    clear hc
    go_enter Tryz.func37, Tryz.ntmps37
    go_wp2_with (first | (go_at_call 84; (with_reducible refine (hold_Liquid t l _ (by with_reducible repeat (first | exact hh | refine Ho.At.alloc ?_ _ | refine Ho.At.bw ?_ _ | refine Tk.At.alloc ?_ _ | refine Tk.At.bw ?_ _))).mono ?_); rintro e w_ ⟨rfl, hb_⟩; obtain ⟨y1, rfl⟩ := Soft.BW.mk hb_; clear hb_))
    rw [HV.out]
    refine bodyPost_ret (v := .tuple #[.agg #[.int .i64 (((⟨⟨0, 0⟩, ⟨0, 0⟩, ⟨0, 0⟩⟩ : Wt)).mass).lo, .int .i64 (((⟨⟨0, 0⟩, ⟨0, 0⟩, ⟨0, 0⟩⟩ : Wt)).mass).hi, .int .i64 (((⟨⟨0, 0⟩, ⟨0, 0⟩, ⟨0, 0⟩⟩ : Wt)).along).lo, .int .i64 (((⟨⟨0, 0⟩, ⟨0, 0⟩, ⟨0, 0⟩⟩ : Wt)).along).hi, .int .i64 (((⟨⟨0, 0⟩, ⟨0, 0⟩, ⟨0, 0⟩⟩ : Wt)).high).lo, .int .i64 (((⟨⟨0, 0⟩, ⟨0, 0⟩, ⟨0, 0⟩⟩ : Wt)).high).hi], .int .i64 (levelErr t l)]) (by simp [results, Tryz.results37, go_sem]) rfl ?_
    refine ⟨rfl, ?_⟩
    (with_reducible repeat (first | exact blr _ | refine bla ?_ _ | refine blw _ ?_ | refine bld ?_ | refine bln _ ?_ | refine bls ?_ _ | refine blt ?_))

/-- The moment of a tank's surface. -/
def srfS (t : Tk) (l : Lv) : Rg :=
  if l.pressed = true ∨ (heldS t l).hi = 0 then ⟨0, 0⟩ else if (heldS t l).lo = 0 then ⟨0, (weighS (overE t.sur.ps l.snd).1 l.den).hi⟩ else weighS (overE t.sur.ps l.snd).1 l.den
def srfE (t : Tk) (l : Lv) : Rg := if levelErr t l = 0 then srfS t l else ⟨0, 0⟩


theorem hold_Surface (t : Tk) (l : Lv) (w : World) (hh : t.At w) :
    Calls Tryz.prog 38 #[.agg #[.int .i64 (t).id, .int .i64 ((t).along).lo, .int .i64 ((t).along).hi, .slice ((t).vol).p ((t).vol).n ((t).vol).c, .slice ((t).sur).p ((t).sur).n ((t).sur).c, .slice ((t).hei).p ((t).hei).n ((t).hei).c], .agg #[.int .i64 (l).tank, .bool (l).pressed, .int .i64 ((l).snd).lo, .int .i64 ((l).snd).hi, .int .i64 ((l).den).lo, .int .i64 ((l).den).hi]] w fun e w' => e = .returned (.tuple #[.agg #[.int .i64 (srfE t l).lo, .int .i64 (srfE t l).hi], .int .i64 (levelErr t l)]) ∧ Below w.heap.size w w' := by
  have hs := hh.2.1
  by_cases hc : levelErr t l = 0
  · have HB := overE_any t.sur.ps l.snd
    have HD := lden_in (level_ok hc).2
    have HE := Lib.hid (show srfE t l = srfS t l from if_pos hc)
    have d0 : (levelErr t l != 0) = false := by rw [hc]; rfl
    have HC := Lib.hid hc
    have HS := Lib.hid (show srfS t l = if l.pressed = true ∨ (heldS t l).hi = 0 then ⟨0, 0⟩ else if (heldS t l).lo = 0 then ⟨0, (weighS (overE t.sur.ps l.snd).1 l.den).hi⟩ else weighS (overE t.sur.ps l.snd).1 l.den from rfl)
    have CK : Hid (∀ W, t.At W → Calls Tryz.prog 86 #[.agg #[.int .i64 (t).id, .int .i64 ((t).along).lo, .int .i64 ((t).along).hi, .slice ((t).vol).p ((t).vol).n ((t).vol).c, .slice ((t).sur).p ((t).sur).n ((t).sur).c, .slice ((t).hei).p ((t).hei).n ((t).hei).c], .agg #[.int .i64 (l).tank, .bool (l).pressed, .int .i64 ((l).snd).lo, .int .i64 ((l).snd).hi, .int .i64 ((l).den).lo, .int .i64 ((l).den).hi]] W fun e w' => e = .returned (.int .i64 (levelErr t l)) ∧ Below W.heap.size W w') := Lib.hid (fun W hW => hold_CheckLevel t l W hW)
    have CH : Hid (∀ W, t.At W → Calls Tryz.prog 87 #[.agg #[.int .i64 (t).id, .int .i64 ((t).along).lo, .int .i64 ((t).along).hi, .slice ((t).vol).p ((t).vol).n ((t).vol).c, .slice ((t).sur).p ((t).sur).n ((t).sur).c, .slice ((t).hei).p ((t).hei).n ((t).hei).c], .agg #[.int .i64 (l).tank, .bool (l).pressed, .int .i64 ((l).snd).lo, .int .i64 ((l).snd).hi, .int .i64 ((l).den).lo, .int .i64 ((l).den).hi]] W fun e w' => e = .returned (.agg #[.int .i64 (heldS t l).lo, .int .i64 (heldS t l).hi]) ∧ Below W.heap.size W w') := Lib.hid (fun W hW => hold_held t l W hW)
    have CO : Hid (∀ W, t.sur.At W → Calls Tryz.prog 85 #[.agg #[.slice (t.sur).p (t.sur).n (t.sur).c], .agg #[.int .i64 (l.snd).lo, .int .i64 (l.snd).hi]] W fun e w' => e = .returned (.agg #[.int .i64 ((overE t.sur.ps l.snd).1).lo, .int .i64 ((overE t.sur.ps l.snd).1).hi]) ∧ Below W.heap.size W w') := Lib.hid (fun W hW => hold_over t.sur l.snd W hW)
    have CW : Hid (∀ W, Calls Tryz.prog 82 #[.agg #[.int .i64 ((overE t.sur.ps l.snd).1).lo, .int .i64 ((overE t.sur.ps l.snd).1).hi], .agg #[.int .i64 (l.den).lo, .int .i64 (l.den).hi]] W fun e w' => e = .returned (.agg #[.int .i64 (weighS (overE t.sur.ps l.snd).1 l.den).lo, .int .i64 (weighS (overE t.sur.ps l.snd).1 l.den).hi]) ∧ Below W.heap.size W w') := Lib.hid (fun W => hold_weighed _ _ W HB HD)
    clear hc HB HD
    generalize weighS (overE t.sur.ps l.snd).1 l.den = b at *
    generalize (overE t.sur.ps l.snd).1 = q at *
    generalize heldS t l = v at *
    obtain ⟨ti, ta, tv, ts, tz⟩ := t
    obtain ⟨lt, lp, lsn, ld⟩ := l
    dsimp only at *
    cases lp
    · by_cases c1 : v.hi = 0
      · have HV := Lib.hid (show srfE ⟨ti, ta, tv, ts, tz⟩ ⟨lt, false, lsn, ld⟩ = ⟨0, 0⟩ by rw [HE.out, HS.out, if_pos (.inr c1)])
        have d1 : (v.hi == 0) = true := by rw [c1]; rfl
        clear c1
        go_enter Tryz.func38, Tryz.ntmps38
        go_wp2_with (first | (go_at_call 86; (with_reducible refine (CK.out _ (by with_reducible repeat (first | exact hh | refine Ho.At.alloc ?_ _ | refine Ho.At.bw ?_ _ | refine Tk.At.alloc ?_ _ | refine Tk.At.bw ?_ _))).mono ?_); rintro e w_ ⟨rfl, hb_⟩; obtain ⟨y1, rfl⟩ := Soft.BW.mk hb_; clear hb_) | (go_at_call 87; (with_reducible refine (CH.out _ (by with_reducible repeat (first | exact hh | refine Ho.At.alloc ?_ _ | refine Ho.At.bw ?_ _ | refine Tk.At.alloc ?_ _ | refine Tk.At.bw ?_ _))).mono ?_); rintro e w_ ⟨rfl, hb_⟩; obtain ⟨y2, rfl⟩ := Soft.BW.mk hb_; clear hb_))
        rw [HV.out, HC.out]
        refine bodyPost_ret (v := .tuple #[.agg #[.int .i64 ((⟨0, 0⟩ : Rg)).lo, .int .i64 ((⟨0, 0⟩ : Rg)).hi], .int .i64 0]) (by simp [results, Tryz.results38, go_sem]) rfl ?_
        refine ⟨rfl, ?_⟩
        (with_reducible repeat (first | exact blr _ | refine bla ?_ _ | refine blw _ ?_ | refine bld ?_ | refine bln _ ?_ | refine bls ?_ _ | refine blt ?_))
      · have d1 : (v.hi == 0) = false := by rw [beq_eq_false_iff_ne]; exact c1
        by_cases c2 : v.lo = 0
        · have HV := Lib.hid (show srfE ⟨ti, ta, tv, ts, tz⟩ ⟨lt, false, lsn, ld⟩ = ⟨0, b.hi⟩ by rw [HE.out, HS.out, if_neg (by simp [c1]), if_pos c2])
          have d2 : (v.lo == 0) = true := by rw [c2]; rfl
          clear c1 c2
          go_enter Tryz.func38, Tryz.ntmps38
          go_wp2_with (first | (go_at_call 86; (with_reducible refine (CK.out _ (by with_reducible repeat (first | exact hh | refine Ho.At.alloc ?_ _ | refine Ho.At.bw ?_ _ | refine Tk.At.alloc ?_ _ | refine Tk.At.bw ?_ _))).mono ?_); rintro e w_ ⟨rfl, hb_⟩; obtain ⟨y1, rfl⟩ := Soft.BW.mk hb_; clear hb_) | (go_at_call 87; (with_reducible refine (CH.out _ (by with_reducible repeat (first | exact hh | refine Ho.At.alloc ?_ _ | refine Ho.At.bw ?_ _ | refine Tk.At.alloc ?_ _ | refine Tk.At.bw ?_ _))).mono ?_); rintro e w_ ⟨rfl, hb_⟩; obtain ⟨y2, rfl⟩ := Soft.BW.mk hb_; clear hb_))
          (refine Soft.region1 [0, 1, 2, 3, 4, 5, 6, 7] 8 [9] _ (by kernel_rfl) (by kernel_rfl) (by kernel_rfl) rfl rfl (by kernel_rfl) ?_; change Soft.wpSoft _ _ _ _ _ [_, _, _, _, _, _, _, _] _; (repeat (refine Soft.soft_step (fun K hK => ?_); go_simp; (try go_bits); first | (refine hK _ ?_; clear hK K) | (apply Exists.intro; refine ⟨fun x => ?_, hK _ ?_⟩; (first | (go_at_call 85; exact CO.out _ (by repeat (first | exact hs | refine Tb.At.alloc ?_ _ | refine Tb.At.bw ?_ _))) | (go_at_call 82; exact CW.out _)); clear hK K))); refine Soft.soft_nil ?_)
          refine ⟨fun b => .pointer (some ⟨b, 0, none⟩), .cells #[.int .i64 0, .int .i64 0] 27, fun x => by go_simp, fun kb x hnew => ?_⟩
          have n0 := hnew.cell 0
          have n1 := hnew.cell 1
          have f0 := hnew.frozen 0
          have f1 := hnew.frozen 1
          simp at n0 n1
          have k0 := hnew.le
          have k1 := y1.below.size
          have k2 := y2.below.size
          simp at k0 k1
          have k3 : ¬(kb = w.heap.size + 1 + 1) := by omega
          have k4 : ¬(w.heap.size + 1 + 1 = kb) := by omega
          have k5 : ¬(kb = y2.w.heap.size) := by omega
          have k6 : ¬(y2.w.heap.size = kb) := by omega
          change wpList _ _ _ [_] _ _
          go_wp2_with fail
          rw [HV.out, HC.out]
          refine bodyPost_ret (v := .tuple #[.agg #[.int .i64 ((⟨0, b.hi⟩ : Rg)).lo, .int .i64 ((⟨0, b.hi⟩ : Rg)).hi], .int .i64 0]) (by simp [results, Tryz.results38, go_sem]) rfl ?_
          refine ⟨rfl, ?_⟩
          (with_reducible repeat (first | exact blr _ | refine bla ?_ _ | refine blw _ ?_ | refine bld ?_ | refine bln _ ?_ | refine bls ?_ _ | refine blt ?_))
        · have HV := Lib.hid (show srfE ⟨ti, ta, tv, ts, tz⟩ ⟨lt, false, lsn, ld⟩ = b by rw [HE.out, HS.out, if_neg (by simp [c1]), if_neg c2])
          have d2 : (v.lo == 0) = false := by rw [beq_eq_false_iff_ne]; exact c2
          clear c1 c2
          go_enter Tryz.func38, Tryz.ntmps38
          go_wp2_with (first | (go_at_call 86; (with_reducible refine (CK.out _ (by with_reducible repeat (first | exact hh | refine Ho.At.alloc ?_ _ | refine Ho.At.bw ?_ _ | refine Tk.At.alloc ?_ _ | refine Tk.At.bw ?_ _))).mono ?_); rintro e w_ ⟨rfl, hb_⟩; obtain ⟨y1, rfl⟩ := Soft.BW.mk hb_; clear hb_) | (go_at_call 87; (with_reducible refine (CH.out _ (by with_reducible repeat (first | exact hh | refine Ho.At.alloc ?_ _ | refine Ho.At.bw ?_ _ | refine Tk.At.alloc ?_ _ | refine Tk.At.bw ?_ _))).mono ?_); rintro e w_ ⟨rfl, hb_⟩; obtain ⟨y2, rfl⟩ := Soft.BW.mk hb_; clear hb_))
          (refine Soft.region1 [0, 1, 2, 3, 4, 5, 6, 7] 8 [9] _ (by kernel_rfl) (by kernel_rfl) (by kernel_rfl) rfl rfl (by kernel_rfl) ?_; change Soft.wpSoft _ _ _ _ _ [_, _, _, _, _, _, _, _] _; (repeat (refine Soft.soft_step (fun K hK => ?_); go_simp; (try go_bits); first | (refine hK _ ?_; clear hK K) | (apply Exists.intro; refine ⟨fun x => ?_, hK _ ?_⟩; (first | (go_at_call 85; exact CO.out _ (by repeat (first | exact hs | refine Tb.At.alloc ?_ _ | refine Tb.At.bw ?_ _))) | (go_at_call 82; exact CW.out _)); clear hK K))); refine Soft.soft_nil ?_)
          refine ⟨fun b => .pointer (some ⟨b, 0, none⟩), .cells #[.int .i64 0, .int .i64 0] 27, fun x => by go_simp, fun kb x hnew => ?_⟩
          have n0 := hnew.cell 0
          have n1 := hnew.cell 1
          have f0 := hnew.frozen 0
          have f1 := hnew.frozen 1
          simp at n0 n1
          have k0 := hnew.le
          have k1 := y1.below.size
          have k2 := y2.below.size
          simp at k0 k1
          have k3 : ¬(kb = w.heap.size + 1 + 1) := by omega
          have k4 : ¬(w.heap.size + 1 + 1 = kb) := by omega
          have k5 : ¬(kb = y2.w.heap.size) := by omega
          have k6 : ¬(y2.w.heap.size = kb) := by omega
          change wpList _ _ _ [_] _ _
          go_wp2_with fail
          rw [HV.out, HC.out]
          refine bodyPost_ret (v := .tuple #[.agg #[.int .i64 (b).lo, .int .i64 (b).hi], .int .i64 0]) (by simp [results, Tryz.results38, go_sem]) rfl ?_
          refine ⟨rfl, ?_⟩
          (with_reducible repeat (first | exact blr _ | refine bla ?_ _ | refine blw _ ?_ | refine bld ?_ | refine bln _ ?_ | refine bls ?_ _ | refine blt ?_))
    · have HV := Lib.hid (show srfE ⟨ti, ta, tv, ts, tz⟩ ⟨lt, true, lsn, ld⟩ = ⟨0, 0⟩ by rw [HE.out, HS.out, if_pos (.inl rfl)])
      go_enter Tryz.func38, Tryz.ntmps38
      go_wp2_with (first | (go_at_call 86; (with_reducible refine (CK.out _ (by with_reducible repeat (first | exact hh | refine Ho.At.alloc ?_ _ | refine Ho.At.bw ?_ _ | refine Tk.At.alloc ?_ _ | refine Tk.At.bw ?_ _))).mono ?_); rintro e w_ ⟨rfl, hb_⟩; obtain ⟨y1, rfl⟩ := Soft.BW.mk hb_; clear hb_) | (go_at_call 87; (with_reducible refine (CH.out _ (by with_reducible repeat (first | exact hh | refine Ho.At.alloc ?_ _ | refine Ho.At.bw ?_ _ | refine Tk.At.alloc ?_ _ | refine Tk.At.bw ?_ _))).mono ?_); rintro e w_ ⟨rfl, hb_⟩; obtain ⟨y2, rfl⟩ := Soft.BW.mk hb_; clear hb_))
      rw [HV.out, HC.out]
      refine bodyPost_ret (v := .tuple #[.agg #[.int .i64 ((⟨0, 0⟩ : Rg)).lo, .int .i64 ((⟨0, 0⟩ : Rg)).hi], .int .i64 0]) (by simp [results, Tryz.results38, go_sem]) rfl ?_
      refine ⟨rfl, ?_⟩
      (with_reducible repeat (first | exact blr _ | refine bla ?_ _ | refine blw _ ?_ | refine bld ?_ | refine bln _ ?_ | refine bls ?_ _ | refine blt ?_))
  · have HV := Lib.hid (show srfE t l = ⟨0, 0⟩ from if_neg hc)
    have d0 : (levelErr t l != 0) = true := bne_iff_ne.2 hc
    clear hc
    go_enter Tryz.func38, Tryz.ntmps38
    go_wp2_with (first | (go_at_call 86; (with_reducible refine (hold_CheckLevel t l _ (by with_reducible repeat (first | exact hh | refine Ho.At.alloc ?_ _ | refine Ho.At.bw ?_ _ | refine Tk.At.alloc ?_ _ | refine Tk.At.bw ?_ _))).mono ?_); rintro e w_ ⟨rfl, hb_⟩; obtain ⟨y1, rfl⟩ := Soft.BW.mk hb_; clear hb_))
    rw [HV.out]
    refine bodyPost_ret (v := .tuple #[.agg #[.int .i64 ((⟨0, 0⟩ : Rg)).lo, .int .i64 ((⟨0, 0⟩ : Rg)).hi], .int .i64 (levelErr t l)]) (by simp [results, Tryz.results38, go_sem]) rfl ?_
    refine ⟨rfl, ?_⟩
    (with_reducible repeat (first | exact blr _ | refine bla ?_ _ | refine blw _ ?_ | refine bld ?_ | refine bln _ ?_ | refine bls ?_ _ | refine blt ?_))

end Go.Proofs.YteagdcgmmdiakaaGreat

namespace Go.Proofs.YteagdcgmmdiakaaGreat
set_option linter.unusedSimpArgs false
set_option linter.unusedVariables false
open Go.RowKit
set_option maxRecDepth 100000
set_option maxHeartbeats 4000000
attribute [local go_sem] Instr.field asAgg Soft.upon Soft.BW.cell_if Soft.BW.frozen_if Soft.cell_alloc_if Soft.frozen_alloc_if

/-- Elements of so many cells each, one behind the other. -/
def RowsAt (w : World) (p : Option Addr) (n c sz : Nat) (cs : Nat → List Value) : Prop :=
  n ≤ c ∧ c ≤ 9223372036854775807 ∧ (n ≠ 0 → ∃ b o, p = some ⟨b, o, none⟩ ∧ b < w.heap.size ∧ ∀ i, i < n → ∀ j v, (cs i)[j]? = some v → w.cell? ⟨b, o + i * sz + j, none⟩ = some v)
theorem RowsAt.same {w w' : World} {p : Option Addr} {n c sz : Nat} {cs : Nat → List Value} (h : RowsAt w p n c sz cs) (hb : Below w.heap.size w w') : RowsAt w' p n c sz cs := by
  obtain ⟨h1, h2, h3⟩ := h
  refine ⟨h1, h2, fun hn => ?_⟩
  obtain ⟨b, o, e, hlt, hc⟩ := h3 hn
  exact ⟨b, o, e, Nat.lt_of_lt_of_le hlt hb.size, fun i hi j v hv => (hb.cell (p := ⟨b, o + i * sz + j, none⟩) hlt).trans (hc i hi j v hv)⟩

instance : Inhabited Tb := ⟨⟨none, 0, 0, []⟩⟩
instance : Inhabited Ho := ⟨⟨0, default, default, default, default, default, default, default, default⟩⟩
instance : Inhabited Tk := ⟨⟨0, default, default, default, default⟩⟩
def hoC (h : Ho) : List Value := [.int .i64 (h).id, .int .i64 ((h).along).lo, .int .i64 ((h).along).hi, .slice ((h).vol).p ((h).vol).n ((h).vol).c, .slice ((h).mom).p ((h).mom).n ((h).mom).c, .slice ((h).hei).p ((h).hei).n ((h).hei).c, .int .i64 ((h).tri).lo, .int .i64 ((h).tri).hi, .int .i64 ((h).unt).lo, .int .i64 ((h).unt).hi, .int .i64 ((h).v0).lo, .int .i64 ((h).v0).hi, .int .i64 ((h).h0).lo, .int .i64 ((h).h0).hi]
def fiC (f : Fi) : List Value := [.int .i64 (f).hold, .int .i64 (f).state, .int .i64 ((f).ull).lo, .int .i64 ((f).ull).hi, .int .i64 ((f).den).lo, .int .i64 ((f).den).hi]
def tkC (t : Tk) : List Value := [.int .i64 (t).id, .int .i64 ((t).along).lo, .int .i64 ((t).along).hi, .slice ((t).vol).p ((t).vol).n ((t).vol).c, .slice ((t).sur).p ((t).sur).n ((t).sur).c, .slice ((t).hei).p ((t).hei).n ((t).hei).c]
def lvC (l : Lv) : List Value := [.int .i64 (l).tank, .bool (l).pressed, .int .i64 ((l).snd).lo, .int .i64 ((l).snd).hi, .int .i64 ((l).den).lo, .int .i64 ((l).den).hi]
def wtC (x : Wt) : List Value := [.int .i64 ((x).mass).lo, .int .i64 ((x).mass).hi, .int .i64 ((x).along).lo, .int .i64 ((x).along).hi, .int .i64 ((x).high).lo, .int .i64 ((x).high).hi]
abbrev hv (l : List Ho) (i : Nat) : Ho := l[i]?.getD default
abbrev fiv (l : List Fi) (i : Nat) : Fi := l[i]?.getD default
abbrev tv (l : List Tk) (i : Nat) : Tk := l[i]?.getD default
abbrev lv (l : List Lv) (i : Nat) : Lv := l[i]?.getD default
abbrev wv (l : List Wt) (i : Nat) : Wt := l[i]?.getD default

/-- A slice. -/
structure Sl (α : Type) where
  p : Option Addr
  n : Nat
  c : Nat
  xs : List α
def HsAt (w : World) (s : Sl Ho) : Prop := s.xs.length = s.n ∧ RowsAt w s.p s.n s.c 14 (fun i => hoC (hv s.xs i)) ∧ ∀ i, i < s.n → (hv s.xs i).At w
def FsAt (w : World) (s : Sl Fi) : Prop := s.xs.length = s.n ∧ RowsAt w s.p s.n s.c 6 (fun i => fiC (fiv s.xs i))
def TsAt (w : World) (s : Sl Tk) : Prop := s.xs.length = s.n ∧ RowsAt w s.p s.n s.c 6 (fun i => tkC (tv s.xs i)) ∧ ∀ i, i < s.n → (tv s.xs i).At w
def LsAt (w : World) (s : Sl Lv) : Prop := s.xs.length = s.n ∧ RowsAt w s.p s.n s.c 6 (fun i => lvC (lv s.xs i))
def WsAt (w : World) (s : Sl Wt) : Prop := s.xs.length = s.n ∧ RowsAt w s.p s.n s.c 6 (fun i => wtC (wv s.xs i))
theorem HsAt.same {w w' : World} {s : Sl Ho} (h : HsAt w s) (hb : Below w.heap.size w w') : HsAt w' s := ⟨h.1, h.2.1.same hb, fun i hi => (h.2.2 i hi).same hb⟩
theorem FsAt.same {w w' : World} {s : Sl Fi} (h : FsAt w s) (hb : Below w.heap.size w w') : FsAt w' s := ⟨h.1, h.2.same hb⟩
theorem TsAt.same {w w' : World} {s : Sl Tk} (h : TsAt w s) (hb : Below w.heap.size w w') : TsAt w' s := ⟨h.1, h.2.1.same hb, fun i hi => (h.2.2 i hi).same hb⟩
theorem LsAt.same {w w' : World} {s : Sl Lv} (h : LsAt w s) (hb : Below w.heap.size w w') : LsAt w' s := ⟨h.1, h.2.same hb⟩
theorem WsAt.same {w w' : World} {s : Sl Wt} (h : WsAt w s) (hb : Below w.heap.size w w') : WsAt w' s := ⟨h.1, h.2.same hb⟩
theorem wsAt_nil (w : World) : WsAt w ⟨none, 0, 0, []⟩ := ⟨rfl, Nat.le_refl _, by decide, fun h => absurd rfl h⟩

/-! ### Weights that grow -/

def wts : List Wt → List Value
  | [] => []
  | x :: l => wtC x ++ wts l
theorem wts_append (a b : List Wt) : wts (a ++ b) = wts a ++ wts b := by
  induction a with
  | nil => rfl
  | cons x l ih => simp [wts, ih]
theorem wts_length (a : List Wt) : (wts a).length = a.length * 6 := by
  induction a with
  | nil => rfl
  | cons x l ih => simp [wts, wtC, ih]; omega
theorem wts_get : ∀ (l : List Wt) (i : Nat), i < l.length → ∀ j, j < 6 → (wts l)[i * 6 + j]? = (wtC (wv l i))[j]?
  | x :: l, 0, _, j, hj => by
    simp only [wts, Nat.zero_mul, Nat.zero_add]
    rw [List.getElem?_append_left (by simpa [wtC] using hj)]
    rfl
  | x :: l, i + 1, h, j, hj => by
    have ih := wts_get l i (by simpa using h) j hj
    simp only [wts]
    rw [List.getElem?_append_right (by simp [wtC]; omega)]
    rw [show (i + 1) * 6 + j - (wtC x).length = i * 6 + j by simp [wtC]; omega, ih]
    simp [wv]

def OwnW (w : World) (B : Nat) (v : Value) (l : List Wt) : Prop := w.ownsRow B 29 6 v l.length (wts l)
theorem info_wt : (Tryz.prog.info? 29).map (fun i => (i.zero, i.size, i.bytes)) = some (some (.agg #[.int .i64 0, .int .i64 0, .int .i64 0, .int .i64 0, .int .i64 0, .int .i64 0]), 6, 48) := by kernel_rfl

theorem app_wt {w : World} {ops : Array Oper} {rest : List Oper} {o : Oper} {a : Act} {Q : Exit → Act → World → Prop} (hgd : o.guard = none) (s x : Operand)
    (ho : o.op = .call { callee := .builtin .append, args := #[s, x], argTypes := #[56, 56] }) (B : Nat) (v : Value) (l : List Wt) (hs : a.eval s = v) (hown : OwnW w B v l)
    (b : Nat) (y : Wt) (hx : a.eval x = .slice (some ⟨b, 0, none⟩) 1 1) (h0 : ∀ j u, (wtC y)[j]? = some u → w.cell? ⟨b, j, none⟩ = some u) (hn : l.length ≤ 1000) (hB : B ≤ w.heap.size)
    (h : ∀ v' w', OwnW w' B v' (l ++ [y]) → Below B w w' → w.grownBy w' v.ownBlock → wpList Tryz.prog ops Q rest (a.put o.dst v') w') : wpList Tryz.prog ops Q (o :: rest) a w := by
  obtain ⟨i0, hi, hz0, hz1, hz2⟩ := infos info_wt
  refine wpList_append_own w hgd s x 56 ho B 29 i0 _ 6 48 Tryz.underlying56 hi hz0 hz1 hz2 rfl (by decide) v l.length (wts l) hs hown ⟨b, 0, none⟩ 1 1 (wtC y) hx rfl ?_ (fun u hu => by simp [wtC] at hu; rcases hu with rfl | rfl | rfl | rfl | rfl | rfl <;> rfl) (by unfold maxLen; omega) (by omega) hB ?_
  · intro j u hu
    have := h0 j u hu
    rw [show ((⟨b, 0, none⟩ : Addr).add j) = ⟨b, j, none⟩ from by simp [Addr.add]; omega]
    exact this
  · intro v' w' h1 h2 _
    refine h v' w' ?_ (below_of_grown h2 hB fun k hk => (hown.lt k hk).1) h2
    unfold OwnW
    rw [List.length_append, wts_append]
    simpa [wts] using h1

theorem OwnW.shape {w : World} {B : Nat} {v : Value} {l : List Wt} (h : OwnW w B v l) (hn : l ≠ []) : ∃ g c, v = .slice (some ⟨g, 0, none⟩) l.length c ∧ B ≤ g ∧ g < w.heap.size ∧ l.length ≤ c ∧ c ≤ 9223372036854775807 := by
  rcases h.2 with ⟨_, h'⟩ | ⟨g, c, cur, h', hb, hg, h1, h2, _⟩
  · exact absurd (List.eq_nil_of_length_eq_zero h') hn
  · exact ⟨g, c, h', hb, (Array.getElem?_eq_some_iff.1 hg).1, h1, h2⟩

theorem OwnW.at {w : World} {B : Nat} {v : Value} {l : List Wt} (h : OwnW w B v l) (hn : l ≠ []) : ∃ p c, v = .slice p l.length c ∧ WsAt w ⟨p, l.length, c, l⟩ := by
  obtain ⟨g, c, rfl, _, h2, h3, h4⟩ := h.shape hn
  refine ⟨_, c, rfl, rfl, h3, h4, fun _ => ⟨g, 0, rfl, h2, fun i hi j u hu => ?_⟩⟩
  dsimp only at *
  have hj : j < 6 := by
    have := (List.getElem?_eq_some_iff.1 hu).1
    simpa [wtC] using this
  unfold OwnW at h
  rw [Nat.zero_add, h.cellAt (i * 6 + j) (by omega), wts_get l i hi j hj]
  exact hu

end Go.Proofs.YteagdcgmmdiakaaGreat

namespace Go.Proofs.YteagdcgmmdiakaaGreat
set_option linter.unusedSimpArgs false
set_option linter.unusedVariables false
open Go.RowKit

/-- What a load holds. -/
structure Ld where
  ws : List Wt
  sur : Rg
  shi : Rg
  deriving DecidableEq
def ld0 : Ld := ⟨[], ⟨0, 0⟩, ⟨0, 0⟩⟩
def addR (a b : Rg) : Rg := ⟨a.lo + b.lo, a.hi + b.hi⟩

def dupH (hs : List Ho) (i : Nat) : Bool := (List.range i).any fun k => (hv hs k).id == (hv hs i).id
def dupT (ts : List Tk) (i : Nat) : Bool := (List.range i).any fun k => (tv ts k).id == (tv ts i).id
def hStep (hs : List Ho) (fs : List Fi) (i : Nat) (s : Int × Ld) : Int × Ld :=
  if s.1 ≠ 0 then s
  else if dupH hs i then (20, ld0)
  else if fillErr (hv hs i) (fiv fs i) ≠ 0 then (fillErr (hv hs i) (fiv fs i), ld0)
  else (0, ⟨if (fiv fs i).state = 0 then s.2.ws else s.2.ws ++ [wtE (hv hs i) (fiv fs i)], s.2.sur, addR s.2.shi (heelE (hv hs i) (fiv fs i))⟩)
def hRun (hs : List Ho) (fs : List Fi) : Nat → Int × Ld
  | 0 => (0, ld0)
  | i + 1 => hStep hs fs i (hRun hs fs i)
def tStep (ts : List Tk) (ls : List Lv) (i : Nat) (s : Int × Ld) : Int × Ld :=
  if s.1 ≠ 0 then s
  else if dupT ts i then (21, ld0)
  else if levelErr (tv ts i) (lv ls i) ≠ 0 then (levelErr (tv ts i) (lv ls i), ld0)
  else (0, ⟨s.2.ws ++ [balE (tv ts i) (lv ls i)], addR s.2.sur (srfE (tv ts i) (lv ls i)), s.2.shi⟩)
def tRun (ts : List Tk) (ls : List Lv) (s : Int × Ld) : Nat → Int × Ld
  | 0 => s
  | i + 1 => tStep ts ls i (tRun ts ls s i)
def loadE (hs : List Ho) (fs : List Fi) (ts : List Tk) (ls : List Lv) : Int × Ld :=
  if 9 < hs.length ∨ 9 < ts.length then (2, ld0)
  else if hs.length ≠ fs.length ∨ ts.length ≠ ls.length then (1, ld0)
  else tRun ts ls (hRun hs fs hs.length) ts.length

theorem hRun_err {hs : List Ho} {fs : List Fi} {i : Nat} (h : (hRun hs fs i).1 ≠ 0) : ∀ j, i ≤ j → hRun hs fs j = hRun hs fs i := by
  intro j hj
  induction j with
  | zero => rw [show i = 0 by omega]
  | succ j ih =>
    by_cases hi : i = j + 1
    · rw [hi]
    · have e := ih (by omega)
      show hStep hs fs j (hRun hs fs j) = _
      rw [e]
      unfold hStep
      rw [if_pos h]
theorem tRun_err {ts : List Tk} {ls : List Lv} {s : Int × Ld} {i : Nat} (h : (tRun ts ls s i).1 ≠ 0) : ∀ j, i ≤ j → tRun ts ls s j = tRun ts ls s i := by
  intro j hj
  induction j with
  | zero => rw [show i = 0 by omega]
  | succ j ih =>
    by_cases hi : i = j + 1
    · rw [hi]
    · have e := ih (by omega)
      show tStep ts ls j (tRun ts ls s j) = _
      rw [e]
      unfold tStep
      rw [if_pos h]
/-- The runs hold at most so many weights. -/
theorem hRun_len (hs : List Ho) (fs : List Fi) : ∀ i, (hRun hs fs i).2.ws.length ≤ i
  | 0 => Nat.le_refl 0
  | i + 1 => by
    have ih := hRun_len hs fs i
    show (hStep hs fs i (hRun hs fs i)).2.ws.length ≤ _
    unfold hStep
    split
    · omega
    split
    · simp [ld0]
    split
    · simp [ld0]
    · dsimp only
      split
      · omega
      · simp; omega
theorem tRun_len (ts : List Tk) (ls : List Lv) (s : Int × Ld) : ∀ i, (tRun ts ls s i).2.ws.length ≤ s.2.ws.length + i
  | 0 => Nat.le_refl _
  | i + 1 => by
    have ih := tRun_len ts ls s i
    show (tStep ts ls i (tRun ts ls s i)).2.ws.length ≤ _
    unfold tStep
    split
    · omega
    split
    · simp [ld0]
    split
    · simp [ld0]
    · simp; omega

end Go.Proofs.YteagdcgmmdiakaaGreat

namespace Go.Proofs.YteagdcgmmdiakaaGreat
set_option linter.unusedSimpArgs false
set_option linter.unusedVariables false
open Go.RowKit

theorem hRun_next {hs : List Ho} {fs : List Fi} {k : Nat} (h0 : (hRun hs fs k).1 = 0) (hd : dupH hs k = false) (he : fillErr (hv hs k) (fiv fs k) = 0) :
    hRun hs fs (k + 1) = (0, ⟨if (fiv fs k).state = 0 then (hRun hs fs k).2.ws else (hRun hs fs k).2.ws ++ [wtE (hv hs k) (fiv fs k)], (hRun hs fs k).2.sur, addR (hRun hs fs k).2.shi (heelE (hv hs k) (fiv fs k))⟩) := by
  show hStep hs fs k (hRun hs fs k) = _
  unfold hStep
  rw [if_neg (by omega), if_neg (by rw [hd]; decide), if_neg (by omega)]
theorem hRun_dup {hs : List Ho} {fs : List Fi} {k : Nat} (h0 : (hRun hs fs k).1 = 0) (hd : dupH hs k = true) : hRun hs fs (k + 1) = (20, ld0) := by
  show hStep hs fs k (hRun hs fs k) = _
  unfold hStep
  rw [if_neg (by omega), if_pos hd]
theorem hRun_bad {hs : List Ho} {fs : List Fi} {k : Nat} (h0 : (hRun hs fs k).1 = 0) (hd : dupH hs k = false) (he : fillErr (hv hs k) (fiv fs k) ≠ 0) : hRun hs fs (k + 1) = (fillErr (hv hs k) (fiv fs k), ld0) := by
  show hStep hs fs k (hRun hs fs k) = _
  unfold hStep
  rw [if_neg (by omega), if_neg (by rw [hd]; decide), if_pos he]
theorem tRun_next {ts : List Tk} {ls : List Lv} {s : Int × Ld} {k : Nat} (h0 : (tRun ts ls s k).1 = 0) (hd : dupT ts k = false) (he : levelErr (tv ts k) (lv ls k) = 0) :
    tRun ts ls s (k + 1) = (0, ⟨(tRun ts ls s k).2.ws ++ [balE (tv ts k) (lv ls k)], addR (tRun ts ls s k).2.sur (srfE (tv ts k) (lv ls k)), (tRun ts ls s k).2.shi⟩) := by
  show tStep ts ls k (tRun ts ls s k) = _
  unfold tStep
  rw [if_neg (by omega), if_neg (by rw [hd]; decide), if_neg (by omega)]
theorem tRun_dup {ts : List Tk} {ls : List Lv} {s : Int × Ld} {k : Nat} (h0 : (tRun ts ls s k).1 = 0) (hd : dupT ts k = true) : tRun ts ls s (k + 1) = (21, ld0) := by
  show tStep ts ls k (tRun ts ls s k) = _
  unfold tStep
  rw [if_neg (by omega), if_pos hd]
theorem tRun_bad {ts : List Tk} {ls : List Lv} {s : Int × Ld} {k : Nat} (h0 : (tRun ts ls s k).1 = 0) (hd : dupT ts k = false) (he : levelErr (tv ts k) (lv ls k) ≠ 0) : tRun ts ls s (k + 1) = (levelErr (tv ts k) (lv ls k), ld0) := by
  show tStep ts ls k (tRun ts ls s k) = _
  unfold tStep
  rw [if_neg (by omega), if_neg (by rw [hd]; decide), if_pos he]

section
variable {hs : List Ho} {fs : List Fi} {ts : List Tk} {ls : List Lv}
theorem loadE_all (h1 : hs.length ≤ 9) (h2 : ts.length ≤ 9) (h3 : hs.length = fs.length) (h4 : ts.length = ls.length) : loadE hs fs ts ls = tRun ts ls (hRun hs fs hs.length) ts.length := by
  unfold loadE
  rw [if_neg (by omega), if_neg (by omega)]
theorem loadE_h (h1 : hs.length ≤ 9) (h2 : ts.length ≤ 9) (h3 : hs.length = fs.length) (h4 : ts.length = ls.length) {k : Nat} (hk : k < hs.length) (e : (hRun hs fs (k + 1)).1 ≠ 0) : loadE hs fs ts ls = hRun hs fs (k + 1) := by
  rw [loadE_all h1 h2 h3 h4, hRun_err e hs.length hk]
  exact tRun_err (i := 0) e ts.length (Nat.zero_le _)
theorem loadE_t (h1 : hs.length ≤ 9) (h2 : ts.length ≤ 9) (h3 : hs.length = fs.length) (h4 : ts.length = ls.length) {k : Nat} (hk : k < ts.length) (e : (tRun ts ls (hRun hs fs hs.length) (k + 1)).1 ≠ 0) : loadE hs fs ts ls = tRun ts ls (hRun hs fs hs.length) (k + 1) := by
  rw [loadE_all h1 h2 h3 h4]
  exact tRun_err e _ hk
end

theorem weigh_ld {v den : Rg} (hv : RgIn v 0 1000000000) (hd : RgIn den 0 2000) : RgIn (weighS v den) 0 2000000000 := by
  obtain ⟨a1, a2, a3⟩ := hv
  obtain ⟨b1, b2, b3⟩ := hd
  have m1 := Int.mul_nonneg a1 b1
  have m2 : v.lo * den.lo ≤ v.hi * den.hi := Int.mul_le_mul a2 b2 b1 (by omega)
  have m3 : v.hi * den.hi ≤ 1000000000 * 2000 := Int.mul_le_mul a3 b3 (by omega) (by omega)
  unfold weighS
  exact ⟨by dsimp only; omega, by dsimp only; omega, by dsimp only; omega⟩

theorem heelE_in (h : Ho) (f : Fi) : RgIn (heelE h f) 0 2000000000 := by
  unfold heelE
  split
  · rename_i e
    obtain ⟨h0, h1⟩ := fill_ok e
    exact weigh_ld (momS_in h0 f) (den_in h1)
  · exact ⟨Int.le_refl _, Int.le_refl _, by decide⟩
theorem srfE_in (t : Tk) (l : Lv) : RgIn (srfE t l) 0 2000000000 := by
  unfold srfE
  split
  · rename_i e
    obtain ⟨h0, h1⟩ := level_ok e
    have k := weigh_ld (overE_pos h0.tabs.2.1.1 l.snd) (lden_in h1)
    unfold srfS
    split
    · exact ⟨Int.le_refl _, Int.le_refl _, by decide⟩
    · split
      · exact ⟨Int.le_refl _, by have := k.a; have := k.b; dsimp only; omega, k.c⟩
      · exact k
  · exact ⟨Int.le_refl _, Int.le_refl _, by decide⟩

/-- The sums of so many steps. -/
def Small (k : Nat) (r : Rg) : Prop := (0 ≤ r.lo ∧ r.lo ≤ 2000000000 * (k : Int)) ∧ (0 ≤ r.hi ∧ r.hi ≤ 2000000000 * (k : Int))
theorem Small.zero : Small 0 ⟨0, 0⟩ := ⟨⟨by decide, by decide⟩, by decide, by decide⟩
theorem Small.mono {k j : Nat} {r : Rg} (h : Small k r) (hk : k ≤ j) : Small j r := by
  unfold Small at *
  omega
theorem Small.add {k : Nat} {r s : Rg} (h : Small k r) (hs : RgIn s 0 2000000000) : Small (k + 1) (addR r s) := by
  obtain ⟨a, b, c⟩ := hs
  unfold Small addR at *
  dsimp only
  omega
theorem hRun_small (hs : List Ho) (fs : List Fi) : ∀ k, Small k (hRun hs fs k).2.sur ∧ Small k (hRun hs fs k).2.shi
  | 0 => ⟨Small.zero, Small.zero⟩
  | k + 1 => by
    have ih := hRun_small hs fs k
    show Small (k + 1) (hStep hs fs k (hRun hs fs k)).2.sur ∧ Small (k + 1) (hStep hs fs k (hRun hs fs k)).2.shi
    unfold hStep
    split
    · exact ⟨ih.1.mono (by omega), ih.2.mono (by omega)⟩
    split
    · exact ⟨Small.zero.mono (by omega), Small.zero.mono (by omega)⟩
    split
    · exact ⟨Small.zero.mono (by omega), Small.zero.mono (by omega)⟩
    · exact ⟨ih.1.mono (by omega), ih.2.add (heelE_in _ _)⟩
theorem tRun_small (ts : List Tk) (ls : List Lv) {s : Int × Ld} {n : Nat} (h : Small n s.2.sur ∧ Small n s.2.shi) : ∀ k, Small (n + k) (tRun ts ls s k).2.sur ∧ Small (n + k) (tRun ts ls s k).2.shi
  | 0 => h
  | k + 1 => by
    have ih := tRun_small ts ls h k
    show Small (n + k + 1) (tStep ts ls k (tRun ts ls s k)).2.sur ∧ Small (n + k + 1) (tStep ts ls k (tRun ts ls s k)).2.shi
    unfold tStep
    split
    · exact ⟨ih.1.mono (by omega), ih.2.mono (by omega)⟩
    split
    · exact ⟨Small.zero.mono (by omega), Small.zero.mono (by omega)⟩
    split
    · exact ⟨Small.zero.mono (by omega), Small.zero.mono (by omega)⟩
    · exact ⟨ih.1.add (srfE_in _ _), ih.2.mono (by omega)⟩

/-- The cells of an element. -/
theorem HsAt.cells {w : World} {s : Sl Ho} (h : HsAt w s) (hn : s.n ≠ 0) : ∃ b o, s.p = some ⟨b, o, none⟩ ∧ b < w.heap.size ∧ ∀ i, i < s.n →
    w.cell? ⟨b, o + i * 14, none⟩ = some (.int .i64 (hv s.xs i).id) ∧ w.cell? ⟨b, o + i * 14 + 1, none⟩ = some (.int .i64 (hv s.xs i).along.lo) ∧ w.cell? ⟨b, o + i * 14 + 2, none⟩ = some (.int .i64 (hv s.xs i).along.hi) ∧
    w.cell? ⟨b, o + i * 14 + 3, none⟩ = some (.slice (hv s.xs i).vol.p (hv s.xs i).vol.n (hv s.xs i).vol.c) ∧ w.cell? ⟨b, o + i * 14 + 4, none⟩ = some (.slice (hv s.xs i).mom.p (hv s.xs i).mom.n (hv s.xs i).mom.c) ∧ w.cell? ⟨b, o + i * 14 + 5, none⟩ = some (.slice (hv s.xs i).hei.p (hv s.xs i).hei.n (hv s.xs i).hei.c) ∧
    w.cell? ⟨b, o + i * 14 + 6, none⟩ = some (.int .i64 (hv s.xs i).tri.lo) ∧ w.cell? ⟨b, o + i * 14 + 7, none⟩ = some (.int .i64 (hv s.xs i).tri.hi) ∧ w.cell? ⟨b, o + i * 14 + 8, none⟩ = some (.int .i64 (hv s.xs i).unt.lo) ∧ w.cell? ⟨b, o + i * 14 + 9, none⟩ = some (.int .i64 (hv s.xs i).unt.hi) ∧
    w.cell? ⟨b, o + i * 14 + 10, none⟩ = some (.int .i64 (hv s.xs i).v0.lo) ∧ w.cell? ⟨b, o + i * 14 + 11, none⟩ = some (.int .i64 (hv s.xs i).v0.hi) ∧ w.cell? ⟨b, o + i * 14 + 12, none⟩ = some (.int .i64 (hv s.xs i).h0.lo) ∧ w.cell? ⟨b, o + i * 14 + 13, none⟩ = some (.int .i64 (hv s.xs i).h0.hi) := by
  obtain ⟨b, o, e, hb, hc⟩ := h.2.1.2.2 hn
  refine ⟨b, o, e, hb, fun i hi => ?_⟩
  have k := hc i hi
  exact ⟨k 0 _ rfl, k 1 _ rfl, k 2 _ rfl, k 3 _ rfl, k 4 _ rfl, k 5 _ rfl, k 6 _ rfl, k 7 _ rfl, k 8 _ rfl, k 9 _ rfl, k 10 _ rfl, k 11 _ rfl, k 12 _ rfl, k 13 _ rfl⟩
theorem FsAt.cells {w : World} {s : Sl Fi} (h : FsAt w s) (hn : s.n ≠ 0) : ∃ b o, s.p = some ⟨b, o, none⟩ ∧ b < w.heap.size ∧ ∀ i, i < s.n →
    w.cell? ⟨b, o + i * 6, none⟩ = some (.int .i64 (fiv s.xs i).hold) ∧ w.cell? ⟨b, o + i * 6 + 1, none⟩ = some (.int .i64 (fiv s.xs i).state) ∧ w.cell? ⟨b, o + i * 6 + 2, none⟩ = some (.int .i64 (fiv s.xs i).ull.lo) ∧
    w.cell? ⟨b, o + i * 6 + 3, none⟩ = some (.int .i64 (fiv s.xs i).ull.hi) ∧ w.cell? ⟨b, o + i * 6 + 4, none⟩ = some (.int .i64 (fiv s.xs i).den.lo) ∧ w.cell? ⟨b, o + i * 6 + 5, none⟩ = some (.int .i64 (fiv s.xs i).den.hi) := by
  obtain ⟨b, o, e, hb, hc⟩ := h.2.2.2 hn
  refine ⟨b, o, e, hb, fun i hi => ?_⟩
  have k := hc i hi
  exact ⟨k 0 _ rfl, k 1 _ rfl, k 2 _ rfl, k 3 _ rfl, k 4 _ rfl, k 5 _ rfl⟩
theorem TsAt.cells {w : World} {s : Sl Tk} (h : TsAt w s) (hn : s.n ≠ 0) : ∃ b o, s.p = some ⟨b, o, none⟩ ∧ b < w.heap.size ∧ ∀ i, i < s.n →
    w.cell? ⟨b, o + i * 6, none⟩ = some (.int .i64 (tv s.xs i).id) ∧ w.cell? ⟨b, o + i * 6 + 1, none⟩ = some (.int .i64 (tv s.xs i).along.lo) ∧ w.cell? ⟨b, o + i * 6 + 2, none⟩ = some (.int .i64 (tv s.xs i).along.hi) ∧
    w.cell? ⟨b, o + i * 6 + 3, none⟩ = some (.slice (tv s.xs i).vol.p (tv s.xs i).vol.n (tv s.xs i).vol.c) ∧ w.cell? ⟨b, o + i * 6 + 4, none⟩ = some (.slice (tv s.xs i).sur.p (tv s.xs i).sur.n (tv s.xs i).sur.c) ∧ w.cell? ⟨b, o + i * 6 + 5, none⟩ = some (.slice (tv s.xs i).hei.p (tv s.xs i).hei.n (tv s.xs i).hei.c) := by
  obtain ⟨b, o, e, hb, hc⟩ := h.2.1.2.2 hn
  refine ⟨b, o, e, hb, fun i hi => ?_⟩
  have k := hc i hi
  exact ⟨k 0 _ rfl, k 1 _ rfl, k 2 _ rfl, k 3 _ rfl, k 4 _ rfl, k 5 _ rfl⟩
theorem LsAt.cells {w : World} {s : Sl Lv} (h : LsAt w s) (hn : s.n ≠ 0) : ∃ b o, s.p = some ⟨b, o, none⟩ ∧ b < w.heap.size ∧ ∀ i, i < s.n →
    w.cell? ⟨b, o + i * 6, none⟩ = some (.int .i64 (lv s.xs i).tank) ∧ w.cell? ⟨b, o + i * 6 + 1, none⟩ = some (.bool (lv s.xs i).pressed) ∧ w.cell? ⟨b, o + i * 6 + 2, none⟩ = some (.int .i64 (lv s.xs i).snd.lo) ∧
    w.cell? ⟨b, o + i * 6 + 3, none⟩ = some (.int .i64 (lv s.xs i).snd.hi) ∧ w.cell? ⟨b, o + i * 6 + 4, none⟩ = some (.int .i64 (lv s.xs i).den.lo) ∧ w.cell? ⟨b, o + i * 6 + 5, none⟩ = some (.int .i64 (lv s.xs i).den.hi) := by
  obtain ⟨b, o, e, hb, hc⟩ := h.2.2.2 hn
  refine ⟨b, o, e, hb, fun i hi => ?_⟩
  have k := hc i hi
  exact ⟨k 0 _ rfl, k 1 _ rfl, k 2 _ rfl, k 3 _ rfl, k 4 _ rfl, k 5 _ rfl⟩
theorem WsAt.cells {w : World} {s : Sl Wt} (h : WsAt w s) (hn : s.n ≠ 0) : ∃ b o, s.p = some ⟨b, o, none⟩ ∧ b < w.heap.size ∧ ∀ i, i < s.n →
    w.cell? ⟨b, o + i * 6, none⟩ = some (.int .i64 (wv s.xs i).mass.lo) ∧ w.cell? ⟨b, o + i * 6 + 1, none⟩ = some (.int .i64 (wv s.xs i).mass.hi) ∧ w.cell? ⟨b, o + i * 6 + 2, none⟩ = some (.int .i64 (wv s.xs i).along.lo) ∧
    w.cell? ⟨b, o + i * 6 + 3, none⟩ = some (.int .i64 (wv s.xs i).along.hi) ∧ w.cell? ⟨b, o + i * 6 + 4, none⟩ = some (.int .i64 (wv s.xs i).high.lo) ∧ w.cell? ⟨b, o + i * 6 + 5, none⟩ = some (.int .i64 (wv s.xs i).high.hi) := by
  obtain ⟨b, o, e, hb, hc⟩ := h.2.2.2 hn
  refine ⟨b, o, e, hb, fun i hi => ?_⟩
  have k := hc i hi
  exact ⟨k 0 _ rfl, k 1 _ rfl, k 2 _ rfl, k 3 _ rfl, k 4 _ rfl, k 5 _ rfl⟩

theorem OwnW.alloc {w : World} {B : Nat} {v : Value} {l : List Wt} (h : OwnW w B v l) (o : Obj) : OwnW (w.alloc o) B v l := World.ownsRow.alloc h o
theorem OwnW.bel {w w' : World} {B B' : Nat} {v : Value} {l : List Wt} (h : OwnW w B v l) (hb : Below B' w w') (hv : ∀ k, v.ownBlock = some k → k < B') : OwnW w' B v l := by
  refine ⟨h.1, ?_⟩
  rcases h.2 with hn | ⟨g, cap, cur, rfl, hb', hgg, rest⟩
  · exact .inl hn
  · exact .inr ⟨g, cap, cur, rfl, hb', (hb.block g (hv g rfl)).trans hgg, rest⟩
theorem OwnW.same {w w' : World} {B : Nat} {v : Value} {l : List Wt} (h : OwnW w B v l) (hb : Below w.heap.size w w') : OwnW w' B v l := h.bel hb fun k hk => (World.ownsRow.lt h k hk).2
theorem OwnW.bw {w : World} {B : Nat} {v : Value} {l : List Wt} (h : OwnW w B v l) (x : Soft.BW w) : OwnW x.w B v l := h.same x.below
theorem OwnW.set {w : World} {B : Nat} {v : Value} {l : List Wt} (h : OwnW w B v l) {p : Addr} (hp : p.block < B) (u : Value) : OwnW (w.setCell p u) B v l := by
  refine ⟨h.1, ?_⟩
  rcases h.2 with hn | ⟨g, cap, cur, rfl, hb', hgg, rest⟩
  · exact .inl hn
  · exact .inr ⟨g, cap, cur, rfl, hb', (Below.heap_setCell w p u g (by omega)).trans hgg, rest⟩
theorem OwnW.row {w : World} {B : Nat} {v : Value} {l : List Wt} (h : OwnW w B v l) {X : Nat} (hp : X < B) (cs : Array Value) : OwnW (w.setRow X cs) B v l := by
  refine ⟨h.1, ?_⟩
  rcases h.2 with hn | ⟨g, cap, cur, rfl, hb', hgg, rest⟩
  · exact .inl hn
  · exact .inr ⟨g, cap, cur, rfl, hb', (setRow_other w X g cs (by omega)).trans hgg, rest⟩

/-- The cells of a load whose list of weights is v. -/
abbrev ldC (v : Value) (s : Ld) : Array Value := #[v, .int .i64 s.sur.lo, .int .i64 s.sur.hi, .int .i64 s.shi.lo, .int .i64 s.shi.hi]
/-- What the loops of a load carry: the result's block at o, the load's own one behind it, its weights from B on. -/
structure LdRel (w : World) (B : Nat) (wr : World) (v : Value) (s : Ld) : Prop where
  out : HasBlk wr (w.heap.size + 1) (ldC v s) 58
  own : OwnW wr B v s.ws
  res : HasBlk wr w.heap.size (ldC (.slice none 0 0) ld0) 58
  bel : Below w.heap.size w wr
  lb : w.heap.size + 2 ≤ B
  lt : B ≤ wr.heap.size
theorem LdRel.call {w wr W : World} {B : Nat} {v : Value} {s : Ld} (h : LdRel w B wr v s) (hb : Below wr.heap.size wr W) : LdRel w B W v s :=
  ⟨h.out.below hb, h.own.same hb, h.res.below hb, bel_step h.bel hb, h.lb, Nat.le_trans h.lt hb.size⟩
theorem LdRel.shi {w wr : World} {B : Nat} {v : Value} {s : Ld} (h : LdRel w B wr v s) (a b : Int) : LdRel w B ((wr.setCell ⟨w.heap.size + 1, 3, none⟩ (.int .i64 a)).setCell ⟨w.heap.size + 1, 4, none⟩ (.int .i64 b)) v ⟨s.ws, s.sur, ⟨a, b⟩⟩ :=
  ⟨(h.out.put 3 _).put 4 _, (h.own.set (by have := h.lb; dsimp only; omega) _).set (by have := h.lb; dsimp only; omega) _, (h.res.set_other (by simp) _).set_other (by simp) _, (h.bel.setCell (by simp) _).setCell (by simp) _, h.lb, by have := h.lt; simp; omega⟩
theorem LdRel.sur {w wr : World} {B : Nat} {v : Value} {s : Ld} (h : LdRel w B wr v s) (a b : Int) : LdRel w B ((wr.setCell ⟨w.heap.size + 1, 1, none⟩ (.int .i64 a)).setCell ⟨w.heap.size + 1, 2, none⟩ (.int .i64 b)) v ⟨s.ws, ⟨a, b⟩, s.shi⟩ :=
  ⟨(h.out.put 1 _).put 2 _, (h.own.set (by have := h.lb; dsimp only; omega) _).set (by have := h.lb; dsimp only; omega) _, (h.res.set_other (by simp) _).set_other (by simp) _, (h.bel.setCell (by simp) _).setCell (by simp) _, h.lb, by have := h.lt; simp; omega⟩
theorem LdRel.app {w wr W : World} {B : Nat} {v v' : Value} {s : Ld} {y : Wt} (h : LdRel w B wr v s) (ho : OwnW W B v' (s.ws ++ [y])) (hb : Below B wr W) : LdRel w B (W.setCell ⟨w.heap.size + 1, 0, none⟩ v') v' ⟨s.ws ++ [y], s.sur, s.shi⟩ := by
  have hB := h.lb
  refine ⟨HasBlk.put (c := ldC v s) ((hb.block _ (by omega)).trans h.out) 0 v', ho.set (by dsimp only; omega) _, HasBlk.set_other ((hb.block _ (by omega)).trans h.res) (by simp) _, ?_, hB, ?_⟩
  · exact (h.bel.trans (hb.mono (by omega))).setCell (by simp) _
  · have := h.lt; have := hb.size; simp; omega
/-- The weights that are handed back at the end. -/
theorem OwnW.at0 {w : World} {B : Nat} {v : Value} {l : List Wt} (h : OwnW w B v l) : ∃ p c, v = .slice p l.length c ∧ WsAt w ⟨p, l.length, c, l⟩ ∧ (p = none → c = 0) := by
  by_cases hn : l = []
  · obtain ⟨hl, hr⟩ := h
    rcases hr with ⟨e, _⟩ | ⟨g, c, cur, e, hb, hg, h1, h2, _⟩
    · exact ⟨none, 0, by rw [e, hn]; rfl, by rw [hn]; exact wsAt_nil _, fun _ => rfl⟩
    · exact ⟨_, c, e, ⟨rfl, h1, h2, fun hne => absurd (by rw [hn]; rfl) hne⟩, fun h => by cases h⟩
  · obtain ⟨p, c, e, ha⟩ := h.at hn
    refine ⟨p, c, e, ha, fun hp => ?_⟩
    obtain ⟨b, o, e2, _⟩ := ha.2.2.2 (fun h0 => hn (List.eq_nil_of_length_eq_zero h0))
    dsimp only at e2
    rw [hp] at e2
    cases e2

/-- A load as a function hands it back. -/
def LdPost (w : World) (E : Int × Ld) (e : Ending) (w' : World) : Prop :=
  ∃ (p : Option Addr) (c : Nat), e = .returned (.tuple #[.agg #[.slice p E.2.ws.length c, .int .i64 E.2.sur.lo, .int .i64 E.2.sur.hi, .int .i64 E.2.shi.lo, .int .i64 E.2.shi.hi], .int .i64 E.1]) ∧ WsAt w' ⟨p, E.2.ws.length, c, E.2.ws⟩ ∧ Below w.heap.size w w' ∧ (p = none → c = 0)
theorem loadPost_zero {w W : World} {E : Int × Ld} {er : Int} (hE : E = (er, ld0)) (hb : Below w.heap.size w W) : LdPost w E (.returned (.tuple #[.agg #[.slice none 0 0, .int .i64 0, .int .i64 0, .int .i64 0, .int .i64 0], .int .i64 er])) W := by
  subst hE
  exact ⟨none, 0, rfl, wsAt_nil _, hb, fun _ => rfl⟩
theorem loadPost_end {w W : World} {B : Nat} {v : Value} {E : Int × Ld} {s : Ld} (hE : E = (0, s)) (h : OwnW W B v s.ws) (hb : Below w.heap.size w W) : LdPost w E (.returned (.tuple #[.agg (ldC v s), .int .i64 0])) W := by
  subst hE
  obtain ⟨p, c, rfl, ha, hc⟩ := h.at0
  exact ⟨p, c, rfl, ha, hb, hc⟩

end Go.Proofs.YteagdcgmmdiakaaGreat
