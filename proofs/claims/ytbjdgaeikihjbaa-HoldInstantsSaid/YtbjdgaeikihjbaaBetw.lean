/-
  hold: Between.
  Conditions: each theorem's own premises.
-/
import Derived.Test.YtbjdgaeikihjbaaPlac
import Derived.Test.YtbjdgaeikihjbaaLit
import Derived.LoopN
namespace Go.Proofs.Ytbjdgaeikihjbaa
set_option linter.unusedSimpArgs false
set_option linter.unusedVariables false
open Go.RowKit
set_option maxRecDepth 100000
set_option maxHeartbeats 4000000
attribute [local go_sem] Instr.field asAgg Soft.upon Soft.BW.cell_if Soft.BW.frozen_if Soft.cell_alloc_if Soft.frozen_alloc_if

/-- A slice of fills as it lies in memory. -/
structure Fs where
  p : Option Addr
  n : Nat
  c : Nat
  xs : List Fi
abbrev fv (l : List Fi) (i : Nat) : Fi := l[i]?.getD default
def Fs.At (w : World) (s : Fs) : Prop :=
  s.xs.length = s.n ∧ s.n ≤ s.c ∧ s.c ≤ 9223372036854775807 ∧ (s.n ≠ 0 → ∃ b o, s.p = some ⟨b, o, none⟩ ∧ b < w.heap.size ∧
    ∀ i, i < s.n → w.cell? ⟨b, o + i * 6, none⟩ = some (.int .i64 (fv s.xs i).hold) ∧ w.cell? ⟨b, o + i * 6 + 1, none⟩ = some (.int .i64 (fv s.xs i).state) ∧ w.cell? ⟨b, o + i * 6 + 2, none⟩ = some (.int .i64 (fv s.xs i).ull.lo) ∧
      w.cell? ⟨b, o + i * 6 + 3, none⟩ = some (.int .i64 (fv s.xs i).ull.hi) ∧ w.cell? ⟨b, o + i * 6 + 4, none⟩ = some (.int .i64 (fv s.xs i).den.lo) ∧ w.cell? ⟨b, o + i * 6 + 5, none⟩ = some (.int .i64 (fv s.xs i).den.hi))
theorem Fs.At.same {w w' : World} {s : Fs} (h : s.At w) (hb : Below w.heap.size w w') : s.At w' := by
  obtain ⟨h1, h2, h3, h4⟩ := h
  refine ⟨h1, h2, h3, fun hn => ?_⟩
  obtain ⟨b, o, e, hlt, hc⟩ := h4 hn
  refine ⟨b, o, e, Nat.lt_of_lt_of_le hlt hb.size, fun i hi => ?_⟩
  have key : ∀ k, w'.cell? ⟨b, k, none⟩ = w.cell? ⟨b, k, none⟩ := fun k => hb.cell (p := ⟨b, k, none⟩) hlt
  rw [key, key, key, key, key, key]
  exact hc i hi
theorem Fs.At.alloc {w : World} {s : Fs} (h : s.At w) (o : Obj) : s.At (w.alloc o) := h.same ((Below.refl _ _).alloc (Nat.le_refl _) o)
theorem Fs.At.bw {w : World} {s : Fs} (h : s.At w) (x : Soft.BW w) : s.At x.w := h.same x.below
theorem Fs.At.drew {w : World} {s : Fs} (h : s.At w) : s.At w.drew := h

/-- The fill between two of them. -/
def midS (h : Ho) (f g : Fi) : Fi := ⟨f.hold, 3, hullS (placeS h f) (placeS h g), if g.state = 0 then f.den else if f.state = 0 then g.den else hullS f.den g.den⟩
def betE (h : Ho) (f g : Fi) : List Fi × Int :=
  if fillErr h f ≠ 0 then ([], fillErr h f) else if fillErr h g ≠ 0 then ([], fillErr h g) else if f.state = g.state then ([⟨f.hold, f.state, hullS f.ull g.ull, hullS f.den g.den⟩], 0) else ([f, midS h f g, g], 0)

def BetPost (l : List Fi) (er : Int) (w : World) (e : Ending) (w' : World) : Prop :=
  ∃ s : Fs, e = .returned (.tuple #[.slice s.p s.n s.c, .int .i64 er]) ∧ s.At w' ∧ s.xs = l ∧ Below w.heap.size w w'

theorem fs_of_blk1 {w : World} {g : Nat} {a : Fi} {t : TypeId} (h : HasBlk w g #[.int .i64 (a).hold, .int .i64 (a).state, .int .i64 ((a).ull).lo, .int .i64 ((a).ull).hi, .int .i64 ((a).den).lo, .int .i64 ((a).den).hi] t) : Fs.At w ⟨some ⟨g, 0, none⟩, 1, 1, [a]⟩ := by
  refine ⟨rfl, Nat.le_refl _, by dsimp only; omega, fun _ => ⟨g, 0, rfl, h.lt, fun i hi => ?_⟩⟩
  dsimp only at hi
  match i, hi with
  | 0, _ => exact ⟨h.cell 0, h.cell 1, h.cell 2, h.cell 3, h.cell 4, h.cell 5⟩
theorem fs_of_blk3 {w : World} {g : Nat} {a b c : Fi} {t : TypeId} (h : HasBlk w g #[.int .i64 (a).hold, .int .i64 (a).state, .int .i64 ((a).ull).lo, .int .i64 ((a).ull).hi, .int .i64 ((a).den).lo, .int .i64 ((a).den).hi, .int .i64 (b).hold, .int .i64 (b).state, .int .i64 ((b).ull).lo, .int .i64 ((b).ull).hi, .int .i64 ((b).den).lo, .int .i64 ((b).den).hi, .int .i64 (c).hold, .int .i64 (c).state, .int .i64 ((c).ull).lo, .int .i64 ((c).ull).hi, .int .i64 ((c).den).lo, .int .i64 ((c).den).hi] t) : Fs.At w ⟨some ⟨g, 0, none⟩, 3, 3, [a, b, c]⟩ := by
  refine ⟨rfl, Nat.le_refl _, by dsimp only; omega, fun _ => ⟨g, 0, rfl, h.lt, fun i hi => ?_⟩⟩
  dsimp only at hi
  match i, hi with
  | 0, _ => exact ⟨h.cell 0, h.cell 1, h.cell 2, h.cell 3, h.cell 4, h.cell 5⟩
  | 1, _ => exact ⟨h.cell 6, h.cell 7, h.cell 8, h.cell 9, h.cell 10, h.cell 11⟩
  | 2, _ => exact ⟨h.cell 12, h.cell 13, h.cell 14, h.cell 15, h.cell 16, h.cell 17⟩


theorem fs_nil (w : World) : Fs.At w ⟨none, 0, 0, []⟩ := ⟨rfl, Nat.le_refl _, by dsimp only; omega, fun h => absurd rfl h⟩


theorem hold_Between (h : Ho) (f g : Fi) (w : World) (hh : h.At w) :
    Calls Try.prog 46 #[.agg #[.int .i64 (h).id, .int .i64 ((h).along).lo, .int .i64 ((h).along).hi, .slice ((h).vol).p ((h).vol).n ((h).vol).c, .slice ((h).mom).p ((h).mom).n ((h).mom).c, .slice ((h).hei).p ((h).hei).n ((h).hei).c, .int .i64 ((h).tri).lo, .int .i64 ((h).tri).hi, .int .i64 ((h).unt).lo, .int .i64 ((h).unt).hi, .int .i64 ((h).v0).lo, .int .i64 ((h).v0).hi, .int .i64 ((h).h0).lo, .int .i64 ((h).h0).hi], .agg #[.int .i64 (f).hold, .int .i64 (f).state, .int .i64 ((f).ull).lo, .int .i64 ((f).ull).hi, .int .i64 ((f).den).lo, .int .i64 ((f).den).hi], .agg #[.int .i64 (g).hold, .int .i64 (g).state, .int .i64 ((g).ull).lo, .int .i64 ((g).ull).hi, .int .i64 ((g).den).lo, .int .i64 ((g).den).hi]] w (BetPost (betE h f g).1 (betE h f g).2 w) := by
  by_cases cf : fillErr h f = 0
  · have dF : (fillErr h f != 0) = false := by rw [cf]; rfl
    by_cases cg : fillErr h g = 0
    · have dG : (fillErr h g != 0) = false := by rw [cg]; rfl
      obtain ⟨h0, h1⟩ := fill_ok cf
      obtain ⟨_, h2⟩ := fill_ok cg
      have CHD : Hid (∀ W, Calls Try.prog 74 #[.agg #[.int .i64 (f.den).lo, .int .i64 (f.den).hi], .agg #[.int .i64 (g.den).lo, .int .i64 (g.den).hi]] W fun e w' => e = .returned (.agg #[.int .i64 ((hullS f.den g.den)).lo, .int .i64 ((hullS f.den g.den)).hi]) ∧ Below W.heap.size W w') := Lib.hid (fun W => hold_hull _ _ W)
      by_cases cs : f.state = g.state
      · have HV := Lib.hid (show betE h f g = ([⟨f.hold, f.state, hullS f.ull g.ull, hullS f.den g.den⟩], 0) by unfold betE; rw [if_neg (by omega), if_neg (by omega), if_pos cs])
        have ds : (f.state == g.state) = true := by rw [cs]; simp
        have CHP : Hid (∀ W, Calls Try.prog 74 #[.agg #[.int .i64 (f.ull).lo, .int .i64 (f.ull).hi], .agg #[.int .i64 (g.ull).lo, .int .i64 (g.ull).hi]] W fun e w' => e = .returned (.agg #[.int .i64 ((hullS f.ull g.ull)).lo, .int .i64 ((hullS f.ull g.ull)).hi]) ∧ Below W.heap.size W w') := Lib.hid (fun W => hold_hull _ _ W)
        rw [HV.out]
        clear cf cg cs h0 h1 h2 HV
        generalize hullS f.ull g.ull = hp at *
        generalize hullS f.den g.den = hd at *
        go_enter Try.func46, Try.ntmps46
        go_wp2_with fail
        refine wp_loop_rounds 3 ?_
        rw [rounds_succ]
        go_wp2_with ((go_at_call 68; (with_reducible refine (hold_CheckFill h f _ (by with_reducible repeat (first | exact hh | refine Ho.At.alloc ?_ _ | refine Ho.At.bw ?_ _ | refine Tk.At.alloc ?_ _ | refine Tk.At.bw ?_ _))).mono ?_); rintro e w_ ⟨rfl, hb_⟩; obtain ⟨y1, rfl⟩ := Soft.BW.mk hb_; clear hb_))
        rw [rounds_succ]
        go_wp2_with ((go_at_call 68; (with_reducible refine (hold_CheckFill h g _ (by with_reducible repeat (first | exact hh | refine Ho.At.alloc ?_ _ | refine Ho.At.bw ?_ _ | refine Tk.At.alloc ?_ _ | refine Tk.At.bw ?_ _))).mono ?_); rintro e w_ ⟨rfl, hb_⟩; obtain ⟨y2, rfl⟩ := Soft.BW.mk hb_; clear hb_))
        rw [rounds_succ]
        go_wp2_with fail
        (refine Soft.region1 [0, 1, 2, 3, 4, 5, 6, 7, 8, 9, 10, 11, 12, 13, 14] 15 [16, 17] _ (by kernel_rfl) (by kernel_rfl) (by kernel_rfl) rfl rfl (by kernel_rfl) ?_; change Soft.wpSoft _ _ _ _ _ [_, _, _, _, _, _, _, _, _, _, _, _, _, _, _] _; (repeat (refine Soft.soft_step (fun K hK => ?_); go_simp; (try go_bits); first | (refine hK _ ?_; clear hK K) | (apply Exists.intro; refine ⟨fun x => ?_, hK _ ?_⟩; (first | (go_at_call 74; with_reducible exact (CHP.out _)) | (go_at_call 74; with_reducible exact (CHD.out _))); clear hK K))); refine Soft.soft_nil ?_)
        refine ⟨fun b => .slice (some ⟨b, 0, none⟩) 1 1, .cells #[.int .i64 f.hold, .int .i64 f.state, .int .i64 hp.lo, .int .i64 hp.hi, .int .i64 hd.lo, .int .i64 hd.hi] 38, fun x => by go_simp, fun kb xx hnew => ?_⟩
        change wpList _ _ _ [_, _] _ _
        obtain ⟨N, x1, rfl, ex⟩ := newSplit hnew
        rw [ex]
        clear hnew ex xx
        go_wp2_with fail
        go_ret2
        refine ⟨⟨some ⟨N.w.heap.size, 0, none⟩, 1, 1, [⟨f.hold, f.state, hp, hd⟩]⟩, rfl, fs_of_blk1 (a := ⟨f.hold, f.state, hp, hd⟩) (HasBlk.below (Soft.heap_new N.w _) x1.below), rfl, ?_⟩
        (repeat (first | with_reducible exact bel_refl _ | with_reducible refine bel_alloc ?_ _ | with_reducible refine bel_bw _ ?_ | with_reducible refine bel_drew ?_ | with_reducible refine bel_drewN _ ?_ | ((with_reducible refine bel_set ?_ ?_ _); rotate_left; focus (first | (simp; done) | omega | (simp; omega))) | refine bel_step ?_ (by with_reducible assumption)))
      · have HV := Lib.hid (show betE h f g = ([f, midS h f g, g], 0) by unfold betE; rw [if_neg (by omega), if_neg (by omega), if_neg cs])
        have ds : (f.state == g.state) = false := by rw [beq_eq_false_iff_ne]; exact cs
        have CPF : Hid (∀ W, h.At W → Calls Try.prog 95 #[.agg #[.int .i64 (h).id, .int .i64 ((h).along).lo, .int .i64 ((h).along).hi, .slice ((h).vol).p ((h).vol).n ((h).vol).c, .slice ((h).mom).p ((h).mom).n ((h).mom).c, .slice ((h).hei).p ((h).hei).n ((h).hei).c, .int .i64 ((h).tri).lo, .int .i64 ((h).tri).hi, .int .i64 ((h).unt).lo, .int .i64 ((h).unt).hi, .int .i64 ((h).v0).lo, .int .i64 ((h).v0).hi, .int .i64 ((h).h0).lo, .int .i64 ((h).h0).hi], .agg #[.int .i64 (f).hold, .int .i64 (f).state, .int .i64 ((f).ull).lo, .int .i64 ((f).ull).hi, .int .i64 ((f).den).lo, .int .i64 ((f).den).hi]] W fun e w' => e = .returned (.agg #[.int .i64 ((placeS h f)).lo, .int .i64 ((placeS h f)).hi]) ∧ Below W.heap.size W w') := Lib.hid (fun W hW => hold_place h f W hW h0 (state_in h1))
        have CPG : Hid (∀ W, h.At W → Calls Try.prog 95 #[.agg #[.int .i64 (h).id, .int .i64 ((h).along).lo, .int .i64 ((h).along).hi, .slice ((h).vol).p ((h).vol).n ((h).vol).c, .slice ((h).mom).p ((h).mom).n ((h).mom).c, .slice ((h).hei).p ((h).hei).n ((h).hei).c, .int .i64 ((h).tri).lo, .int .i64 ((h).tri).hi, .int .i64 ((h).unt).lo, .int .i64 ((h).unt).hi, .int .i64 ((h).v0).lo, .int .i64 ((h).v0).hi, .int .i64 ((h).h0).lo, .int .i64 ((h).h0).hi], .agg #[.int .i64 (g).hold, .int .i64 (g).state, .int .i64 ((g).ull).lo, .int .i64 ((g).ull).hi, .int .i64 ((g).den).lo, .int .i64 ((g).den).hi]] W fun e w' => e = .returned (.agg #[.int .i64 ((placeS h g)).lo, .int .i64 ((placeS h g)).hi]) ∧ Below W.heap.size W w') := Lib.hid (fun W hW => hold_place h g W hW h0 (state_in h2))
        have CHP : Hid (∀ W, Calls Try.prog 74 #[.agg #[.int .i64 ((placeS h f)).lo, .int .i64 ((placeS h f)).hi], .agg #[.int .i64 ((placeS h g)).lo, .int .i64 ((placeS h g)).hi]] W fun e w' => e = .returned (.agg #[.int .i64 ((hullS (placeS h f) (placeS h g))).lo, .int .i64 ((hullS (placeS h f) (placeS h g))).hi]) ∧ Below W.heap.size W w') := Lib.hid (fun W => hold_hull _ _ W)
        clear h0
        by_cases z1 : f.state = 0
        · have d1 : (f.state == 0) = true := by rw [z1]; rfl
          have d2 : (g.state == 0) = false := by rw [beq_eq_false_iff_ne]; omega
          have HD := Lib.hid (show betE h f g = ([f, ⟨f.hold, 3, hullS (placeS h f) (placeS h g), g.den⟩, g], 0) by rw [HV.out]; unfold midS; rw [if_neg (by omega), if_pos z1])
          rw [HD.out]
          clear cf cg cs h1 h2 HV HD z1
          generalize hullS (placeS h f) (placeS h g) = hp at *
          generalize hullS f.den g.den = hd at *
          go_enter Try.func46, Try.ntmps46
          go_wp2_with fail
          refine wp_loop_rounds 3 ?_
          rw [rounds_succ]
          go_wp2_with ((go_at_call 68; (with_reducible refine (hold_CheckFill h f _ (by with_reducible repeat (first | exact hh | refine Ho.At.alloc ?_ _ | refine Ho.At.bw ?_ _ | refine Tk.At.alloc ?_ _ | refine Tk.At.bw ?_ _))).mono ?_); rintro e w_ ⟨rfl, hb_⟩; obtain ⟨y1, rfl⟩ := Soft.BW.mk hb_; clear hb_))
          rw [rounds_succ]
          go_wp2_with ((go_at_call 68; (with_reducible refine (hold_CheckFill h g _ (by with_reducible repeat (first | exact hh | refine Ho.At.alloc ?_ _ | refine Ho.At.bw ?_ _ | refine Tk.At.alloc ?_ _ | refine Tk.At.bw ?_ _))).mono ?_); rintro e w_ ⟨rfl, hb_⟩; obtain ⟨y2, rfl⟩ := Soft.BW.mk hb_; clear hb_))
          rw [rounds_succ]
          go_wp2_with fail
          (refine Soft.region1 [0, 1, 2, 3, 4, 5, 6, 7, 8, 9, 10, 11, 12, 13, 14] 15 [16] _ (by kernel_rfl) (by kernel_rfl) (by kernel_rfl) rfl rfl (by kernel_rfl) ?_; change Soft.wpSoft _ _ _ _ _ [_, _, _, _, _, _, _, _, _, _, _, _, _, _, _] _; (repeat (refine Soft.soft_step (fun K hK => ?_); go_simp; (try go_bits); first | (refine hK _ ?_; clear hK K) | (apply Exists.intro; refine ⟨fun x => ?_, hK _ ?_⟩; (first | (go_at_call 95; with_reducible exact (CPF.out _ (by with_reducible repeat (first | exact hh | refine Ho.At.alloc ?_ _ | refine Ho.At.bw ?_ _ | refine Tk.At.alloc ?_ _ | refine Tk.At.bw ?_ _)))) | (go_at_call 95; with_reducible exact (CPG.out _ (by with_reducible repeat (first | exact hh | refine Ho.At.alloc ?_ _ | refine Ho.At.bw ?_ _ | refine Tk.At.alloc ?_ _ | refine Tk.At.bw ?_ _)))) | (go_at_call 74; with_reducible exact (CHP.out _)) | (go_at_call 74; with_reducible exact (CHD.out _))); clear hK K))); refine Soft.soft_nil ?_)
          refine ⟨fun b => .pointer (some ⟨b, 0, none⟩), .cells #[.int .i64 0, .int .i64 0, .int .i64 0, .int .i64 0, .int .i64 0, .int .i64 0] 38, fun x => by go_simp, fun kb xx hnew => ?_⟩
          change wpList _ _ _ [_] _ _
          obtain ⟨N, x1, rfl, ex⟩ := newSplit hnew
          rw [ex]
          clear hnew ex xx
          refine wpList_store_row rfl 38 _ _ rfl N.w.heap.size _ rfl rfl 38 _ (HasBlk.below (Soft.heap_new N.w _) x1.below) (by kernel_rfl) rfl (by kernel_rfl) ?_
          obtain ⟨q1, ex2, ex3⟩ := bwStore x1 #[.int .i64 f.hold, .int .i64 3, .int .i64 hp.lo, .int .i64 hp.hi, .int .i64 hd.lo, .int .i64 hd.hi]
          rw [ex2]
          clear ex2 ex3 x1
          obtain ⟨y2, e1, e2⟩ := bwPut q1 4 (.int .i64 (g.den).lo) _ rfl
          obtain ⟨y3, e3, e4⟩ := bwPut y2 5 (.int .i64 (g.den).hi) _ rfl
          clear e2 e4
          go_wp2_with fail
          go_ret2
          refine ⟨⟨some ⟨(y3.w).heap.size, 0, none⟩, 3, 3, [f, ⟨f.hold, 3, hp, g.den⟩, g]⟩, rfl, fs_of_blk3 (a := f) (b := ⟨f.hold, 3, hp, g.den⟩) (c := g) (Soft.heap_new _ _), rfl, ?_⟩
          (repeat (first | with_reducible exact bel_refl _ | with_reducible refine bel_alloc ?_ _ | with_reducible refine bel_bw _ ?_ | with_reducible refine bel_drew ?_ | with_reducible refine bel_drewN _ ?_ | ((with_reducible refine bel_set ?_ ?_ _); rotate_left; focus (first | (simp; done) | omega | (simp; omega))) | refine bel_step ?_ (by with_reducible assumption)))
        · have d1 : (f.state == 0) = false := by rw [beq_eq_false_iff_ne]; exact z1
          by_cases z2 : g.state = 0
          · have d2 : (g.state == 0) = true := by rw [z2]; rfl
            have HD := Lib.hid (show betE h f g = ([f, ⟨f.hold, 3, hullS (placeS h f) (placeS h g), f.den⟩, g], 0) by rw [HV.out]; unfold midS; rw [if_pos z2])
            rw [HD.out]
            clear cf cg cs h1 h2 HV HD z1 z2
            generalize hullS (placeS h f) (placeS h g) = hp at *
            generalize hullS f.den g.den = hd at *
            go_enter Try.func46, Try.ntmps46
            go_wp2_with fail
            refine wp_loop_rounds 3 ?_
            rw [rounds_succ]
            go_wp2_with ((go_at_call 68; (with_reducible refine (hold_CheckFill h f _ (by with_reducible repeat (first | exact hh | refine Ho.At.alloc ?_ _ | refine Ho.At.bw ?_ _ | refine Tk.At.alloc ?_ _ | refine Tk.At.bw ?_ _))).mono ?_); rintro e w_ ⟨rfl, hb_⟩; obtain ⟨y1, rfl⟩ := Soft.BW.mk hb_; clear hb_))
            rw [rounds_succ]
            go_wp2_with ((go_at_call 68; (with_reducible refine (hold_CheckFill h g _ (by with_reducible repeat (first | exact hh | refine Ho.At.alloc ?_ _ | refine Ho.At.bw ?_ _ | refine Tk.At.alloc ?_ _ | refine Tk.At.bw ?_ _))).mono ?_); rintro e w_ ⟨rfl, hb_⟩; obtain ⟨y2, rfl⟩ := Soft.BW.mk hb_; clear hb_))
            rw [rounds_succ]
            go_wp2_with fail
            (refine Soft.region1 [0, 1, 2, 3, 4, 5, 6, 7, 8, 9, 10, 11, 12, 13, 14] 15 [16] _ (by kernel_rfl) (by kernel_rfl) (by kernel_rfl) rfl rfl (by kernel_rfl) ?_; change Soft.wpSoft _ _ _ _ _ [_, _, _, _, _, _, _, _, _, _, _, _, _, _, _] _; (repeat (refine Soft.soft_step (fun K hK => ?_); go_simp; (try go_bits); first | (refine hK _ ?_; clear hK K) | (apply Exists.intro; refine ⟨fun x => ?_, hK _ ?_⟩; (first | (go_at_call 95; with_reducible exact (CPF.out _ (by with_reducible repeat (first | exact hh | refine Ho.At.alloc ?_ _ | refine Ho.At.bw ?_ _ | refine Tk.At.alloc ?_ _ | refine Tk.At.bw ?_ _)))) | (go_at_call 95; with_reducible exact (CPG.out _ (by with_reducible repeat (first | exact hh | refine Ho.At.alloc ?_ _ | refine Ho.At.bw ?_ _ | refine Tk.At.alloc ?_ _ | refine Tk.At.bw ?_ _)))) | (go_at_call 74; with_reducible exact (CHP.out _)) | (go_at_call 74; with_reducible exact (CHD.out _))); clear hK K))); refine Soft.soft_nil ?_)
            refine ⟨fun b => .pointer (some ⟨b, 0, none⟩), .cells #[.int .i64 0, .int .i64 0, .int .i64 0, .int .i64 0, .int .i64 0, .int .i64 0] 38, fun x => by go_simp, fun kb xx hnew => ?_⟩
            change wpList _ _ _ [_] _ _
            obtain ⟨N, x1, rfl, ex⟩ := newSplit hnew
            rw [ex]
            clear hnew ex xx
            refine wpList_store_row rfl 38 _ _ rfl N.w.heap.size _ rfl rfl 38 _ (HasBlk.below (Soft.heap_new N.w _) x1.below) (by kernel_rfl) rfl (by kernel_rfl) ?_
            obtain ⟨q1, ex2, ex3⟩ := bwStore x1 #[.int .i64 f.hold, .int .i64 3, .int .i64 hp.lo, .int .i64 hp.hi, .int .i64 hd.lo, .int .i64 hd.hi]
            rw [ex2]
            clear ex2 ex3 x1
            obtain ⟨y2, e1, e2⟩ := bwPut q1 4 (.int .i64 (f.den).lo) _ rfl
            obtain ⟨y3, e3, e4⟩ := bwPut y2 5 (.int .i64 (f.den).hi) _ rfl
            clear e2 e4
            go_wp2_with fail
            go_ret2
            refine ⟨⟨some ⟨(y3.w).heap.size, 0, none⟩, 3, 3, [f, ⟨f.hold, 3, hp, f.den⟩, g]⟩, rfl, fs_of_blk3 (a := f) (b := ⟨f.hold, 3, hp, f.den⟩) (c := g) (Soft.heap_new _ _), rfl, ?_⟩
            (repeat (first | with_reducible exact bel_refl _ | with_reducible refine bel_alloc ?_ _ | with_reducible refine bel_bw _ ?_ | with_reducible refine bel_drew ?_ | with_reducible refine bel_drewN _ ?_ | ((with_reducible refine bel_set ?_ ?_ _); rotate_left; focus (first | (simp; done) | omega | (simp; omega))) | refine bel_step ?_ (by with_reducible assumption)))
          · have d2 : (g.state == 0) = false := by rw [beq_eq_false_iff_ne]; exact z2
            have HD := Lib.hid (show betE h f g = ([f, ⟨f.hold, 3, hullS (placeS h f) (placeS h g), hullS f.den g.den⟩, g], 0) by rw [HV.out]; unfold midS; rw [if_neg z2, if_neg z1])
            rw [HD.out]
            clear cf cg cs h1 h2 HV HD z1 z2
            generalize hullS (placeS h f) (placeS h g) = hp at *
            generalize hullS f.den g.den = hd at *
            go_enter Try.func46, Try.ntmps46
            go_wp2_with fail
            refine wp_loop_rounds 3 ?_
            rw [rounds_succ]
            go_wp2_with ((go_at_call 68; (with_reducible refine (hold_CheckFill h f _ (by with_reducible repeat (first | exact hh | refine Ho.At.alloc ?_ _ | refine Ho.At.bw ?_ _ | refine Tk.At.alloc ?_ _ | refine Tk.At.bw ?_ _))).mono ?_); rintro e w_ ⟨rfl, hb_⟩; obtain ⟨y1, rfl⟩ := Soft.BW.mk hb_; clear hb_))
            rw [rounds_succ]
            go_wp2_with ((go_at_call 68; (with_reducible refine (hold_CheckFill h g _ (by with_reducible repeat (first | exact hh | refine Ho.At.alloc ?_ _ | refine Ho.At.bw ?_ _ | refine Tk.At.alloc ?_ _ | refine Tk.At.bw ?_ _))).mono ?_); rintro e w_ ⟨rfl, hb_⟩; obtain ⟨y2, rfl⟩ := Soft.BW.mk hb_; clear hb_))
            rw [rounds_succ]
            go_wp2_with fail
            (refine Soft.region1 [0, 1, 2, 3, 4, 5, 6, 7, 8, 9, 10, 11, 12, 13, 14] 15 [16] _ (by kernel_rfl) (by kernel_rfl) (by kernel_rfl) rfl rfl (by kernel_rfl) ?_; change Soft.wpSoft _ _ _ _ _ [_, _, _, _, _, _, _, _, _, _, _, _, _, _, _] _; (repeat (refine Soft.soft_step (fun K hK => ?_); go_simp; (try go_bits); first | (refine hK _ ?_; clear hK K) | (apply Exists.intro; refine ⟨fun x => ?_, hK _ ?_⟩; (first | (go_at_call 95; with_reducible exact (CPF.out _ (by with_reducible repeat (first | exact hh | refine Ho.At.alloc ?_ _ | refine Ho.At.bw ?_ _ | refine Tk.At.alloc ?_ _ | refine Tk.At.bw ?_ _)))) | (go_at_call 95; with_reducible exact (CPG.out _ (by with_reducible repeat (first | exact hh | refine Ho.At.alloc ?_ _ | refine Ho.At.bw ?_ _ | refine Tk.At.alloc ?_ _ | refine Tk.At.bw ?_ _)))) | (go_at_call 74; with_reducible exact (CHP.out _)) | (go_at_call 74; with_reducible exact (CHD.out _))); clear hK K))); refine Soft.soft_nil ?_)
            refine ⟨fun b => .pointer (some ⟨b, 0, none⟩), .cells #[.int .i64 0, .int .i64 0, .int .i64 0, .int .i64 0, .int .i64 0, .int .i64 0] 38, fun x => by go_simp, fun kb xx hnew => ?_⟩
            change wpList _ _ _ [_] _ _
            obtain ⟨N, x1, rfl, ex⟩ := newSplit hnew
            rw [ex]
            clear hnew ex xx
            refine wpList_store_row rfl 38 _ _ rfl N.w.heap.size _ rfl rfl 38 _ (HasBlk.below (Soft.heap_new N.w _) x1.below) (by kernel_rfl) rfl (by kernel_rfl) ?_
            obtain ⟨q1, ex2, ex3⟩ := bwStore x1 #[.int .i64 f.hold, .int .i64 3, .int .i64 hp.lo, .int .i64 hp.hi, .int .i64 hd.lo, .int .i64 hd.hi]
            rw [ex2]
            clear ex2 ex3 x1
            go_wp2_with fail
            go_ret2
            refine ⟨⟨some ⟨(q1.w).heap.size, 0, none⟩, 3, 3, [f, ⟨f.hold, 3, hp, hd⟩, g]⟩, rfl, fs_of_blk3 (a := f) (b := ⟨f.hold, 3, hp, hd⟩) (c := g) (Soft.heap_new _ _), rfl, ?_⟩
            (repeat (first | with_reducible exact bel_refl _ | with_reducible refine bel_alloc ?_ _ | with_reducible refine bel_bw _ ?_ | with_reducible refine bel_drew ?_ | with_reducible refine bel_drewN _ ?_ | ((with_reducible refine bel_set ?_ ?_ _); rotate_left; focus (first | (simp; done) | omega | (simp; omega))) | refine bel_step ?_ (by with_reducible assumption)))
    · have HV := Lib.hid (show betE h f g = ([], fillErr h g) by unfold betE; rw [if_neg (by omega), if_pos cg])
      have dG : (fillErr h g != 0) = true := bne_iff_ne.2 cg
      clear cf cg
      rw [HV.out]
      go_enter Try.func46, Try.ntmps46
      go_wp2_with fail
      refine wp_loop_rounds 3 ?_
      rw [rounds_succ]
      go_wp2_with ((go_at_call 68; (with_reducible refine (hold_CheckFill h f _ (by with_reducible repeat (first | exact hh | refine Ho.At.alloc ?_ _ | refine Ho.At.bw ?_ _ | refine Tk.At.alloc ?_ _ | refine Tk.At.bw ?_ _))).mono ?_); rintro e w_ ⟨rfl, hb_⟩; obtain ⟨y1, rfl⟩ := Soft.BW.mk hb_; clear hb_))
      rw [rounds_succ]
      go_wp2_with ((go_at_call 68; (with_reducible refine (hold_CheckFill h g _ (by with_reducible repeat (first | exact hh | refine Ho.At.alloc ?_ _ | refine Ho.At.bw ?_ _ | refine Tk.At.alloc ?_ _ | refine Tk.At.bw ?_ _))).mono ?_); rintro e w_ ⟨rfl, hb_⟩; obtain ⟨y2, rfl⟩ := Soft.BW.mk hb_; clear hb_))
      go_ret2
      refine ⟨⟨none, 0, 0, []⟩, rfl, fs_nil _, rfl, ?_⟩
      (repeat (first | with_reducible exact bel_refl _ | with_reducible refine bel_alloc ?_ _ | with_reducible refine bel_bw _ ?_ | with_reducible refine bel_drew ?_ | with_reducible refine bel_drewN _ ?_ | ((with_reducible refine bel_set ?_ ?_ _); rotate_left; focus (first | (simp; done) | omega | (simp; omega))) | refine bel_step ?_ (by with_reducible assumption)))
  · have HV := Lib.hid (show betE h f g = ([], fillErr h f) by unfold betE; rw [if_pos cf])
    have dF : (fillErr h f != 0) = true := bne_iff_ne.2 cf
    clear cf
    rw [HV.out]
    go_enter Try.func46, Try.ntmps46
    go_wp2_with fail
    refine wp_loop_rounds 3 ?_
    rw [rounds_succ]
    go_wp2_with ((go_at_call 68; (with_reducible refine (hold_CheckFill h f _ (by with_reducible repeat (first | exact hh | refine Ho.At.alloc ?_ _ | refine Ho.At.bw ?_ _ | refine Tk.At.alloc ?_ _ | refine Tk.At.bw ?_ _))).mono ?_); rintro e w_ ⟨rfl, hb_⟩; obtain ⟨y1, rfl⟩ := Soft.BW.mk hb_; clear hb_))
    go_ret2
    refine ⟨⟨none, 0, 0, []⟩, rfl, fs_nil _, rfl, ?_⟩
    (repeat (first | with_reducible exact bel_refl _ | with_reducible refine bel_alloc ?_ _ | with_reducible refine bel_bw _ ?_ | with_reducible refine bel_drew ?_ | with_reducible refine bel_drewN _ ?_ | ((with_reducible refine bel_set ?_ ?_ _); rotate_left; focus (first | (simp; done) | omega | (simp; omega))) | refine bel_step ?_ (by with_reducible assumption)))

end Go.Proofs.Ytbjdgaeikihjbaa
