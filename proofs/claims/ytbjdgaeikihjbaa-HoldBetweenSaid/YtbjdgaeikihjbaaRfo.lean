/-
  The reference's Between and SameFills.
  Conditions: each theorem's own premises.
-/
import Derived.Test.YtbjdgaeikihjbaaRfl
import Derived.Test.YtbjdgaeikihjbaaBetw
namespace Go.Proofs.Ytbjdgaeikihjbaa
set_option linter.unusedSimpArgs false
set_option linter.unusedVariables false
open Go.RowKit
set_option maxRecDepth 100000
set_option maxHeartbeats 4000000
attribute [local go_sem] Instr.field asAgg Soft.upon Soft.BW.cell_if Soft.BW.frozen_if Soft.cell_alloc_if Soft.frozen_alloc_if

theorem setOne0 (w : World) (a b c : Value) (t : TypeId) : ((w.alloc (.cells #[a, b] t)).setCell ⟨w.heap.size, 0, none⟩ c) = w.alloc (.cells #[c, b] t) := by
  unfold World.setCell World.alloc
  dsimp only
  congr 1
  apply Array.ext_getElem?
  intro i
  rw [Array.getElem?_modify]
  by_cases e : i = w.heap.size
  · subst e; simp
  · rw [if_neg (Ne.symm e)]
    simp [Array.getElem?_push, e]
theorem setOne1 (w : World) (a b c : Value) (t : TypeId) : ((w.alloc (.cells #[a, b] t)).setCell ⟨w.heap.size, 1, none⟩ c) = w.alloc (.cells #[a, c] t) := by
  unfold World.setCell World.alloc
  dsimp only
  congr 1
  apply Array.ext_getElem?
  intro i
  rw [Array.getElem?_modify]
  by_cases e : i = w.heap.size
  · subst e; simp
  · rw [if_neg (Ne.symm e)]
    simp [Array.getElem?_push, e]
attribute [local go_sem] setOne0 setOne1


theorem R2_Between (h : Ho) (f g : Fi) (w : World) (hh : h.At w) :
    Calls Try.prog 47 #[.agg #[.int .i64 (h).id, .int .i64 ((h).along).lo, .int .i64 ((h).along).hi, .slice ((h).vol).p ((h).vol).n ((h).vol).c, .slice ((h).mom).p ((h).mom).n ((h).mom).c, .slice ((h).hei).p ((h).hei).n ((h).hei).c, .int .i64 ((h).tri).lo, .int .i64 ((h).tri).hi, .int .i64 ((h).unt).lo, .int .i64 ((h).unt).hi, .int .i64 ((h).v0).lo, .int .i64 ((h).v0).hi, .int .i64 ((h).h0).lo, .int .i64 ((h).h0).hi], .agg #[.int .i64 (f).hold, .int .i64 (f).state, .int .i64 ((f).ull).lo, .int .i64 ((f).ull).hi, .int .i64 ((f).den).lo, .int .i64 ((f).den).hi], .agg #[.int .i64 (g).hold, .int .i64 (g).state, .int .i64 ((g).ull).lo, .int .i64 ((g).ull).hi, .int .i64 ((g).den).lo, .int .i64 ((g).den).hi]] w (BetPost (betE h f g).1 (betE h f g).2 w) := by
  have CCF : Hid (∀ W, h.At W → Calls Try.prog 96 #[.agg #[.int .i64 (h).id, .int .i64 ((h).along).lo, .int .i64 ((h).along).hi, .slice ((h).vol).p ((h).vol).n ((h).vol).c, .slice ((h).mom).p ((h).mom).n ((h).mom).c, .slice ((h).hei).p ((h).hei).n ((h).hei).c, .int .i64 ((h).tri).lo, .int .i64 ((h).tri).hi, .int .i64 ((h).unt).lo, .int .i64 ((h).unt).hi, .int .i64 ((h).v0).lo, .int .i64 ((h).v0).hi, .int .i64 ((h).h0).lo, .int .i64 ((h).h0).hi], .agg #[.int .i64 (f).hold, .int .i64 (f).state, .int .i64 ((f).ull).lo, .int .i64 ((f).ull).hi, .int .i64 ((f).den).lo, .int .i64 ((f).den).hi]] W fun e w' => e = .returned (.int .i64 (fillErr h f)) ∧ Below W.heap.size W w') := Lib.hid (fun W hW => R2_CheckFill h f W hW)
  have CCG : Hid (∀ W, h.At W → Calls Try.prog 96 #[.agg #[.int .i64 (h).id, .int .i64 ((h).along).lo, .int .i64 ((h).along).hi, .slice ((h).vol).p ((h).vol).n ((h).vol).c, .slice ((h).mom).p ((h).mom).n ((h).mom).c, .slice ((h).hei).p ((h).hei).n ((h).hei).c, .int .i64 ((h).tri).lo, .int .i64 ((h).tri).hi, .int .i64 ((h).unt).lo, .int .i64 ((h).unt).hi, .int .i64 ((h).v0).lo, .int .i64 ((h).v0).hi, .int .i64 ((h).h0).lo, .int .i64 ((h).h0).hi], .agg #[.int .i64 (g).hold, .int .i64 (g).state, .int .i64 ((g).ull).lo, .int .i64 ((g).ull).hi, .int .i64 ((g).den).lo, .int .i64 ((g).den).hi]] W fun e w' => e = .returned (.int .i64 (fillErr h g)) ∧ Below W.heap.size W w') := Lib.hid (fun W hW => R2_CheckFill h g W hW)
  by_cases cf : fillErr h f = 0
  · by_cases cg : fillErr h g = 0
    · obtain ⟨h0, h1⟩ := fill_ok cf
      obtain ⟨_, h2⟩ := fill_ok cg
      have hid : f.hold = h.id := h1.1
      have CHD : Hid (∀ W, Calls Try.prog 97 #[.agg #[.int .i64 (f.den).lo, .int .i64 (f.den).hi], .agg #[.int .i64 (g.den).lo, .int .i64 (g.den).hi]] W fun e w' => e = .returned (.agg #[.int .i64 ((hullS f.den g.den)).lo, .int .i64 ((hullS f.den g.den)).hi]) ∧ Below W.heap.size W w') := Lib.hid (fun W => R2_hull _ _ W)
      rw [cf] at CCF
      rw [cg] at CCG
      by_cases cs : f.state = g.state
      · have ds : (f.state == g.state) = true := by rw [cs]; simp
        have CHP : Hid (∀ W, Calls Try.prog 97 #[.agg #[.int .i64 (f.ull).lo, .int .i64 (f.ull).hi], .agg #[.int .i64 (g.ull).lo, .int .i64 (g.ull).hi]] W fun e w' => e = .returned (.agg #[.int .i64 ((hullS f.ull g.ull)).lo, .int .i64 ((hullS f.ull g.ull)).hi]) ∧ Below W.heap.size W w') := Lib.hid (fun W => R2_hull _ _ W)
        by_cases z1 : f.state = 0
        · have d1 : (f.state == 0) = true := by rw [z1]; rfl
          have d2 : (g.state == 0) = true := by rw [← cs, z1]; rfl
          have ef : f.den = ⟨0, 0⟩ := by
            obtain ⟨_, ⟨_, _, e⟩ | ⟨e, _⟩ | ⟨e, _⟩⟩ := h1
            · exact e
            · omega
            · omega
          have eg : g.den = ⟨0, 0⟩ := by
            obtain ⟨_, ⟨_, _, e⟩ | ⟨e, _⟩ | ⟨e, _⟩⟩ := h2
            · exact e
            · omega
            · omega
          have HV := Lib.hid (show betE h f g = ([⟨h.id, f.state, hullS f.ull g.ull, f.den⟩], 0) by unfold betE; rw [if_neg (by omega), if_neg (by omega), if_pos cs, hid, ef, eg]; rfl)
          rw [HV.out]
          clear cf cg cs h0 h1 h2 HV hid ef eg z1
          generalize hullS f.ull g.ull = hp at *
          generalize hullS f.den g.den = hd at *
          go_enter Try.func47, Try.ntmps47
          go_wp2_with (first | (go_at_call 96; (with_reducible refine (CCF.out _ (by with_reducible repeat (first | exact hh | refine Ho.At.alloc ?_ _ | refine Ho.At.bw ?_ _ | refine Tk.At.alloc ?_ _ | refine Tk.At.bw ?_ _))).mono ?_); rintro e w_ ⟨rfl, hb_⟩; obtain ⟨y1, rfl⟩ := Soft.BW.mk hb_; clear hb_) | (go_at_call 96; (with_reducible refine (CCG.out _ (by with_reducible repeat (first | exact hh | refine Ho.At.alloc ?_ _ | refine Ho.At.bw ?_ _ | refine Tk.At.alloc ?_ _ | refine Tk.At.bw ?_ _))).mono ?_); rintro e w_ ⟨rfl, hb_⟩; obtain ⟨y2, rfl⟩ := Soft.BW.mk hb_; clear hb_) | (go_at_call 97; (with_reducible refine (CHD.out _).mono ?_); rintro e w_ ⟨rfl, hb_⟩; obtain ⟨y3, rfl⟩ := Soft.BW.mk hb_; clear hb_))
          (refine Soft.region1 [0, 1, 2, 3, 4, 5, 6, 7, 8, 9, 10] 11 [12, 13] _ (by kernel_rfl) (by kernel_rfl) (by kernel_rfl) rfl rfl (by kernel_rfl) ?_; change Soft.wpSoft _ _ _ _ _ [_, _, _, _, _, _, _, _, _, _, _] _; (repeat (refine Soft.soft_step (fun K hK => ?_); go_simp; (try go_bits); first | (refine hK _ ?_; clear hK K) | (apply Exists.intro; refine ⟨fun x => ?_, hK _ ?_⟩; ((go_at_call 97; with_reducible exact (CHP.out _))); clear hK K))); refine Soft.soft_nil ?_)
          refine ⟨fun b => .slice (some ⟨b, 0, none⟩) 1 1, .cells #[.int .i64 h.id, .int .i64 f.state, .int .i64 hp.lo, .int .i64 hp.hi, .int .i64 (f.den).lo, .int .i64 (f.den).hi] 38, fun x => by go_simp, fun kb xx hnew => ?_⟩
          change wpList _ _ _ [_, _] _ _
          obtain ⟨N, x1, rfl, ex⟩ := newSplit hnew
          rw [ex]
          clear hnew ex xx
          go_wp2_with fail
          go_ret2
          refine ⟨⟨some ⟨N.w.heap.size, 0, none⟩, 1, 1, [⟨h.id, f.state, hp, f.den⟩]⟩, rfl, fs_of_blk1 (a := ⟨h.id, f.state, hp, f.den⟩) (HasBlk.below (Soft.heap_new N.w _) x1.below), rfl, ?_⟩
          (repeat (first | with_reducible exact bel_refl _ | with_reducible refine bel_alloc ?_ _ | with_reducible refine bel_bw _ ?_ | with_reducible refine bel_drew ?_ | with_reducible refine bel_drewN _ ?_ | ((with_reducible refine bel_set ?_ ?_ _); rotate_left; focus (first | (simp; done) | omega | (simp; omega))) | refine bel_step ?_ (by with_reducible assumption)))
        · have d1 : (f.state == 0) = false := by rw [beq_eq_false_iff_ne]; exact z1
          have d2 : (g.state == 0) = false := by rw [beq_eq_false_iff_ne]; omega
          have HV := Lib.hid (show betE h f g = ([⟨h.id, f.state, hullS f.ull g.ull, hullS f.den g.den⟩], 0) by unfold betE; rw [if_neg (by omega), if_neg (by omega), if_pos cs, hid])
          rw [HV.out]
          clear cf cg cs h0 h1 h2 HV hid z1
          generalize hullS f.ull g.ull = hp at *
          generalize hullS f.den g.den = hd at *
          go_enter Try.func47, Try.ntmps47
          go_wp2_with (first | (go_at_call 96; (with_reducible refine (CCF.out _ (by with_reducible repeat (first | exact hh | refine Ho.At.alloc ?_ _ | refine Ho.At.bw ?_ _ | refine Tk.At.alloc ?_ _ | refine Tk.At.bw ?_ _))).mono ?_); rintro e w_ ⟨rfl, hb_⟩; obtain ⟨y1, rfl⟩ := Soft.BW.mk hb_; clear hb_) | (go_at_call 96; (with_reducible refine (CCG.out _ (by with_reducible repeat (first | exact hh | refine Ho.At.alloc ?_ _ | refine Ho.At.bw ?_ _ | refine Tk.At.alloc ?_ _ | refine Tk.At.bw ?_ _))).mono ?_); rintro e w_ ⟨rfl, hb_⟩; obtain ⟨y2, rfl⟩ := Soft.BW.mk hb_; clear hb_) | (go_at_call 97; (with_reducible refine (CHD.out _).mono ?_); rintro e w_ ⟨rfl, hb_⟩; obtain ⟨y3, rfl⟩ := Soft.BW.mk hb_; clear hb_))
          (refine Soft.region1 [0, 1, 2, 3, 4, 5, 6, 7, 8, 9, 10] 11 [12, 13] _ (by kernel_rfl) (by kernel_rfl) (by kernel_rfl) rfl rfl (by kernel_rfl) ?_; change Soft.wpSoft _ _ _ _ _ [_, _, _, _, _, _, _, _, _, _, _] _; (repeat (refine Soft.soft_step (fun K hK => ?_); go_simp; (try go_bits); first | (refine hK _ ?_; clear hK K) | (apply Exists.intro; refine ⟨fun x => ?_, hK _ ?_⟩; ((go_at_call 97; with_reducible exact (CHP.out _))); clear hK K))); refine Soft.soft_nil ?_)
          refine ⟨fun b => .slice (some ⟨b, 0, none⟩) 1 1, .cells #[.int .i64 h.id, .int .i64 f.state, .int .i64 hp.lo, .int .i64 hp.hi, .int .i64 (hd).lo, .int .i64 (hd).hi] 38, fun x => by go_simp, fun kb xx hnew => ?_⟩
          change wpList _ _ _ [_, _] _ _
          obtain ⟨N, x1, rfl, ex⟩ := newSplit hnew
          rw [ex]
          clear hnew ex xx
          go_wp2_with fail
          go_ret2
          refine ⟨⟨some ⟨N.w.heap.size, 0, none⟩, 1, 1, [⟨h.id, f.state, hp, hd⟩]⟩, rfl, fs_of_blk1 (a := ⟨h.id, f.state, hp, hd⟩) (HasBlk.below (Soft.heap_new N.w _) x1.below), rfl, ?_⟩
          (repeat (first | with_reducible exact bel_refl _ | with_reducible refine bel_alloc ?_ _ | with_reducible refine bel_bw _ ?_ | with_reducible refine bel_drew ?_ | with_reducible refine bel_drewN _ ?_ | ((with_reducible refine bel_set ?_ ?_ _); rotate_left; focus (first | (simp; done) | omega | (simp; omega))) | refine bel_step ?_ (by with_reducible assumption)))
      · have ds : (f.state == g.state) = false := by rw [beq_eq_false_iff_ne]; exact cs
        have s1 := state_in h1
        have s2 := state_in h2
        have CPF : Hid (∀ W, h.At W → Calls Try.prog 98 #[.agg #[.int .i64 (h).id, .int .i64 ((h).along).lo, .int .i64 ((h).along).hi, .slice ((h).vol).p ((h).vol).n ((h).vol).c, .slice ((h).mom).p ((h).mom).n ((h).mom).c, .slice ((h).hei).p ((h).hei).n ((h).hei).c, .int .i64 ((h).tri).lo, .int .i64 ((h).tri).hi, .int .i64 ((h).unt).lo, .int .i64 ((h).unt).hi, .int .i64 ((h).v0).lo, .int .i64 ((h).v0).hi, .int .i64 ((h).h0).lo, .int .i64 ((h).h0).hi], .agg #[.int .i64 (f).hold, .int .i64 (f).state, .int .i64 ((f).ull).lo, .int .i64 ((f).ull).hi, .int .i64 ((f).den).lo, .int .i64 ((f).den).hi]] W fun e w' => e = .returned (.agg #[.int .i64 ((placeS h f)).lo, .int .i64 ((placeS h f)).hi]) ∧ Below W.heap.size W w') := Lib.hid (fun W hW => R2_ullage h f W hW h0 s1)
        have CPG : Hid (∀ W, h.At W → Calls Try.prog 98 #[.agg #[.int .i64 (h).id, .int .i64 ((h).along).lo, .int .i64 ((h).along).hi, .slice ((h).vol).p ((h).vol).n ((h).vol).c, .slice ((h).mom).p ((h).mom).n ((h).mom).c, .slice ((h).hei).p ((h).hei).n ((h).hei).c, .int .i64 ((h).tri).lo, .int .i64 ((h).tri).hi, .int .i64 ((h).unt).lo, .int .i64 ((h).unt).hi, .int .i64 ((h).v0).lo, .int .i64 ((h).v0).hi, .int .i64 ((h).h0).lo, .int .i64 ((h).h0).hi], .agg #[.int .i64 (g).hold, .int .i64 (g).state, .int .i64 ((g).ull).lo, .int .i64 ((g).ull).hi, .int .i64 ((g).den).lo, .int .i64 ((g).den).hi]] W fun e w' => e = .returned (.agg #[.int .i64 ((placeS h g)).lo, .int .i64 ((placeS h g)).hi]) ∧ Below W.heap.size W w') := Lib.hid (fun W hW => R2_ullage h g W hW h0 s2)
        have CHP : Hid (∀ W, Calls Try.prog 97 #[.agg #[.int .i64 ((placeS h f)).lo, .int .i64 ((placeS h f)).hi], .agg #[.int .i64 ((placeS h g)).lo, .int .i64 ((placeS h g)).hi]] W fun e w' => e = .returned (.agg #[.int .i64 ((hullS (placeS h f) (placeS h g))).lo, .int .i64 ((hullS (placeS h f) (placeS h g))).hi]) ∧ Below W.heap.size W w') := Lib.hid (fun W => R2_hull _ _ W)
        by_cases z1 : f.state = 0
        · have d1 : (f.state == 0) = true := by rw [z1]; rfl
          have d2 : (g.state == 0) = false := by rw [beq_eq_false_iff_ne]; omega
          have HV := Lib.hid (show betE h f g = ([f, ⟨h.id, 3, hullS (placeS h f) (placeS h g), g.den⟩, g], 0) by unfold betE midS; rw [if_neg (by omega), if_neg (by omega), if_neg cs, if_neg (by omega), if_pos z1, hid])
          rw [HV.out]
          clear cf cg cs h0 h1 h2 HV hid z1 s1 s2
          generalize hullS (placeS h f) (placeS h g) = hp at *
          generalize hullS f.den g.den = hd at *
          go_enter Try.func47, Try.ntmps47
          go_wp2_with (first | (go_at_call 96; (with_reducible refine (CCF.out _ (by with_reducible repeat (first | exact hh | refine Ho.At.alloc ?_ _ | refine Ho.At.bw ?_ _ | refine Tk.At.alloc ?_ _ | refine Tk.At.bw ?_ _))).mono ?_); rintro e w_ ⟨rfl, hb_⟩; obtain ⟨y1, rfl⟩ := Soft.BW.mk hb_; clear hb_) | (go_at_call 96; (with_reducible refine (CCG.out _ (by with_reducible repeat (first | exact hh | refine Ho.At.alloc ?_ _ | refine Ho.At.bw ?_ _ | refine Tk.At.alloc ?_ _ | refine Tk.At.bw ?_ _))).mono ?_); rintro e w_ ⟨rfl, hb_⟩; obtain ⟨y2, rfl⟩ := Soft.BW.mk hb_; clear hb_) | (go_at_call 97; (with_reducible refine (CHD.out _).mono ?_); rintro e w_ ⟨rfl, hb_⟩; obtain ⟨y3, rfl⟩ := Soft.BW.mk hb_; clear hb_))
          (refine Soft.region1 [0, 1, 2, 3, 4, 5, 6] 7 [8] _ (by kernel_rfl) (by kernel_rfl) (by kernel_rfl) rfl rfl (by kernel_rfl) ?_; change Soft.wpSoft _ _ _ _ _ [_, _, _, _, _, _, _] _; (repeat (refine Soft.soft_step (fun K hK => ?_); go_simp; (try go_bits); first | (refine hK _ ?_; clear hK K) | (apply Exists.intro; refine ⟨fun x => ?_, hK _ ?_⟩; (first | (go_at_call 98; with_reducible exact (CPF.out _ (by with_reducible repeat (first | exact hh | refine Ho.At.alloc ?_ _ | refine Ho.At.bw ?_ _ | refine Tk.At.alloc ?_ _ | refine Tk.At.bw ?_ _)))) | (go_at_call 98; with_reducible exact (CPG.out _ (by with_reducible repeat (first | exact hh | refine Ho.At.alloc ?_ _ | refine Ho.At.bw ?_ _ | refine Tk.At.alloc ?_ _ | refine Tk.At.bw ?_ _)))) | (go_at_call 97; with_reducible exact (CHP.out _))); clear hK K))); refine Soft.soft_nil ?_)
          refine ⟨fun b => .pointer (some ⟨b, 0, none⟩), .cells #[.int .i64 0, .int .i64 0] 30, fun x => by go_simp, fun kb xx hnew => ?_⟩
          change wpList _ _ _ [_] _ _
          obtain ⟨N, x1, rfl, ex⟩ := newSplit hnew
          rw [ex]
          clear hnew ex xx
          refine wpList_store_row rfl 30 _ _ rfl N.w.heap.size _ rfl rfl 30 _ (HasBlk.below (Soft.heap_new N.w _) x1.below) (by kernel_rfl) rfl (by kernel_rfl) ?_
          obtain ⟨q1, ex2, ex3⟩ := bwStore x1 #[.int .i64 hp.lo, .int .i64 hp.hi]
          rw [ex2]
          clear ex2 ex3 x1
          go_wp2_with fail
          go_ret2
          refine ⟨⟨some ⟨q1.w.heap.size, 0, none⟩, 3, 3, [f, ⟨h.id, 3, hp, g.den⟩, g]⟩, rfl, fs_of_blk3 (a := f) (b := ⟨h.id, 3, hp, g.den⟩) (c := g) (Soft.heap_new _ _), rfl, ?_⟩
          (repeat (first | with_reducible exact bel_refl _ | with_reducible refine bel_alloc ?_ _ | with_reducible refine bel_bw _ ?_ | with_reducible refine bel_drew ?_ | with_reducible refine bel_drewN _ ?_ | ((with_reducible refine bel_set ?_ ?_ _); rotate_left; focus (first | (simp; done) | omega | (simp; omega))) | refine bel_step ?_ (by with_reducible assumption)))
        · have d1 : (f.state == 0) = false := by rw [beq_eq_false_iff_ne]; exact z1
          by_cases z2 : g.state = 0
          · have d2 : (g.state == 0) = true := by rw [z2]; rfl
            have HV := Lib.hid (show betE h f g = ([f, ⟨h.id, 3, hullS (placeS h f) (placeS h g), f.den⟩, g], 0) by unfold betE midS; rw [if_neg (by omega), if_neg (by omega), if_neg cs, if_pos z2, hid])
            rw [HV.out]
            clear cf cg cs h0 h1 h2 HV hid z1 z2 s1 s2
            generalize hullS (placeS h f) (placeS h g) = hp at *
            generalize hullS f.den g.den = hd at *
            go_enter Try.func47, Try.ntmps47
            go_wp2_with (first | (go_at_call 96; (with_reducible refine (CCF.out _ (by with_reducible repeat (first | exact hh | refine Ho.At.alloc ?_ _ | refine Ho.At.bw ?_ _ | refine Tk.At.alloc ?_ _ | refine Tk.At.bw ?_ _))).mono ?_); rintro e w_ ⟨rfl, hb_⟩; obtain ⟨y1, rfl⟩ := Soft.BW.mk hb_; clear hb_) | (go_at_call 96; (with_reducible refine (CCG.out _ (by with_reducible repeat (first | exact hh | refine Ho.At.alloc ?_ _ | refine Ho.At.bw ?_ _ | refine Tk.At.alloc ?_ _ | refine Tk.At.bw ?_ _))).mono ?_); rintro e w_ ⟨rfl, hb_⟩; obtain ⟨y2, rfl⟩ := Soft.BW.mk hb_; clear hb_) | (go_at_call 97; (with_reducible refine (CHD.out _).mono ?_); rintro e w_ ⟨rfl, hb_⟩; obtain ⟨y3, rfl⟩ := Soft.BW.mk hb_; clear hb_))
            (refine Soft.region1 [0, 1, 2, 3, 4, 5, 6] 7 [8] _ (by kernel_rfl) (by kernel_rfl) (by kernel_rfl) rfl rfl (by kernel_rfl) ?_; change Soft.wpSoft _ _ _ _ _ [_, _, _, _, _, _, _] _; (repeat (refine Soft.soft_step (fun K hK => ?_); go_simp; (try go_bits); first | (refine hK _ ?_; clear hK K) | (apply Exists.intro; refine ⟨fun x => ?_, hK _ ?_⟩; (first | (go_at_call 98; with_reducible exact (CPF.out _ (by with_reducible repeat (first | exact hh | refine Ho.At.alloc ?_ _ | refine Ho.At.bw ?_ _ | refine Tk.At.alloc ?_ _ | refine Tk.At.bw ?_ _)))) | (go_at_call 98; with_reducible exact (CPG.out _ (by with_reducible repeat (first | exact hh | refine Ho.At.alloc ?_ _ | refine Ho.At.bw ?_ _ | refine Tk.At.alloc ?_ _ | refine Tk.At.bw ?_ _)))) | (go_at_call 97; with_reducible exact (CHP.out _))); clear hK K))); refine Soft.soft_nil ?_)
            refine ⟨fun b => .pointer (some ⟨b, 0, none⟩), .cells #[.int .i64 0, .int .i64 0] 30, fun x => by go_simp, fun kb xx hnew => ?_⟩
            change wpList _ _ _ [_] _ _
            obtain ⟨N, x1, rfl, ex⟩ := newSplit hnew
            rw [ex]
            clear hnew ex xx
            refine wpList_store_row rfl 30 _ _ rfl N.w.heap.size _ rfl rfl 30 _ (HasBlk.below (Soft.heap_new N.w _) x1.below) (by kernel_rfl) rfl (by kernel_rfl) ?_
            obtain ⟨q1, ex2, ex3⟩ := bwStore x1 #[.int .i64 hp.lo, .int .i64 hp.hi]
            rw [ex2]
            clear ex2 ex3 x1
            go_wp2_with fail
            go_ret2
            refine ⟨⟨some ⟨q1.w.heap.size, 0, none⟩, 3, 3, [f, ⟨h.id, 3, hp, f.den⟩, g]⟩, rfl, fs_of_blk3 (a := f) (b := ⟨h.id, 3, hp, f.den⟩) (c := g) (Soft.heap_new _ _), rfl, ?_⟩
            (repeat (first | with_reducible exact bel_refl _ | with_reducible refine bel_alloc ?_ _ | with_reducible refine bel_bw _ ?_ | with_reducible refine bel_drew ?_ | with_reducible refine bel_drewN _ ?_ | ((with_reducible refine bel_set ?_ ?_ _); rotate_left; focus (first | (simp; done) | omega | (simp; omega))) | refine bel_step ?_ (by with_reducible assumption)))
          · have d2 : (g.state == 0) = false := by rw [beq_eq_false_iff_ne]; exact z2
            have HV := Lib.hid (show betE h f g = ([f, ⟨h.id, 3, hullS (placeS h f) (placeS h g), hullS f.den g.den⟩, g], 0) by unfold betE midS; rw [if_neg (by omega), if_neg (by omega), if_neg cs, if_neg z2, if_neg z1, hid])
            rw [HV.out]
            clear cf cg cs h0 h1 h2 HV hid z1 z2 s1 s2
            generalize hullS (placeS h f) (placeS h g) = hp at *
            generalize hullS f.den g.den = hd at *
            go_enter Try.func47, Try.ntmps47
            go_wp2_with (first | (go_at_call 96; (with_reducible refine (CCF.out _ (by with_reducible repeat (first | exact hh | refine Ho.At.alloc ?_ _ | refine Ho.At.bw ?_ _ | refine Tk.At.alloc ?_ _ | refine Tk.At.bw ?_ _))).mono ?_); rintro e w_ ⟨rfl, hb_⟩; obtain ⟨y1, rfl⟩ := Soft.BW.mk hb_; clear hb_) | (go_at_call 96; (with_reducible refine (CCG.out _ (by with_reducible repeat (first | exact hh | refine Ho.At.alloc ?_ _ | refine Ho.At.bw ?_ _ | refine Tk.At.alloc ?_ _ | refine Tk.At.bw ?_ _))).mono ?_); rintro e w_ ⟨rfl, hb_⟩; obtain ⟨y2, rfl⟩ := Soft.BW.mk hb_; clear hb_) | (go_at_call 97; (with_reducible refine (CHD.out _).mono ?_); rintro e w_ ⟨rfl, hb_⟩; obtain ⟨y3, rfl⟩ := Soft.BW.mk hb_; clear hb_))
            (refine Soft.region1 [0, 1, 2, 3, 4, 5, 6] 7 [8] _ (by kernel_rfl) (by kernel_rfl) (by kernel_rfl) rfl rfl (by kernel_rfl) ?_; change Soft.wpSoft _ _ _ _ _ [_, _, _, _, _, _, _] _; (repeat (refine Soft.soft_step (fun K hK => ?_); go_simp; (try go_bits); first | (refine hK _ ?_; clear hK K) | (apply Exists.intro; refine ⟨fun x => ?_, hK _ ?_⟩; (first | (go_at_call 98; with_reducible exact (CPF.out _ (by with_reducible repeat (first | exact hh | refine Ho.At.alloc ?_ _ | refine Ho.At.bw ?_ _ | refine Tk.At.alloc ?_ _ | refine Tk.At.bw ?_ _)))) | (go_at_call 98; with_reducible exact (CPG.out _ (by with_reducible repeat (first | exact hh | refine Ho.At.alloc ?_ _ | refine Ho.At.bw ?_ _ | refine Tk.At.alloc ?_ _ | refine Tk.At.bw ?_ _)))) | (go_at_call 97; with_reducible exact (CHP.out _))); clear hK K))); refine Soft.soft_nil ?_)
            refine ⟨fun b => .pointer (some ⟨b, 0, none⟩), .cells #[.int .i64 0, .int .i64 0] 30, fun x => by go_simp, fun kb xx hnew => ?_⟩
            change wpList _ _ _ [_] _ _
            obtain ⟨N, x1, rfl, ex⟩ := newSplit hnew
            rw [ex]
            clear hnew ex xx
            refine wpList_store_row rfl 30 _ _ rfl N.w.heap.size _ rfl rfl 30 _ (HasBlk.below (Soft.heap_new N.w _) x1.below) (by kernel_rfl) rfl (by kernel_rfl) ?_
            obtain ⟨q1, ex2, ex3⟩ := bwStore x1 #[.int .i64 hp.lo, .int .i64 hp.hi]
            rw [ex2]
            clear ex2 ex3 x1
            go_wp2_with fail
            go_ret2
            refine ⟨⟨some ⟨q1.w.heap.size, 0, none⟩, 3, 3, [f, ⟨h.id, 3, hp, hd⟩, g]⟩, rfl, fs_of_blk3 (a := f) (b := ⟨h.id, 3, hp, hd⟩) (c := g) (Soft.heap_new _ _), rfl, ?_⟩
            (repeat (first | with_reducible exact bel_refl _ | with_reducible refine bel_alloc ?_ _ | with_reducible refine bel_bw _ ?_ | with_reducible refine bel_drew ?_ | with_reducible refine bel_drewN _ ?_ | ((with_reducible refine bel_set ?_ ?_ _); rotate_left; focus (first | (simp; done) | omega | (simp; omega))) | refine bel_step ?_ (by with_reducible assumption)))
    · have HV := Lib.hid (show betE h f g = ([], fillErr h g) by unfold betE; rw [if_neg (by omega), if_pos cg])
      have dG : (fillErr h g != 0) = true := bne_iff_ne.2 cg
      rw [cf] at CCF
      clear cf cg
      rw [HV.out]
      generalize fillErr h g = E at *
      go_enter Try.func47, Try.ntmps47
      go_wp2_with (first | (go_at_call 96; (with_reducible refine (CCF.out _ (by with_reducible repeat (first | exact hh | refine Ho.At.alloc ?_ _ | refine Ho.At.bw ?_ _ | refine Tk.At.alloc ?_ _ | refine Tk.At.bw ?_ _))).mono ?_); rintro e w_ ⟨rfl, hb_⟩; obtain ⟨y1, rfl⟩ := Soft.BW.mk hb_; clear hb_) | (go_at_call 96; (with_reducible refine (CCG.out _ (by with_reducible repeat (first | exact hh | refine Ho.At.alloc ?_ _ | refine Ho.At.bw ?_ _ | refine Tk.At.alloc ?_ _ | refine Tk.At.bw ?_ _))).mono ?_); rintro e w_ ⟨rfl, hb_⟩; obtain ⟨y2, rfl⟩ := Soft.BW.mk hb_; clear hb_))
      go_ret2
      refine ⟨⟨none, 0, 0, []⟩, rfl, fs_nil _, rfl, ?_⟩
      (repeat (first | with_reducible exact bel_refl _ | with_reducible refine bel_alloc ?_ _ | with_reducible refine bel_bw _ ?_ | with_reducible refine bel_drew ?_ | with_reducible refine bel_drewN _ ?_ | ((with_reducible refine bel_set ?_ ?_ _); rotate_left; focus (first | (simp; done) | omega | (simp; omega))) | refine bel_step ?_ (by with_reducible assumption)))
  · have HV := Lib.hid (show betE h f g = ([], fillErr h f) by unfold betE; rw [if_pos cf])
    have dF : (fillErr h f != 0) = true := bne_iff_ne.2 cf
    have dF' : (fillErr h f == 0) = false := beq_eq_false_iff_ne.2 cf
    clear cf
    rw [HV.out]
    generalize fillErr h f = E at *
    go_enter Try.func47, Try.ntmps47
    go_wp2_with (first | (go_at_call 96; (with_reducible refine (CCF.out _ (by with_reducible repeat (first | exact hh | refine Ho.At.alloc ?_ _ | refine Ho.At.bw ?_ _ | refine Tk.At.alloc ?_ _ | refine Tk.At.bw ?_ _))).mono ?_); rintro e w_ ⟨rfl, hb_⟩; obtain ⟨y1, rfl⟩ := Soft.BW.mk hb_; clear hb_))
    go_ret2
    refine ⟨⟨none, 0, 0, []⟩, rfl, fs_nil _, rfl, ?_⟩
    (repeat (first | with_reducible exact bel_refl _ | with_reducible refine bel_alloc ?_ _ | with_reducible refine bel_bw _ ?_ | with_reducible refine bel_drew ?_ | with_reducible refine bel_drewN _ ?_ | ((with_reducible refine bel_set ?_ ?_ _); rotate_left; focus (first | (simp; done) | omega | (simp; omega))) | refine bel_step ?_ (by with_reducible assumption)))

theorem R2_SameFills (s t : Fs) (w : World) (h1 : s.At w) (h2 : t.At w) (he : s.xs = t.xs) :
    Calls Try.prog 48 #[.slice s.p s.n s.c, .slice t.p t.n t.c] w fun e w' => e = .returned (.bool true) ∧ Below w.heap.size w w' := by
  obtain ⟨p1, n1, c1, xs⟩ := s
  obtain ⟨p2, n2, c2, ys⟩ := t
  dsimp only at he
  subst he
  obtain ⟨a1, a2, a3, a4⟩ := h1
  obtain ⟨g1, g2, g3, g4⟩ := h2
  dsimp only at *
  obtain rfl : n1 = n2 := by omega
  have HA := Lib.hid a4
  have HG := Lib.hid g4
  have hn64 : n1 ≤ 9223372036854775807 := by omega
  clear a4 g4 g1
  go_enter Try.func48, Try.ntmps48
  go_wp2_with fail
  go_loopw [5] (fun i wr => ∃ k : Nat, k ≤ n1 ∧ i = .int .i64 k ∧ Below w.heap.size w wr) (fun i _ => n1 - (intOf i).toNat)
  case atStart => exact ⟨0, by omega, rfl, Below.refl _ _⟩
  case round =>
    obtain ⟨k, hk, rfl, hB⟩ := hrel
    obtain ⟨u, rfl⟩ := Soft.BW.mk hB
    clear hB
    by_cases hlt : k < n1
    · have i1 : (k : Int) < n1 := by omega
      obtain ⟨b1, o1, rfl, lb1, hc1⟩ := HA.out (by omega)
      obtain ⟨b2, o2, rfl, lb2, hc2⟩ := HG.out (by omega)
      obtain ⟨x0, x1, x2, x3, x4, x5⟩ := hc1 k hlt
      obtain ⟨y0, y1, y2, y3, y4, y5⟩ := hc2 k hlt
      have l1 := Soft.LtH.mk (w := w) lb1
      have l2 := Soft.LtH.mk (w := w) lb2
      generalize fv xs k = q at *
      clear hc1 hc2 HA HG
      go_wp2_with fail
      (refine Soft.region0 [0, 1, 2, 3, 4, 5, 6, 7, 8] [] (by kernel_rfl) (by kernel_rfl) (by kernel_rfl) (by kernel_rfl) ?_; change Soft.wpSoft _ _ _ _ _ [_, _, _, _, _, _, _, _, _] _; (repeat (refine Soft.soft_step (fun K hK => ?_); go_simp; (try go_bits); first | (refine hK _ ?_; clear hK K) | (apply Exists.intro; refine ⟨fun x => ?_, hK _ ?_⟩; (fail); clear hK K))); refine Soft.soft_nil ?_; intro xw; change wpList _ _ _ [] _ _)
      change wpList _ _ _ [] _ _
      go_wp2_with fail
      go_roundw
      case rel => exact ⟨k + 1, by omega, by simp, by (repeat (first | with_reducible exact bel_refl _ | with_reducible refine bel_alloc ?_ _ | with_reducible refine bel_bw _ ?_ | with_reducible refine bel_drew ?_ | with_reducible refine bel_drewN _ ?_ | ((with_reducible refine bel_set ?_ ?_ _); rotate_left; focus (first | (simp; done) | omega | (simp; omega))) | refine bel_step ?_ (by with_reducible assumption)))⟩
      case measure => simp [intOf]; omega
    · obtain rfl : k = n1 := by omega
      go_wp2_with fail
      go_ret
      refine ⟨rfl, ?_⟩
      (repeat (first | with_reducible exact bel_refl _ | with_reducible refine bel_alloc ?_ _ | with_reducible refine bel_bw _ ?_ | with_reducible refine bel_drew ?_ | with_reducible refine bel_drewN _ ?_ | ((with_reducible refine bel_set ?_ ?_ _); rotate_left; focus (first | (simp; done) | omega | (simp; omega))) | refine bel_step ?_ (by with_reducible assumption)))

end Go.Proofs.Ytbjdgaeikihjbaa
