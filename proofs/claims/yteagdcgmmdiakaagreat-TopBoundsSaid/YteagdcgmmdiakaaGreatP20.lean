/-
  cond: drawn.
  cond: Tonnes, Draft, Metric.
  cond: Metric.
  Conditions: each theorem's own premises.
-/
import Derived.Test.YteagdcgmmdiakaaGreatP09
import Derived.Test.YteagdcgmmdiakaaGreatP08
import Derived.Test.YteagdcgmmdiakaaGreatP18
namespace Go.Proofs.YteagdcgmmdiakaaGreat
set_option linter.unusedSimpArgs false
set_option linter.unusedVariables false
open Go.RowKit
set_option maxRecDepth 100000
set_option maxHeartbeats 8000000
attribute [local go_sem] Instr.field asAgg Soft.upon Soft.upon0 Soft.stepC Soft.BW.cell_if Soft.BW.frozen_if Soft.cell_alloc_if Soft.frozen_alloc_if
attribute [local irreducible] Soft.wpSoft Soft.wpMix

/-- What drawn makes of places, by a function. -/
def dErr (xs : List Int) (F : Int → Rg × Int) : Nat → Int
  | 0 => 0
  | k + 1 => if dErr xs F k = 0 then (F (iv xs k)).2 else dErr xs F k
def dBig (xs : List Int) (F : Int → Rg × Int) : Nat → Bool
  | 0 => false
  | k + 1 => dBig xs F k || !decide (isPart (F (iv xs k)).1 (-1000000000) 1000000000)
def dPt (xs : List Int) (F : Int → Rg × Int) (k : Nat) : Pt := ⟨iv xs k, (F (iv xs k)).1.lo, (F (iv xs k)).1.hi⟩
def drawnE (xs : List Int) (F : Int → Rg × Int) : List Pt × Int :=
  if 40 < xs.length then ([], 2) else if dErr xs F xs.length = 0 then if dBig xs F xs.length = true then ([], 5) else (upto (dPt xs F) xs.length, 0) else ([], dErr xs F xs.length)
theorem dErr_zero {xs : List Int} {F : Int → Rg × Int} : ∀ k, (∀ j, j < k → (F (iv xs j)).2 = 0) → dErr xs F k = 0
  | 0, _ => rfl
  | k + 1, h => by
    unfold dErr
    rw [if_pos (dErr_zero k fun j hj => h j (by omega))]
    exact h k (by omega)
theorem dErr_at {xs : List Int} {F : Int → Rg × Int} {k : Nat} (h : ∀ j, j < k → (F (iv xs j)).2 = 0) (hk : (F (iv xs k)).2 ≠ 0) : ∀ n, k < n → dErr xs F n = (F (iv xs k)).2
  | 0, hn => absurd hn (Nat.not_lt_zero _)
  | n + 1, hn => by
    unfold dErr
    by_cases e : k = n
    · subst e
      rw [if_pos (dErr_zero k h)]
    · rw [dErr_at h hk n (by omega), if_neg hk]

def DrawPost (E : List Pt × Int) (w : World) (e : Ending) (w' : World) : Prop := ∃ q : Tb, e = .returned (.tuple #[.agg #[.slice q.p q.n q.c], .int .i64 E.2]) ∧ q.At w' ∧ q.ps = E.1 ∧ Below w.heap.size w w'
theorem tb_nil (w : World) : Tb.At w ⟨none, 0, 0, []⟩ := ⟨rfl, by dsimp only; omega, Nat.le_refl _, by dsimp only; omega, fun h => absurd rfl h⟩

theorem cond_drawn2 (f : FuncId) (a1 a2 : Value) (hcf : ∀ args W, Sem.run Tryz.prog (callFunc f args) W = .ok (.enter f args) W) (s : Is) (F : Int → Rg × Int) (w : World) (hs : s.At w)
    (hF : ∀ W, Below w.heap.size w W → ∀ i, i < s.n → Calls Tryz.prog f #[.int .i64 (iv s.xs i), a1, a2] W fun e w' => e = .returned (.tuple #[.agg #[.int .i64 ((F (iv s.xs i)).1).lo, .int .i64 ((F (iv s.xs i)).1).hi], .int .i64 (F (iv s.xs i)).2]) ∧ Below W.heap.size W w') :
    Calls Tryz.prog 47 #[.slice s.p s.n s.c, .func (.func f) #[] #[a1, a2]] w (DrawPost (drawnE s.xs F) w) := by
  obtain ⟨sp, sn, sc, xs⟩ := s
  have hlen := hs.1
  have hc1 := hs.2.2.1
  have hc2 := hs.2.2.2.1
  dsimp only at *
  have HS := Lib.hid hs
  have HF := Lib.hid hF
  clear hs hF
  by_cases h40 : (40 : Int) < sn
  · have HE := Lib.hid (show drawnE xs F = ([], 2) from if_pos (by omega))
    rw [HE.out]
    clear HE
    go_enter Tryz.func47, Tryz.ntmps47
    go_wp2_with fail
    refine bodyPost_ret (v := .tuple #[.agg #[.slice none 0 0], .int .i64 2]) (by simp [results, Tryz.results47, go_sem]) rfl ?_
    exact ⟨⟨none, 0, 0, []⟩, rfl, tb_nil _, rfl, by (with_reducible repeat (first | exact blr _ | refine bla ?_ _ | refine blw _ ?_ | refine bld ?_ | refine bln _ ?_ | refine bls ?_ _ | refine blt ?_))⟩
  have HE := Lib.hid (show drawnE xs F = if dErr xs F sn = 0 then if dBig xs F sn = true then ([], 5) else (upto (dPt xs F) sn, 0) else ([], dErr xs F sn) by unfold drawnE; rw [if_neg (by omega), hlen])
  have HL := Lib.hid hlen
  clear hlen
  generalize hD : drawnE xs F = D at *
  clear hD
  go_enter Tryz.func47, Tryz.ntmps47
  go_wp2_with fail
  go_loopw [7, 18] (fun b i wr => ∃ (k : Nat) (v : Value), b = .bool (dBig xs F k) ∧ i = .int .i64 k ∧ k ≤ sn ∧ (∀ j, j < k → (F (iv xs j)).2 = 0) ∧ HasBlk wr (w.heap.size + 1) #[v] 24 ∧ HasBlk wr w.heap.size #[.slice none 0 0] 24 ∧ OwnP wr (w.heap.size + 2) v (upto (dPt xs F) k) ∧ Below w.heap.size w wr) (fun _ i _ => sn - (intOf i).toNat)
  case atStart => exact ⟨0, .slice none 0 0, rfl, rfl, by omega, fun j hj => absurd hj (Nat.not_lt_zero _), by simp only [HasBlk, Soft.heap_new1], HasBlk.below (Soft.heap_new w _) (bel_alloc (bel_refl _) _), World.ownsRow_nil _ _ _ _, by (with_reducible repeat (first | exact blr _ | refine bla ?_ _ | refine blw _ ?_ | refine bld ?_ | refine bln _ ?_ | refine bls ?_ _ | refine blt ?_))⟩
  case round =>
    obtain ⟨k, v, rfl, rfl, hk, hz, hblk, hres, hown, hbel⟩ := hrel
    have l2 := Soft.LtH.mk (b := w.heap.size + 1) (w := wr) hblk.lt
    have l1 := Soft.LtH.mk (b := w.heap.size) (w := wr) hres.lt
    by_cases hlt : k < sn
    · obtain ⟨_, _, _, _, _, h5⟩ := HS.out.below hbel
      obtain ⟨b, o, rfl, hb, hc⟩ := h5 (by dsimp only; omega)
      dsimp only at hc
      have c0 := hc k hlt
      have lb := Soft.LtH.mk (b := b) (w := wr) hb
      have HNX := Lib.hid (show upto (dPt xs F) (k + 1) = upto (dPt xs F) k ++ [⟨iv xs k, (F (iv xs k)).1.lo, (F (iv xs k)).1.hi⟩] from upto_succ _ _)
      have HNB := Lib.hid (show dBig xs F (k + 1) = (dBig xs F k || !decide (isPart (F (iv xs k)).1 (-1000000000) 1000000000)) from rfl)
      have hl : (upto (dPt xs F) k).length = k := upto_length _ _
      have CF := Lib.hid (fun W (hb : Below wr.heap.size wr W) => HF.out W (bel_step hbel hb) k hlt)
      have HZ := Lib.hid hz
      have HZ2 := Lib.hid (show (F (iv xs k)).2 = 0 → ∀ j, j < k + 1 → (F (iv xs j)).2 = 0 from fun h j hj => by
        by_cases e : j = k
        · subst e; exact h
        · exact hz j (by omega))
      have HEA := Lib.hid (show (F (iv xs k)).2 ≠ 0 → D = ([], (F (iv xs k)).2) from fun h => by
        have e := dErr_at (n := sn) hz h hlt
        rw [HE.out, e, if_neg h])
      have hb0 : w.heap.size + 1 < wr.heap.size := hblk.lt
      have HBEL := Lib.hid hbel
      have HBLK := Lib.hid hblk
      have HRES := Lib.hid hres
      have HOWN := Lib.hid hown
      have cs := hblk.cell 0
      have fs := hblk.frozen 0
      have cr := hres.cell 0
      have fr := hres.frozen 0
      simp at cs cr
      clear hbel hblk hres hown hc h5 hz hb
      generalize F (iv xs k) = E at *
      generalize upto (dPt xs F) k = l at *
      generalize dBig xs F k = bg at *
      generalize iv xs k = x at *
      obtain ⟨⟨el, eh⟩, er⟩ := E
      dsimp only at CF HNX HNB HZ2 HEA
      by_cases he : er = 0
      · subst he
        have HZ3 := Lib.hid (HZ2.out rfl)
        clear HZ2 HEA
        by_cases hbg : bg = true
        · subst hbg
          go_wp2_with (first | ((with_reducible refine (CF.out _ (by (with_reducible repeat (first | exact blr _ | refine bla ?_ _ | refine blw _ ?_ | refine bld ?_ | refine bln _ ?_ | refine bls ?_ _ | refine blt ?_)))).mono ?_); rintro e w_ ⟨rfl, hb_⟩; obtain ⟨y1, rfl⟩ := Soft.BW.mk hb_; clear hb_) | (go_at_call 88; (with_reducible refine (cond_isPart ⟨el, eh⟩ _ _ _ true HP.out.symm).mono ?_); rintro e w_ ⟨rfl, hb_⟩; obtain ⟨y3, rfl⟩ := Soft.BW.mk hb_; clear hb_) | (at_builtin; go_loud (refine app_pt rfl (.tmp 39) (.tmp 46) rfl (w.heap.size + 2) v l rfl (((HOWN.out.bw y1).alloc _).alloc _) (y1.w.heap.size + 1) ⟨x, el, eh⟩ rfl (by simp) (by simp) (by simp) (by omega) (by have := (show Below wr.heap.size wr ((y1.w.alloc (.cells #[.int .i64 el, .int .i64 eh] 27)).alloc (.cells #[.int .i64 x, .int .i64 el, .int .i64 eh] 69)) by (with_reducible repeat (first | exact blr _ | refine bla ?_ _ | refine blw _ ?_ | refine bld ?_ | refine bln _ ?_ | refine bls ?_ _ | refine blt ?_))).size; omega) ?_); intro v3 w3 ho hb3 hgr3; have fs3 := HasBlk.belowAt (HasBlk.below HBLK.out (show Below wr.heap.size wr ((y1.w.alloc (.cells #[.int .i64 el, .int .i64 eh] 27)).alloc (.cells #[.int .i64 x, .int .i64 el, .int .i64 eh] 69)) by (with_reducible repeat (first | exact blr _ | refine bla ?_ _ | refine blw _ ?_ | refine bld ?_ | refine bln _ ?_ | refine bls ?_ _ | refine blt ?_)))) hb3 (by omega); have fr3 := HasBlk.belowAt (HasBlk.below HRES.out (show Below wr.heap.size wr ((y1.w.alloc (.cells #[.int .i64 el, .int .i64 eh] 27)).alloc (.cells #[.int .i64 x, .int .i64 el, .int .i64 eh] 69)) by (with_reducible repeat (first | exact blr _ | refine bla ?_ _ | refine blw _ ?_ | refine bld ?_ | refine bln _ ?_ | refine bls ?_ _ | refine blt ?_)))) hb3 (by omega); have fs4 := fs3.frozen 0; have fs5 := fs3.cell 0; simp at fs5; obtain ⟨g3, c3, rfl, hg5, hg6, hg7, hg8⟩ := ho.shape (by simp); have bl3 := (bel_step HBEL.out (show Below wr.heap.size wr ((y1.w.alloc (.cells #[.int .i64 el, .int .i64 eh] 27)).alloc (.cells #[.int .i64 x, .int .i64 el, .int .i64 eh] 69)) by (with_reducible repeat (first | exact blr _ | refine bla ?_ _ | refine blw _ ?_ | refine bld ?_ | refine bln _ ?_ | refine bls ?_ _ | refine blt ?_)))).trans (hb3.mono (by omega))))
          rw [show (l ++ [(⟨x, el, eh⟩ : Pt)]).length = k + 1 by simp [hl]] at ho
          go_roundw
          case rel => exact ⟨k + 1, _, by rw [HNB.out]; rfl, by simp, by omega, HZ3.out, fs3.put 0 _, fr3.set_other (by simp) _, by rw [HNX.out]; exact ho.set (p := ⟨w.heap.size + 1, 0, none⟩) (by dsimp only; omega) _, bl3.setCell (p := ⟨w.heap.size + 1, 0, none⟩) (by dsimp only; omega) _⟩
          case measure => simp [intOf]; omega
        · obtain rfl : bg = false := by simpa using hbg
          by_cases hp : isPart ⟨el, eh⟩ (-1000000000) 1000000000
          · have HP := Lib.hid (decide_eq_true hp)
            clear hp
            go_wp2_with (first | ((with_reducible refine (CF.out _ (by (with_reducible repeat (first | exact blr _ | refine bla ?_ _ | refine blw _ ?_ | refine bld ?_ | refine bln _ ?_ | refine bls ?_ _ | refine blt ?_)))).mono ?_); rintro e w_ ⟨rfl, hb_⟩; obtain ⟨y1, rfl⟩ := Soft.BW.mk hb_; clear hb_) | (go_at_call 88; (with_reducible refine (cond_isPart ⟨el, eh⟩ _ _ _ true HP.out.symm).mono ?_); rintro e w_ ⟨rfl, hb_⟩; obtain ⟨y3, rfl⟩ := Soft.BW.mk hb_; clear hb_) | (at_builtin; go_loud (refine app_pt rfl (.tmp 39) (.tmp 46) rfl (w.heap.size + 2) v l rfl ((((HOWN.out.bw y1).alloc _).bw y3).alloc _) y3.w.heap.size ⟨x, el, eh⟩ rfl (by simp) (by simp) (by simp) (by omega) (by have := (show Below wr.heap.size wr (y3.w.alloc (.cells #[.int .i64 x, .int .i64 el, .int .i64 eh] 69)) by (with_reducible repeat (first | exact blr _ | refine bla ?_ _ | refine blw _ ?_ | refine bld ?_ | refine bln _ ?_ | refine bls ?_ _ | refine blt ?_))).size; omega) ?_); intro v3 w3 ho hb3 hgr3; have fs3 := HasBlk.belowAt (HasBlk.below HBLK.out (show Below wr.heap.size wr (y3.w.alloc (.cells #[.int .i64 x, .int .i64 el, .int .i64 eh] 69)) by (with_reducible repeat (first | exact blr _ | refine bla ?_ _ | refine blw _ ?_ | refine bld ?_ | refine bln _ ?_ | refine bls ?_ _ | refine blt ?_)))) hb3 (by omega); have fr3 := HasBlk.belowAt (HasBlk.below HRES.out (show Below wr.heap.size wr (y3.w.alloc (.cells #[.int .i64 x, .int .i64 el, .int .i64 eh] 69)) by (with_reducible repeat (first | exact blr _ | refine bla ?_ _ | refine blw _ ?_ | refine bld ?_ | refine bln _ ?_ | refine bls ?_ _ | refine blt ?_)))) hb3 (by omega); have fs4 := fs3.frozen 0; have fs5 := fs3.cell 0; simp at fs5; obtain ⟨g3, c3, rfl, hg5, hg6, hg7, hg8⟩ := ho.shape (by simp); have bl3 := (bel_step HBEL.out (show Below wr.heap.size wr (y3.w.alloc (.cells #[.int .i64 x, .int .i64 el, .int .i64 eh] 69)) by (with_reducible repeat (first | exact blr _ | refine bla ?_ _ | refine blw _ ?_ | refine bld ?_ | refine bln _ ?_ | refine bls ?_ _ | refine blt ?_)))).trans (hb3.mono (by omega))))
            rw [show (l ++ [(⟨x, el, eh⟩ : Pt)]).length = k + 1 by simp [hl]] at ho
            go_roundw
            case rel => exact ⟨k + 1, _, by rw [HNB.out]; (rw [HP.out]; rfl), by simp, by omega, HZ3.out, fs3.put 0 _, fr3.set_other (by simp) _, by rw [HNX.out]; exact ho.set (p := ⟨w.heap.size + 1, 0, none⟩) (by dsimp only; omega) _, bl3.setCell (p := ⟨w.heap.size + 1, 0, none⟩) (by dsimp only; omega) _⟩
            case measure => simp [intOf]; omega
          · have HP := Lib.hid (decide_eq_false hp)
            clear hp
            go_wp2_with (first | ((with_reducible refine (CF.out _ (by (with_reducible repeat (first | exact blr _ | refine bla ?_ _ | refine blw _ ?_ | refine bld ?_ | refine bln _ ?_ | refine bls ?_ _ | refine blt ?_)))).mono ?_); rintro e w_ ⟨rfl, hb_⟩; obtain ⟨y1, rfl⟩ := Soft.BW.mk hb_; clear hb_) | (go_at_call 88; (with_reducible refine (cond_isPart ⟨el, eh⟩ _ _ _ false HP.out.symm).mono ?_); rintro e w_ ⟨rfl, hb_⟩; obtain ⟨y3, rfl⟩ := Soft.BW.mk hb_; clear hb_) | (at_builtin; go_loud (refine app_pt rfl (.tmp 39) (.tmp 46) rfl (w.heap.size + 2) v l rfl ((((HOWN.out.bw y1).alloc _).bw y3).alloc _) y3.w.heap.size ⟨x, el, eh⟩ rfl (by simp) (by simp) (by simp) (by omega) (by have := (show Below wr.heap.size wr (y3.w.alloc (.cells #[.int .i64 x, .int .i64 el, .int .i64 eh] 69)) by (with_reducible repeat (first | exact blr _ | refine bla ?_ _ | refine blw _ ?_ | refine bld ?_ | refine bln _ ?_ | refine bls ?_ _ | refine blt ?_))).size; omega) ?_); intro v3 w3 ho hb3 hgr3; have fs3 := HasBlk.belowAt (HasBlk.below HBLK.out (show Below wr.heap.size wr (y3.w.alloc (.cells #[.int .i64 x, .int .i64 el, .int .i64 eh] 69)) by (with_reducible repeat (first | exact blr _ | refine bla ?_ _ | refine blw _ ?_ | refine bld ?_ | refine bln _ ?_ | refine bls ?_ _ | refine blt ?_)))) hb3 (by omega); have fr3 := HasBlk.belowAt (HasBlk.below HRES.out (show Below wr.heap.size wr (y3.w.alloc (.cells #[.int .i64 x, .int .i64 el, .int .i64 eh] 69)) by (with_reducible repeat (first | exact blr _ | refine bla ?_ _ | refine blw _ ?_ | refine bld ?_ | refine bln _ ?_ | refine bls ?_ _ | refine blt ?_)))) hb3 (by omega); have fs4 := fs3.frozen 0; have fs5 := fs3.cell 0; simp at fs5; obtain ⟨g3, c3, rfl, hg5, hg6, hg7, hg8⟩ := ho.shape (by simp); have bl3 := (bel_step HBEL.out (show Below wr.heap.size wr (y3.w.alloc (.cells #[.int .i64 x, .int .i64 el, .int .i64 eh] 69)) by (with_reducible repeat (first | exact blr _ | refine bla ?_ _ | refine blw _ ?_ | refine bld ?_ | refine bln _ ?_ | refine bls ?_ _ | refine blt ?_)))).trans (hb3.mono (by omega))))
            rw [show (l ++ [(⟨x, el, eh⟩ : Pt)]).length = k + 1 by simp [hl]] at ho
            go_roundw
            case rel => exact ⟨k + 1, _, by rw [HNB.out]; (rw [HP.out]; rfl), by simp, by omega, HZ3.out, fs3.put 0 _, fr3.set_other (by simp) _, by rw [HNX.out]; exact ho.set (p := ⟨w.heap.size + 1, 0, none⟩) (by dsimp only; omega) _, bl3.setCell (p := ⟨w.heap.size + 1, 0, none⟩) (by dsimp only; omega) _⟩
            case measure => simp [intOf]; omega
      · have HD := Lib.hid (HEA.out he)
        have dE : (er != 0) = true := bne_iff_ne.2 he
        clear HEA HZ2 he
        go_wp2_with ((with_reducible refine (CF.out _ (by (with_reducible repeat (first | exact blr _ | refine bla ?_ _ | refine blw _ ?_ | refine bld ?_ | refine bln _ ?_ | refine bls ?_ _ | refine blt ?_)))).mono ?_); rintro e w_ ⟨rfl, hb_⟩; obtain ⟨y1, rfl⟩ := Soft.BW.mk hb_; clear hb_)
        have hW : Below wr.heap.size wr (y1.w.alloc (.cells #[.int .i64 el, .int .i64 eh] 27)) := by (with_reducible repeat (first | exact blr _ | refine bla ?_ _ | refine blw _ ?_ | refine bld ?_ | refine bln _ ?_ | refine bls ?_ _ | refine blt ?_))
        have hr2 := HasBlk.below HRES.out hW
        have cr2 := hr2.cell 0
        have fr2 := hr2.frozen 0
        simp at cr2
        refine bodyPost_ret (v := .tuple #[.agg #[.slice none 0 0], .int .i64 er]) (by simp [results, Tryz.results47, go_sem, cr2, fr2]) rfl ?_
        exact ⟨⟨none, 0, 0, []⟩, by rw [HD.out], tb_nil _, by rw [HD.out], (bel_step HBEL.out hW).setCell (p := ⟨w.heap.size, 0, none⟩) (by dsimp only; omega) _⟩
    · obtain rfl : k = sn := by omega
      have hl : (upto (dPt xs F) k).length = k := upto_length _ _
      obtain ⟨q, rfl, hq, hqp, hqf⟩ := ownP_tb hown (by omega)
      have hE0 := HE.out
      rw [if_pos (dErr_zero k hz)] at hE0
      have cs := hblk.cell 0
      have cr := hres.cell 0
      have fr := hres.frozen 0
      simp at cs cr
      have HBEL := Lib.hid hbel
      have hq2 : q.At (wr.setCell ⟨w.heap.size, 0, none⟩ (.slice q.p q.n q.c)) := hq.setCell (fun b o e => by have := hqf b o e; dsimp only; omega) _
      clear hown hblk hres hbel hz
      by_cases hbg : dBig xs F k = true
      · rw [if_pos hbg] at hE0
        rw [hbg]
        have HD := Lib.hid hE0
        clear hE0 hbg
        go_wp2_with fail
        refine bodyPost_ret (v := .tuple #[.agg #[.slice none 0 0], .int .i64 5]) (by simp [results, Tryz.results47, go_sem, cr, fr]) rfl ?_
        exact ⟨⟨none, 0, 0, []⟩, by rw [HD.out], tb_nil _, by rw [HD.out], HBEL.out.setCell (p := ⟨w.heap.size, 0, none⟩) (by dsimp only; omega) _⟩
      · rw [if_neg hbg] at hE0
        have hbf : dBig xs F k = false := by simpa using hbg
        rw [hbf]
        have HD := Lib.hid hE0
        clear hE0 hbg hbf
        go_wp2_with fail
        refine bodyPost_ret (v := .tuple #[.agg #[.slice q.p q.n q.c], .int .i64 0]) (by simp [results, Tryz.results47, go_sem, cr, fr]) rfl ?_
        exact ⟨q, by rw [HD.out], hq2, by rw [HD.out]; exact hqp, HBEL.out.setCell (p := ⟨w.heap.size, 0, none⟩) (by dsimp only; omega) _⟩
theorem cond_drawn3 (f : FuncId) (a1 a2 a3 : Value) (hcf : ∀ args W, Sem.run Tryz.prog (callFunc f args) W = .ok (.enter f args) W) (s : Is) (F : Int → Rg × Int) (w : World) (hs : s.At w)
    (hF : ∀ W, Below w.heap.size w W → ∀ i, i < s.n → Calls Tryz.prog f #[.int .i64 (iv s.xs i), a1, a2, a3] W fun e w' => e = .returned (.tuple #[.agg #[.int .i64 ((F (iv s.xs i)).1).lo, .int .i64 ((F (iv s.xs i)).1).hi], .int .i64 (F (iv s.xs i)).2]) ∧ Below W.heap.size W w') :
    Calls Tryz.prog 47 #[.slice s.p s.n s.c, .func (.func f) #[] #[a1, a2, a3]] w (DrawPost (drawnE s.xs F) w) := by
  obtain ⟨sp, sn, sc, xs⟩ := s
  have hlen := hs.1
  have hc1 := hs.2.2.1
  have hc2 := hs.2.2.2.1
  dsimp only at *
  have HS := Lib.hid hs
  have HF := Lib.hid hF
  clear hs hF
  by_cases h40 : (40 : Int) < sn
  · have HE := Lib.hid (show drawnE xs F = ([], 2) from if_pos (by omega))
    rw [HE.out]
    clear HE
    go_enter Tryz.func47, Tryz.ntmps47
    go_wp2_with fail
    refine bodyPost_ret (v := .tuple #[.agg #[.slice none 0 0], .int .i64 2]) (by simp [results, Tryz.results47, go_sem]) rfl ?_
    exact ⟨⟨none, 0, 0, []⟩, rfl, tb_nil _, rfl, by (with_reducible repeat (first | exact blr _ | refine bla ?_ _ | refine blw _ ?_ | refine bld ?_ | refine bln _ ?_ | refine bls ?_ _ | refine blt ?_))⟩
  have HE := Lib.hid (show drawnE xs F = if dErr xs F sn = 0 then if dBig xs F sn = true then ([], 5) else (upto (dPt xs F) sn, 0) else ([], dErr xs F sn) by unfold drawnE; rw [if_neg (by omega), hlen])
  have HL := Lib.hid hlen
  clear hlen
  generalize hD : drawnE xs F = D at *
  clear hD
  go_enter Tryz.func47, Tryz.ntmps47
  go_wp2_with fail
  go_loopw [7, 18] (fun b i wr => ∃ (k : Nat) (v : Value), b = .bool (dBig xs F k) ∧ i = .int .i64 k ∧ k ≤ sn ∧ (∀ j, j < k → (F (iv xs j)).2 = 0) ∧ HasBlk wr (w.heap.size + 1) #[v] 24 ∧ HasBlk wr w.heap.size #[.slice none 0 0] 24 ∧ OwnP wr (w.heap.size + 2) v (upto (dPt xs F) k) ∧ Below w.heap.size w wr) (fun _ i _ => sn - (intOf i).toNat)
  case atStart => exact ⟨0, .slice none 0 0, rfl, rfl, by omega, fun j hj => absurd hj (Nat.not_lt_zero _), by simp only [HasBlk, Soft.heap_new1], HasBlk.below (Soft.heap_new w _) (bel_alloc (bel_refl _) _), World.ownsRow_nil _ _ _ _, by (with_reducible repeat (first | exact blr _ | refine bla ?_ _ | refine blw _ ?_ | refine bld ?_ | refine bln _ ?_ | refine bls ?_ _ | refine blt ?_))⟩
  case round =>
    obtain ⟨k, v, rfl, rfl, hk, hz, hblk, hres, hown, hbel⟩ := hrel
    have l2 := Soft.LtH.mk (b := w.heap.size + 1) (w := wr) hblk.lt
    have l1 := Soft.LtH.mk (b := w.heap.size) (w := wr) hres.lt
    by_cases hlt : k < sn
    · obtain ⟨_, _, _, _, _, h5⟩ := HS.out.below hbel
      obtain ⟨b, o, rfl, hb, hc⟩ := h5 (by dsimp only; omega)
      dsimp only at hc
      have c0 := hc k hlt
      have lb := Soft.LtH.mk (b := b) (w := wr) hb
      have HNX := Lib.hid (show upto (dPt xs F) (k + 1) = upto (dPt xs F) k ++ [⟨iv xs k, (F (iv xs k)).1.lo, (F (iv xs k)).1.hi⟩] from upto_succ _ _)
      have HNB := Lib.hid (show dBig xs F (k + 1) = (dBig xs F k || !decide (isPart (F (iv xs k)).1 (-1000000000) 1000000000)) from rfl)
      have hl : (upto (dPt xs F) k).length = k := upto_length _ _
      have CF := Lib.hid (fun W (hb : Below wr.heap.size wr W) => HF.out W (bel_step hbel hb) k hlt)
      have HZ := Lib.hid hz
      have HZ2 := Lib.hid (show (F (iv xs k)).2 = 0 → ∀ j, j < k + 1 → (F (iv xs j)).2 = 0 from fun h j hj => by
        by_cases e : j = k
        · subst e; exact h
        · exact hz j (by omega))
      have HEA := Lib.hid (show (F (iv xs k)).2 ≠ 0 → D = ([], (F (iv xs k)).2) from fun h => by
        have e := dErr_at (n := sn) hz h hlt
        rw [HE.out, e, if_neg h])
      have hb0 : w.heap.size + 1 < wr.heap.size := hblk.lt
      have HBEL := Lib.hid hbel
      have HBLK := Lib.hid hblk
      have HRES := Lib.hid hres
      have HOWN := Lib.hid hown
      have cs := hblk.cell 0
      have fs := hblk.frozen 0
      have cr := hres.cell 0
      have fr := hres.frozen 0
      simp at cs cr
      clear hbel hblk hres hown hc h5 hz hb
      generalize F (iv xs k) = E at *
      generalize upto (dPt xs F) k = l at *
      generalize dBig xs F k = bg at *
      generalize iv xs k = x at *
      obtain ⟨⟨el, eh⟩, er⟩ := E
      dsimp only at CF HNX HNB HZ2 HEA
      by_cases he : er = 0
      · subst he
        have HZ3 := Lib.hid (HZ2.out rfl)
        clear HZ2 HEA
        by_cases hbg : bg = true
        · subst hbg
          go_wp2_with (first | ((with_reducible refine (CF.out _ (by (with_reducible repeat (first | exact blr _ | refine bla ?_ _ | refine blw _ ?_ | refine bld ?_ | refine bln _ ?_ | refine bls ?_ _ | refine blt ?_)))).mono ?_); rintro e w_ ⟨rfl, hb_⟩; obtain ⟨y1, rfl⟩ := Soft.BW.mk hb_; clear hb_) | (go_at_call 88; (with_reducible refine (cond_isPart ⟨el, eh⟩ _ _ _ true HP.out.symm).mono ?_); rintro e w_ ⟨rfl, hb_⟩; obtain ⟨y3, rfl⟩ := Soft.BW.mk hb_; clear hb_) | (at_builtin; go_loud (refine app_pt rfl (.tmp 39) (.tmp 46) rfl (w.heap.size + 2) v l rfl (((HOWN.out.bw y1).alloc _).alloc _) (y1.w.heap.size + 1) ⟨x, el, eh⟩ rfl (by simp) (by simp) (by simp) (by omega) (by have := (show Below wr.heap.size wr ((y1.w.alloc (.cells #[.int .i64 el, .int .i64 eh] 27)).alloc (.cells #[.int .i64 x, .int .i64 el, .int .i64 eh] 69)) by (with_reducible repeat (first | exact blr _ | refine bla ?_ _ | refine blw _ ?_ | refine bld ?_ | refine bln _ ?_ | refine bls ?_ _ | refine blt ?_))).size; omega) ?_); intro v3 w3 ho hb3 hgr3; have fs3 := HasBlk.belowAt (HasBlk.below HBLK.out (show Below wr.heap.size wr ((y1.w.alloc (.cells #[.int .i64 el, .int .i64 eh] 27)).alloc (.cells #[.int .i64 x, .int .i64 el, .int .i64 eh] 69)) by (with_reducible repeat (first | exact blr _ | refine bla ?_ _ | refine blw _ ?_ | refine bld ?_ | refine bln _ ?_ | refine bls ?_ _ | refine blt ?_)))) hb3 (by omega); have fr3 := HasBlk.belowAt (HasBlk.below HRES.out (show Below wr.heap.size wr ((y1.w.alloc (.cells #[.int .i64 el, .int .i64 eh] 27)).alloc (.cells #[.int .i64 x, .int .i64 el, .int .i64 eh] 69)) by (with_reducible repeat (first | exact blr _ | refine bla ?_ _ | refine blw _ ?_ | refine bld ?_ | refine bln _ ?_ | refine bls ?_ _ | refine blt ?_)))) hb3 (by omega); have fs4 := fs3.frozen 0; have fs5 := fs3.cell 0; simp at fs5; obtain ⟨g3, c3, rfl, hg5, hg6, hg7, hg8⟩ := ho.shape (by simp); have bl3 := (bel_step HBEL.out (show Below wr.heap.size wr ((y1.w.alloc (.cells #[.int .i64 el, .int .i64 eh] 27)).alloc (.cells #[.int .i64 x, .int .i64 el, .int .i64 eh] 69)) by (with_reducible repeat (first | exact blr _ | refine bla ?_ _ | refine blw _ ?_ | refine bld ?_ | refine bln _ ?_ | refine bls ?_ _ | refine blt ?_)))).trans (hb3.mono (by omega))))
          rw [show (l ++ [(⟨x, el, eh⟩ : Pt)]).length = k + 1 by simp [hl]] at ho
          go_roundw
          case rel => exact ⟨k + 1, _, by rw [HNB.out]; rfl, by simp, by omega, HZ3.out, fs3.put 0 _, fr3.set_other (by simp) _, by rw [HNX.out]; exact ho.set (p := ⟨w.heap.size + 1, 0, none⟩) (by dsimp only; omega) _, bl3.setCell (p := ⟨w.heap.size + 1, 0, none⟩) (by dsimp only; omega) _⟩
          case measure => simp [intOf]; omega
        · obtain rfl : bg = false := by simpa using hbg
          by_cases hp : isPart ⟨el, eh⟩ (-1000000000) 1000000000
          · have HP := Lib.hid (decide_eq_true hp)
            clear hp
            go_wp2_with (first | ((with_reducible refine (CF.out _ (by (with_reducible repeat (first | exact blr _ | refine bla ?_ _ | refine blw _ ?_ | refine bld ?_ | refine bln _ ?_ | refine bls ?_ _ | refine blt ?_)))).mono ?_); rintro e w_ ⟨rfl, hb_⟩; obtain ⟨y1, rfl⟩ := Soft.BW.mk hb_; clear hb_) | (go_at_call 88; (with_reducible refine (cond_isPart ⟨el, eh⟩ _ _ _ true HP.out.symm).mono ?_); rintro e w_ ⟨rfl, hb_⟩; obtain ⟨y3, rfl⟩ := Soft.BW.mk hb_; clear hb_) | (at_builtin; go_loud (refine app_pt rfl (.tmp 39) (.tmp 46) rfl (w.heap.size + 2) v l rfl ((((HOWN.out.bw y1).alloc _).bw y3).alloc _) y3.w.heap.size ⟨x, el, eh⟩ rfl (by simp) (by simp) (by simp) (by omega) (by have := (show Below wr.heap.size wr (y3.w.alloc (.cells #[.int .i64 x, .int .i64 el, .int .i64 eh] 69)) by (with_reducible repeat (first | exact blr _ | refine bla ?_ _ | refine blw _ ?_ | refine bld ?_ | refine bln _ ?_ | refine bls ?_ _ | refine blt ?_))).size; omega) ?_); intro v3 w3 ho hb3 hgr3; have fs3 := HasBlk.belowAt (HasBlk.below HBLK.out (show Below wr.heap.size wr (y3.w.alloc (.cells #[.int .i64 x, .int .i64 el, .int .i64 eh] 69)) by (with_reducible repeat (first | exact blr _ | refine bla ?_ _ | refine blw _ ?_ | refine bld ?_ | refine bln _ ?_ | refine bls ?_ _ | refine blt ?_)))) hb3 (by omega); have fr3 := HasBlk.belowAt (HasBlk.below HRES.out (show Below wr.heap.size wr (y3.w.alloc (.cells #[.int .i64 x, .int .i64 el, .int .i64 eh] 69)) by (with_reducible repeat (first | exact blr _ | refine bla ?_ _ | refine blw _ ?_ | refine bld ?_ | refine bln _ ?_ | refine bls ?_ _ | refine blt ?_)))) hb3 (by omega); have fs4 := fs3.frozen 0; have fs5 := fs3.cell 0; simp at fs5; obtain ⟨g3, c3, rfl, hg5, hg6, hg7, hg8⟩ := ho.shape (by simp); have bl3 := (bel_step HBEL.out (show Below wr.heap.size wr (y3.w.alloc (.cells #[.int .i64 x, .int .i64 el, .int .i64 eh] 69)) by (with_reducible repeat (first | exact blr _ | refine bla ?_ _ | refine blw _ ?_ | refine bld ?_ | refine bln _ ?_ | refine bls ?_ _ | refine blt ?_)))).trans (hb3.mono (by omega))))
            rw [show (l ++ [(⟨x, el, eh⟩ : Pt)]).length = k + 1 by simp [hl]] at ho
            go_roundw
            case rel => exact ⟨k + 1, _, by rw [HNB.out]; (rw [HP.out]; rfl), by simp, by omega, HZ3.out, fs3.put 0 _, fr3.set_other (by simp) _, by rw [HNX.out]; exact ho.set (p := ⟨w.heap.size + 1, 0, none⟩) (by dsimp only; omega) _, bl3.setCell (p := ⟨w.heap.size + 1, 0, none⟩) (by dsimp only; omega) _⟩
            case measure => simp [intOf]; omega
          · have HP := Lib.hid (decide_eq_false hp)
            clear hp
            go_wp2_with (first | ((with_reducible refine (CF.out _ (by (with_reducible repeat (first | exact blr _ | refine bla ?_ _ | refine blw _ ?_ | refine bld ?_ | refine bln _ ?_ | refine bls ?_ _ | refine blt ?_)))).mono ?_); rintro e w_ ⟨rfl, hb_⟩; obtain ⟨y1, rfl⟩ := Soft.BW.mk hb_; clear hb_) | (go_at_call 88; (with_reducible refine (cond_isPart ⟨el, eh⟩ _ _ _ false HP.out.symm).mono ?_); rintro e w_ ⟨rfl, hb_⟩; obtain ⟨y3, rfl⟩ := Soft.BW.mk hb_; clear hb_) | (at_builtin; go_loud (refine app_pt rfl (.tmp 39) (.tmp 46) rfl (w.heap.size + 2) v l rfl ((((HOWN.out.bw y1).alloc _).bw y3).alloc _) y3.w.heap.size ⟨x, el, eh⟩ rfl (by simp) (by simp) (by simp) (by omega) (by have := (show Below wr.heap.size wr (y3.w.alloc (.cells #[.int .i64 x, .int .i64 el, .int .i64 eh] 69)) by (with_reducible repeat (first | exact blr _ | refine bla ?_ _ | refine blw _ ?_ | refine bld ?_ | refine bln _ ?_ | refine bls ?_ _ | refine blt ?_))).size; omega) ?_); intro v3 w3 ho hb3 hgr3; have fs3 := HasBlk.belowAt (HasBlk.below HBLK.out (show Below wr.heap.size wr (y3.w.alloc (.cells #[.int .i64 x, .int .i64 el, .int .i64 eh] 69)) by (with_reducible repeat (first | exact blr _ | refine bla ?_ _ | refine blw _ ?_ | refine bld ?_ | refine bln _ ?_ | refine bls ?_ _ | refine blt ?_)))) hb3 (by omega); have fr3 := HasBlk.belowAt (HasBlk.below HRES.out (show Below wr.heap.size wr (y3.w.alloc (.cells #[.int .i64 x, .int .i64 el, .int .i64 eh] 69)) by (with_reducible repeat (first | exact blr _ | refine bla ?_ _ | refine blw _ ?_ | refine bld ?_ | refine bln _ ?_ | refine bls ?_ _ | refine blt ?_)))) hb3 (by omega); have fs4 := fs3.frozen 0; have fs5 := fs3.cell 0; simp at fs5; obtain ⟨g3, c3, rfl, hg5, hg6, hg7, hg8⟩ := ho.shape (by simp); have bl3 := (bel_step HBEL.out (show Below wr.heap.size wr (y3.w.alloc (.cells #[.int .i64 x, .int .i64 el, .int .i64 eh] 69)) by (with_reducible repeat (first | exact blr _ | refine bla ?_ _ | refine blw _ ?_ | refine bld ?_ | refine bln _ ?_ | refine bls ?_ _ | refine blt ?_)))).trans (hb3.mono (by omega))))
            rw [show (l ++ [(⟨x, el, eh⟩ : Pt)]).length = k + 1 by simp [hl]] at ho
            go_roundw
            case rel => exact ⟨k + 1, _, by rw [HNB.out]; (rw [HP.out]; rfl), by simp, by omega, HZ3.out, fs3.put 0 _, fr3.set_other (by simp) _, by rw [HNX.out]; exact ho.set (p := ⟨w.heap.size + 1, 0, none⟩) (by dsimp only; omega) _, bl3.setCell (p := ⟨w.heap.size + 1, 0, none⟩) (by dsimp only; omega) _⟩
            case measure => simp [intOf]; omega
      · have HD := Lib.hid (HEA.out he)
        have dE : (er != 0) = true := bne_iff_ne.2 he
        clear HEA HZ2 he
        go_wp2_with ((with_reducible refine (CF.out _ (by (with_reducible repeat (first | exact blr _ | refine bla ?_ _ | refine blw _ ?_ | refine bld ?_ | refine bln _ ?_ | refine bls ?_ _ | refine blt ?_)))).mono ?_); rintro e w_ ⟨rfl, hb_⟩; obtain ⟨y1, rfl⟩ := Soft.BW.mk hb_; clear hb_)
        have hW : Below wr.heap.size wr (y1.w.alloc (.cells #[.int .i64 el, .int .i64 eh] 27)) := by (with_reducible repeat (first | exact blr _ | refine bla ?_ _ | refine blw _ ?_ | refine bld ?_ | refine bln _ ?_ | refine bls ?_ _ | refine blt ?_))
        have hr2 := HasBlk.below HRES.out hW
        have cr2 := hr2.cell 0
        have fr2 := hr2.frozen 0
        simp at cr2
        refine bodyPost_ret (v := .tuple #[.agg #[.slice none 0 0], .int .i64 er]) (by simp [results, Tryz.results47, go_sem, cr2, fr2]) rfl ?_
        exact ⟨⟨none, 0, 0, []⟩, by rw [HD.out], tb_nil _, by rw [HD.out], (bel_step HBEL.out hW).setCell (p := ⟨w.heap.size, 0, none⟩) (by dsimp only; omega) _⟩
    · obtain rfl : k = sn := by omega
      have hl : (upto (dPt xs F) k).length = k := upto_length _ _
      obtain ⟨q, rfl, hq, hqp, hqf⟩ := ownP_tb hown (by omega)
      have hE0 := HE.out
      rw [if_pos (dErr_zero k hz)] at hE0
      have cs := hblk.cell 0
      have cr := hres.cell 0
      have fr := hres.frozen 0
      simp at cs cr
      have HBEL := Lib.hid hbel
      have hq2 : q.At (wr.setCell ⟨w.heap.size, 0, none⟩ (.slice q.p q.n q.c)) := hq.setCell (fun b o e => by have := hqf b o e; dsimp only; omega) _
      clear hown hblk hres hbel hz
      by_cases hbg : dBig xs F k = true
      · rw [if_pos hbg] at hE0
        rw [hbg]
        have HD := Lib.hid hE0
        clear hE0 hbg
        go_wp2_with fail
        refine bodyPost_ret (v := .tuple #[.agg #[.slice none 0 0], .int .i64 5]) (by simp [results, Tryz.results47, go_sem, cr, fr]) rfl ?_
        exact ⟨⟨none, 0, 0, []⟩, by rw [HD.out], tb_nil _, by rw [HD.out], HBEL.out.setCell (p := ⟨w.heap.size, 0, none⟩) (by dsimp only; omega) _⟩
      · rw [if_neg hbg] at hE0
        have hbf : dBig xs F k = false := by simpa using hbg
        rw [hbf]
        have HD := Lib.hid hE0
        clear hE0 hbg hbf
        go_wp2_with fail
        refine bodyPost_ret (v := .tuple #[.agg #[.slice q.p q.n q.c], .int .i64 0]) (by simp [results, Tryz.results47, go_sem, cr, fr]) rfl ?_
        exact ⟨q, by rw [HD.out], hq2, by rw [HD.out]; exact hqp, HBEL.out.setCell (p := ⟨w.heap.size, 0, none⟩) (by dsimp only; omega) _⟩

end Go.Proofs.YteagdcgmmdiakaaGreat

namespace Go.Proofs.YteagdcgmmdiakaaGreat
set_option linter.unusedSimpArgs false
set_option linter.unusedVariables false
open Go.RowKit
set_option maxRecDepth 100000
set_option maxHeartbeats 4000000
attribute [local go_sem] Instr.field asAgg Soft.upon Soft.upon0 Soft.stepC Soft.BW.cell_if Soft.BW.frozen_if Soft.cell_alloc_if Soft.frozen_alloc_if
attribute [local irreducible] Soft.wpSoft Soft.wpMix

/-- A valid ship and load in memory, with all their weights together. -/
structure Afl (S : Sh) (L : La) (V : Wt) (w : World) : Prop where
  s : S.At w
  l : L.At w
  ok : ShipOk S
  li : LoadIn L
  v : TotIs (allW S L) V
theorem Afl.same {S : Sh} {L : La} {V : Wt} {w w' : World} (h : Afl S L V w) (hb : Below w.heap.size w w') : Afl S L V w' := ⟨h.s.same hb, h.l.same hb, h.ok, h.li, h.v⟩
theorem afl_check {S : Sh} {L : La} {V : Wt} {w : World} (h : Afl S L V w) : Calls Tryz.prog 111 #[.agg #[.int .i64 (S).len, .slice ((S).dra).p ((S).dra).n ((S).dra).c, .slice ((S).hei).p ((S).hei).n ((S).hei).c, .slice ((S).cen).p ((S).cen).n ((S).cen).c, .slice ((S).tri).p ((S).tri).n ((S).tri).c, .slice ((S).flo).p ((S).flo).n ((S).flo).c, .slice ((S).cross).p ((S).cross).n ((S).cross).c, .slice ((S).sin).p ((S).sin).n ((S).sin).c, .slice ((S).shi).p ((S).shi).n ((S).shi).c, .int .i64 (((S).light).mass).lo, .int .i64 (((S).light).mass).hi, .int .i64 (((S).light).along).lo, .int .i64 (((S).light).along).hi, .int .i64 (((S).light).high).lo, .int .i64 (((S).light).high).hi], .agg #[.slice ((L).ws).p ((L).ws).n ((L).ws).c, .int .i64 ((L).sur).lo, .int .i64 ((L).sur).hi, .int .i64 ((L).shi).lo, .int .i64 ((L).shi).hi]] w fun e w' => e = .returned (.int .i64 0) ∧ Below w.heap.size w w' := by
  have := cond_check S L w h.s h.l h.ok
  rw [ldErr_ok h.li] at this
  exact this

theorem cond_Tonnes (S : Sh) (L : La) (V : Wt) (w : World) (h : Afl S L V w) :
    Calls Tryz.prog 100 #[.agg #[.int .i64 (S).len, .slice ((S).dra).p ((S).dra).n ((S).dra).c, .slice ((S).hei).p ((S).hei).n ((S).hei).c, .slice ((S).cen).p ((S).cen).n ((S).cen).c, .slice ((S).tri).p ((S).tri).n ((S).tri).c, .slice ((S).flo).p ((S).flo).n ((S).flo).c, .slice ((S).cross).p ((S).cross).n ((S).cross).c, .slice ((S).sin).p ((S).sin).n ((S).sin).c, .slice ((S).shi).p ((S).shi).n ((S).shi).c, .int .i64 (((S).light).mass).lo, .int .i64 (((S).light).mass).hi, .int .i64 (((S).light).along).lo, .int .i64 (((S).light).along).hi, .int .i64 (((S).light).high).lo, .int .i64 (((S).light).high).hi], .agg #[.slice ((L).ws).p ((L).ws).n ((L).ws).c, .int .i64 ((L).sur).lo, .int .i64 ((L).sur).hi, .int .i64 ((L).shi).lo, .int .i64 ((L).shi).hi]] w fun e w' => e = .returned (.tuple #[.agg #[.int .i64 (tonR V).lo, .int .i64 (tonR V).hi], .int .i64 0]) ∧ Below w.heap.size w w' := by
  have CK := Lib.hid (fun W (hb : Below w.heap.size w W) => afl_check (h.same hb))
  have CT := Lib.hid (fun W (hb : Below w.heap.size w W) => cond_tonnes S L V W (h.l.same hb) h.li h.v)
  clear h
  generalize tonR V = r at *
  obtain ⟨v0, v1, v2, v3, v4, v5, v6, v7, v8, v9, v10, v11, v12, v13, v14, HS0, E1, E2, E3, E4, E5, E6, E7, E8, E9⟩ := ship_letters S
  rw [HS0.out] at CK CT ⊢
  generalize Value.slice L.ws.p L.ws.n L.ws.c = x0 at CK CT ⊢
  go_enter Tryz.func100, Tryz.ntmps100
  go_wp2_with (first | (go_at_call 111; (with_reducible refine (CK.out _ (by (with_reducible repeat (first | exact blr _ | refine bla ?_ _ | refine blw _ ?_ | refine bld ?_ | refine bln _ ?_ | refine bls ?_ _ | refine blt ?_)))).mono ?_); rintro e w_ ⟨rfl, hb_⟩; obtain ⟨y1, rfl⟩ := Soft.BW.mk hb_; clear hb_) | (go_at_call 108; (with_reducible refine (CT.out _ (by (with_reducible repeat (first | exact blr _ | refine bla ?_ _ | refine blw _ ?_ | refine bld ?_ | refine bln _ ?_ | refine bls ?_ _ | refine blt ?_)))).mono ?_); rintro e w_ ⟨rfl, hb_⟩; obtain ⟨y2, rfl⟩ := Soft.BW.mk hb_; clear hb_))
  refine bodyPost_ret (v := .tuple #[.agg #[.int .i64 (r).lo, .int .i64 (r).hi], .int .i64 0]) (by simp [results, Tryz.results100, go_sem]) rfl ?_
  refine ⟨rfl, ?_⟩
  (with_reducible repeat (first | exact blr _ | refine bla ?_ _ | refine blw _ ?_ | refine bld ?_ | refine bln _ ?_ | refine bls ?_ _ | refine blt ?_))

theorem cond_Draft (S : Sh) (L : La) (V : Wt) (w : World) (h : Afl S L V w) :
    Calls Tryz.prog 101 #[.agg #[.int .i64 (S).len, .slice ((S).dra).p ((S).dra).n ((S).dra).c, .slice ((S).hei).p ((S).hei).n ((S).hei).c, .slice ((S).cen).p ((S).cen).n ((S).cen).c, .slice ((S).tri).p ((S).tri).n ((S).tri).c, .slice ((S).flo).p ((S).flo).n ((S).flo).c, .slice ((S).cross).p ((S).cross).n ((S).cross).c, .slice ((S).sin).p ((S).sin).n ((S).sin).c, .slice ((S).shi).p ((S).shi).n ((S).shi).c, .int .i64 (((S).light).mass).lo, .int .i64 (((S).light).mass).hi, .int .i64 (((S).light).along).lo, .int .i64 (((S).light).along).hi, .int .i64 (((S).light).high).lo, .int .i64 (((S).light).high).hi], .agg #[.slice ((L).ws).p ((L).ws).n ((L).ws).c, .int .i64 ((L).sur).lo, .int .i64 ((L).sur).hi, .int .i64 ((L).shi).lo, .int .i64 ((L).shi).hi]] w fun e w' => e = .returned (.tuple #[.agg #[.int .i64 ((overE S.dra.ps (tonR V)).1).lo, .int .i64 ((overE S.dra.ps (tonR V)).1).hi], .int .i64 (overE S.dra.ps (tonR V)).2]) ∧ Below w.heap.size w w' := by
  have CK := Lib.hid (fun W (hb : Below w.heap.size w W) => afl_check (h.same hb))
  have CT := Lib.hid (fun W (hb : Below w.heap.size w W) => cond_tonnes S L V W (h.l.same hb) h.li h.v)
  have CO := Lib.hid (fun W (hb : Below w.heap.size w W) => cond_over S.dra (tonR V) W (h.s.dra.same hb))
  clear h
  generalize overE S.dra.ps (tonR V) = E at *
  obtain ⟨⟨el, eh⟩, er⟩ := E
  dsimp only at CO
  generalize tonR V = r at *
  obtain ⟨v0, v1, v2, v3, v4, v5, v6, v7, v8, v9, v10, v11, v12, v13, v14, HS0, E1, E2, E3, E4, E5, E6, E7, E8, E9⟩ := ship_letters S
  rw [HS0.out] at CK CT ⊢
  rw [E1.out] at CO
  generalize Value.slice L.ws.p L.ws.n L.ws.c = x0 at CK CT ⊢
  go_enter Tryz.func101, Tryz.ntmps101
  go_wp2_with ((go_at_call 111; (with_reducible refine (CK.out _ (by (with_reducible repeat (first | exact blr _ | refine bla ?_ _ | refine blw _ ?_ | refine bld ?_ | refine bln _ ?_ | refine bls ?_ _ | refine blt ?_)))).mono ?_); rintro e w_ ⟨rfl, hb_⟩; obtain ⟨y1, rfl⟩ := Soft.BW.mk hb_; clear hb_))
  ((refine Soft.region_mix [(true, 0), (true, 1), (true, 2), (true, 3), (false, 4), (false, 5), (true, 6), (true, 7)] [8, 9] (by kernel_rfl) (by kernel_rfl) (by kernel_rfl) (by kernel_rfl) ?_; change Soft.wpMix _ _ _ _ [(true, _), (true, _), (true, _), (true, _), (false, _), (false, _), (true, _), (true, _)] _ _); (refine Soft.mix_q (fun K hK => ?_); go_simp; (try go_bits); first | (refine hK _ ?_; clear hK K) | (apply Exists.intro; refine ⟨fun x => ?_, hK _ ?_⟩; fail)); (refine Soft.mix_q (fun K hK => ?_); go_simp; (try go_bits); first | (refine hK _ ?_; clear hK K) | (apply Exists.intro; refine ⟨fun x => ?_, hK _ ?_⟩; fail)); (refine Soft.mix_q (fun K hK => ?_); go_simp; (try go_bits); first | (refine hK _ ?_; clear hK K) | (apply Exists.intro; refine ⟨fun x => ?_, hK _ ?_⟩; fail)); (refine Soft.mix_q (fun K hK => ?_); go_simp; (try go_bits); first | (refine hK _ ?_; clear hK K) | (apply Exists.intro; refine ⟨fun x => ?_, hK _ ?_⟩; fail)); (refine Soft.mix_c (fun K hK => ?_); go_simp; (try go_bits); ((go_at_call 108; (with_reducible refine (CT.out _ (by (with_reducible repeat (first | exact blr _ | refine bla ?_ _ | refine blw _ ?_ | refine bld ?_ | refine bln _ ?_ | refine bls ?_ _ | refine blt ?_)))).mono ?_); rintro e w_ ⟨rfl, hb_⟩; obtain ⟨y2, rfl⟩ := Soft.BW.mk hb_; clear hb_; refine ⟨_, rfl, (by first | with_reducible exact Soft.BW.below y2 | simpa using Soft.BW.below y2), hK _ _ ?_⟩)); clear hK K); (refine Soft.mix_c (fun K hK => ?_); go_simp; (try go_bits); ((go_at_call 107; (with_reducible refine (CO.out _ (by (with_reducible repeat (first | exact blr _ | refine bla ?_ _ | refine blw _ ?_ | refine bld ?_ | refine bln _ ?_ | refine bls ?_ _ | refine blt ?_)))).mono ?_); rintro e w_ ⟨rfl, hb_⟩; obtain ⟨y3, rfl⟩ := Soft.BW.mk hb_; clear hb_; refine ⟨_, rfl, (by first | with_reducible exact Soft.BW.below y3 | simpa using Soft.BW.below y3), hK _ _ ?_⟩)); clear hK K); (refine Soft.mix_q (fun K hK => ?_); go_simp; (try go_bits); first | (refine hK _ ?_; clear hK K) | (apply Exists.intro; refine ⟨fun x => ?_, hK _ ?_⟩; fail)); (refine Soft.mix_q (fun K hK => ?_); go_simp; (try go_bits); first | (refine hK _ ?_; clear hK K) | (apply Exists.intro; refine ⟨fun x => ?_, hK _ ?_⟩; fail)); (refine Soft.mix_nil ?_; intro hbx; change wpList _ _ _ [_, _] _ _))
  go_wp2_with fail
  refine bodyPost_ret (v := .tuple #[.agg #[.int .i64 el, .int .i64 eh], .int .i64 er]) (by simp [results, Tryz.results101, go_sem]) rfl ?_
  refine ⟨rfl, ?_⟩
  (with_reducible repeat (first | exact blr _ | refine bla ?_ _ | refine blw _ ?_ | refine bld ?_ | refine bln _ ?_ | refine bls ?_ _ | refine blt ?_))

end Go.Proofs.YteagdcgmmdiakaaGreat

namespace Go.Proofs.YteagdcgmmdiakaaGreat
set_option linter.unusedSimpArgs false
set_option linter.unusedVariables false
open Go.RowKit
set_option maxRecDepth 100000
set_option maxHeartbeats 4000000
attribute [local go_sem] Instr.field asAgg Soft.upon Soft.upon0 Soft.stepC Soft.BW.cell_if Soft.BW.frozen_if Soft.cell_alloc_if Soft.frozen_alloc_if
attribute [local irreducible] Soft.wpSoft Soft.wpMix

/-- The metacentric height. -/
def metE (S : Sh) (L : La) (V : Wt) : Rg × Int := if (overE S.hei.ps (tonR V)).2 = 0 then (subR (overE S.hei.ps (tonR V)).1 (raiR V L), 0) else (⟨0, 0⟩, (overE S.hei.ps (tonR V)).2)

theorem cond_Metric (S : Sh) (L : La) (V : Wt) (w : World) (h : Afl S L V w) :
    Calls Tryz.prog 104 #[.agg #[.int .i64 (S).len, .slice ((S).dra).p ((S).dra).n ((S).dra).c, .slice ((S).hei).p ((S).hei).n ((S).hei).c, .slice ((S).cen).p ((S).cen).n ((S).cen).c, .slice ((S).tri).p ((S).tri).n ((S).tri).c, .slice ((S).flo).p ((S).flo).n ((S).flo).c, .slice ((S).cross).p ((S).cross).n ((S).cross).c, .slice ((S).sin).p ((S).sin).n ((S).sin).c, .slice ((S).shi).p ((S).shi).n ((S).shi).c, .int .i64 (((S).light).mass).lo, .int .i64 (((S).light).mass).hi, .int .i64 (((S).light).along).lo, .int .i64 (((S).light).along).hi, .int .i64 (((S).light).high).lo, .int .i64 (((S).light).high).hi], .agg #[.slice ((L).ws).p ((L).ws).n ((L).ws).c, .int .i64 ((L).sur).lo, .int .i64 ((L).sur).hi, .int .i64 ((L).shi).lo, .int .i64 ((L).shi).hi]] w fun e w' => e = .returned (.tuple #[.agg #[.int .i64 ((metE S L V).1).lo, .int .i64 ((metE S L V).1).hi], .int .i64 (metE S L V).2]) ∧ Below w.heap.size w w' := by
  have CK := Lib.hid (fun W (hb : Below w.heap.size w W) => afl_check (h.same hb))
  have CT := Lib.hid (fun W (hb : Below w.heap.size w W) => cond_tonnes S L V W (h.l.same hb) h.li h.v)
  have CR := Lib.hid (fun W (hb : Below w.heap.size w W) => cond_raised S L V W (h.l.same hb) h.li h.v)
  have CO := Lib.hid (fun W (hb : Below w.heap.size w W) => cond_over S.hei (tonR V) W (h.s.hei.same hb))
  obtain ⟨v0, v1, v2, v3, v4, v5, v6, v7, v8, v9, v10, v11, v12, v13, v14, HS0, E1, E2, E3, E4, E5, E6, E7, E8, E9⟩ := ship_letters S
  rw [HS0.out] at CK CT CR ⊢
  rw [E2.out] at CO
  generalize Value.slice L.ws.p L.ws.n L.ws.c = x0 at CK CT CR ⊢
  by_cases h0 : (overE S.hei.ps (tonR V)).2 = 0
  · have HM := Lib.hid (show metE S L V = (subR (overE S.hei.ps (tonR V)).1 (raiR V L), 0) from if_pos h0)
    obtain ⟨b1, b2, b3⟩ := overE_bd h.ok.hei _ h0
    obtain ⟨g1, g2, g3⟩ := high_in h.v
    obtain ⟨m1, m2, m3⟩ := mass_in h.v
    obtain ⟨s1, s2, s3⟩ := h.li.sur
    obtain ⟨q1, q2⟩ := quoR_bd (a := L.sur) (b := V.mass) (K := 1000000000000) (by decide) (by omega) s2 s3 m1 (by omega)
    have q3 := quoR_le (b := V.mass) s2 m1
    have CM := Lib.hid (fun W => cond_minus (overE S.hei.ps (tonR V)).1 (raiR V L) W ⟨by omega, by omega⟩ ⟨by omega, by omega⟩ (by unfold raiR addR; dsimp only; omega) (by unfold raiR addR; dsimp only; omega))
    rw [HM.out]
    clear HM h b1 b2 b3 g1 g2 g3 m1 m2 m3 s1 s2 s3 q1 q2 q3
    generalize overE S.hei.ps (tonR V) = E at *
    obtain ⟨⟨el, eh⟩, er⟩ := E
    dsimp only at CO CM h0
    subst h0
    generalize tonR V = r at *
    generalize raiR V L = rr at *
    generalize subR ⟨el, eh⟩ rr = sb at *
    go_enter Tryz.func104, Tryz.ntmps104
    go_wp2_with ((go_at_call 111; (with_reducible refine (CK.out _ (by (with_reducible repeat (first | exact blr _ | refine bla ?_ _ | refine blw _ ?_ | refine bld ?_ | refine bln _ ?_ | refine bls ?_ _ | refine blt ?_)))).mono ?_); rintro e w_ ⟨rfl, hb_⟩; obtain ⟨y1, rfl⟩ := Soft.BW.mk hb_; clear hb_))
    (refine Soft.region1e 8 10 [0, 1, 2, 3, 4, 5, 6, 7, 8] 9 [10, 11] _ (by kernel_rfl) (by kernel_rfl) (by intro _ _ _ _ _ _ h; dsimp +zetaDelta only [Exit.then] at h ⊢; exact Soft.bodyPost_put h) (by kernel_rfl) (by kernel_rfl) (by decide) rfl rfl (by kernel_rfl) ?_; change Soft.wpSoft _ _ _ _ _ [_, _, _, _, _, _, _, _, _] _; (repeat (refine Soft.soft_step (fun K hK => ?_); go_simp; (try go_bits); first | (refine hK _ ?_; clear hK K) | (apply Exists.intro; refine ⟨fun x => ?_, hK _ ?_⟩; (first | (go_at_call 108; with_reducible exact (CT.out _ (by (with_reducible repeat (first | exact blr _ | refine bla ?_ _ | refine blw _ ?_ | refine bld ?_ | refine bln _ ?_ | refine bls ?_ _ | refine blt ?_))))) | (go_at_call 107; with_reducible exact (CO.out _ (by (with_reducible repeat (first | exact blr _ | refine bla ?_ _ | refine blw _ ?_ | refine bld ?_ | refine bln _ ?_ | refine bls ?_ _ | refine blt ?_)))))); clear hK K))); refine Soft.soft_nil ?_)
    refine ⟨fun b => .pointer (some ⟨b, 0, none⟩), .cells #[.int .i64 0, .int .i64 0] 27, fun x => by go_simp, fun kb xx hnew => ?_⟩
    change wpList _ _ _ [_, _] _ _
    obtain ⟨N, z1, rfl, ex⟩ := newSplit hnew
    rw [ex]
    clear hnew ex xx
    refine wpList_store_row rfl 27 _ _ rfl N.w.heap.size _ rfl rfl 27 _ (HasBlk.below (Soft.heap_new N.w _) z1.below) (by kernel_rfl) rfl (by kernel_rfl) ?_
    obtain ⟨z2, ex2, ex3⟩ := bwStore z1 #[.int .i64 el, .int .i64 eh]
    rw [ex2]
    clear ex2 ex3 z1
    go_wp2_with fail
    ((refine Soft.region_mix [(true, 0), (true, 1), (true, 2), (false, 3), (false, 4)] [5, 6] (by kernel_rfl) (by kernel_rfl) (by kernel_rfl) (by kernel_rfl) ?_; change Soft.wpMix _ _ _ _ [(true, _), (true, _), (true, _), (false, _), (false, _)] _ _); (refine Soft.mix_q (fun K hK => ?_); go_simp; (try go_bits); first | (refine hK _ ?_; clear hK K) | (apply Exists.intro; refine ⟨fun x => ?_, hK _ ?_⟩; fail)); (refine Soft.mix_q (fun K hK => ?_); go_simp; (try go_bits); first | (refine hK _ ?_; clear hK K) | (apply Exists.intro; refine ⟨fun x => ?_, hK _ ?_⟩; fail)); (refine Soft.mix_q (fun K hK => ?_); go_simp; (try go_bits); first | (refine hK _ ?_; clear hK K) | (apply Exists.intro; refine ⟨fun x => ?_, hK _ ?_⟩; fail)); (refine Soft.mix_c (fun K hK => ?_); go_simp; (try go_bits); ((go_at_call 112; (with_reducible refine (CR.out _ (by (with_reducible repeat (first | exact blr _ | refine bla ?_ _ | refine blw _ ?_ | refine bld ?_ | refine bln _ ?_ | refine bls ?_ _ | refine blt ?_)))).mono ?_); rintro e w_ ⟨rfl, hb_⟩; obtain ⟨y2, rfl⟩ := Soft.BW.mk hb_; clear hb_; refine ⟨_, rfl, (by first | with_reducible exact Soft.BW.below y2 | simpa using Soft.BW.below y2), hK _ _ ?_⟩)); clear hK K); (refine Soft.mix_c (fun K hK => ?_); go_simp; (try go_bits); ((go_at_call 50; (with_reducible refine (CM.out _).mono ?_); rintro e w_ ⟨rfl, hb_⟩; obtain ⟨y3, rfl⟩ := Soft.BW.mk hb_; clear hb_; refine ⟨_, rfl, (by first | with_reducible exact Soft.BW.below y3 | simpa using Soft.BW.below y3), hK _ _ ?_⟩)); clear hK K); (refine Soft.mix_nil ?_; intro hbx; change wpList _ _ _ [_, _] _ _))
    go_wp2_with fail
    refine bodyPost_ret (v := .tuple #[.agg #[.int .i64 (sb).lo, .int .i64 (sb).hi], .int .i64 0]) (by simp [results, Tryz.results104, go_sem]) rfl ?_
    refine ⟨rfl, ?_⟩
    (with_reducible repeat (first | exact blr _ | refine bla ?_ _ | refine blw _ ?_ | refine bld ?_ | refine bln _ ?_ | refine bls ?_ _ | refine blt ?_))
  · have HM := Lib.hid (show metE S L V = (⟨0, 0⟩, (overE S.hei.ps (tonR V)).2) from if_neg h0)
    rw [HM.out]
    clear HM h
    generalize overE S.hei.ps (tonR V) = E at *
    obtain ⟨⟨el, eh⟩, er⟩ := E
    dsimp only at CO h0 ⊢
    have dE : (er != 0) = true := bne_iff_ne.2 h0
    clear h0
    generalize tonR V = r at *
    generalize raiR V L = rr at *
    go_enter Tryz.func104, Tryz.ntmps104
    go_wp2_with ((go_at_call 111; (with_reducible refine (CK.out _ (by (with_reducible repeat (first | exact blr _ | refine bla ?_ _ | refine blw _ ?_ | refine bld ?_ | refine bln _ ?_ | refine bls ?_ _ | refine blt ?_)))).mono ?_); rintro e w_ ⟨rfl, hb_⟩; obtain ⟨y1, rfl⟩ := Soft.BW.mk hb_; clear hb_))
    (refine Soft.region1e 8 10 [0, 1, 2, 3, 4, 5, 6, 7, 8] 9 [10, 11] _ (by kernel_rfl) (by kernel_rfl) (by intro _ _ _ _ _ _ h; dsimp +zetaDelta only [Exit.then] at h ⊢; exact Soft.bodyPost_put h) (by kernel_rfl) (by kernel_rfl) (by decide) rfl rfl (by kernel_rfl) ?_; change Soft.wpSoft _ _ _ _ _ [_, _, _, _, _, _, _, _, _] _; (repeat (refine Soft.soft_step (fun K hK => ?_); go_simp; (try go_bits); first | (refine hK _ ?_; clear hK K) | (apply Exists.intro; refine ⟨fun x => ?_, hK _ ?_⟩; (first | (go_at_call 108; with_reducible exact (CT.out _ (by (with_reducible repeat (first | exact blr _ | refine bla ?_ _ | refine blw _ ?_ | refine bld ?_ | refine bln _ ?_ | refine bls ?_ _ | refine blt ?_))))) | (go_at_call 107; with_reducible exact (CO.out _ (by (with_reducible repeat (first | exact blr _ | refine bla ?_ _ | refine blw _ ?_ | refine bld ?_ | refine bln _ ?_ | refine bls ?_ _ | refine blt ?_)))))); clear hK K))); refine Soft.soft_nil ?_)
    refine ⟨fun b => .pointer (some ⟨b, 0, none⟩), .cells #[.int .i64 0, .int .i64 0] 27, fun x => by go_simp, fun kb xx hnew => ?_⟩
    change wpList _ _ _ [_, _] _ _
    obtain ⟨N, z1, rfl, ex⟩ := newSplit hnew
    rw [ex]
    clear hnew ex xx
    refine wpList_store_row rfl 27 _ _ rfl N.w.heap.size _ rfl rfl 27 _ (HasBlk.below (Soft.heap_new N.w _) z1.below) (by kernel_rfl) rfl (by kernel_rfl) ?_
    obtain ⟨z2, ex2, ex3⟩ := bwStore z1 #[.int .i64 el, .int .i64 eh]
    rw [ex2]
    clear ex2 ex3 z1
    go_wp2_with fail
    refine bodyPost_ret (v := .tuple #[.agg #[.int .i64 0, .int .i64 0], .int .i64 er]) (by simp [results, Tryz.results104, go_sem]) rfl ?_
    refine ⟨rfl, ?_⟩
    (with_reducible repeat (first | exact blr _ | refine bla ?_ _ | refine blw _ ?_ | refine bld ?_ | refine bln _ ?_ | refine bls ?_ _ | refine blt ?_))

end Go.Proofs.YteagdcgmmdiakaaGreat
