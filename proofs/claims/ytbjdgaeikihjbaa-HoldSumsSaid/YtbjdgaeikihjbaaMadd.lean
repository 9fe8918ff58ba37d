/-
  The reference's maker of compartments out of numbers: sloped, free, some.
  The reference's maker of compartments out of numbers: free, some.
  Conditions: each theorem's own premises.
-/
import Derived.Test.YtbjdgaeikihjbaaMadb
import Derived.Test.YtbjdgaeikihjbaaOver
namespace Go.Proofs.Ytbjdgaeikihjbaa
set_option linter.unusedSimpArgs false
set_option linter.unusedVariables false
open Go.RowKit
set_option maxRecDepth 100000
set_option maxHeartbeats 4000000
attribute [local go_sem] Instr.field asAgg Soft.upon Soft.BW.cell_if Soft.BW.frozen_if Soft.cell_alloc_if Soft.frozen_alloc_if

/-- A table over places, its numbers from 0 on, none of them great. -/
structure Made (xl : List Int) (ps : List Pt) : Prop where
  len : ps.length = xl.length
  at_ : ∀ j, j < ps.length → (pt ps j).x = iv xl j ∧ 0 ≤ (pt ps j).lo ∧ (pt ps j).lo ≤ (pt ps j).hi ∧ (pt ps j).hi ≤ 20000

/-- A table that the call has laid. -/
def TabPost (w : World) (φ : List Pt → Prop) (e : Ending) (w' : World) : Prop :=
  ∃ (g n c : Nat) (ps : List Pt), e = .returned (.agg #[.slice (some ⟨g, 0, none⟩) n c]) ∧ (w.heap.size ≤ g ∧ ∃ cur, HasBlk w' g cur 114) ∧ Tb.At w' ⟨some ⟨g, 0, none⟩, n, c, ps⟩ ∧ φ ps ∧ Below w.heap.size w w'

theorem pt_snoc (l : List Pt) (x : Pt) (j : Nat) : pt (l ++ [x]) j = if j = l.length then x else pt l j := by
  unfold pt
  by_cases h : j < l.length
  · rw [List.getElem?_append_left h, if_neg (by omega)]
  · rw [List.getElem?_append_right (by omega)]
    by_cases e : j = l.length
    · subst e; simp
    · rw [if_neg e, List.getElem?_eq_none (by simp; omega), List.getElem?_eq_none (by omega)]

/-- What the first loop carries. -/
structure SlRel (xl : List Int) (k : Nat) (l : List Pt) (lo hi : Int) : Prop where
  len : l.length = k
  at_ : ∀ j, j < k → (pt l j).x = iv xl j ∧ 0 ≤ (pt l j).lo ∧ (pt l j).lo ≤ (pt l j).hi ∧ (pt l j).hi ≤ hi
  up : ∀ j, j + 1 < k → (pt l j).lo ≤ (pt l (j + 1)).lo ∧ (pt l j).hi ≤ (pt l (j + 1)).hi
  now : 0 ≤ lo ∧ lo ≤ hi ∧ hi ≤ 33 + 2000 * (k : Int)
  last : k ≠ 0 → (pt l (k - 1)).lo ≤ lo ∧ (pt l (k - 1)).hi ≤ hi

theorem SlRel.next {xl : List Int} {k : Nat} {l : List Pt} {lo hi lo' hi' : Int} (h : SlRel xl k l lo hi) (h1 : lo ≤ lo') (h2 : hi ≤ hi') (h3 : lo' ≤ hi') (h4 : hi' ≤ 33 + 2000 * ((k + 1 : Nat) : Int)) :
    SlRel xl (k + 1) (l ++ [⟨iv xl k, lo, hi⟩]) lo' hi' := by
  obtain ⟨n1, n2, n3⟩ := h.now
  have hlen := h.len
  refine ⟨by simp [hlen], fun j hj => ?_, fun j hj => ?_, ⟨by omega, h3, h4⟩, fun _ => ?_⟩
  · rw [pt_snoc, hlen]
    split
    · rename_i e; subst e; exact ⟨rfl, n1, n2, h2⟩
    · have := h.at_ j (by omega); exact ⟨this.1, this.2.1, this.2.2.1, by omega⟩
  · rw [pt_snoc, pt_snoc, hlen, if_neg (by omega)]
    split
    · rename_i e
      have e2 : j = k - 1 := by omega
      subst e2
      exact h.last (by omega)
    · exact h.up j (by omega)
  · rw [pt_snoc, hlen, if_pos (by omega)]
    exact ⟨h1, h2⟩

theorem HasBlk.belowAt {W W' : World} {B X : Nat} {c : Array Value} {t : TypeId} (h : HasBlk W X c t) (hb : Below B W W') (hX : X < B) : HasBlk W' X c t := (hb.block X hX).trans h


/-- What the second loop carries. -/
structure TuRel (xl : List Int) (l : List Pt) (n j : Nat) (m : List Pt) : Prop where
  len : m.length = j
  at_ : ∀ i, i < j → pt m i = ⟨iv xl i, (pt l (n - 1 - i)).lo, (pt l (n - 1 - i)).hi⟩
theorem TuRel.next {xl : List Int} {l : List Pt} {n j : Nat} {m : List Pt} (h : TuRel xl l n j m) : TuRel xl l n (j + 1) (m ++ [⟨iv xl j, (pt l (n - 1 - j)).lo, (pt l (n - 1 - j)).hi⟩]) := by
  refine ⟨by simp [h.len], fun i hi => ?_⟩
  rw [pt_snoc, h.len]
  split
  · rename_i e; subst e; rfl
  · exact h.at_ i (by omega)

/-- A table whose Lo and Hi go one way. -/
def Slope (r : Rw) (fall : Bool) (ps : List Pt) : Prop :=
  Made (xsS r) ps ∧ ∀ j, j + 1 < ps.length → if fall then (pt ps (j + 1)).lo ≤ (pt ps j).lo ∧ (pt ps (j + 1)).hi ≤ (pt ps j).hi else (pt ps j).lo ≤ (pt ps (j + 1)).lo ∧ (pt ps j).hi ≤ (pt ps (j + 1)).hi

theorem slope_up {r : Rw} {k : Nat} {l : List Pt} {a b : Int} (hx : (xsS r).length = k) (h8 : k ≤ 8) (h : SlRel (xsS r) k l a b) : Slope r false l := by
  have e := h.len
  have n := h.now
  refine ⟨⟨by omega, fun j hj => ?_⟩, fun j hj => ?_⟩
  · have := h.at_ j (by omega)
    exact ⟨this.1, this.2.1, this.2.2.1, by omega⟩
  · exact h.up j (by omega)
theorem slope_down {r : Rw} {k : Nat} {l m : List Pt} {a b : Int} (hx : (xsS r).length = k) (h8 : k ≤ 8) (h : SlRel (xsS r) k l a b) (ht : TuRel (xsS r) l k k m) : Slope r true m := by
  have e := ht.len
  have n := h.now
  refine ⟨⟨by omega, fun j hj => ?_⟩, fun j hj => ?_⟩
  · rw [ht.at_ j (by omega)]
    have := h.at_ (k - 1 - j) (by omega)
    exact ⟨rfl, this.2.1, this.2.2.1, by dsimp only; omega⟩
  · rw [ht.at_ j (by omega), ht.at_ (j + 1) (by omega)]
    have := h.up (k - 1 - (j + 1)) (by omega)
    rw [show k - 1 - (j + 1) + 1 = k - 1 - j by omega] at this
    exact this

theorem R2_sloped (r : Rw) (from_ most : Int) (fall : Bool) (w : World) (hr : r.At w) (hf : 0 ≤ from_ ∧ from_ ≤ 100) (hm : 1 ≤ most ∧ most ≤ 1000) :
    Calls Try.prog 63 #[.agg #[.int .i64 (r).id, .int .i64 (r).first, .slice (r).steps.p (r).steps.n (r).steps.c, .slice (r).vals.p (r).vals.n (r).vals.c], .int .i64 from_, .int .i64 most, .bool fall] w (TabPost w (Slope r fall)) := by
  obtain ⟨f1, f2⟩ := hf
  obtain ⟨m1, m2⟩ := hm
  have hvals := hr.vals
  obtain ⟨a0, ha0⟩ : ∃ a0, a0 = pickS r.vals.xs from_ % 20 := ⟨_, rfl⟩
  have a1 := Int.emod_nonneg (pickS r.vals.xs from_) (show (20 : Int) ≠ 0 by omega)
  have a2 := Int.emod_lt_of_pos (pickS r.vals.xs from_) (show (0 : Int) < 20 by omega)
  rw [← ha0] at a1 a2
  obtain ⟨b0, hb0⟩ : ∃ b0, b0 = pickS r.vals.xs (from_ + 1) % 15 := ⟨_, rfl⟩
  have b1 := Int.emod_nonneg (pickS r.vals.xs (from_ + 1)) (show (15 : Int) ≠ 0 by omega)
  have b2 := Int.emod_lt_of_pos (pickS r.vals.xs (from_ + 1)) (show (0 : Int) < 15 by omega)
  rw [← hb0] at b1 b2
  have HA := Lib.hid ha0; have HB := Lib.hid hb0; clear ha0 hb0
  go_enter Try.func63, Try.ntmps63
  go_wp2_with (go_at_call 109; (with_reducible refine (R2_xs r _ ((hr.alloc _).alloc _)).mono ?_); rintro e w_ ⟨gx, nx, cx, rfl, hgx, hxs, hxo, hx2, hx8, hxb⟩; obtain ⟨x1, rfl⟩ := Soft.BW.mk hxb; clear hxb)
  go_wp2_with (first | (go_at_call 62; (with_reducible refine (R2_Pick r.vals _ _ (by with_reducible repeat (first | exact hvals | refine Is.At.alloc ?_ _ | refine Is.At.bw ?_ _))).mono ?_); rintro e w_ ⟨rfl, hw_⟩; subst w_) | (go_at_call 37; (with_reducible refine (R2_Mod _ _ a0 _ (by omega) (by omega) HA.out).mono ?_); rintro e w_ ⟨rfl, hw_⟩; subst w_) | (go_at_call 37; (with_reducible refine (R2_Mod _ _ b0 _ (by omega) (by omega) HB.out).mono ?_); rintro e w_ ⟨rfl, hw_⟩; subst w_))
  have hS : w.heap.size + 1 < x1.w.heap.size := by have := x1.below.size; simp at this; omega
  have hvx : Is.At x1.w r.vals := ((hvals.alloc _).alloc _).bw x1
  have cb : x1.w.cell? ⟨w.heap.size, 3, none⟩ = some (.slice r.vals.p r.vals.n r.vals.c) := by simp [Soft.BW.cell_if, Soft.cell_alloc_if]
  have hbx : Below w.heap.size w x1.w := by (repeat (first | with_reducible exact bel_refl _ | with_reducible refine bel_alloc ?_ _ | with_reducible refine bel_bw _ ?_ | with_reducible refine bel_drew ?_ | with_reducible refine bel_drewN _ ?_ | ((with_reducible refine bel_set ?_ ?_ _); rotate_left; focus (first | (simp; done) | omega | (simp; omega))) | refine bel_step ?_ (by with_reducible assumption)))
  have HX := Lib.hid (show XsOk (xsS r) ∧ (xsS r).length = nx from ⟨hxo, hxs.1⟩)
  have hgxl : gx < x1.w.heap.size := by
    obtain ⟨_, _, _, _, _, h5⟩ := hxs
    obtain ⟨b, o, e, hb, _⟩ := h5 (by dsimp only; omega)
    cases e; exact hb
  have HCX := Lib.hid (show ∀ i, i < nx → x1.w.cell? ⟨gx, i, none⟩ = some (.int .i64 (iv (xsS r) i)) from fun i hi => by
    obtain ⟨_, _, _, _, _, h5⟩ := hxs
    obtain ⟨b, o, e, hb, hc⟩ := h5 (by dsimp only; omega)
    cases e
    have := hc i hi
    rwa [Nat.zero_add] at this)
  have hcx : nx ≤ cx ∧ cx ≤ 9223372036854775807 := ⟨hxs.2.2.1, hxs.2.2.2.1⟩
  obtain ⟨hcx1, hcx2⟩ := hcx
  have own0 : OwnP (x1.w.alloc (.cells #[.slice none 0 0] 33)) (x1.w.heap.size + 1) (.slice none 0 0) [] := World.ownsRow_nil _ _ _ _
  have rel0 : SlRel (xsS r) 0 [] a0 (a0 + b0) := ⟨rfl, fun j hj => by omega, fun j hj => by omega, ⟨a1, by omega, by omega⟩, fun h => by omega⟩
  clear hxs hxo hvals hgx HA HB hr
  go_loopw [11, 12, 13] (fun lo hi i wr => ∃ (k : Nat) (l : List Pt) (a b : Int) (v : Value), lo = .int .i64 a ∧ hi = .int .i64 b ∧ i = .int .i64 k ∧ k ≤ nx ∧ SlRel (xsS r) k l a b ∧ HasBlk wr x1.w.heap.size #[v] 33 ∧ OwnP wr (x1.w.heap.size + 1) v l ∧ Below x1.w.heap.size x1.w wr) (fun _ _ i _ => nx - (intOf i).toNat)
  case atStart => exact ⟨0, [], a0, a0 + b0, .slice none 0 0, rfl, rfl, rfl, by omega, rel0, Soft.heap_new _ _, own0, (Below.refl _ _).alloc (Nat.le_refl _) _⟩
  case round =>
    obtain ⟨k, l, a, b, v, rfl, rfl, rfl, hk, hsl, hblk, hown, hbel⟩ := hrel
    clear own0 rel0 a1 a2 b1 b2
    have l0 := Soft.LtH.mk (b := w.heap.size) (w := wr) (by have := hbel.size; omega)
    have l1 := Soft.LtH.mk (b := gx) (w := wr) (by have := hbel.size; omega)
    have l2 := Soft.LtH.mk (b := x1.w.heap.size) (w := wr) hblk.lt
    by_cases hlt : k < nx
    · have cv := (hbel.cell (p := ⟨w.heap.size, 3, none⟩) (by dsimp only; omega)).trans cb
      have cx0 := (hbel.cell (p := ⟨gx, k, none⟩) hgxl).trans (HCX.out k hlt)
      have cs := hblk.cell 0
      have fs := hblk.frozen 0
      have hbs := hbel.size
      have hlw := hblk.lt
      simp at cs
      have hk2 : (k : Int) < nx := by omega
      obtain ⟨z1, hz1⟩ : ∃ z, z = pickS r.vals.xs (from_ + 2 + 2 * k) % most := ⟨_, rfl⟩
      have z11 := Int.emod_nonneg (pickS r.vals.xs (from_ + 2 + 2 * k)) (show most ≠ 0 by omega)
      have z12 := Int.emod_lt_of_pos (pickS r.vals.xs (from_ + 2 + 2 * k)) (show 0 < most by omega)
      rw [← hz1] at z11 z12
      obtain ⟨z2, hz2⟩ : ∃ z, z = pickS r.vals.xs (from_ + 3 + 2 * k) % most := ⟨_, rfl⟩
      have z21 := Int.emod_nonneg (pickS r.vals.xs (from_ + 3 + 2 * k)) (show most ≠ 0 by omega)
      have z22 := Int.emod_lt_of_pos (pickS r.vals.xs (from_ + 3 + 2 * k)) (show 0 < most by omega)
      rw [← hz2] at z21 z22
      have HZ1 := Lib.hid hz1; have HZ2 := Lib.hid hz2; clear hz1 hz2
      obtain ⟨n1_, n2_, n3_⟩ := hsl.now
      have HB := Lib.hid hbel; clear hbel
      have HBLK := Lib.hid hblk; clear hblk
      have hl8 : l.length ≤ 8 := by have := hsl.len; omega
      go_wp2_with fail
      (refine Soft.region1 [0, 1, 2, 3, 4, 5, 6, 7, 8] 9 [10, 11, 12] _ (by kernel_rfl) (by kernel_rfl) (by kernel_rfl) rfl rfl (by kernel_rfl) ?_; change Soft.wpSoft _ _ _ _ _ [_, _, _, _, _, _, _, _, _] _; (repeat (refine Soft.soft_step (fun K hK => ?_); go_simp; (try go_bits); first | (refine hK _ ?_; clear hK K) | (apply Exists.intro; refine ⟨fun x => ?_, hK _ ?_⟩; (fail); clear hK K))); refine Soft.soft_nil ?_)
      refine ⟨fun b => .slice (some ⟨b, 0, none⟩) 1 1, .cells #[.int .i64 (iv (xsS r) k), .int .i64 a, .int .i64 b] 114, fun x => by go_simp, fun kb x hnew => ?_⟩
      have n0 := hnew.cell 0
      have n1 := hnew.cell 1
      have n2 := hnew.cell 2
      simp at n0 n1 n2
      change wpList _ _ _ [_, _, _] _ _
      go_wp2_with (at_builtin; go_loud (refine app_pt rfl (.tmp 41) (.tmp 49) rfl (x1.w.heap.size + 1) v l rfl (hown.bw x) kb ⟨iv (xsS r) k, a, b⟩ rfl n0 n1 n2 (by omega) (by have := x.below.size; omega) ?_); intro v3 w3 ho hb3 hgr3; have fs3 := (HBLK.out.below x.below).belowAt hb3 (by omega); have fs4 := fs3.frozen 0; have fs5 := fs3.cell 0; simp at fs5; obtain ⟨g3, c3, rfl, hg5, hg6, hg7, hg8⟩ := ho.shape (by simp); have cv3 := (hb3.cell (p := ⟨w.heap.size, 3, none⟩) (by dsimp only; omega)).trans ((x.below.cell (p := ⟨w.heap.size, 3, none⟩) (by dsimp only; omega)).trans cv))
      rw [show (l ++ [(⟨iv (xsS r) k, a, b⟩ : Pt)]).length = l.length + 1 by simp] at *
      have blk4 : HasBlk (w3.setCell ⟨x1.w.heap.size, 0, none⟩ (.slice (some ⟨g3, 0, none⟩) (l.length + 1) c3)) x1.w.heap.size #[.slice (some ⟨g3, 0, none⟩) (l.length + 1) c3] 33 := fs3.put 0 _
      have own4 := ho.set (p := ⟨x1.w.heap.size, 0, none⟩) (by dsimp only; omega) (.slice (some ⟨g3, 0, none⟩) (l.length + 1) c3)
      have bel4 : Below x1.w.heap.size x1.w (w3.setCell ⟨x1.w.heap.size, 0, none⟩ (.slice (some ⟨g3, 0, none⟩) (l.length + 1) c3)) := ((HB.out.trans (x.below.mono (by omega))).trans (hb3.mono (by omega))).setCell (by dsimp only; omega) _
      clear fs3 fs4 fs5 ho hb3 hgr3 hg6 cv3 n0 n1 n2 hnew cs fs hown HBLK cv cx0
      generalize w3.setCell ⟨x1.w.heap.size, 0, none⟩ (.slice (some ⟨g3, 0, none⟩) (l.length + 1) c3) = w4 at *
      have cv := (bel4.cell (p := ⟨w.heap.size, 3, none⟩) (by dsimp only; omega)).trans cb
      have l0 := Soft.LtH.mk (b := w.heap.size) (w := w4) (by have := bel4.size; omega)
      have hv4 := hvx.belowN rfl bel4
      have BLK4 := Lib.hid blk4; have BEL4 := Lib.hid bel4; clear blk4 bel4
      have hz3 : 0 ≤ z2 / 3 ∧ z2 / 3 ≤ 333 := by omega
      go_wp2_with (first | (go_at_call 62; (with_reducible refine (R2_Pick r.vals _ _ (by with_reducible repeat (first | exact hv4 | refine Is.At.alloc ?_ _ | refine Is.At.bw ?_ _))).mono ?_); rintro e w_ ⟨rfl, hw_⟩; subst w_) | (go_at_call 37; (with_reducible refine (R2_Mod _ _ z1 _ (by omega) (by omega) HZ1.out).mono ?_); rintro e w_ ⟨rfl, hw_⟩; subst w_) | (go_at_call 37; (with_reducible refine (R2_Mod _ _ z2 _ (by omega) (by omega) HZ2.out).mono ?_); rintro e w_ ⟨rfl, hw_⟩; subst w_))
      go_roundw
      case rel => exact ⟨k + 1, _, a + z1, (if b < a + z1 then a + z1 else b) + z2 / 3, _, rfl, rfl, by simp, by omega, hsl.next (by omega) (by split <;> omega) (by split <;> omega) (by split <;> omega), BLK4.out, own4, BEL4.out⟩
      case measure => simp [intOf]; omega
    · obtain rfl : k = nx := by omega
      have hlen := hsl.len
      have hne : l ≠ [] := fun h => by rw [h] at hlen; simp at hlen; omega
      obtain ⟨g, c, rfl, hg1, hg2, hg3, hg4⟩ := hown.shape hne
      have cs := hblk.cell 0
      have fs := hblk.frozen 0
      simp at cs
      have hbr : HasBlk wr (w.heap.size + 1) #[.slice none 0 0] 33 := HasBlk.belowAt (by simp only [HasBlk, Soft.BW.heap_if, Soft.heap_new1]) hbel hS
      have cr := hbr.cell 0
      have fr := hbr.frozen 0
      simp at cr
      have hfin : Below w.heap.size w wr := hbx.trans (hbel.mono (by omega))
      have hlw := hblk.lt
      have HL := Lib.hid hlen; clear hlen
      cases fall
      · have HF := Lib.hid hfin; clear hfin hbel
        go_wp2_with fail
        refine bodyPost_ret (v := .agg #[.slice (some ⟨g, 0, none⟩) l.length c]) (by simp [results, Try.results63, go_sem, cr, fr]) rfl ?_
        refine ⟨g, l.length, c, l, rfl, ⟨by omega, OwnP.blk (hown.set (p := ⟨w.heap.size + 1, 0, none⟩) (by dsimp only; omega) _) hne⟩, ((hown.set (by dsimp only; omega) _).at (by have := HL.out; omega) hne), slope_up HX.out.2 hx8 hsl, HF.out.setCell (by simp) _⟩
      · have HF := Lib.hid hfin; clear hfin
        rename World => W1
        go_wp2_with fail
        go_loopw [16] (fun i wr => ∃ (j : Nat) (m : List Pt) (u : Value), i = .int .i64 j ∧ j ≤ k ∧ TuRel (xsS r) l k j m ∧ HasBlk wr W1.heap.size #[u] 33 ∧ OwnP wr (W1.heap.size + 1) u m ∧ Below W1.heap.size W1 wr) (fun i _ => k - (intOf i).toNat)
        case atStart => exact ⟨0, [], .slice none 0 0, rfl, by omega, ⟨rfl, fun i hi => by omega⟩, Soft.heap_new _ _, World.ownsRow_nil _ _ _ _, (Below.refl _ _).alloc (Nat.le_refl _) _⟩
        case round =>
          obtain ⟨j, m, u, rfl, hj, htu, hblk2, hown2, hbel2⟩ := hrel
          have hbs2 := hbel2.size
          have hlwr := hblk2.lt
          have l0 := Soft.LtH.mk (b := w.heap.size) (w := wr) (by omega)
          have l1 := Soft.LtH.mk (b := gx) (w := wr) (by omega)
          have l2 := Soft.LtH.mk (b := x1.w.heap.size) (w := wr) (by omega)
          have l3 := Soft.LtH.mk (b := g) (w := wr) (by omega)
          have l4 := Soft.LtH.mk (b := W1.heap.size) (w := wr) (by omega)
          have cs2 := hblk2.cell 0
          have fs2 := hblk2.frozen 0
          simp at cs2
          have HBLK2 := Lib.hid hblk2; clear hblk2
          by_cases hlt2 : j < k
          · have hj2 : (j : Int) < k := by omega
            have csx := (hbel2.cell (p := ⟨x1.w.heap.size, 0, none⟩) (by dsimp only; omega)).trans cs
            have cx0 := (hbel2.cell (p := ⟨gx, j, none⟩) (by dsimp only; omega)).trans ((hbel.cell (p := ⟨gx, j, none⟩) hgxl).trans (HCX.out j hlt2))
            have hq : k - 1 - j < l.length := by have := HL.out; omega
            obtain ⟨q, hqk⟩ : ∃ q, q = k - 1 - j := ⟨_, rfl⟩
            rw [← hqk] at hq
            obtain ⟨e1, e2, e3⟩ := hown.cell q hq
            have d1 := (hbel2.cell (p := ⟨g, q * 3, none⟩) (by dsimp only; omega)).trans e1
            have d2 := (hbel2.cell (p := ⟨g, q * 3 + 1, none⟩) (by dsimp only; omega)).trans e2
            have d3 := (hbel2.cell (p := ⟨g, q * 3 + 2, none⟩) (by dsimp only; omega)).trans e3
            have hq0 : (k : Int) - 1 - j = q := by omega
            have hq1 : (q : Int) < l.length := by omega
            have hnext := htu.next
            rw [← hqk] at hnext
            have HQ := Lib.hid hqk
            have HNX := Lib.hid hnext
            have HBEL2 := Lib.hid hbel2
            clear hqk e1 e2 e3 hnext hbel2 cs cr fr
            generalize pt l q = pq at *
            go_wp2_with fail
            (refine Soft.region1 [0, 1, 2, 3, 4, 5, 6, 7, 8, 9, 10] 11 [12, 13, 14] _ (by kernel_rfl) (by kernel_rfl) (by kernel_rfl) rfl rfl (by kernel_rfl) ?_; change Soft.wpSoft _ _ _ _ _ [_, _, _, _, _, _, _, _, _, _, _] _; (repeat (refine Soft.soft_step (fun K hK => ?_); go_simp; (try go_bits); first | (refine hK _ ?_; clear hK K) | (apply Exists.intro; refine ⟨fun x => ?_, hK _ ?_⟩; (fail); clear hK K))); refine Soft.soft_nil ?_)
            refine ⟨fun b => .slice (some ⟨b, 0, none⟩) 1 1, .cells #[.int .i64 (iv (xsS r) j), .int .i64 pq.lo, .int .i64 pq.hi] 114, fun x => by go_simp, fun kb x hnew => ?_⟩
            have n0 := hnew.cell 0
            have n1 := hnew.cell 1
            have n2 := hnew.cell 2
            simp at n0 n1 n2
            have hxb := x.below.size
            simp at hxb
            change wpList _ _ _ [_, _, _] _ _
            go_wp2_with (at_builtin; go_loud (refine app_pt rfl (.tmp 99) (.tmp 109) rfl (W1.heap.size + 1) u m rfl ((hown2.alloc _).bw x) kb ⟨iv (xsS r) j, pq.lo, pq.hi⟩ rfl n0 n1 n2 (by have := htu.len; omega) (by omega) ?_); intro v3 w3 ho hb3 hgr3; have fs3 := (HasBlk.belowAt (HBLK2.out.below (bel_alloc (bel_refl _) _)) x.below (by simp; omega)).belowAt hb3 (by omega); have fs4 := fs3.frozen 0; have fs5 := fs3.cell 0; simp at fs5; obtain ⟨g3, c3, rfl, hg5, hg6, hg7, hg8⟩ := ho.shape (by simp))
            rw [show (m ++ [(⟨iv (xsS r) j, pq.lo, pq.hi⟩ : Pt)]).length = m.length + 1 by simp] at ho
            go_roundw
            case rel => exact ⟨j + 1, _, _, by simp, by omega, HNX.out, fs3.put 0 _, ho.set (p := ⟨W1.heap.size, 0, none⟩) (by dsimp only; omega) _, ((HBEL2.out.trans ((bel_alloc (bel_refl _) _).mono (by omega))).trans ((x.below.mono (by simp; omega)).trans (hb3.mono (by omega)))).setCell (by dsimp only; omega) _⟩
            case measure => simp [intOf]; omega
          · obtain rfl : j = k := by omega
            have hml := htu.len
            have hne2 : m ≠ [] := fun h => by rw [h] at hml; simp at hml; omega
            obtain ⟨g5, c5, rfl, hg5, hg6, hg7, hg8⟩ := hown2.shape hne2
            have cr2 := (hbel2.cell (p := ⟨w.heap.size + 1, 0, none⟩) (by dsimp only; omega)).trans cr
            have fr2 := (hbel2.frozen (p := ⟨w.heap.size + 1, 0, none⟩) (by dsimp only; omega)).trans fr
            have hfb := HF.out.trans (hbel2.mono (by omega))
            have HFB := Lib.hid hfb; clear hfb hbel2
            have HML := Lib.hid hml; clear hml
            have l7 := Soft.LtH.mk (b := w.heap.size + 1) (w := wr) (by omega)
            go_wp2_with fail
            refine bodyPost_ret (v := .agg #[.slice (some ⟨g5, 0, none⟩) m.length c5]) (by simp [results, Try.results63, go_sem, cr2, fr2]) rfl ?_
            refine ⟨g5, m.length, c5, m, rfl, ⟨by omega, OwnP.blk (hown2.set (p := ⟨w.heap.size + 1, 0, none⟩) (by dsimp only; omega) _) hne2⟩, ((hown2.set (by dsimp only; omega) _).at (by have := HML.out; omega) hne2), slope_down HX.out.2 hx8 hsl htu, HFB.out.setCell (by simp) _⟩

end Go.Proofs.Ytbjdgaeikihjbaa

namespace Go.Proofs.Ytbjdgaeikihjbaa
set_option linter.unusedSimpArgs false
set_option linter.unusedVariables false
open Go.RowKit
set_option maxRecDepth 100000
set_option maxHeartbeats 4000000
attribute [local go_sem] Instr.field asAgg Soft.upon Soft.BW.cell_if Soft.BW.frozen_if Soft.cell_alloc_if Soft.frozen_alloc_if


structure FrRel (xl : List Int) (k : Nat) (l : List Pt) : Prop where
  len : l.length = k
  at_ : ∀ j, j < k → (pt l j).x = iv xl j ∧ 0 ≤ (pt l j).lo ∧ (pt l j).lo ≤ (pt l j).hi ∧ (pt l j).hi ≤ 20000
theorem FrRel.next {xl : List Int} {k : Nat} {l : List Pt} {a b : Int} (h : FrRel xl k l) (h1 : 0 ≤ a) (h2 : a ≤ b) (h3 : b ≤ 20000) : FrRel xl (k + 1) (l ++ [⟨iv xl k, a, b⟩]) := by
  refine ⟨by simp [h.len], fun j hj => ?_⟩
  rw [pt_snoc, h.len]
  split
  · rename_i e; subst e; exact ⟨rfl, h1, h2, h3⟩
  · exact h.at_ j (by omega)

theorem R2_free (r : Rw) (from_ most : Int) (w : World) (hr : r.At w) (hf : 0 ≤ from_ ∧ from_ ≤ 100) (hm : 4 ≤ most ∧ most ≤ 1000) :
    Calls Try.prog 64 #[.agg #[.int .i64 (r).id, .int .i64 (r).first, .slice (r).steps.p (r).steps.n (r).steps.c, .slice (r).vals.p (r).vals.n (r).vals.c], .int .i64 from_, .int .i64 most] w (TabPost w (Made (xsS r))) := by
  obtain ⟨f1, f2⟩ := hf
  obtain ⟨m1, m2⟩ := hm
  have hvals := hr.vals
  go_enter Try.func64, Try.ntmps64
  go_wp2_with (go_at_call 109; (with_reducible refine (R2_xs r _ ((hr.alloc _).alloc _)).mono ?_); rintro e w_ ⟨gx, nx, cx, rfl, hgx, hxs, hxo, hx2, hx8, hxb⟩; obtain ⟨x1, rfl⟩ := Soft.BW.mk hxb; clear hxb)
  have hS : w.heap.size + 1 < x1.w.heap.size := by have := x1.below.size; simp at this; omega
  have hvx : Is.At x1.w r.vals := ((hvals.alloc _).alloc _).bw x1
  have cb : x1.w.cell? ⟨w.heap.size, 3, none⟩ = some (.slice r.vals.p r.vals.n r.vals.c) := by simp [Soft.BW.cell_if, Soft.cell_alloc_if]
  have hbx : Below w.heap.size w x1.w := by (repeat (first | with_reducible exact bel_refl _ | with_reducible refine bel_alloc ?_ _ | with_reducible refine bel_bw _ ?_ | with_reducible refine bel_drew ?_ | with_reducible refine bel_drewN _ ?_ | ((with_reducible refine bel_set ?_ ?_ _); rotate_left; focus (first | (simp; done) | omega | (simp; omega))) | refine bel_step ?_ (by with_reducible assumption)))
  have HX := Lib.hid (show XsOk (xsS r) ∧ (xsS r).length = nx from ⟨hxo, hxs.1⟩)
  have hgxl : gx < x1.w.heap.size := by
    obtain ⟨_, _, _, _, _, h5⟩ := hxs
    obtain ⟨b, o, e, hb, _⟩ := h5 (by dsimp only; omega)
    cases e; exact hb
  have HCX := Lib.hid (show ∀ i, i < nx → x1.w.cell? ⟨gx, i, none⟩ = some (.int .i64 (iv (xsS r) i)) from fun i hi => by
    obtain ⟨_, _, _, _, _, h5⟩ := hxs
    obtain ⟨b, o, e, hb, hc⟩ := h5 (by dsimp only; omega)
    cases e
    have := hc i hi
    rwa [Nat.zero_add] at this)
  have hcx : nx ≤ cx ∧ cx ≤ 9223372036854775807 := ⟨hxs.2.2.1, hxs.2.2.2.1⟩
  obtain ⟨hcx1, hcx2⟩ := hcx
  have own0 : OwnP (x1.w.alloc (.cells #[.slice none 0 0] 33)) (x1.w.heap.size + 1) (.slice none 0 0) [] := World.ownsRow_nil _ _ _ _
  clear hxs hxo hvals hgx hr
  go_loopw [9, 10] (fun i _ wr => ∃ (k : Nat) (l : List Pt) (v : Value), i = .int .i64 k ∧ k ≤ nx ∧ FrRel (xsS r) k l ∧ HasBlk wr x1.w.heap.size #[v] 33 ∧ OwnP wr (x1.w.heap.size + 1) v l ∧ Below x1.w.heap.size x1.w wr) (fun i _ _ => nx - (intOf i).toNat)
  case atStart => exact ⟨0, [], .slice none 0 0, rfl, by omega, ⟨rfl, fun j hj => by omega⟩, Soft.heap_new _ _, own0, (Below.refl _ _).alloc (Nat.le_refl _) _⟩
  case round =>
    obtain ⟨k, l, v, rfl, hk, hsl, hblk, hown, hbel⟩ := hrel
    clear own0
    have l0 := Soft.LtH.mk (b := w.heap.size) (w := wr) (by have := hbel.size; omega)
    have l1 := Soft.LtH.mk (b := gx) (w := wr) (by have := hbel.size; omega)
    have l2 := Soft.LtH.mk (b := x1.w.heap.size) (w := wr) hblk.lt
    have cs := hblk.cell 0
    have fs := hblk.frozen 0
    have hbs := hbel.size
    have hlw := hblk.lt
    simp at cs
    by_cases hlt : k < nx
    · have cv := (hbel.cell (p := ⟨w.heap.size, 3, none⟩) (by dsimp only; omega)).trans cb
      have cx0 := (hbel.cell (p := ⟨gx, k, none⟩) hgxl).trans (HCX.out k hlt)
      have hv4 := hvx.belowN rfl hbel
      have hk2 : (k : Int) < nx := by omega
      obtain ⟨z1, hz1⟩ : ∃ z, z = pickS r.vals.xs (from_ + 2 * k) % most := ⟨_, rfl⟩
      have z11 := Int.emod_nonneg (pickS r.vals.xs (from_ + 2 * k)) (show most ≠ 0 by omega)
      have z12 := Int.emod_lt_of_pos (pickS r.vals.xs (from_ + 2 * k)) (show 0 < most by omega)
      rw [← hz1] at z11 z12
      obtain ⟨z2, hz2⟩ : ∃ z, z = pickS r.vals.xs (from_ + 2 * k + 1) % (most / 4 + 1) := ⟨_, rfl⟩
      have z21 := Int.emod_nonneg (pickS r.vals.xs (from_ + 2 * k + 1)) (show most / 4 + 1 ≠ 0 by omega)
      have z22 := Int.emod_lt_of_pos (pickS r.vals.xs (from_ + 2 * k + 1)) (show 0 < most / 4 + 1 by omega)
      rw [← hz2] at z21 z22
      have HZ1 := Lib.hid hz1; have HZ2 := Lib.hid hz2; clear hz1 hz2
      have HB := Lib.hid hbel; clear hbel
      have HBLK := Lib.hid hblk; clear hblk
      have hl8 : l.length ≤ 8 := by have := hsl.len; omega
      have hm4 : 0 ≤ most / 4 ∧ most / 4 ≤ 250 := by omega
      go_wp2_with (first | (go_at_call 62; (with_reducible refine (R2_Pick r.vals _ _ (by with_reducible repeat (first | exact hv4 | refine Is.At.alloc ?_ _ | refine Is.At.bw ?_ _))).mono ?_); rintro e w_ ⟨rfl, hw_⟩; subst w_) | (go_at_call 37; (with_reducible refine (R2_Mod _ _ z1 _ (by omega) (by omega) HZ1.out).mono ?_); rintro e w_ ⟨rfl, hw_⟩; subst w_))
      (refine Soft.region1 [0, 1, 2, 3, 4, 5, 6, 7, 8, 9, 10, 11, 12, 13, 14, 15, 16, 17, 18, 19, 20, 21] 22 [23, 24, 25] _ (by kernel_rfl) (by kernel_rfl) (by kernel_rfl) rfl rfl (by kernel_rfl) ?_; change Soft.wpSoft _ _ _ _ _ [_, _, _, _, _, _, _, _, _, _, _, _, _, _, _, _, _, _, _, _, _, _] _; (repeat (refine Soft.soft_step (fun K hK => ?_); go_simp; (try go_bits); first | (refine hK _ ?_; clear hK K) | (apply Exists.intro; refine ⟨fun x => ?_, hK _ ?_⟩; (first | (go_at_call 62; exact Calls.bel (R2_Pick r.vals _ _ (by with_reducible repeat (first | exact hv4 | refine Is.At.alloc ?_ _ | refine Is.At.bw ?_ _)))) | (go_at_call 37; exact Calls.bel (R2_Mod _ _ z2 _ (by omega) (by omega) HZ2.out))); clear hK K))); refine Soft.soft_nil ?_)
      refine ⟨fun b => .slice (some ⟨b, 0, none⟩) 1 1, .cells #[.int .i64 (iv (xsS r) k), .int .i64 z1, .int .i64 (z1 + z2)] 114, fun x => by go_simp, fun kb x hnew => ?_⟩
      have n0 := hnew.cell 0
      have n1 := hnew.cell 1
      have n2 := hnew.cell 2
      simp at n0 n1 n2
      change wpList _ _ _ [_, _, _] _ _
      go_wp2_with (at_builtin; go_loud (refine app_pt rfl (.tmp 30) (.tmp 51) rfl (x1.w.heap.size + 1) v l rfl (hown.bw x) kb ⟨iv (xsS r) k, z1, z1 + z2⟩ rfl n0 n1 n2 (by omega) (by have := x.below.size; omega) ?_); intro v3 w3 ho hb3 hgr3; have fs3 := (HBLK.out.below x.below).belowAt hb3 (by omega); have fs4 := fs3.frozen 0; have fs5 := fs3.cell 0; simp at fs5; obtain ⟨g3, c3, rfl, hg5, hg6, hg7, hg8⟩ := ho.shape (by simp))
      rw [show (l ++ [(⟨iv (xsS r) k, z1, z1 + z2⟩ : Pt)]).length = l.length + 1 by simp] at ho
      go_roundw
      case rel => exact ⟨k + 1, _, _, by simp, by omega, hsl.next z11 (by omega) (by omega), fs3.put 0 _, ho.set (p := ⟨x1.w.heap.size, 0, none⟩) (by dsimp only; omega) _, ((HB.out.trans (x.below.mono (by omega))).trans (hb3.mono (by omega))).setCell (by dsimp only; omega) _⟩
      case measure => simp [intOf]; omega
    · obtain rfl : k = nx := by omega
      have hlen := hsl.len
      have hne : l ≠ [] := fun h => by rw [h] at hlen; simp at hlen; omega
      obtain ⟨g, c, rfl, hg1, hg2, hg3, hg4⟩ := hown.shape hne
      have hbr : HasBlk wr (w.heap.size + 1) #[.slice none 0 0] 33 := HasBlk.belowAt (by simp only [HasBlk, Soft.BW.heap_if, Soft.heap_new1]) hbel hS
      have cr := hbr.cell 0
      have fr := hbr.frozen 0
      simp at cr
      have hfin : Below w.heap.size w wr := hbx.trans (hbel.mono (by omega))
      have HL := Lib.hid hlen; clear hlen
      have HF := Lib.hid hfin; clear hfin hbel
      go_wp2_with fail
      refine bodyPost_ret (v := .agg #[.slice (some ⟨g, 0, none⟩) l.length c]) (by simp [results, Try.results64, go_sem, cr, fr]) rfl ?_
      refine ⟨g, l.length, c, l, rfl, ⟨by omega, OwnP.blk (hown.set (p := ⟨w.heap.size + 1, 0, none⟩) (by dsimp only; omega) _) hne⟩, ((hown.set (by dsimp only; omega) _).at (by have := HL.out; omega) hne), ⟨by have := HX.out.2; have := HL.out; omega, fun j hj => hsl.at_ j (by have := HL.out; omega)⟩, HF.out.setCell (by simp) _⟩

/-- A range from 0 on. -/
def someS (r : Rw) (from_ most : Int) : Rg := ⟨pickS r.vals.xs from_ % most, pickS r.vals.xs from_ % most + pickS r.vals.xs (from_ + 1) % 9⟩

theorem R2_some (r : Rw) (from_ most : Int) (w : World) (hr : r.At w) (hf : 0 ≤ from_ ∧ from_ ≤ 100) (hm : 1 ≤ most ∧ most ≤ 1000) :
    Calls Try.prog 65 #[.agg #[.int .i64 (r).id, .int .i64 (r).first, .slice (r).steps.p (r).steps.n (r).steps.c, .slice (r).vals.p (r).vals.n (r).vals.c], .int .i64 from_, .int .i64 most] w fun e w' => e = .returned (.agg #[.int .i64 (someS r from_ most).lo, .int .i64 (someS r from_ most).hi]) ∧ Below w.heap.size w w' := by
  obtain ⟨f1, f2⟩ := hf
  obtain ⟨m1, m2⟩ := hm
  have hvals := hr.vals
  obtain ⟨z1, hz1⟩ : ∃ z, z = pickS r.vals.xs from_ % most := ⟨_, rfl⟩
  have z11 := Int.emod_nonneg (pickS r.vals.xs from_) (show most ≠ 0 by omega)
  have z12 := Int.emod_lt_of_pos (pickS r.vals.xs from_) (show 0 < most by omega)
  rw [← hz1] at z11 z12
  obtain ⟨z2, hz2⟩ : ∃ z, z = pickS r.vals.xs (from_ + 1) % 9 := ⟨_, rfl⟩
  have z21 := Int.emod_nonneg (pickS r.vals.xs (from_ + 1)) (show (9 : Int) ≠ 0 by omega)
  have z22 := Int.emod_lt_of_pos (pickS r.vals.xs (from_ + 1)) (show (0 : Int) < 9 by omega)
  rw [← hz2] at z21 z22
  have HV := Lib.hid (show someS r from_ most = ⟨z1, z1 + z2⟩ by unfold someS; rw [← hz1, ← hz2])
  have HZ1 := Lib.hid hz1; have HZ2 := Lib.hid hz2; clear hz1 hz2
  go_enter Try.func65, Try.ntmps65
  go_wp2_with (first | (go_at_call 62; (with_reducible refine (R2_Pick r.vals _ _ (by with_reducible repeat (first | exact hvals | refine Is.At.alloc ?_ _ | refine Is.At.bw ?_ _))).mono ?_); rintro e w_ ⟨rfl, hw_⟩; subst w_) | (go_at_call 37; (with_reducible refine (R2_Mod _ _ z1 _ (by omega) (by omega) HZ1.out).mono ?_); rintro e w_ ⟨rfl, hw_⟩; subst w_) | (go_at_call 37; (with_reducible refine (R2_Mod _ _ z2 _ (by omega) (by omega) HZ2.out).mono ?_); rintro e w_ ⟨rfl, hw_⟩; subst w_))
  rw [HV.out]
  refine bodyPost_ret (v := .agg #[.int .i64 ((⟨z1, z1 + z2⟩ : Rg)).lo, .int .i64 ((⟨z1, z1 + z2⟩ : Rg)).hi]) (by simp [results, Try.results65, go_sem]) rfl ?_
  refine ⟨rfl, ?_⟩
  (repeat (first | with_reducible exact bel_refl _ | with_reducible refine bel_alloc ?_ _ | with_reducible refine bel_bw _ ?_ | with_reducible refine bel_drew ?_ | with_reducible refine bel_drewN _ ?_ | ((with_reducible refine bel_set ?_ ?_ _); rotate_left; focus (first | (simp; done) | omega | (simp; omega))) | refine bel_step ?_ (by with_reducible assumption)))

end Go.Proofs.Ytbjdgaeikihjbaa
