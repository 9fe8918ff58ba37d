/-
  The reference's maker of compartments out of numbers: free, some.
  Conditions: each theorem's own premises.
-/
import Derived.Test.YtbjdgaeikihjbaaMadc
namespace Go.Proofs.Ytbjdgaeikihjbaa
set_option linter.unusedSimpArgs false
set_option linter.unusedVariables false
open Go.RowKit
set_option maxRecDepth 100000
set_option maxHeartbeats 4000000
attribute [local go_sem] Instr.field asAgg Soft.upon Soft.BW.cell_if Soft.BW.frozen_if Soft.cell_alloc_if Soft.frozen_alloc_if


structure FrRel (xl : List Int) (k : Nat) (l : List Pt) : Prop where
  len : l.length = k
  at_ : ∀ j, j < k → (pt l j).x = iv xl j ∧ 0 ≤ (pt l j).lo ∧ (pt l j).lo ≤ (pt l j).hi ∧ (pt l j).hi ≤ 20000
theorem FrRel.next {xl : List Int} {k : Nat} {l : List Pt} {a b : Int} (h : FrRel xl k l) (h1 : 0 ≤ a) (h2 : a ≤ b) (h3 : b ≤ 20000) : FrRel xl (k + 1) (l ++ [⟨iv xl k, a, b⟩]) := by
  refine ⟨by simp [h.len], fun j hj => ?_⟩
  rw [pt_snoc, h.len]
  split
  · rename_i e; subst e; exact ⟨rfl, h1, h2, h3⟩
  · exact h.at_ j (by omega)

theorem R2_free (r : Rw) (from_ most : Int) (w : World) (hr : r.At w) (hf : 0 ≤ from_ ∧ from_ ≤ 100) (hm : 4 ≤ most ∧ most ≤ 1000) :
    Calls Try.prog 64 #[.agg #[.int .i64 (r).id, .int .i64 (r).first, .slice (r).steps.p (r).steps.n (r).steps.c, .slice (r).vals.p (r).vals.n (r).vals.c], .int .i64 from_, .int .i64 most] w (TabPost w (Made (xsS r))) := by
  obtain ⟨f1, f2⟩ := hf
  obtain ⟨m1, m2⟩ := hm
  have hvals := hr.vals
  go_enter Try.func64, Try.ntmps64
  go_wp2_with (go_at_call 109; (with_reducible refine (R2_xs r _ ((hr.alloc _).alloc _)).mono ?_); rintro e w_ ⟨gx, nx, cx, rfl, hgx, hxs, hxo, hx2, hx8, hxb⟩; obtain ⟨x1, rfl⟩ := Soft.BW.mk hxb; clear hxb)
  have hS : w.heap.size + 1 < x1.w.heap.size := by have := x1.below.size; simp at this; omega
  have hvx : Is.At x1.w r.vals := ((hvals.alloc _).alloc _).bw x1
  have cb : x1.w.cell? ⟨w.heap.size, 3, none⟩ = some (.slice r.vals.p r.vals.n r.vals.c) := by simp [Soft.BW.cell_if, Soft.cell_alloc_if]
  have hbx : Below w.heap.size w x1.w := by (repeat (first | with_reducible exact bel_refl _ | with_reducible refine bel_alloc ?_ _ | with_reducible refine bel_bw _ ?_ | with_reducible refine bel_drew ?_ | with_reducible refine bel_drewN _ ?_ | ((with_reducible refine bel_set ?_ ?_ _); rotate_left; focus (first | (simp; done) | omega | (simp; omega))) | refine bel_step ?_ (by with_reducible assumption)))
  have HX := Lib.hid (show XsOk (xsS r) ∧ (xsS r).length = nx from ⟨hxo, hxs.1⟩)
  have hgxl : gx < x1.w.heap.size := by
    obtain ⟨_, _, _, _, _, h5⟩ := hxs
    obtain ⟨b, o, e, hb, _⟩ := h5 (by dsimp only; omega)
    cases e; exact hb
  have HCX := Lib.hid (show ∀ i, i < nx → x1.w.cell? ⟨gx, i, none⟩ = some (.int .i64 (iv (xsS r) i)) from fun i hi => by
    obtain ⟨_, _, _, _, _, h5⟩ := hxs
    obtain ⟨b, o, e, hb, hc⟩ := h5 (by dsimp only; omega)
    cases e
    have := hc i hi
    rwa [Nat.zero_add] at this)
  have hcx : nx ≤ cx ∧ cx ≤ 9223372036854775807 := ⟨hxs.2.2.1, hxs.2.2.2.1⟩
  obtain ⟨hcx1, hcx2⟩ := hcx
  have own0 : OwnP (x1.w.alloc (.cells #[.slice none 0 0] 33)) (x1.w.heap.size + 1) (.slice none 0 0) [] := World.ownsRow_nil _ _ _ _
  clear hxs hxo hvals hgx hr
  go_loopw [9, 10] (fun i _ wr => ∃ (k : Nat) (l : List Pt) (v : Value), i = .int .i64 k ∧ k ≤ nx ∧ FrRel (xsS r) k l ∧ HasBlk wr x1.w.heap.size #[v] 33 ∧ OwnP wr (x1.w.heap.size + 1) v l ∧ Below x1.w.heap.size x1.w wr) (fun i _ _ => nx - (intOf i).toNat)
  case atStart => exact ⟨0, [], .slice none 0 0, rfl, by omega, ⟨rfl, fun j hj => by omega⟩, Soft.heap_new _ _, own0, (Below.refl _ _).alloc (Nat.le_refl _) _⟩
  case round =>
    obtain ⟨k, l, v, rfl, hk, hsl, hblk, hown, hbel⟩ := hrel
    clear own0
    have l0 := Soft.LtH.mk (b := w.heap.size) (w := wr) (by have := hbel.size; omega)
    have l1 := Soft.LtH.mk (b := gx) (w := wr) (by have := hbel.size; omega)
    have l2 := Soft.LtH.mk (b := x1.w.heap.size) (w := wr) hblk.lt
    have cs := hblk.cell 0
    have fs := hblk.frozen 0
    have hbs := hbel.size
    have hlw := hblk.lt
    simp at cs
    by_cases hlt : k < nx
    · have cv := (hbel.cell (p := ⟨w.heap.size, 3, none⟩) (by dsimp only; omega)).trans cb
      have cx0 := (hbel.cell (p := ⟨gx, k, none⟩) hgxl).trans (HCX.out k hlt)
      have hv4 := hvx.belowN rfl hbel
      have hk2 : (k : Int) < nx := by omega
      obtain ⟨z1, hz1⟩ : ∃ z, z = pickS r.vals.xs (from_ + 2 * k) % most := ⟨_, rfl⟩
      have z11 := Int.emod_nonneg (pickS r.vals.xs (from_ + 2 * k)) (show most ≠ 0 by omega)
      have z12 := Int.emod_lt_of_pos (pickS r.vals.xs (from_ + 2 * k)) (show 0 < most by omega)
      rw [← hz1] at z11 z12
      obtain ⟨z2, hz2⟩ : ∃ z, z = pickS r.vals.xs (from_ + 2 * k + 1) % (most / 4 + 1) := ⟨_, rfl⟩
      have z21 := Int.emod_nonneg (pickS r.vals.xs (from_ + 2 * k + 1)) (show most / 4 + 1 ≠ 0 by omega)
      have z22 := Int.emod_lt_of_pos (pickS r.vals.xs (from_ + 2 * k + 1)) (show 0 < most / 4 + 1 by omega)
      rw [← hz2] at z21 z22
      have HZ1 := Lib.hid hz1; have HZ2 := Lib.hid hz2; clear hz1 hz2
      have HB := Lib.hid hbel; clear hbel
      have HBLK := Lib.hid hblk; clear hblk
      have hl8 : l.length ≤ 8 := by have := hsl.len; omega
      have hm4 : 0 ≤ most / 4 ∧ most / 4 ≤ 250 := by omega
      go_wp2_with (first | (go_at_call 62; (with_reducible refine (R2_Pick r.vals _ _ (by with_reducible repeat (first | exact hv4 | refine Is.At.alloc ?_ _ | refine Is.At.bw ?_ _))).mono ?_); rintro e w_ ⟨rfl, hw_⟩; subst w_) | (go_at_call 37; (with_reducible refine (R2_Mod _ _ z1 _ (by omega) (by omega) HZ1.out).mono ?_); rintro e w_ ⟨rfl, hw_⟩; subst w_))
      (refine Soft.region1 [0, 1, 2, 3, 4, 5, 6, 7, 8, 9, 10, 11, 12, 13, 14, 15, 16, 17, 18, 19, 20, 21] 22 [23, 24, 25] _ (by kernel_rfl) (by kernel_rfl) (by kernel_rfl) rfl rfl (by kernel_rfl) ?_; change Soft.wpSoft _ _ _ _ _ [_, _, _, _, _, _, _, _, _, _, _, _, _, _, _, _, _, _, _, _, _, _] _; (repeat (refine Soft.soft_step (fun K hK => ?_); go_simp; (try go_bits); first | (refine hK _ ?_; clear hK K) | (apply Exists.intro; refine ⟨fun x => ?_, hK _ ?_⟩; (first | (go_at_call 62; exact Calls.bel (R2_Pick r.vals _ _ (by with_reducible repeat (first | exact hv4 | refine Is.At.alloc ?_ _ | refine Is.At.bw ?_ _)))) | (go_at_call 37; exact Calls.bel (R2_Mod _ _ z2 _ (by omega) (by omega) HZ2.out))); clear hK K))); refine Soft.soft_nil ?_)
      refine ⟨fun b => .slice (some ⟨b, 0, none⟩) 1 1, .cells #[.int .i64 (iv (xsS r) k), .int .i64 z1, .int .i64 (z1 + z2)] 114, fun x => by go_simp, fun kb x hnew => ?_⟩
      have n0 := hnew.cell 0
      have n1 := hnew.cell 1
      have n2 := hnew.cell 2
      simp at n0 n1 n2
      change wpList _ _ _ [_, _, _] _ _
      go_wp2_with (at_builtin; go_loud (refine app_pt rfl (.tmp 30) (.tmp 51) rfl (x1.w.heap.size + 1) v l rfl (hown.bw x) kb ⟨iv (xsS r) k, z1, z1 + z2⟩ rfl n0 n1 n2 (by omega) (by have := x.below.size; omega) ?_); intro v3 w3 ho hb3 hgr3; have fs3 := (HBLK.out.below x.below).belowAt hb3 (by omega); have fs4 := fs3.frozen 0; have fs5 := fs3.cell 0; simp at fs5; obtain ⟨g3, c3, rfl, hg5, hg6, hg7, hg8⟩ := ho.shape (by simp))
      rw [show (l ++ [(⟨iv (xsS r) k, z1, z1 + z2⟩ : Pt)]).length = l.length + 1 by simp] at ho
      go_roundw
      case rel => exact ⟨k + 1, _, _, by simp, by omega, hsl.next z11 (by omega) (by omega), fs3.put 0 _, ho.set (p := ⟨x1.w.heap.size, 0, none⟩) (by dsimp only; omega) _, ((HB.out.trans (x.below.mono (by omega))).trans (hb3.mono (by omega))).setCell (by dsimp only; omega) _⟩
      case measure => simp [intOf]; omega
    · obtain rfl : k = nx := by omega
      have hlen := hsl.len
      have hne : l ≠ [] := fun h => by rw [h] at hlen; simp at hlen; omega
      obtain ⟨g, c, rfl, hg1, hg2, hg3, hg4⟩ := hown.shape hne
      have hbr : HasBlk wr (w.heap.size + 1) #[.slice none 0 0] 33 := HasBlk.belowAt (by simp only [HasBlk, Soft.BW.heap_if, Soft.heap_new1]) hbel hS
      have cr := hbr.cell 0
      have fr := hbr.frozen 0
      simp at cr
      have hfin : Below w.heap.size w wr := hbx.trans (hbel.mono (by omega))
      have HL := Lib.hid hlen; clear hlen
      have HF := Lib.hid hfin; clear hfin hbel
      go_wp2_with fail
      refine bodyPost_ret (v := .agg #[.slice (some ⟨g, 0, none⟩) l.length c]) (by simp [results, Try.results64, go_sem, cr, fr]) rfl ?_
      refine ⟨g, l.length, c, l, rfl, ⟨by omega, OwnP.blk (hown.set (p := ⟨w.heap.size + 1, 0, none⟩) (by dsimp only; omega) _) hne⟩, ((hown.set (by dsimp only; omega) _).at (by have := HL.out; omega) hne), ⟨by have := HX.out.2; have := HL.out; omega, fun j hj => hsl.at_ j (by have := HL.out; omega)⟩, HF.out.setCell (by simp) _⟩

/-- A range from 0 on. -/
def someS (r : Rw) (from_ most : Int) : Rg := ⟨pickS r.vals.xs from_ % most, pickS r.vals.xs from_ % most + pickS r.vals.xs (from_ + 1) % 9⟩

theorem R2_some (r : Rw) (from_ most : Int) (w : World) (hr : r.At w) (hf : 0 ≤ from_ ∧ from_ ≤ 100) (hm : 1 ≤ most ∧ most ≤ 1000) :
    Calls Try.prog 65 #[.agg #[.int .i64 (r).id, .int .i64 (r).first, .slice (r).steps.p (r).steps.n (r).steps.c, .slice (r).vals.p (r).vals.n (r).vals.c], .int .i64 from_, .int .i64 most] w fun e w' => e = .returned (.agg #[.int .i64 (someS r from_ most).lo, .int .i64 (someS r from_ most).hi]) ∧ Below w.heap.size w w' := by
  obtain ⟨f1, f2⟩ := hf
  obtain ⟨m1, m2⟩ := hm
  have hvals := hr.vals
  obtain ⟨z1, hz1⟩ : ∃ z, z = pickS r.vals.xs from_ % most := ⟨_, rfl⟩
  have z11 := Int.emod_nonneg (pickS r.vals.xs from_) (show most ≠ 0 by omega)
  have z12 := Int.emod_lt_of_pos (pickS r.vals.xs from_) (show 0 < most by omega)
  rw [← hz1] at z11 z12
  obtain ⟨z2, hz2⟩ : ∃ z, z = pickS r.vals.xs (from_ + 1) % 9 := ⟨_, rfl⟩
  have z21 := Int.emod_nonneg (pickS r.vals.xs (from_ + 1)) (show (9 : Int) ≠ 0 by omega)
  have z22 := Int.emod_lt_of_pos (pickS r.vals.xs (from_ + 1)) (show (0 : Int) < 9 by omega)
  rw [← hz2] at z21 z22
  have HV := Lib.hid (show someS r from_ most = ⟨z1, z1 + z2⟩ by unfold someS; rw [← hz1, ← hz2])
  have HZ1 := Lib.hid hz1; have HZ2 := Lib.hid hz2; clear hz1 hz2
  go_enter Try.func65, Try.ntmps65
  go_wp2_with (first | (go_at_call 62; (with_reducible refine (R2_Pick r.vals _ _ (by with_reducible repeat (first | exact hvals | refine Is.At.alloc ?_ _ | refine Is.At.bw ?_ _))).mono ?_); rintro e w_ ⟨rfl, hw_⟩; subst w_) | (go_at_call 37; (with_reducible refine (R2_Mod _ _ z1 _ (by omega) (by omega) HZ1.out).mono ?_); rintro e w_ ⟨rfl, hw_⟩; subst w_) | (go_at_call 37; (with_reducible refine (R2_Mod _ _ z2 _ (by omega) (by omega) HZ2.out).mono ?_); rintro e w_ ⟨rfl, hw_⟩; subst w_))
  rw [HV.out]
  refine bodyPost_ret (v := .agg #[.int .i64 ((⟨z1, z1 + z2⟩ : Rg)).lo, .int .i64 ((⟨z1, z1 + z2⟩ : Rg)).hi]) (by simp [results, Try.results65, go_sem]) rfl ?_
  refine ⟨rfl, ?_⟩
  (repeat (first | with_reducible exact bel_refl _ | with_reducible refine bel_alloc ?_ _ | with_reducible refine bel_bw _ ?_ | with_reducible refine bel_drew ?_ | with_reducible refine bel_drewN _ ?_ | ((with_reducible refine bel_set ?_ ?_ _); rotate_left; focus (first | (simp; done) | omega | (simp; omega))) | refine bel_step ?_ (by with_reducible assumption)))

end Go.Proofs.Ytbjdgaeikihjbaa
