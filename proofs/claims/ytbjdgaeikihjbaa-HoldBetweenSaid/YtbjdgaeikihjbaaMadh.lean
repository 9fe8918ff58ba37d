/-
  The reference's curves within a table: Curve, Value.
  Conditions: each theorem's own premises.
-/
import Derived.Test.YtbjdgaeikihjbaaMadg
namespace Go.Proofs.Ytbjdgaeikihjbaa
set_option linter.unusedSimpArgs false
set_option linter.unusedVariables false
open Go.RowKit
set_option maxRecDepth 100000
set_option maxHeartbeats 4000000
attribute [local go_sem] Instr.field asAgg Soft.upon Soft.BW.cell_if Soft.BW.frozen_if Soft.cell_alloc_if Soft.frozen_alloc_if

/-- Numbers at the points of a table, within it. -/
structure CurveIn (ps : List Pt) (l : List Int) : Prop where
  len : l.length = ps.length
  at_ : ∀ j, j < ps.length → (pt ps j).lo ≤ iv l j ∧ iv l j ≤ (pt ps j).hi

/-- The curve that numbers choose. -/
def curK (ps : List Pt) (xs : List Int) (j : Nat) : Int := (pt ps j).lo + pickS xs j % ((pt ps j).hi - (pt ps j).lo + 1)
def curS (ps : List Pt) (xs : List Int) : Nat → List Int
  | 0 => []
  | k + 1 => curS ps xs k ++ [curK ps xs k]
theorem curS_len (ps : List Pt) (xs : List Int) : ∀ k, (curS ps xs k).length = k
  | 0 => rfl
  | k + 1 => by simp [curS, curS_len ps xs k]
theorem curS_at (ps : List Pt) (xs : List Int) : ∀ k j, j < k → iv (curS ps xs k) j = curK ps xs j
  | k + 1, j, h => by
    rw [curS, iv_snoc, curS_len]
    split
    · rename_i e; rw [e]
    · exact curS_at ps xs k j (by omega)
theorem curS_in {ps : List Pt} (h : TabOk ps) (xs : List Int) : CurveIn ps (curS ps xs ps.length) := by
  refine ⟨curS_len _ _ _, fun j hj => ?_⟩
  rw [curS_at _ _ _ _ hj]
  obtain ⟨_, _, _, h4, _, _⟩ := h.all j hj
  have a1 := Int.emod_nonneg (pickS xs j) (show (pt ps j).hi - (pt ps j).lo + 1 ≠ 0 by omega)
  have a2 := Int.emod_lt_of_pos (pickS xs j) (show 0 < (pt ps j).hi - (pt ps j).lo + 1 by omega)
  unfold curK
  omega

def CurvePost (ps : List Pt) (xs : List Int) (w : World) (e : Ending) (w' : World) : Prop :=
  ∃ (g n c : Nat), e = .returned (.slice (some ⟨g, 0, none⟩) n c) ∧ w.heap.size ≤ g ∧ Is.At w' ⟨some ⟨g, 0, none⟩, n, c, curS ps xs ps.length⟩ ∧ Below w.heap.size w w'

theorem R2_Curve (t : Tb) (s : Is) (w : World) (ht : t.At w) (hs : s.At w) (hok : TabOk t.ps) :
    Calls Try.prog 21 #[.agg #[.slice (t).p (t).n (t).c], .slice s.p s.n s.c] w (CurvePost t.ps s.xs w) := by
  obtain ⟨p, n, c, ps⟩ := t
  have ht' := ht
  obtain ⟨h1, h2, h3, h4, h5⟩ := ht'
  dsimp only at *
  have hpos := hok.pos
  have hle := hok.le
  obtain ⟨b, o, rfl, hb, hc⟩ := h5 (by omega)
  have HOK := Lib.hid hok
  have HL := Lib.hid h1
  have HC := Lib.hid hc
  have hn1 : 1 ≤ n := by omega
  have hn2 : n ≤ 40 := by omega
  clear hok h1 hc h5 hpos hle
  go_enter Try.func21, Try.ntmps21
  go_wp2_with fail
  go_loopw [5, 6, 7] (fun v i _ wr => ∃ (k : Nat), i = .int .i64 k ∧ k ≤ n ∧ OwnI wr (w.heap.size + 1) v (curS ps s.xs k) ∧ Below (w.heap.size + 1) (w.alloc (.cells #[.slice (some ⟨b, o, none⟩) n c] 33)) wr) (fun _ i _ _ => n - (intOf i).toNat)
  case atStart => exact ⟨0, rfl, by omega, World.ownsRow_nil _ _ _ _, Below.refl _ _⟩
  case round =>
    obtain ⟨k, rfl, hk, hown, hB⟩ := hrel
    have hsz := hB.size
    simp at hsz
    have hbox : wr.cell? ⟨w.heap.size, 0, none⟩ = some (.slice (some ⟨b, o, none⟩) n c) := by
      rw [hB.cell (by simp)]; simp
    have l0 := Soft.LtH.mk (b := w.heap.size) (w := wr) (by omega)
    have lb := Soft.LtH.mk (b := b) (w := wr) (by omega)
    have hbel : Below w.heap.size w wr := (((Below.refl _ _).alloc (Nat.le_refl _) _).trans (hB.mono (by omega)))
    have HBEL := Lib.hid hbel
    by_cases hlt : k < n
    · obtain ⟨c1, c2, c3⟩ := HC.out k hlt
      rw [← hbel.cell (p := ⟨b, o + k * 3, none⟩) hb] at c1
      rw [← hbel.cell (p := ⟨b, o + k * 3 + 1, none⟩) hb] at c2
      rw [← hbel.cell (p := ⟨b, o + k * 3 + 2, none⟩) hb] at c3
      have hs' := hs.below hbel
      have hk2 : (k : Int) < n := by omega
      obtain ⟨p1, p2, p3, p4, p5, _⟩ := HOK.out.all k (by have := HL.out; omega)
      obtain ⟨z, hz⟩ : ∃ z, z = pickS s.xs k % ((pt ps k).hi - (pt ps k).lo + 1) := ⟨_, rfl⟩
      have z1 := Int.emod_nonneg (pickS s.xs k) (show (pt ps k).hi - (pt ps k).lo + 1 ≠ 0 by omega)
      have z2 := Int.emod_lt_of_pos (pickS s.xs k) (show 0 < (pt ps k).hi - (pt ps k).lo + 1 by omega)
      rw [← hz] at z1 z2
      have HNX := Lib.hid (show curS ps s.xs (k + 1) = curS ps s.xs k ++ [(pt ps k).lo + z] by rw [curS]; unfold curK; rw [← hz])
      have hlen := curS_len ps s.xs k
      have HLEN := Lib.hid hlen
      have HZ := Lib.hid hz
      have HB := Lib.hid hB
      clear hz hlen hB hbel
      generalize pt ps k = q at *
      go_wp2_with fail
      (refine Soft.region1 [0, 1, 2, 3, 4, 5, 6, 7, 8, 9, 10, 11, 12, 13] 14 [15, 16] _ (by kernel_rfl) (by kernel_rfl) (by kernel_rfl) rfl rfl (by kernel_rfl) ?_; change Soft.wpSoft _ _ _ _ _ [_, _, _, _, _, _, _, _, _, _, _, _, _, _] _; (repeat (refine Soft.soft_step (fun K hK => ?_); go_simp; (try go_bits); first | (refine hK _ ?_; clear hK K) | (apply Exists.intro; refine ⟨fun x => ?_, hK _ ?_⟩; (first | (go_at_call 62; exact Calls.bel (R2_Pick s _ _ (by with_reducible repeat (first | exact hs' | refine Is.At.alloc ?_ _ | refine Is.At.bw ?_ _)))) | (go_at_call 37; exact Calls.bel (R2_Mod _ _ z _ (by omega) (by omega) HZ.out))); clear hK K))); refine Soft.soft_nil ?_)
      refine ⟨fun b => .slice (some ⟨b, 0, none⟩) 1 1, .cells #[.int .i64 (q.lo + z)] 3, fun x => by go_simp, fun kb x hnew => ?_⟩
      have n0 := hnew.cell 0
      simp at n0
      have hxb := x.below.size
      simp at hxb
      change wpList _ _ _ [_, _] _ _
      go_wp2_with (at_builtin; go_loud (refine app_int rfl (.tmp 20) (.tmp 34) rfl (w.heap.size + 1) _ _ rfl ((hown.alloc _).bw x) kb (q.lo + z) rfl n0 (by have := HLEN.out; omega) (by omega) ?_); intro v' w3 ho hb3)
      go_roundw
      case rel => exact ⟨k + 1, by simp, by omega, by rw [HNX.out]; exact ho, HB.out.trans ((((bel_alloc (bel_refl _) _).trans (x.below.mono (by simp))).mono (by omega)).trans hb3)⟩
      case measure => simp [intOf]; omega
    · obtain rfl : k = n := by omega
      have hlen := curS_len ps s.xs k
      have hne : curS ps s.xs k ≠ [] := fun h => by rw [h] at hlen; simp at hlen; omega
      obtain ⟨g, c5, rfl, hg5, hg6, hg7, hg8⟩ := hown.shape hne
      clear hB
      have HLEN := Lib.hid hlen
      clear hlen
      go_wp2_with fail
      go_ret
      refine ⟨g, (curS ps s.xs k).length, c5, rfl, by omega, ?_, HBEL.out⟩
      rw [HL.out]
      refine hown.at (fun i => ?_) (by have := HLEN.out; omega) hne
      by_cases hi : i < k
      · have hin := (curS_in HOK.out s.xs).at_ i (by have := HL.out; omega)
        obtain ⟨_, _, p3, _, p5, _⟩ := HOK.out.all i (by have := HL.out; omega)
        rw [HL.out] at hin
        exact ⟨by omega, by omega⟩
      · rw [show iv (curS ps s.xs k) i = 0 by simp [iv, List.getElem?_eq_none (show (curS ps s.xs k).length ≤ i by have := HLEN.out; omega)]]; exact ⟨by omega, by omega⟩

end Go.Proofs.Ytbjdgaeikihjbaa
