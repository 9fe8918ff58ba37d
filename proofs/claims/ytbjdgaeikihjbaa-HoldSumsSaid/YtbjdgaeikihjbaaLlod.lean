/-
  The reference's SameWeights and SameLoad.
  Conditions: each theorem's own premises.
-/
import Derived.Test.YtbjdgaeikihjbaaLodq
namespace Go.Proofs.Ytbjdgaeikihjbaa
set_option linter.unusedSimpArgs false
set_option linter.unusedVariables false
open Go.RowKit
set_option maxRecDepth 100000
set_option maxHeartbeats 4000000
attribute [local go_sem] Instr.field asAgg Soft.upon Soft.BW.cell_if Soft.BW.frozen_if Soft.cell_alloc_if Soft.frozen_alloc_if

theorem WsAt.alloc {w : World} {s : Sl Wt} (h : WsAt w s) (o : Obj) : WsAt (w.alloc o) s := h.same ((Below.refl _ _).alloc (Nat.le_refl _) o)
theorem WsAt.bw {w : World} {s : Sl Wt} (h : WsAt w s) (x : Soft.BW w) : WsAt x.w s := h.same x.below

theorem R2_SameWeights (s t : Sl Wt) (w : World) (h1 : WsAt w s) (h2 : WsAt w t) (he : s.xs = t.xs) :
    Calls Try.prog 61 #[.slice s.p s.n s.c, .slice t.p t.n t.c] w fun e w' => e = .returned (.bool true) ∧ Below w.heap.size w w' := by
  have HA := Lib.hid (fun hn => h1.cells hn)
  have HG := Lib.hid (fun hn => h2.cells hn)
  have a1 := h1.1
  have a2 := h1.2.1
  have a3 := h1.2.2.1
  have g1 := h2.1
  obtain ⟨p1, n1, c1, xs⟩ := s
  obtain ⟨p2, n2, c2, ys⟩ := t
  dsimp only at *
  subst he
  obtain rfl : n1 = n2 := by omega
  have hn64 : n1 ≤ 9223372036854775807 := by omega
  clear g1 h1 h2
  go_enter Try.func61, Try.ntmps61
  go_wp2_with fail
  go_loopw [5] (fun i wr => ∃ k : Nat, k ≤ n1 ∧ i = .int .i64 k ∧ Below w.heap.size w wr) (fun i _ => n1 - (intOf i).toNat)
  case atStart => exact ⟨0, by omega, rfl, Below.refl _ _⟩
  case round =>
    obtain ⟨k, hk, rfl, hB⟩ := hrel
    obtain ⟨u, rfl⟩ := Soft.BW.mk hB
    clear hB
    by_cases hlt : k < n1
    · have i1 : (k : Int) < n1 := by omega
      obtain ⟨b1, o1, rfl, lb1, hc1⟩ := HA.out (by omega)
      obtain ⟨b2, o2, rfl, lb2, hc2⟩ := HG.out (by omega)
      obtain ⟨x0, x1, x2, x3, x4, x5⟩ := hc1 k hlt
      obtain ⟨y0, y1, y2, y3, y4, y5⟩ := hc2 k hlt
      have l1 := Soft.LtH.mk (w := w) lb1
      have l2 := Soft.LtH.mk (w := w) lb2
      generalize wv xs k = q at *
      clear hc1 hc2 HA HG
      go_wp2_with fail
      (refine Soft.region0 [0, 1, 2, 3, 4, 5, 6, 7, 8] [] (by kernel_rfl) (by kernel_rfl) (by kernel_rfl) (by kernel_rfl) ?_; change Soft.wpSoft _ _ _ _ _ [_, _, _, _, _, _, _, _, _] _; (repeat (refine Soft.soft_step (fun K hK => ?_); go_simp; (try go_bits); first | (refine hK _ ?_; clear hK K) | (apply Exists.intro; refine ⟨fun x => ?_, hK _ ?_⟩; (fail); clear hK K))); refine Soft.soft_nil ?_; intro xw; change wpList _ _ _ [] _ _)
      change wpList _ _ _ [] _ _
      go_wp2_with fail
      go_roundw
      case rel => exact ⟨k + 1, by omega, by simp, by (repeat (first | with_reducible exact bel_refl _ | with_reducible refine bel_alloc ?_ _ | with_reducible refine bel_bw _ ?_ | with_reducible refine bel_drew ?_ | with_reducible refine bel_drewN _ ?_ | ((with_reducible refine bel_set ?_ ?_ _); rotate_left; focus (first | (simp; done) | omega | (simp; omega))) | refine bel_step ?_ (by with_reducible assumption)))⟩
      case measure => simp [intOf]; omega
    · obtain rfl : k = n1 := by omega
      go_wp2_with fail
      go_ret
      refine ⟨rfl, ?_⟩
      (repeat (first | with_reducible exact bel_refl _ | with_reducible refine bel_alloc ?_ _ | with_reducible refine bel_bw _ ?_ | with_reducible refine bel_drew ?_ | with_reducible refine bel_drewN _ ?_ | ((with_reducible refine bel_set ?_ ?_ _); rotate_left; focus (first | (simp; done) | omega | (simp; omega))) | refine bel_step ?_ (by with_reducible assumption)))


end Go.Proofs.Ytbjdgaeikihjbaa
