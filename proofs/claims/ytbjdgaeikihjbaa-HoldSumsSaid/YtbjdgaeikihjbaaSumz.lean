/-
  The walk of the law HoldSums: no compartments.
  Conditions: each theorem's own premises.
-/
import Derived.Test.YtbjdgaeikihjbaaSumv
namespace Go.Proofs.Ytbjdgaeikihjbaa
set_option linter.unusedSimpArgs false
set_option linter.unusedVariables false
open Go.RowKit
set_option maxRecDepth 100000
set_option maxHeartbeats 20000000
attribute [local go_sem] Instr.field asAgg Soft.upon Soft.BW.cell_if Soft.BW.frozen_if Soft.cell_alloc_if Soft.frozen_alloc_if
attribute [local irreducible] Soft.wpSoft

theorem loadE_nil : loadE [] [] [] [] = (0, ld0) := rfl
theorem holdSums_z (l : Sl Rw) (x : Sl Fv) (cut : Int) (w : World) (hln : l.n = 0) (hlc : l.n ≤ l.c ∧ l.c ≤ 9223372036854775807) (hxc : x.n ≤ x.c ∧ x.c ≤ 9223372036854775807) :
    Calls Try.prog 14 #[.slice l.p l.n l.c, .slice x.p x.n x.c, .int .i64 cut] w fun e w' => e = .returned (.bool true) ∧ Below w.heap.size w w' := by
  obtain ⟨lp, ln, lc, lx⟩ := l
  obtain ⟨xp, xn, xc, xx⟩ := x
  dsimp only at *
  subst hln
  go_enter Try.func14, Try.ntmps14
  go_wp2_with fail
  go_loopw [8] (fun i wr => i = .int .i64 0 ∧ HasBlk wr w.heap.size #[.slice none 0 0, .slice none 0 0, .slice none 0 0, .slice none 0 0] 101 ∧ Below w.heap.size w wr) (fun i _ => 0)
  case atStart => exact ⟨rfl, Soft.heap_new _ _, bel_alloc (bel_refl _) _⟩
  case round =>
    obtain ⟨rfl, hblk, hbel⟩ := hrel
    rename World => W1
    have l0 := Soft.LtH.mk (b := w.heap.size) (w := W1) hblk.lt
    have hz : LdPost = LdPost := rfl
    have C1 := Lib.hid (fun W => by
      have h := hold_Load ⟨none, 0, 0, []⟩ ⟨none, 0, 0, []⟩ ⟨none, 0, 0, []⟩ ⟨none, 0, 0, []⟩ W ⟨rfl, ⟨Nat.le_refl _, by dsimp only; omega, fun h => absurd rfl h⟩, fun i hi => absurd hi (Nat.not_lt_zero _)⟩ ⟨rfl, Nat.le_refl _, by dsimp only; omega, fun h => absurd rfl h⟩ ⟨rfl, ⟨Nat.le_refl _, by dsimp only; omega, fun h => absurd rfl h⟩, fun i hi => absurd hi (Nat.not_lt_zero _)⟩ ⟨rfl, Nat.le_refl _, by dsimp only; omega, fun h => absurd rfl h⟩
      rw [loadE_nil] at h
      exact (show Calls Try.prog 60 #[.slice none 0 0, .slice none 0 0, .slice none 0 0, .slice none 0 0] W (fun e w' => ∃ (p : Option Addr) (c : Nat), e = .returned (.tuple #[.agg #[.slice p 0 c, .int .i64 0, .int .i64 0, .int .i64 0, .int .i64 0], .int .i64 0]) ∧ WsAt w' ⟨p, 0, c, []⟩ ∧ Below W.heap.size W w' ∧ (p = none → c = 0)) from h))
    clear hz
    have t0 := hblk.cell 0
    have t1 := hblk.cell 1
    have t2 := hblk.cell 2
    have t3 := hblk.cell 3
    simp at t0 t1 t2 t3
    have HBEL := Lib.hid (show Below w.heap.size w W1 ∧ w.heap.size < W1.heap.size from ⟨hbel, hblk.lt⟩)
    have CM := Lib.hid (show (0 : Int) = cut % 1 by omega)
    clear hblk hbel
    go_wp2_with (first | (go_at_call 37; (with_reducible refine (R2_Mod cut 1 0 _ (by omega) (by omega) CM.out).mono ?_); rintro e w_ ⟨rfl, hw_⟩; subst w_) | (go_at_call 60; (with_reducible refine (C1.out _).mono ?_); rintro e w_ ⟨p1, c1, rfl, hw1, hb_, hn1⟩; obtain ⟨y1, rfl⟩ := Soft.BW.mk hb_; clear hb_; have LA1 := Lib.hid (ldAt_new (L := ld0) (t := 104) hw1 hn1); clear hw1))
    have belW : Below W1.heap.size W1 (y1.w.alloc (.cells #[.slice p1 0 c1, .int .i64 0, .int .i64 0, .int .i64 0, .int .i64 0] 104)) := by (repeat (first | with_reducible exact bel_refl _ | with_reducible refine bel_alloc ?_ _ | with_reducible refine bel_bw _ ?_ | with_reducible refine bel_drew ?_ | with_reducible refine bel_drewN _ ?_ | ((with_reducible refine bel_set ?_ ?_ _); rotate_left; focus (first | (simp; done) | omega | (simp; omega))) | refine bel_step ?_ (by with_reducible assumption)))
    have la1 : LdAt (y1.w.alloc (.cells #[.slice p1 0 c1, .int .i64 0, .int .i64 0, .int .i64 0, .int .i64 0] 104)) y1.w.heap.size p1 c1 ld0 := LA1.out
    clear LA1
    generalize (y1.w.alloc (.cells #[.slice p1 0 c1, .int .i64 0, .int .i64 0, .int .i64 0, .int .i64 0] 104)) = W2 at *
    generalize y1.w.heap.size = K1 at *
    have s0 := (belW.cell (p := ⟨w.heap.size, 0, none⟩) HBEL.out.2).trans t0
    have s1 := (belW.cell (p := ⟨w.heap.size, 1, none⟩) HBEL.out.2).trans t1
    have lb2 := Soft.LtH.mk (b := w.heap.size) (w := W2) (by have := belW.size; have := HBEL.out.2; omega)
    have nn0 : w.heap.size < W2.heap.size := by have := belW.size; have := HBEL.out.2; omega
    have nn1 : ¬(W2.heap.size = w.heap.size) := by omega
    have nn2 : ¬(w.heap.size = W2.heap.size) := by omega
    have BELW := Lib.hid belW
    have LA1 := Lib.hid la1
    clear belW la1 y1
    refine region_then (fun a a' W' => ∃ (u105 u106 u107 u108 u109 u110 u111 u112 u113 u104 u114 u115 : Value) (p2 : Option Addr) (c2 K2 : Nat), a' = ((((((((((((((a.put (some 105) u105).put (some 106) u106).put (some 107) u107).put (some 108) u108).put (some 109) u109).put (some 110) u110).put (some 111) u111).put (some 112) u112).put (some 113) u113).put (some 104) u104).put (some 114) u114).put (some 115) u115).put (some 14) (.pointer (some ⟨K2, 0, none⟩))).put (some 15) (.int .i64 0)) ∧ LdAt W' K2 p2 c2 ld0 ∧ Below W2.heap.size W2 W') ?_ ?_
    · go_region_held3 (fun W => W.cell? ⟨w.heap.size, 0, none⟩ = some (.slice none 0 0) ∧ W.cell? ⟨w.heap.size, 1, none⟩ = some (.slice none 0 0)) (first | (go_simp; done) | go_keep) (first | (go_at_call 60; (with_reducible refine (C1.out _).mono ?_); rintro e w_ ⟨p_, c_, rfl, hw_, hb_, hn_⟩; obtain ⟨y_, rfl⟩ := Soft.BW.mk hb_; clear hb_; skip))
      all_goals first
        | exact ⟨_, _, _, _, _, _, _, _, _, _, _, _, p_, c_, _, rfl, ldAt_new (L := ld0) hw_ hn_, by (repeat (first | with_reducible exact bel_refl _ | with_reducible refine bel_alloc ?_ _ | with_reducible refine bel_bw _ ?_ | with_reducible refine bel_drew ?_ | with_reducible refine bel_drewN _ ?_ | ((with_reducible refine bel_set ?_ ?_ _); rotate_left; focus (first | (simp; done) | omega | (simp; omega))) | refine bel_step ?_ (by with_reducible assumption)))⟩
        | exact ⟨_, _, _, _, _, _, _, _, _, _, _, _, p_, c_, _, rfl, ldAt_put (L := ld0) (HasBlk.below (W := (W2.alloc (.cells #[.slice none 0 0, .int .i64 0, .int .i64 0, .int .i64 0, .int .i64 0] 104)).drew) (Soft.heap_new W2 _) y_.below) hw_ hn_, by (repeat (first | with_reducible exact bel_refl _ | with_reducible refine bel_alloc ?_ _ | with_reducible refine bel_bw _ ?_ | with_reducible refine bel_drew ?_ | with_reducible refine bel_drewN _ ?_ | ((with_reducible refine bel_set ?_ ?_ _); rotate_left; focus (first | (simp; done) | omega | (simp; omega))) | refine bel_step ?_ (by with_reducible assumption)))⟩
    · rintro a' W3 ⟨u105, u106, u107, u108, u109, u110, u111, u112, u113, u104, u114, u115, p2, c2, K2, rfl, la2, B_⟩
      have s0' := (B_.cell (p := ⟨w.heap.size, 0, none⟩) nn0).trans s0
      have s1' := (B_.cell (p := ⟨w.heap.size, 1, none⟩) nn0).trans s1
      have BEL' := Lib.hid (bel_step BELW.out B_)
      have LA1' := Lib.hid (LA1.out.same B_)
      have LA2 := Lib.hid la2
      have nn0' : w.heap.size < W3.heap.size := Nat.lt_of_lt_of_le nn0 B_.size
      clear s0 s1 BELW nn0 nn1 nn2 lb2 B_ la2 LA1
      have LA1 := LA1'
      clear LA1'
      have s0 := s0'
      have s1 := s1'
      have BELW := BEL'
      have nn0 := nn0'
      clear s0' s1' BEL' nn0'
      have nn1 : ¬(W3.heap.size = w.heap.size) := by omega
      have nn2 : ¬(w.heap.size = W3.heap.size) := by omega
      have lb2 := Soft.LtH.mk (b := w.heap.size) (w := W3) nn0
      go_wp2_with fail
      refine region_then (fun a a' W' => ∃ (u117 u118 u119 u120 u121 u122 u123 u124 u125 u116 u126 u127 : Value) (p3 : Option Addr) (c3 K3 : Nat), a' = ((((((((((((((a.put (some 117) u117).put (some 118) u118).put (some 119) u119).put (some 120) u120).put (some 121) u121).put (some 122) u122).put (some 123) u123).put (some 124) u124).put (some 125) u125).put (some 116) u116).put (some 126) u126).put (some 127) u127).put (some 16) (.pointer (some ⟨K3, 0, none⟩))).put (some 17) (.int .i64 0)) ∧ LdAt W' K3 p3 c3 ld0 ∧ Below W3.heap.size W3 W') ?_ ?_
      · go_region_held3 (fun W => W.cell? ⟨w.heap.size, 0, none⟩ = some (.slice none 0 0) ∧ W.cell? ⟨w.heap.size, 1, none⟩ = some (.slice none 0 0)) (first | (go_simp; done) | go_keep) (first | (go_at_call 60; (with_reducible refine (C1.out _).mono ?_); rintro e w_ ⟨p_, c_, rfl, hw_, hb_, hn_⟩; obtain ⟨y_, rfl⟩ := Soft.BW.mk hb_; clear hb_; skip))
        all_goals first
          | exact ⟨_, _, _, _, _, _, _, _, _, _, _, _, p_, c_, _, rfl, ldAt_new (L := ld0) hw_ hn_, by (repeat (first | with_reducible exact bel_refl _ | with_reducible refine bel_alloc ?_ _ | with_reducible refine bel_bw _ ?_ | with_reducible refine bel_drew ?_ | with_reducible refine bel_drewN _ ?_ | ((with_reducible refine bel_set ?_ ?_ _); rotate_left; focus (first | (simp; done) | omega | (simp; omega))) | refine bel_step ?_ (by with_reducible assumption)))⟩
          | exact ⟨_, _, _, _, _, _, _, _, _, _, _, _, p_, c_, _, rfl, ldAt_put (L := ld0) (HasBlk.below (W := (W3.alloc (.cells #[.slice none 0 0, .int .i64 0, .int .i64 0, .int .i64 0, .int .i64 0] 104)).drew) (Soft.heap_new W3 _) y_.below) hw_ hn_, by (repeat (first | with_reducible exact bel_refl _ | with_reducible refine bel_alloc ?_ _ | with_reducible refine bel_bw _ ?_ | with_reducible refine bel_drew ?_ | with_reducible refine bel_drewN _ ?_ | ((with_reducible refine bel_set ?_ ?_ _); rotate_left; focus (first | (simp; done) | omega | (simp; omega))) | refine bel_step ?_ (by with_reducible assumption)))⟩
      · rintro a' W4 ⟨u117, u118, u119, u120, u121, u122, u123, u124, u125, u116, u126, u127, p3, c3, K3, rfl, la3, B_⟩
        have s0' := (B_.cell (p := ⟨w.heap.size, 0, none⟩) nn0).trans s0
        have s1' := (B_.cell (p := ⟨w.heap.size, 1, none⟩) nn0).trans s1
        have BEL' := Lib.hid (bel_step BELW.out B_)
        have LA1' := Lib.hid (LA1.out.same B_)
        have LA2' := Lib.hid (LA2.out.same B_)
        have LA3 := Lib.hid la3
        have nn0' : w.heap.size < W4.heap.size := Nat.lt_of_lt_of_le nn0 B_.size
        clear s0 s1 BELW nn0 nn1 nn2 lb2 B_ la3 LA1 LA2
        have LA1 := LA1'
        clear LA1'
        have LA2 := LA2'
        clear LA2'
        have s0 := s0'
        have s1 := s1'
        have BELW := BEL'
        have nn0 := nn0'
        clear s0' s1' BEL' nn0'
        have nn1 : ¬(W4.heap.size = w.heap.size) := by omega
        have nn2 : ¬(w.heap.size = W4.heap.size) := by omega
        have lb2 := Soft.LtH.mk (b := w.heap.size) (w := W4) nn0
        have s2 := (BELW.out.cell (p := ⟨w.heap.size, 2, none⟩) HBEL.out.2).trans t2
        have s3 := (BELW.out.cell (p := ⟨w.heap.size, 3, none⟩) HBEL.out.2).trans t3
        go_wp2_with (first
          | (go_at_call 60; (with_reducible refine (C1.out _).mono ?_); rintro e w_ ⟨p4, c4, rfl, hw4, hb_, hn4⟩; obtain ⟨y4, rfl⟩ := Soft.BW.mk hb_; clear hb_; have la4 := ldAt_new (L := ld0) (t := 104) hw4 hn4; have bel5 : Below W4.heap.size W4 (y4.w.alloc (.cells #[.slice p4 0 c4, .int .i64 0, .int .i64 0, .int .i64 0, .int .i64 0] 104)) := (by (repeat (first | with_reducible exact bel_refl _ | with_reducible refine bel_alloc ?_ _ | with_reducible refine bel_bw _ ?_ | with_reducible refine bel_drew ?_ | with_reducible refine bel_drewN _ ?_ | ((with_reducible refine bel_set ?_ ?_ _); rotate_left; focus (first | (simp; done) | omega | (simp; omega))) | refine bel_step ?_ (by with_reducible assumption)))); have bel0 : Below w.heap.size w (y4.w.alloc (.cells #[.slice p4 0 c4, .int .i64 0, .int .i64 0, .int .i64 0, .int .i64 0] 104)) := bel_step (bel_step HBEL.out.1 BELW.out) bel5; have Q1 := Lib.hid (LA1.out.same bel5); have Q2 := Lib.hid (LA2.out.same bel5); have Q3 := Lib.hid (LA3.out.same bel5); have Q4 := Lib.hid la4; have B0 := Lib.hid bel0; clear la4 bel5 bel0 hw4 hn4; have q20 := Q2.out.c0; have q2l := Soft.LtH.mk Q2.out.lt; simp only [ld0, List.length_nil] at q20)
          | (at_builtin; (refine app_many rfl (.tmp 150) (.tmp 152) rfl (y4.w.alloc (.cells #[.slice p4 0 c4, .int .i64 0, .int .i64 0, .int .i64 0, .int .i64 0] 104)).heap.size (.slice none 0 0) [] rfl (World.ownsRow_nil _ _ _ _) p2 0 c2 [] rfl Q2.out.ws Q2.out.pn (by decide) (Nat.le_refl _) ?_); intro v6 w6 ho6 hb6; have q30 := (Q3.out.same hb6).c0; have q3l := Soft.LtH.mk (Q3.out.same hb6).lt; simp only [ld0, List.length_nil] at q30)
          | (at_builtin; (refine app_many rfl (.tmp 154) (.tmp 156) rfl (y4.w.alloc (.cells #[.slice p4 0 c4, .int .i64 0, .int .i64 0, .int .i64 0, .int .i64 0] 104)).heap.size v6 ([] ++ []) rfl ho6 p3 0 c3 [] rfl (Q3.out.same hb6).ws (Q3.out.same hb6).pn (by decide) hb6.size ?_); intro v7 w7 ho7 hb7; have q40 := (Q4.out.same (hb6.trans hb7)).c0; have q4l := Soft.LtH.mk (Q4.out.same (hb6.trans hb7)).lt; simp only [ld0, List.length_nil] at q40)
          | (at_builtin; (refine app_many rfl (.tmp 158) (.tmp 160) rfl (y4.w.alloc (.cells #[.slice p4 0 c4, .int .i64 0, .int .i64 0, .int .i64 0, .int .i64 0] 104)).heap.size v7 ([] ++ [] ++ []) rfl ho7 p4 0 c4 [] rfl (Q4.out.same (hb6.trans hb7)).ws (Q4.out.same (hb6.trans hb7)).pn (by decide) (hb6.trans hb7).size ?_); intro v8 w8 ho8 hb8; have B8 := Lib.hid (hb6.trans (hb7.trans hb8)); obtain ⟨p8, c8, ev8, hw8, _⟩ := ho8.at0; have hn8 : ([] ++ [] ++ [] ++ [] : List Wt).length = 0 := rfl; rw [hn8] at ev8 hw8; clear hn8; subst ev8; have r10 := (Q1.out.same B8.out).c0; have r11 := (Q1.out.same B8.out).c1; have r12 := (Q1.out.same B8.out).c2; have r13 := (Q1.out.same B8.out).c3; have r14 := (Q1.out.same B8.out).c4; simp only [ld0, List.length_nil] at r10 r11 r12 r13 r14; have r1l := Soft.LtH.mk (Q1.out.same B8.out).lt; have r20 := (Q2.out.same B8.out).c0; have r21 := (Q2.out.same B8.out).c1; have r22 := (Q2.out.same B8.out).c2; have r23 := (Q2.out.same B8.out).c3; have r24 := (Q2.out.same B8.out).c4; simp only [ld0, List.length_nil] at r20 r21 r22 r23 r24; have r2l := Soft.LtH.mk (Q2.out.same B8.out).lt; have r30 := (Q3.out.same B8.out).c0; have r31 := (Q3.out.same B8.out).c1; have r32 := (Q3.out.same B8.out).c2; have r33 := (Q3.out.same B8.out).c3; have r34 := (Q3.out.same B8.out).c4; simp only [ld0, List.length_nil] at r30 r31 r32 r33 r34; have r3l := Soft.LtH.mk (Q3.out.same B8.out).lt; have r40 := (Q4.out.same B8.out).c0; have r41 := (Q4.out.same B8.out).c1; have r42 := (Q4.out.same B8.out).c2; have r43 := (Q4.out.same B8.out).c3; have r44 := (Q4.out.same B8.out).c4; simp only [ld0, List.length_nil] at r40 r41 r42 r43 r44; have r4l := Soft.LtH.mk (Q4.out.same B8.out).lt;  have HW8 := Lib.hid hw8; clear hw8 ho8 ho7 ho6)
          | (go_at_call 61; (with_reducible refine (R2_SameWeights ⟨p1, 0, c1, []⟩ ⟨p8, 0, c8, [] ++ [] ++ [] ++ []⟩ _ (Q1.out.same B8.out).ws HW8.out rfl).mono ?_); rintro e w_ ⟨rfl, hb_⟩; obtain ⟨y9, rfl⟩ := Soft.BW.mk hb_; clear hb_)
          | (go_at_call 23; (with_reducible refine (L2_sane _).mono ?_); rintro e w_ ⟨rfl, hb_⟩; obtain ⟨y10, rfl⟩ := Soft.BW.mk hb_; clear hb_))

        go_ret
        refine ⟨rfl, ?_⟩
        exact bel_step (bel_step B0.out (B8.out)) (by (repeat (first | with_reducible exact bel_refl _ | with_reducible refine bel_alloc ?_ _ | with_reducible refine bel_bw _ ?_ | with_reducible refine bel_drew ?_ | with_reducible refine bel_drewN _ ?_ | ((with_reducible refine bel_set ?_ ?_ _); rotate_left; focus (first | (simp; done) | omega | (simp; omega))) | refine bel_step ?_ (by with_reducible assumption))))

end Go.Proofs.Ytbjdgaeikihjbaa
