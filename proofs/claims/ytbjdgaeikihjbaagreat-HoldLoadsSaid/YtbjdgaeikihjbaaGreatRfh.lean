/-
  The reference's lines of a table: Lines.
  The reference's exact value of a line at a place: Value, up.
  The reference's values of a table at a place: at, At, inside; At and beside of its layer 2.
  The reference's at, At, inside; at and beside of its layer 2.
  Conditions: each theorem's own premises.
-/
import Derived.Test.YtbjdgaeikihjbaaGreatRfb
import Derived.Test.YtbjdgaeikihjbaaGreatApp3
import Derived.Test.YtbjdgaeikihjbaaGreatNorm
import Derived.Test.YtbjdgaeikihjbaaGreatSearch
import Derived.Test.YtbjdgaeikihjbaaGreatMono
namespace Go.Proofs.YtbjdgaeikihjbaaGreat
set_option linter.unusedSimpArgs false
set_option linter.unusedVariables false
open Go.RowKit
set_option maxRecDepth 100000
set_option maxHeartbeats 4000000
attribute [local go_sem] Instr.field asAgg Soft.upon Soft.BW.cell_if Soft.BW.frozen_if Soft.cell_alloc_if Soft.frozen_alloc_if


def colK (f : Pt → Int) (ps : List Pt) (k : Nat) : List Int := (ps.take k).map f
theorem colK_len (f : Pt → Int) (ps : List Pt) (k : Nat) (h : k ≤ ps.length) : (colK f ps k).length = k := by simp [colK]; omega
theorem colK_succ (f : Pt → Int) (ps : List Pt) (k : Nat) (h : k < ps.length) : colK f ps (k + 1) = colK f ps k ++ [f (pt ps k)] := by
  unfold colK pt
  rw [List.take_succ_eq_append_getElem h, List.map_append]
  simp [h]
theorem colK_iv (f : Pt → Int) (ps : List Pt) (i : Nat) (h : i < ps.length) : iv (colK f ps ps.length) i = f (pt ps i) := by
  unfold colK iv pt
  simp [h]

def LinesPost (ps : List Pt) (w : World) (e : Ending) (w' : World) : Prop :=
  ∃ g1 n1 c1 g2 n2 c2 g3 n3 c3 : Nat, e = .returned (.tuple #[.slice (some ⟨g1, 0, none⟩) n1 c1, .slice (some ⟨g2, 0, none⟩) n2 c2, .slice (some ⟨g3, 0, none⟩) n3 c3]) ∧
    Is.At w' ⟨some ⟨g1, 0, none⟩, n1, c1, colK Pt.x ps ps.length⟩ ∧ Is.At w' ⟨some ⟨g2, 0, none⟩, n2, c2, colK Pt.lo ps ps.length⟩ ∧ Is.At w' ⟨some ⟨g3, 0, none⟩, n3, c3, colK Pt.hi ps ps.length⟩ ∧ Below w.heap.size w w'

theorem own_not {w : World} {B : Nat} {v : Value} {l : List Int} (h : OwnI w B v l) {k : Nat} (hk : w.heap.size ≤ k) : some k ≠ v.ownBlock := fun e => by
  have := (World.ownsRow.lt h k e.symm).2
  omega

theorem R1_Lines (t : Tb) (w : World) (ht : t.At w) (hok : TabOk t.ps) :
    Calls Tryz.prog 138 #[.agg #[.slice t.p t.n t.c]] w (LinesPost t.ps w) := by
  obtain ⟨p, n, c, ps⟩ := t
  have ht' := ht
  obtain ⟨h1, h2, h3, h4, h5⟩ := ht'
  dsimp only at *
  have hpos := hok.pos
  have hle := hok.le
  obtain ⟨b, o, rfl, hb, hc⟩ := h5 (by omega)
  have HOK := Lib.hid hok
  have HL := Lib.hid h1
  have HC := Lib.hid hc
  have hn1 : 1 ≤ n := by omega
  have hn2 : n ≤ 40 := by omega
  clear hok h1 hc h5 hpos hle ht
  go_enter Tryz.func138, Tryz.ntmps138
  go_wp2_with fail
  go_loopw [5, 6, 7, 13] (fun u v z i wr => ∃ (k : Nat), i = .int .i64 k ∧ k ≤ n ∧ Own3 wr (w.heap.size + 1) u v z (colK Pt.x ps k) (colK Pt.lo ps k) (colK Pt.hi ps k) ∧ Below (w.heap.size + 1) (w.alloc (.cells #[.slice (some ⟨b, o, none⟩) n c] 26)) wr) (fun _ _ _ i _ => n - (intOf i).toNat)
  case atStart => exact ⟨0, rfl, by omega, Own3.nil _ _, Below.refl _ _⟩
  case round =>
    obtain ⟨k, rfl, hk, hown, hB⟩ := hrel
    have hsz := hB.size
    simp at hsz
    have l0 := Soft.LtH.mk (b := w.heap.size) (w := wr) (by omega)
    have lb := Soft.LtH.mk (b := b) (w := wr) (by omega)
    have hbel : Below w.heap.size w wr := (((Below.refl _ _).alloc (Nat.le_refl _) _).trans (hB.mono (by omega)))
    have HBEL := Lib.hid hbel
    by_cases hlt : k < n
    · obtain ⟨q1, q2, q3⟩ := HC.out k hlt
      rw [← hbel.cell (p := ⟨b, o + k * 3, none⟩) hb] at q1
      rw [← hbel.cell (p := ⟨b, o + k * 3 + 1, none⟩) hb] at q2
      rw [← hbel.cell (p := ⟨b, o + k * 3 + 2, none⟩) hb] at q3
      have hl1 := colK_len Pt.x ps k (by have := HL.out; omega)
      have hl2 := colK_len Pt.lo ps k (by have := HL.out; omega)
      have hl3 := colK_len Pt.hi ps k (by have := HL.out; omega)
      have N1 := Lib.hid (colK_succ Pt.x ps k (by have := HL.out; omega))
      have N2 := Lib.hid (colK_succ Pt.lo ps k (by have := HL.out; omega))
      have N3 := Lib.hid (colK_succ Pt.hi ps k (by have := HL.out; omega))
      generalize colK Pt.x ps k = xl at *
      generalize colK Pt.lo ps k = yl at *
      generalize colK Pt.hi ps k = zl at *
      have L1 := Lib.hid hl1; have L2 := Lib.hid hl2; have L3 := Lib.hid hl3
      have HB := Lib.hid hB
      have HO := Lib.hid hown
      clear hl1 hl2 hl3 hB hbel hown
      generalize pt ps k = q at *
      have m1 := own_not HO.out.o1 (Nat.le_refl _)
      have m2 := own_not HO.out.o2 (Nat.le_refl _)
      have m3 := own_not HO.out.o3 (Nat.le_refl _)
      have M1 := Lib.hid m1; have M2 := Lib.hid m2; have M3 := Lib.hid m3
      clear m1 m2 m3
      go_wp2_with (first
        | (at_builtin; (refine app_intx rfl (.tmp 17) (.tmp 20) rfl (w.heap.size + 1) _ xl rfl ((HO.out.o1.alloc _).alloc _) (wr.heap.size + 1) q.x rfl (by simp) (by have := L1.out; omega) (by simp; omega) ?_); intro g1 p1 w1 o1 b1 r1 t1 s1; have OW1 := Lib.hid (((HO.out.alloc _).alloc _).app1 o1 r1 t1); have pc1 := (r1.cell_far ⟨wr.heap.size, 1, none⟩ (by simp; omega) M1.out); have pc2 := (r1.cell_far ⟨wr.heap.size, 2, none⟩ (by simp; omega) M1.out); simp at pc1 pc2; have z1 := r1.size; simp at z1; have lw1 := Soft.LtH.mk (b := wr.heap.size) (w := w1) (by omega); have B1 := Lib.hid b1; clear o1 r1 t1 b1 s1)
        | (at_builtin; (refine app_intx rfl (.tmp 22) (.tmp 25) rfl (w.heap.size + 1) _ yl rfl ((OW1.out.alloc _).o2) w1.heap.size q.lo rfl (by simp) (by have := L2.out; omega) (by simp; omega) ?_); intro g2 p2 w2 o2 b2 r2 t2 s2; have OW2 := Lib.hid ((OW1.out.alloc _).app2 o2 r2 t2); have pc3 := (r2.cell_far ⟨wr.heap.size, 2, none⟩ (by simp; omega) M2.out); simp only [Soft.cell_alloc_if] at pc3; rw [pc2] at pc3; have z2 := r2.size; simp at z2; have lw2 := Soft.LtH.mk (b := wr.heap.size) (w := w2) (by omega); have B2 := Lib.hid b2; clear o2 r2 t2 b2 s2)
        | (at_builtin; (refine app_intx rfl (.tmp 27) (.tmp 30) rfl (w.heap.size + 1) _ zl rfl ((OW2.out.alloc _).o3) w2.heap.size q.hi rfl (by simp) (by have := L3.out; omega) (by simp; omega) ?_); intro g3 p3 w3 o3 b3 r3 t3 s3; have OW3 := Lib.hid ((OW2.out.alloc _).app3 o3 r3 t3); have B3 := Lib.hid b3; clear o3 r3 t3 b3 s3))
      go_roundw
      case rel =>
        refine ⟨k + 1, by simp, by omega, ?_, ?_⟩
        · rw [N1.out, N2.out, N3.out]; exact OW3.out
        · exact ((((HB.out.alloc (by omega) _).alloc (by simp; omega) _).trans B1.out).alloc (by omega) _).trans ((B2.out.alloc (by omega) _).trans B3.out)
      case measure => simp [intOf]; omega
    · obtain rfl : k = n := by omega
      have e1 : colK Pt.x ps k = colK Pt.x ps ps.length := by rw [HL.out]
      have e2 : colK Pt.lo ps k = colK Pt.lo ps ps.length := by rw [HL.out]
      have e3 : colK Pt.hi ps k = colK Pt.hi ps ps.length := by rw [HL.out]
      rw [e1, e2, e3] at hown
      have k1 := colK_len Pt.x ps ps.length (Nat.le_refl _)
      have k2 := colK_len Pt.lo ps ps.length (Nat.le_refl _)
      have k3 := colK_len Pt.hi ps ps.length (Nat.le_refl _)
      have hl := HL.out
      have ne1 : colK Pt.x ps ps.length ≠ [] := fun e => by rw [e] at k1; simp at k1; omega
      have ne2 : colK Pt.lo ps ps.length ≠ [] := fun e => by rw [e] at k2; simp at k2; omega
      have ne3 : colK Pt.hi ps ps.length ≠ [] := fun e => by rw [e] at k3; simp at k3; omega
      obtain ⟨g1, p1, rfl, _⟩ := hown.o1.shape ne1
      obtain ⟨g2, p2, rfl, _⟩ := hown.o2.shape ne2
      obtain ⟨g3, p3, rfl, _⟩ := hown.o3.shape ne3
      have bd : ∀ f : Pt → Int, (∀ i, i < ps.length → I64 (f (pt ps i))) → ∀ i, I64 (iv (colK f ps ps.length) i) := fun f hf i => by
        by_cases hi : i < ps.length
        · rw [colK_iv f ps i hi]; exact hf i hi
        · rw [show iv (colK f ps ps.length) i = 0 by simp [iv, List.getElem?_eq_none (show (colK f ps ps.length).length ≤ i by rw [colK_len f ps _ (Nat.le_refl _)]; omega)]]; exact ⟨by omega, by omega⟩
      have a1 := hown.o1.at (bd Pt.x (fun i hi => by obtain ⟨y1, y2, y3, y4, y5, _⟩ := HOK.out.all i hi; exact ⟨by omega, by omega⟩)) (by omega) ne1
      have a2 := hown.o2.at (bd Pt.lo (fun i hi => by obtain ⟨y1, y2, y3, y4, y5, _⟩ := HOK.out.all i hi; exact ⟨by omega, by omega⟩)) (by omega) ne2
      have a3 := hown.o3.at (bd Pt.hi (fun i hi => by obtain ⟨y1, y2, y3, y4, y5, _⟩ := HOK.out.all i hi; exact ⟨by omega, by omega⟩)) (by omega) ne3
      have A1 := Lib.hid a1; have A2 := Lib.hid a2; have A3 := Lib.hid a3
      clear hB e1 e2 e3 hown k1 k2 k3 hl a1 a2 a3 ne1 ne2 ne3 bd hbel
      go_wp2_with fail
      go_ret3
      exact ⟨_, _, _, _, _, _, _, _, _, rfl, A1.out, A2.out, A3.out, HBEL.out⟩

end Go.Proofs.YtbjdgaeikihjbaaGreat

namespace Go.Proofs.YtbjdgaeikihjbaaGreat
set_option linter.unusedSimpArgs false
set_option linter.unusedVariables false
open Go.RowKit
set_option maxRecDepth 100000
set_option maxHeartbeats 4000000
attribute [local go_sem] Instr.field asAgg Soft.upon Soft.BW.cell_if Soft.BW.frozen_if Soft.cell_alloc_if Soft.frozen_alloc_if



/-- The place of a number among rising ones: the last that is not above it. -/
structure Last (xs : List Int) (x : Int) (K : Nat) : Prop where
  lt : K < xs.length
  le : ∀ j, j ≤ K → iv xs j ≤ x
  up : K + 1 < xs.length → x < iv xs (K + 1)

/-- The value as a whole number, a numerator and a denominator. -/
def fracS (xs ys : List Int) (x : Int) (K : Nat) : Int × Int × Int :=
  if iv xs K = x then (iv ys K, 0, 1) else (iv ys K + (iv ys (K + 1) - iv ys K) * (x - iv xs K) / (iv xs (K + 1) - iv xs K), (iv ys (K + 1) - iv ys K) * (x - iv xs K) - (iv ys (K + 1) - iv ys K) * (x - iv xs K) / (iv xs (K + 1) - iv xs K) * (iv xs (K + 1) - iv xs K), iv xs (K + 1) - iv xs K)

theorem R1_Value (s1 s2 : Is) (x : Int) (K : Nat) (w : World) (h1 : s1.At w) (h2 : s2.At w) (hk : Last s1.xs x K) (hl : s2.xs.length = s1.xs.length) (h40 : s1.xs.length ≤ 40) (hx : -1000000 ≤ x ∧ x ≤ 1000000) (hend : iv s1.xs K < x → K + 1 < s1.xs.length)
    (hxs : ∀ i, i < s1.xs.length → 0 ≤ iv s1.xs i ∧ iv s1.xs i ≤ 1000000) (hys : ∀ i, i < s2.xs.length → -1000000000 ≤ iv s2.xs i ∧ iv s2.xs i ≤ 1000000000) :
    Calls Tryz.prog 139 #[.slice s1.p s1.n s1.c, .slice s2.p s2.n s2.c, .int .i64 x] w fun e w' => e = .returned (.agg #[.int .i64 (fracS s1.xs s2.xs x K).1, .int .i64 (fracS s1.xs s2.xs x K).2.1, .int .i64 (fracS s1.xs s2.xs x K).2.2]) ∧ Below w.heap.size w w' := by
  obtain ⟨p1, n1, c1, xs⟩ := s1
  obtain ⟨p2, n2, c2, ys⟩ := s2
  dsimp only at *
  obtain ⟨k1, k2, k3⟩ := hk
  obtain ⟨a1, a2, a3, a4, a6, a5⟩ := h1
  obtain ⟨g1, g2, g3, g4, g6, g5⟩ := h2
  dsimp only at *
  obtain ⟨b1, o1, rfl, hb1, hc1⟩ := a5 (by omega)
  obtain ⟨b2, o2, rfl, hb2, hc2⟩ := g5 (by omega)
  have hKn : K < n1 := by omega
  have hnn : n2 = n1 := by omega
  subst hnn
  have hn40 : n2 ≤ 40 := by omega
  have HC1 := Lib.hid hc1
  have HC2 := Lib.hid hc2
  have HK2 := Lib.hid k2
  have HK3 := Lib.hid k3
  have HXS := Lib.hid hxs
  have HYS := Lib.hid hys
  have HA1 := Lib.hid a1
  have HG1 := Lib.hid g1
  have HEND := Lib.hid hend
  obtain ⟨x1, x2⟩ := hx
  clear a5 g5 a6 g6 hc1 hc2 k2 k3 hxs hys a1 g1 hl h40 k1 hend
  go_enter Tryz.func139, Tryz.ntmps139
  go_wp2_with fail
  go_loopw [7] (fun i wr => ∃ k : Nat, k ≤ K ∧ i = .int .i64 k ∧ wr = w.alloc (.cells #[.int .i64 0, .int .i64 0, .int .i64 0] 141)) (fun i _ => K + 1 - (intOf i).toNat)
  case atStart => exact ⟨0, by omega, by first | rfl | trivial, by first | trivial | rfl⟩
  case round =>
    obtain ⟨k, hk, rfl, rfl⟩ := hrel
    have lb1 := Soft.LtH.mk (b := b1) (w := w) hb1
    have lb2 := Soft.LtH.mk (b := b2) (w := w) hb2
    by_cases hlt : k < K
    · have q1 := HC1.out (k + 1) (by omega)
      have hle := HK2.out (k + 1) (by omega)
      have i1 : (k : Int) + 1 < n2 := by omega
      generalize iv xs (k + 1) = u at *
      have dle : decide (u ≤ x) = true := decide_eq_true hle
      go_wp2_with fail
      go_roundw
      case rel => exact ⟨k + 1, by omega, by first | rfl | simp, by first | trivial | rfl⟩
      case measure => simp [intOf]; omega
    · obtain rfl : k = K := by omega
      have q1 := HC1.out k (by omega)
      have y1 := HC2.out k (by omega)
      have z1 := HXS.out k (by have := HA1.out; omega)
      have z2 := HYS.out k (by have := HG1.out; omega)
      have hle := HK2.out k (by omega)
      by_cases e0 : iv xs k = x
      · have HV := Lib.hid (show fracS xs ys x k = (iv ys k, 0, 1) by unfold fracS; rw [if_pos e0])
        have d0 : (iv xs k == x) = true := by rw [e0]; simp
        by_cases hlast : k + 1 < n2
        · have q2 := HC1.out (k + 1) hlast
          have hgt := HK3.out (by have := HA1.out; omega)
          have i1 : (k : Int) + 1 < n2 := by omega
          have i2 : (k : Int) < n2 := by omega
          clear e0
          generalize iv xs (k + 1) = u at *
          generalize iv xs k = v at *
          generalize iv ys k = y at *
          have dle : decide (u ≤ x) = false := decide_eq_false (by omega)
          go_wp2_with fail
          rw [HV.out]
          refine bodyPost_ret (v := .agg #[.int .i64 y, .int .i64 0, .int .i64 1]) (by simp [results, Tryz.results139, go_sem]) rfl ?_
          refine ⟨rfl, ?_⟩
          (repeat (first | with_reducible exact bel_refl _ | with_reducible refine bel_alloc ?_ _ | with_reducible refine bel_bw _ ?_ | with_reducible refine bel_drew ?_ | with_reducible refine bel_drewN _ ?_ | ((with_reducible refine bel_set ?_ ?_ _); rotate_left; focus (first | (simp; done) | omega | (simp; omega))) | refine bel_step ?_ (by with_reducible assumption)))
        · have i1 : ¬((k : Int) + 1 < n2) := by omega
          have i2 : (k : Int) < n2 := by omega
          clear e0
          generalize iv xs k = v at *
          generalize iv ys k = y at *
          go_wp2_with fail
          rw [HV.out]
          refine bodyPost_ret (v := .agg #[.int .i64 y, .int .i64 0, .int .i64 1]) (by simp [results, Tryz.results139, go_sem]) rfl ?_
          refine ⟨rfl, ?_⟩
          (repeat (first | with_reducible exact bel_refl _ | with_reducible refine bel_alloc ?_ _ | with_reducible refine bel_bw _ ?_ | with_reducible refine bel_drew ?_ | with_reducible refine bel_drewN _ ?_ | ((with_reducible refine bel_set ?_ ?_ _); rotate_left; focus (first | (simp; done) | omega | (simp; omega))) | refine bel_step ?_ (by with_reducible assumption)))
      · have hlast : k + 1 < n2 := by have := HEND.out (by omega); have := HA1.out; omega
        have HV := Lib.hid (show fracS xs ys x k = (iv ys k + (iv ys (k + 1) - iv ys k) * (x - iv xs k) / (iv xs (k + 1) - iv xs k), (iv ys (k + 1) - iv ys k) * (x - iv xs k) - (iv ys (k + 1) - iv ys k) * (x - iv xs k) / (iv xs (k + 1) - iv xs k) * (iv xs (k + 1) - iv xs k), iv xs (k + 1) - iv xs k) by unfold fracS; rw [if_neg e0])
        have d0 : (iv xs k == x) = false := by rw [beq_eq_false_iff_ne]; exact e0
        have q2 := HC1.out (k + 1) hlast
        have y2 := HC2.out (k + 1) hlast
        have z3 := HXS.out (k + 1) (by have := HA1.out; omega)
        have z4 := HYS.out (k + 1) (by have := HG1.out; omega)
        have hgt := HK3.out (by have := HA1.out; omega)
        have i1 : (k : Int) + 1 < n2 := by omega
        have i2 : (k : Int) < n2 := by omega
        generalize iv xs (k + 1) = u at *
        generalize iv xs k = v at *
        generalize iv ys k = y at *
        generalize iv ys (k + 1) = y' at *
        obtain ⟨z11, z12⟩ := z1
        obtain ⟨z21, z22⟩ := z2
        obtain ⟨z31, z32⟩ := z3
        obtain ⟨z41, z42⟩ := z4
        have mb := mul_bd (y := y' - y) 2000000000 1000000 2000000000000000 (by decide) (by omega) (by omega) (show 0 ≤ x - v by omega) (show x - v ≤ 1000000 by omega)
        obtain ⟨mb1, mb2⟩ := mb
        have dle : decide (u ≤ x) = false := decide_eq_false (by omega)
        clear e0
        go_wp2_with fail
        go_quiet (fail)
        go_wp2_with fail
        go_quiet (fail)
        go_wp2_with fail
        have dd : 1 ≤ u - v := by omega
        generalize hnn : (y' - y) * (x - v) = nn at *
        have p1 := Int.ediv_mul_le nn (show u - v ≠ 0 by omega)
        have p2 := Int.lt_ediv_add_one_mul_self nn (show 0 < u - v by omega)
        have p3 : nn / (u - v) ≤ 2000000000000000 := by
          by_cases h0 : 0 ≤ nn
          · have := Int.ediv_le_self (u - v) h0; omega
          · have := Int.ediv_lt_of_lt_mul (show 0 < u - v by omega) (show nn < 0 * (u - v) by omega); omega
        have p4 : -2000000000000000 ≤ nn / (u - v) := Int.le_ediv_of_mul_le (by omega) (by
          have := Int.mul_le_mul_of_nonneg_left dd (show (0 : Int) ≤ 2000000000000000 by omega)
          rw [Int.neg_mul]; omega)
        rw [Int.add_mul, Int.one_mul] at p2
        have HNN := Lib.hid hnn
        clear hnn
        go_wp2_with ((go_at_call 145; (with_reducible refine (R1_Floor nn (u - v) _ (by omega) (by omega) (by omega)).mono ?_); rintro e w_ ⟨rfl, hw_⟩; subst w_))
        generalize nn / (u - v) = Q at *
        go_wp2_with fail
        rw [HV.out]
        refine bodyPost_ret (v := .agg #[.int .i64 (y + Q), .int .i64 (nn - Q * (u - v)), .int .i64 (u - v)]) (by simp [results, Tryz.results139, go_sem]) rfl ?_
        refine ⟨rfl, ?_⟩
        (repeat (first | with_reducible exact bel_refl _ | with_reducible refine bel_alloc ?_ _ | with_reducible refine bel_bw _ ?_ | with_reducible refine bel_drew ?_ | with_reducible refine bel_drewN _ ?_ | ((with_reducible refine bel_set ?_ ?_ _); rotate_left; focus (first | (simp; done) | omega | (simp; omega))) | refine bel_step ?_ (by with_reducible assumption)))

theorem R1_up (a b c : Int) (w : World) (h1 : -9000000000000000000 ≤ a) (h2 : a ≤ 9000000000000000000) :
    Calls Tryz.prog 140 #[.agg #[.int .i64 a, .int .i64 b, .int .i64 c]] w fun e w' => e = .returned (.int .i64 (if 0 < b then a + 1 else a)) ∧ Below w.heap.size w w' := by
  by_cases c0 : 0 < b
  · have HV := Lib.hid (show (if 0 < b then a + 1 else a) = a + 1 from if_pos c0)
    go_enter Tryz.func140, Tryz.ntmps140
    go_wp2_with fail
    go_ret
    refine ⟨rfl, ?_⟩
    (repeat (first | with_reducible exact bel_refl _ | with_reducible refine bel_alloc ?_ _ | with_reducible refine bel_bw _ ?_ | with_reducible refine bel_drew ?_ | with_reducible refine bel_drewN _ ?_ | ((with_reducible refine bel_set ?_ ?_ _); rotate_left; focus (first | (simp; done) | omega | (simp; omega))) | refine bel_step ?_ (by with_reducible assumption)))
  · have HV := Lib.hid (show (if 0 < b then a + 1 else a) = a from if_neg c0)
    go_enter Tryz.func140, Tryz.ntmps140
    go_wp2_with fail
    go_ret
    refine ⟨rfl, ?_⟩
    (repeat (first | with_reducible exact bel_refl _ | with_reducible refine bel_alloc ?_ _ | with_reducible refine bel_bw _ ?_ | with_reducible refine bel_drew ?_ | with_reducible refine bel_drewN _ ?_ | ((with_reducible refine bel_set ?_ ?_ _); rotate_left; focus (first | (simp; done) | omega | (simp; omega))) | refine bel_step ?_ (by with_reducible assumption)))

end Go.Proofs.YtbjdgaeikihjbaaGreat

namespace Go.Proofs.YtbjdgaeikihjbaaGreat
set_option linter.unusedSimpArgs false
set_option linter.unusedVariables false
open Go.RowKit
set_option maxRecDepth 100000
set_option maxHeartbeats 4000000
attribute [local go_sem] Instr.field asAgg Soft.upon Soft.BW.cell_if Soft.BW.frozen_if Soft.cell_alloc_if Soft.frozen_alloc_if




theorem colX_iv {ps : List Pt} {i : Nat} (h : i < ps.length) : iv (colK Pt.x ps ps.length) i = (pt ps i).x := colK_iv Pt.x ps i h

/-- The last point that is not behind a place. -/
theorem last_ex {ps : List Pt} (hok : TabOk ps) {x : Int} (h1 : firstX ps ≤ x) (h2 : x ≤ lastX ps) :
    ∃ K, Last (colK Pt.x ps ps.length) x K ∧ (iv (colK Pt.x ps ps.length) K < x → K + 1 < ps.length) := by
  have hpos := hok.pos
  have hl := colK_len Pt.x ps ps.length (Nat.le_refl _)
  have key : ∀ m, m < ps.length → ∃ K, K ≤ m ∧ (∀ j, j ≤ K → (pt ps j).x ≤ x) ∧ (K < m → x < (pt ps (K + 1)).x) := by
    intro m
    induction m with
    | zero => intro _; exact ⟨0, Nat.le_refl _, (fun j hj => by rw [show j = 0 by omega]; exact h1), (fun h => absurd h (by omega))⟩
    | succ m ih =>
      intro hm
      obtain ⟨K, k1, k2, k3⟩ := ih (by omega)
      by_cases e : K < m
      · exact ⟨K, by omega, k2, fun _ => k3 e⟩
      · obtain rfl : K = m := by omega
        by_cases c : (pt ps (K + 1)).x ≤ x
        · refine ⟨K + 1, Nat.le_refl _, fun j hj => ?_, fun h => absurd h (by omega)⟩
          by_cases e2 : j = K + 1
          · rw [e2]; exact c
          · exact k2 j (by omega)
        · exact ⟨K, by omega, k2, fun _ => by omega⟩
  obtain ⟨K, k1, k2, k3⟩ := key (ps.length - 1) (by omega)
  refine ⟨K, ⟨by omega, fun j hj => by rw [colX_iv (by omega)]; exact k2 j hj, fun h => by rw [colX_iv (by omega)]; exact k3 (by omega)⟩, fun h => ?_⟩
  rw [colX_iv (by omega)] at h
  apply Classical.byContradiction
  intro hc
  obtain rfl : K = ps.length - 1 := by omega
  have : (pt ps (ps.length - 1)).x = lastX ps := rfl
  omega

/-- What the two lines come to. -/
theorem frac_at {ps : List Pt} (hok : TabOk ps) (h2 : 2 ≤ ps.length) {x : Int} {K : Nat} (hK : Last (colK Pt.x ps ps.length) x K) (he : iv (colK Pt.x ps ps.length) K < x → K + 1 < ps.length) :
    (fracS (colK Pt.x ps ps.length) (colK Pt.lo ps ps.length) x K).1 = (atS ps x).lo ∧
      (if 0 < (fracS (colK Pt.x ps ps.length) (colK Pt.hi ps ps.length) x K).2.1 then (fracS (colK Pt.x ps ps.length) (colK Pt.hi ps ps.length) x K).1 + 1 else (fracS (colK Pt.x ps ps.length) (colK Pt.hi ps ps.length) x K).1) = (atS ps x).hi := by
  have hl := colK_len Pt.x ps ps.length (Nat.le_refl _)
  have hlt := hK.lt
  have hle := hK.le K (Nat.le_refl _)
  rw [colX_iv (by omega)] at hle he
  unfold fracS
  rw [colX_iv (by omega), colK_iv Pt.lo ps K (by omega), colK_iv Pt.hi ps K (by omega)]
  by_cases e : (pt ps K).x = x
  · rw [if_pos e, if_pos e]
    simp only [Int.lt_irrefl, if_false]
    by_cases hn : K + 1 < ps.length
    · have hx := hok.lt (K + 1) K (by omega) hn
      rw [atS_seg hok hn (by omega) (by omega), ← e]
      obtain ⟨s1, s2⟩ := seg_start (pt ps K) (pt ps (K + 1)) hx
      exact ⟨s1.symm, s2.symm⟩
    · have hx := hok.lt K (K - 1) (by omega) (by omega)
      have hs := atS_seg hok (k := K - 1) (x := x) (by omega) (by omega) (by rw [show K - 1 + 1 = K by omega]; omega)
      rw [show K - 1 + 1 = K by omega] at hs
      rw [hs, ← e]
      obtain ⟨s1, s2⟩ := seg_end (pt ps (K - 1)) (pt ps K) hx
      exact ⟨s1.symm, s2.symm⟩
  · have hn := he (by omega)
    have hup := hK.up (by omega)
    rw [colX_iv (by omega)] at hup
    have hx := hok.lt (K + 1) K (by omega) hn
    rw [if_neg e, if_neg e, colX_iv (by omega), colK_iv Pt.lo ps (K + 1) (by omega), colK_iv Pt.hi ps (K + 1) (by omega), atS_seg hok hn (by omega) (by omega)]
    dsimp only
    unfold segLo segHi
    generalize pt ps K = a at *
    generalize pt ps (K + 1) = b at *
    have key : ∀ y z : Int, y * (b.x - x) + z * (x - a.x) = (z - y) * (x - a.x) + y * (b.x - a.x) := fun y z => by
      rw [show b.x - x = (b.x - a.x) - (x - a.x) by omega, Int.mul_sub, Int.sub_mul]
      omega
    constructor
    · rw [key, Int.add_mul_ediv_right _ _ (by omega)]
      omega
    · have hd : 0 < b.x - a.x := by omega
      rw [key]
      generalize (b.hi - a.hi) * (x - a.x) = n
      generalize b.x - a.x = d at *
      rw [Int.neg_add, ← Int.neg_mul, Int.add_mul_ediv_right _ _ (by omega)]
      have p1 := Int.ediv_mul_le n (show d ≠ 0 by omega)
      have p2 := Int.lt_ediv_add_one_mul_self n hd
      rw [Int.add_mul, Int.one_mul] at p2
      have q1 := Int.ediv_mul_le (-n) (show d ≠ 0 by omega)
      have q2 := Int.lt_ediv_add_one_mul_self (-n) hd
      rw [Int.add_mul, Int.one_mul] at q2
      by_cases z : 0 < n - n / d * d
      · rw [if_pos z]
        have : -n / d = -(n / d) - 1 := by
          have r1 : -n / d < -(n / d) := by
            apply Int.lt_of_mul_lt_mul_right (a := d) _ (by omega)
            rw [Int.neg_mul]; omega
          have r2 : -(n / d) - 1 ≤ -n / d := Int.le_ediv_of_mul_le hd (by rw [Int.sub_mul, Int.neg_mul, Int.one_mul]; omega)
          omega
        omega
      · rw [if_neg z]
        have hz : n = n / d * d := by omega
        have : -n / d = -(n / d) := by
          conv => lhs; rw [hz, ← Int.neg_mul]
          exact Int.mul_ediv_cancel _ (by omega)
        omega

end Go.Proofs.YtbjdgaeikihjbaaGreat

namespace Go.Proofs.YtbjdgaeikihjbaaGreat
set_option linter.unusedSimpArgs false
set_option linter.unusedVariables false
open Go.RowKit
set_option maxRecDepth 100000
set_option maxHeartbeats 4000000
attribute [local go_sem] Instr.field asAgg Soft.upon Soft.BW.cell_if Soft.BW.frozen_if Soft.cell_alloc_if Soft.frozen_alloc_if





theorem R1_First (t : Tb) (w : World) (ht : t.At w) (hn : 1 ≤ t.n) :
    Calls Tryz.prog 136 #[.agg #[.slice (t).p (t).n (t).c]] w fun e w' => e = .returned (.int .i64 (firstX t.ps)) ∧ Below w.heap.size w w' := by
  unfold firstX
  obtain ⟨p, n, c, ps⟩ := t
  obtain ⟨h1, h2, h3, h4, h5⟩ := ht
  obtain ⟨b, o, rfl, hb, hc⟩ := h5 (by dsimp only at *; omega)
  dsimp only at *
  have c0 := (hc 0 (by omega)).1
  have H1 := Lib.hid h1; clear h1 hc h5
  generalize pt ps 0 = p0 at *
  simp only [Nat.zero_mul, Nat.add_zero] at c0
  have := Soft.LtH.mk (w := w) hb
  have i0 : 0 < n := by omega
  go_enter Tryz.func136, Tryz.ntmps136
  go_wp2
  go_ret
  refine ⟨rfl, ?_⟩
  (repeat (first | with_reducible exact bel_refl _ | with_reducible refine bel_alloc ?_ _ | with_reducible refine bel_bw _ ?_ | with_reducible refine bel_drew ?_ | with_reducible refine bel_drewN _ ?_ | ((with_reducible refine bel_set ?_ ?_ _); rotate_left; focus (first | (simp; done) | omega | (simp; omega))) | refine bel_step ?_ (by with_reducible assumption)))

theorem R1_Last (t : Tb) (w : World) (ht : t.At w) (hn : 1 ≤ t.n) :
    Calls Tryz.prog 137 #[.agg #[.slice (t).p (t).n (t).c]] w fun e w' => e = .returned (.int .i64 (lastX t.ps)) ∧ Below w.heap.size w w' := by
  have e0 := isIn_len ht
  unfold lastX
  rw [← e0]
  obtain ⟨p, n, c, ps⟩ := t
  obtain ⟨h1, h2, h3, h4, h5⟩ := ht
  obtain ⟨b, o, rfl, hb, hc⟩ := h5 (by dsimp only at *; omega)
  dsimp only at *
  have c1 := (hc (n - 1) (by omega)).1
  have H1 := Lib.hid h1; clear h1 hc h5 e0
  generalize pt ps (n - 1) = p1 at *
  have := Soft.LtH.mk (w := w) hb
  have i1 : (n : Int) - 1 < n := by omega
  have i2 : (1 : Int) ≤ n := by omega
  have i3 : ((n : Int) - 1).toNat = n - 1 := by omega
  go_enter Tryz.func137, Tryz.ntmps137
  go_wp2
  go_ret
  refine ⟨rfl, ?_⟩
  (repeat (first | with_reducible exact bel_refl _ | with_reducible refine bel_alloc ?_ _ | with_reducible refine bel_bw _ ?_ | with_reducible refine bel_drew ?_ | with_reducible refine bel_drewN _ ?_ | ((with_reducible refine bel_set ?_ ?_ _); rotate_left; focus (first | (simp; done) | omega | (simp; omega))) | refine bel_step ?_ (by with_reducible assumption)))

theorem R1_inside (t : Tb) (x : Int) (w : World) (ht : t.At w) (hn : 1 ≤ t.n) (v : Bool) (hv : v = decide (firstX t.ps ≤ x ∧ x ≤ lastX t.ps)) :
    Calls Tryz.prog 127 #[.agg #[.slice (t).p (t).n (t).c], .int .i64 x] w fun e w' => e = .returned (.bool v) ∧ Below w.heap.size w w' := by
  have CF := Lib.hid (fun W hW => R1_First t W hW hn)
  have CL := Lib.hid (fun W hW => R1_Last t W hW hn)
  have HV := Lib.hid hv; clear hv
  generalize firstX t.ps = a at *
  generalize lastX t.ps = b at *
  by_cases e0 : a ≤ x
  · by_cases e1 : x ≤ b
    · have HW := Lib.hid (show v = true by rw [HV.out]; exact decide_eq_true ⟨e0, e1⟩)
      go_enter Tryz.func127, Tryz.ntmps127
      go_wp2_with (first | (go_at_call 136; (with_reducible refine (CF.out _ (by repeat (first | exact ht | refine Tb.At.alloc ?_ _ | refine Tb.At.bw ?_ _))).mono ?_); rintro e w_ ⟨rfl, hb_⟩; obtain ⟨y1, rfl⟩ := Soft.BW.mk hb_; clear hb_) | (go_at_call 137; (with_reducible refine (CL.out _ (by repeat (first | exact ht | refine Tb.At.alloc ?_ _ | refine Tb.At.bw ?_ _))).mono ?_); rintro e w_ ⟨rfl, hb_⟩; obtain ⟨y2, rfl⟩ := Soft.BW.mk hb_; clear hb_))
      go_ret
      refine ⟨ret_bool HW.out.symm, ?_⟩
      (repeat (first | with_reducible exact bel_refl _ | with_reducible refine bel_alloc ?_ _ | with_reducible refine bel_bw _ ?_ | with_reducible refine bel_drew ?_ | with_reducible refine bel_drewN _ ?_ | ((with_reducible refine bel_set ?_ ?_ _); rotate_left; focus (first | (simp; done) | omega | (simp; omega))) | refine bel_step ?_ (by with_reducible assumption)))
    · have HW := Lib.hid (show v = false by rw [HV.out]; exact decide_eq_false (fun g => e1 g.2))
      go_enter Tryz.func127, Tryz.ntmps127
      go_wp2_with (first | (go_at_call 136; (with_reducible refine (CF.out _ (by repeat (first | exact ht | refine Tb.At.alloc ?_ _ | refine Tb.At.bw ?_ _))).mono ?_); rintro e w_ ⟨rfl, hb_⟩; obtain ⟨y1, rfl⟩ := Soft.BW.mk hb_; clear hb_) | (go_at_call 137; (with_reducible refine (CL.out _ (by repeat (first | exact ht | refine Tb.At.alloc ?_ _ | refine Tb.At.bw ?_ _))).mono ?_); rintro e w_ ⟨rfl, hb_⟩; obtain ⟨y2, rfl⟩ := Soft.BW.mk hb_; clear hb_))
      go_ret
      refine ⟨ret_bool ?_, ?_⟩
      · rw [HW.out]; exact decide_eq_false (by omega)
      (repeat (first | with_reducible exact bel_refl _ | with_reducible refine bel_alloc ?_ _ | with_reducible refine bel_bw _ ?_ | with_reducible refine bel_drew ?_ | with_reducible refine bel_drewN _ ?_ | ((with_reducible refine bel_set ?_ ?_ _); rotate_left; focus (first | (simp; done) | omega | (simp; omega))) | refine bel_step ?_ (by with_reducible assumption)))
  · have HW := Lib.hid (show v = false by rw [HV.out]; exact decide_eq_false (fun g => e0 g.1))
    go_enter Tryz.func127, Tryz.ntmps127
    go_wp2_with (first | (go_at_call 136; (with_reducible refine (CF.out _ (by repeat (first | exact ht | refine Tb.At.alloc ?_ _ | refine Tb.At.bw ?_ _))).mono ?_); rintro e w_ ⟨rfl, hb_⟩; obtain ⟨y1, rfl⟩ := Soft.BW.mk hb_; clear hb_))
    go_ret
    refine ⟨ret_bool HW.out.symm, ?_⟩
    (repeat (first | with_reducible exact bel_refl _ | with_reducible refine bel_alloc ?_ _ | with_reducible refine bel_bw _ ?_ | with_reducible refine bel_drew ?_ | with_reducible refine bel_drewN _ ?_ | ((with_reducible refine bel_set ?_ ?_ _); rotate_left; focus (first | (simp; done) | omega | (simp; omega))) | refine bel_step ?_ (by with_reducible assumption)))

theorem R1_at (t : Tb) (x : Int) (w : World) (ht : t.At w) (h2 : Tab2 t.ps) (hx : firstX t.ps ≤ x ∧ x ≤ lastX t.ps) :
    Calls Tryz.prog 128 #[.agg #[.slice (t).p (t).n (t).c], .int .i64 x] w fun e w' => e = .returned (.agg #[.int .i64 ((atS t.ps x)).lo, .int .i64 ((atS t.ps x)).hi]) ∧ Below w.heap.size w w' := by
  have hok := h2.ok
  obtain ⟨K, hK, hE⟩ := last_ex hok hx.1 hx.2
  obtain ⟨r1, r2⟩ := frac_at hok h2.two hK hE
  have hl1 := colK_len Pt.x t.ps t.ps.length (Nat.le_refl _)
  have hl2 := colK_len Pt.lo t.ps t.ps.length (Nat.le_refl _)
  have hl3 := colK_len Pt.hi t.ps t.ps.length (Nat.le_refl _)
  have hin := atS_in hok hx.1 hx.2 (-1000000000) 1000000000 (fun k hk => by obtain ⟨_, _, _, a, b, _⟩ := hok.all k hk; exact ⟨a, b⟩)
  have hends := hok.ends
  have CL := Lib.hid (fun W hW => R1_Lines t W hW hok)
  have CV := Lib.hid (fun (f : Pt → Int) (hf : f = Pt.lo ∨ f = Pt.hi) (g1 n1 c1 g2 n2 c2 : Nat) W (h1 : Is.At W ⟨some ⟨g1, 0, none⟩, n1, c1, colK Pt.x t.ps t.ps.length⟩) (h3 : Is.At W ⟨some ⟨g2, 0, none⟩, n2, c2, colK f t.ps t.ps.length⟩) =>
    R1_Value ⟨some ⟨g1, 0, none⟩, n1, c1, colK Pt.x t.ps t.ps.length⟩ ⟨some ⟨g2, 0, none⟩, n2, c2, colK f t.ps t.ps.length⟩ x K W h1 h3 hK (by dsimp only; rw [colK_len f _ _ (Nat.le_refl _), hl1]) (by dsimp only; rw [hl1]; exact hok.le) (by have := hx.1; have := hx.2; omega) (fun h => by dsimp only; rw [hl1]; exact hE h)
      (fun i hi => by dsimp only at hi ⊢; rw [hl1] at hi; rw [colX_iv hi]; obtain ⟨a, b, _⟩ := hok.all i hi; exact ⟨a, b⟩)
      (fun i hi => by dsimp only at hi ⊢; rw [colK_len f _ _ (Nat.le_refl _)] at hi; rw [colK_iv f _ i hi]; obtain ⟨_, _, a, b, c, _⟩ := hok.all i hi; rcases hf with rfl | rfl <;> exact ⟨by omega, by omega⟩))
  have R1 := Lib.hid r1
  have R2 := Lib.hid r2
  have hb : -1000000001 ≤ (fracS (colK Pt.x t.ps t.ps.length) (colK Pt.hi t.ps t.ps.length) x K).1 ∧ (fracS (colK Pt.x t.ps t.ps.length) (colK Pt.hi t.ps t.ps.length) x K).1 ≤ 1000000001 := by
    have a1 := hin.a; have a2 := hin.b; have a3 := hin.c
    split at r2 <;> omega
  obtain ⟨hb1, hb2⟩ := hb
  clear hok hK hE r1 r2 hl1 hl2 hl3 hin hends h2 hx
  go_enter Tryz.func128, Tryz.ntmps128
  go_wp2_with (go_at_call 138; refine (CL.out _ (by repeat (first | exact ht | refine Tb.At.alloc ?_ _ | refine Tb.At.bw ?_ _))).mono ?_; rintro e w_ ⟨g1, n1, c1, g2, n2, c2, g3, n3, c3, rfl, a1, a2, a3, hb_⟩; obtain ⟨y1, rfl⟩ := Soft.BW.mk hb_; clear hb_)
  refine (CV.out Pt.lo (.inl rfl) g1 n1 c1 g2 n2 c2 _ (by with_reducible repeat (first | exact a1 | refine Is.At.alloc ?_ _ | refine Is.At.bw ?_ _)) (by with_reducible repeat (first | exact a2 | refine Is.At.alloc ?_ _ | refine Is.At.bw ?_ _))).mono ?_
  rintro e w_ ⟨rfl, hb_⟩
  obtain ⟨y2, rfl⟩ := Soft.BW.mk hb_
  clear hb_
  go_wp2_with fail
  refine (CV.out Pt.hi (.inr rfl) g1 n1 c1 g3 n3 c3 _ (by with_reducible repeat (first | exact a1 | refine Is.At.alloc ?_ _ | refine Is.At.bw ?_ _)) (by with_reducible repeat (first | exact a3 | refine Is.At.alloc ?_ _ | refine Is.At.bw ?_ _))).mono ?_
  rintro e w_ ⟨rfl, hb_⟩
  obtain ⟨y3, rfl⟩ := Soft.BW.mk hb_
  clear hb_ CV
  dsimp only
  generalize fracS (colK Pt.x t.ps t.ps.length) (colK Pt.lo t.ps t.ps.length) x K = F at *
  generalize fracS (colK Pt.x t.ps t.ps.length) (colK Pt.hi t.ps t.ps.length) x K = G at *
  go_wp2_with (go_at_call 140; refine (R1_up G.1 G.2.1 G.2.2 _ (by omega) (by omega)).mono ?_; rintro e w_ ⟨rfl, hb_⟩; obtain ⟨y4, rfl⟩ := Soft.BW.mk hb_; clear hb_; rw [R2.out])
  rw [R1.out]
  generalize atS t.ps x = rr
  refine bodyPost_ret (v := .agg #[.int .i64 rr.lo, .int .i64 rr.hi]) (by simp [results, Tryz.results128, go_sem]) rfl ?_
  refine ⟨rfl, ?_⟩
  (repeat (first | with_reducible exact bel_refl _ | with_reducible refine bel_alloc ?_ _ | with_reducible refine bel_bw _ ?_ | with_reducible refine bel_drew ?_ | with_reducible refine bel_drewN _ ?_ | ((with_reducible refine bel_set ?_ ?_ _); rotate_left; focus (first | (simp; done) | omega | (simp; omega))) | refine bel_step ?_ (by with_reducible assumption)))

theorem R1_At (t : Tb) (x : Int) (w : World) (ht : t.At w) (h2 : Tab2 t.ps) (hx : firstX t.ps ≤ x ∧ x ≤ lastX t.ps) :
    Calls Tryz.prog 135 #[.agg #[.slice (t).p (t).n (t).c], .int .i64 x] w fun e w' => e = .returned (.tuple #[.agg #[.int .i64 ((atS t.ps x)).lo, .int .i64 ((atS t.ps x)).hi], .int .i64 0]) ∧ Below w.heap.size w w' := by
  have hn : 1 ≤ t.n := by rw [← ht.1]; exact h2.ok.pos
  have HT := Lib.hid (decide_eq_true h2.ok).symm
  have HX := Lib.hid (decide_eq_true hx).symm
  have CA := Lib.hid (fun W hW => R1_at t x W hW h2 hx)
  clear h2 hx
  generalize atS t.ps x = rr at *
  go_enter Tryz.func135, Tryz.ntmps135
  go_wp2_with (first | (go_at_call 117; (with_reducible refine (R1_ValidTable t _ (by repeat (first | exact ht | refine Tb.At.alloc ?_ _ | refine Tb.At.bw ?_ _)) true HT.out).mono ?_); rintro e w_ ⟨rfl, hb_⟩; obtain ⟨y1, rfl⟩ := Soft.BW.mk hb_; clear hb_) | (go_at_call 127; (with_reducible refine (R1_inside t x _ (by repeat (first | exact ht | refine Tb.At.alloc ?_ _ | refine Tb.At.bw ?_ _)) hn true HX.out).mono ?_); rintro e w_ ⟨rfl, hb_⟩; obtain ⟨y2, rfl⟩ := Soft.BW.mk hb_; clear hb_) | (go_at_call 128; (with_reducible refine (CA.out _ (by repeat (first | exact ht | refine Tb.At.alloc ?_ _ | refine Tb.At.bw ?_ _))).mono ?_); rintro e w_ ⟨rfl, hb_⟩; obtain ⟨y3, rfl⟩ := Soft.BW.mk hb_; clear hb_))
  refine bodyPost_ret (v := .tuple #[.agg #[.int .i64 rr.lo, .int .i64 rr.hi], .int .i64 0]) (by simp [results, Tryz.results135, go_sem]) rfl ?_
  refine ⟨rfl, ?_⟩
  (repeat (first | with_reducible exact bel_refl _ | with_reducible refine bel_alloc ?_ _ | with_reducible refine bel_bw _ ?_ | with_reducible refine bel_drew ?_ | with_reducible refine bel_drewN _ ?_ | ((with_reducible refine bel_set ?_ ?_ _); rotate_left; focus (first | (simp; done) | omega | (simp; omega))) | refine bel_step ?_ (by with_reducible assumption)))

theorem R2_at (t : Tb) (x : Int) (w : World) (ht : t.At w) (h2 : Tab2 t.ps) (hx : firstX t.ps ≤ x ∧ x ≤ lastX t.ps) :
    Calls Tryz.prog 126 #[.agg #[.slice (t).p (t).n (t).c], .int .i64 x] w fun e w' => e = .returned (.agg #[.int .i64 ((atS t.ps x)).lo, .int .i64 ((atS t.ps x)).hi]) ∧ Below w.heap.size w w' := by
  have CA := Lib.hid (fun W hW => R1_At t x W hW h2 hx)
  clear h2 hx
  generalize atS t.ps x = rr at *
  go_enter Tryz.func126, Tryz.ntmps126
  go_wp2_with ((go_at_call 135; (with_reducible refine (CA.out _ (by repeat (first | exact ht | refine Tb.At.alloc ?_ _ | refine Tb.At.bw ?_ _))).mono ?_); rintro e w_ ⟨rfl, hb_⟩; obtain ⟨y1, rfl⟩ := Soft.BW.mk hb_; clear hb_))
  refine bodyPost_ret (v := .agg #[.int .i64 rr.lo, .int .i64 rr.hi]) (by simp [results, Tryz.results126, go_sem]) rfl ?_
  refine ⟨rfl, ?_⟩
  (repeat (first | with_reducible exact bel_refl _ | with_reducible refine bel_alloc ?_ _ | with_reducible refine bel_bw _ ?_ | with_reducible refine bel_drew ?_ | with_reducible refine bel_drewN _ ?_ | ((with_reducible refine bel_set ?_ ?_ _); rotate_left; focus (first | (simp; done) | omega | (simp; omega))) | refine bel_step ?_ (by with_reducible assumption)))

theorem R2_beside (t : Tb) (r : Rg) (x : Int) (fall : Bool) (w : World) (ht : t.At w) (h2 : Tab2 t.ps) (hx : firstX t.ps ≤ x ∧ x ≤ lastX t.ps) (v : Bool) (hv : v = if fall then moreB t.ps r x else lessB t.ps r x) :
    Calls Tryz.prog 110 #[.agg #[.slice (t).p (t).n (t).c], .agg #[.int .i64 (r).lo, .int .i64 (r).hi], .int .i64 x, .bool fall] w fun e w' => e = .returned (.bool v) ∧ Below w.heap.size w w' := by
  have CA := Lib.hid (fun W hW => R2_at t x W hW h2 hx)
  have e1 : moreB t.ps r x = decide (r.hi < (atS t.ps x).lo) := by unfold moreB; rw [atE_in h2.ok hx.1 hx.2]
  have e2 : lessB t.ps r x = decide ((atS t.ps x).hi < r.lo) := by unfold lessB; rw [atE_in h2.ok hx.1 hx.2]
  rw [e1, e2] at hv
  have HV := Lib.hid hv
  clear h2 hx e1 e2 hv
  generalize atS t.ps x = rr at *
  cases fall
  · by_cases c : rr.hi < r.lo
    · have HW := Lib.hid (show v = true by rw [HV.out]; exact decide_eq_true c)
      have d : decide (rr.hi < r.lo) = true := decide_eq_true c
      go_enter Tryz.func110, Tryz.ntmps110
      go_wp2_with ((go_at_call 126; (with_reducible refine (CA.out _ (by repeat (first | exact ht | refine Tb.At.alloc ?_ _ | refine Tb.At.bw ?_ _))).mono ?_); rintro e w_ ⟨rfl, hb_⟩; obtain ⟨y1, rfl⟩ := Soft.BW.mk hb_; clear hb_))
      go_ret
      refine ⟨ret_bool HW.out.symm, ?_⟩
      (repeat (first | with_reducible exact bel_refl _ | with_reducible refine bel_alloc ?_ _ | with_reducible refine bel_bw _ ?_ | with_reducible refine bel_drew ?_ | with_reducible refine bel_drewN _ ?_ | ((with_reducible refine bel_set ?_ ?_ _); rotate_left; focus (first | (simp; done) | omega | (simp; omega))) | refine bel_step ?_ (by with_reducible assumption)))
    · have HW := Lib.hid (show v = false by rw [HV.out]; exact decide_eq_false c)
      have d : decide (rr.hi < r.lo) = false := decide_eq_false c
      go_enter Tryz.func110, Tryz.ntmps110
      go_wp2_with ((go_at_call 126; (with_reducible refine (CA.out _ (by repeat (first | exact ht | refine Tb.At.alloc ?_ _ | refine Tb.At.bw ?_ _))).mono ?_); rintro e w_ ⟨rfl, hb_⟩; obtain ⟨y1, rfl⟩ := Soft.BW.mk hb_; clear hb_))
      go_ret
      refine ⟨ret_bool HW.out.symm, ?_⟩
      (repeat (first | with_reducible exact bel_refl _ | with_reducible refine bel_alloc ?_ _ | with_reducible refine bel_bw _ ?_ | with_reducible refine bel_drew ?_ | with_reducible refine bel_drewN _ ?_ | ((with_reducible refine bel_set ?_ ?_ _); rotate_left; focus (first | (simp; done) | omega | (simp; omega))) | refine bel_step ?_ (by with_reducible assumption)))
  · by_cases c : r.hi < rr.lo
    · have HW := Lib.hid (show v = true by rw [HV.out]; exact decide_eq_true c)
      have d : decide (r.hi < rr.lo) = true := decide_eq_true c
      go_enter Tryz.func110, Tryz.ntmps110
      go_wp2_with ((go_at_call 126; (with_reducible refine (CA.out _ (by repeat (first | exact ht | refine Tb.At.alloc ?_ _ | refine Tb.At.bw ?_ _))).mono ?_); rintro e w_ ⟨rfl, hb_⟩; obtain ⟨y1, rfl⟩ := Soft.BW.mk hb_; clear hb_))
      go_ret
      refine ⟨ret_bool HW.out.symm, ?_⟩
      (repeat (first | with_reducible exact bel_refl _ | with_reducible refine bel_alloc ?_ _ | with_reducible refine bel_bw _ ?_ | with_reducible refine bel_drew ?_ | with_reducible refine bel_drewN _ ?_ | ((with_reducible refine bel_set ?_ ?_ _); rotate_left; focus (first | (simp; done) | omega | (simp; omega))) | refine bel_step ?_ (by with_reducible assumption)))
    · have HW := Lib.hid (show v = false by rw [HV.out]; exact decide_eq_false c)
      have d : decide (r.hi < rr.lo) = false := decide_eq_false c
      go_enter Tryz.func110, Tryz.ntmps110
      go_wp2_with ((go_at_call 126; (with_reducible refine (CA.out _ (by repeat (first | exact ht | refine Tb.At.alloc ?_ _ | refine Tb.At.bw ?_ _))).mono ?_); rintro e w_ ⟨rfl, hb_⟩; obtain ⟨y1, rfl⟩ := Soft.BW.mk hb_; clear hb_))
      go_ret
      refine ⟨ret_bool HW.out.symm, ?_⟩
      (repeat (first | with_reducible exact bel_refl _ | with_reducible refine bel_alloc ?_ _ | with_reducible refine bel_bw _ ?_ | with_reducible refine bel_drew ?_ | with_reducible refine bel_drewN _ ?_ | ((with_reducible refine bel_set ?_ ?_ _); rotate_left; focus (first | (simp; done) | omega | (simp; omega))) | refine bel_step ?_ (by with_reducible assumption)))

end Go.Proofs.YtbjdgaeikihjbaaGreat
