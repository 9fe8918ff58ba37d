/-
  The last region of the law HoldTanks.
  Conditions: each theorem's own premises.
-/
import Derived.Test.YtbjdgaeikihjbaaGreatRfv
import Derived.Test.YtbjdgaeikihjbaaGreatSanf
namespace Go.Proofs.YtbjdgaeikihjbaaGreat
set_option linter.unusedSimpArgs false
set_option linter.unusedVariables false
open Go.RowKit
set_option maxRecDepth 1000000
set_option maxHeartbeats 8000000
attribute [local go_sem] Instr.field asAgg Soft.upon Soft.BW.cell_if Soft.BW.frozen_if Soft.cell_alloc_if Soft.frozen_alloc_if

def tcutSeq : Nat → Code → Code
  | 0, c => c
  | n + 1, .seq _ b => tcutSeq n b
  | _ + 1, c => c
def theadSeq : Code → Code
  | .seq a _ => a
  | c => c
noncomputable def tnkLast : Code := theadSeq (tcutSeq 9 (Tryz.f5.body.getD .skip))

theorem tnk_last {t : Tk} {W : World} {B3 B4 B7 B9 B11 B13 B15 B17 B19 B21 : Nat} {a7 a8 e1 e2 e3 e4 x0 x1 y0 y1 z0 z1 z2 z3 z4 z5 q0 q2 q3 q4 q5 : Int} {q1 : Bool} {v0 v1 v2 v3 v4 v5 u0 u1 u2 u3 u4 u5 : Value}
    (kB3 : HasBlk W B3 #[v0, v1, v2, v3, v4, v5] 49)
    (kB4 : HasBlk W B4 #[u0, u1, u2, u3, u4, u5] 51)
    (kB7 : HasBlk W B7 #[.int .i64 x0, .int .i64 x1] 23)
    (kB9 : HasBlk W B9 #[.int .i64 x0, .int .i64 x1] 23)
    (kB11 : HasBlk W B11 #[.int .i64 y0, .int .i64 y1] 23)
    (kB13 : HasBlk W B13 #[.int .i64 y0, .int .i64 y1] 23)
    (kB15 : HasBlk W B15 #[.int .i64 z0, .int .i64 z1, .int .i64 z2, .int .i64 z3, .int .i64 z4, .int .i64 z5] 35)
    (kB17 : HasBlk W B17 #[.int .i64 z0, .int .i64 z1, .int .i64 z2, .int .i64 z3, .int .i64 z4, .int .i64 z5] 35)
    (kB19 : HasBlk W B19 #[.int .i64 q0, .bool q1, .int .i64 q2, .int .i64 q3, .int .i64 q4, .int .i64 q5] 51)
    (kB21 : HasBlk W B21 #[.int .i64 q0, .bool q1, .int .i64 q2, .int .i64 q3, .int .i64 q4, .int .i64 q5] 51)
    (hh : t.At W)
    (C7 : Hid (∀ W, t.At W → Calls Tryz.prog 36 #[.agg #[v0, v1, v2, v3, v4, v5]] W fun e w' => e = .returned (.int .i64 a7) ∧ Below W.heap.size W w'))
    (D7 : Hid (∀ W, t.At W → Calls Tryz.prog 37 #[.agg #[v0, v1, v2, v3, v4, v5]] W fun e w' => e = .returned (.int .i64 a7) ∧ Below W.heap.size W w'))
    (C8 : Hid (∀ W, t.At W → Calls Tryz.prog 38 #[.agg #[v0, v1, v2, v3, v4, v5], .agg #[u0, u1, u2, u3, u4, u5]] W fun e w' => e = .returned (.int .i64 a8) ∧ Below W.heap.size W w'))
    (D8 : Hid (∀ W, t.At W → Calls Tryz.prog 39 #[.agg #[v0, v1, v2, v3, v4, v5], .agg #[u0, u1, u2, u3, u4, u5]] W fun e w' => e = .returned (.int .i64 a8) ∧ Below W.heap.size W w'))
    {c0 c1 c2 c5 c6 c23 c24 c25 c26 c27 c28 c29 c30 c31 c32 c33 c34 c35 c36 c37 c38 c39 c40 c41 c42 c43 c44 c45 c46 c47 c48 c49 c50 c51 c52 c53 c54 c55 c56 c57 c58 c59 c60 c61 c62 c63 c64 c65 c66 c67 c68 c69 c70 c71 c72 c73 c74 c75 c76 c77 c78 c79 c80 c81 c82 c83 c84 c85 c86 c87 c88 c89 c90 c91 c92 c93 c94 c95 c96 c97 c98 c99 c100 c101 c102 c103 c104 c105 c106 c107 c108 c109 c110 c111 c112 c113 c114 c115 c116 c117 c118 c119 c120 c121 c122 c123 c124 c125 c126 c127 c128 c129 : Value} {K : Act → World → Prop} {Q : Exit → Act → World → Prop}
    (hK : ∀ a W', (results Tryz.f5 a.tmps).run Tryz.prog W' = .ok (.bool true) W' → a.defers = [] → Below W.heap.size W W' → K a W') :
    Code.wp Tryz.prog tnkLast (Exit.then K Q) { tmps := #[c0, c1, c2, .pointer (some ⟨B3, 0, none⟩), .pointer (some ⟨B4, 0, none⟩), c5, c6, .pointer (some ⟨B7, 0, none⟩), .int .i64 e1, .pointer (some ⟨B9, 0, none⟩), .int .i64 e1, .pointer (some ⟨B11, 0, none⟩), .int .i64 e2, .pointer (some ⟨B13, 0, none⟩), .int .i64 e2, .pointer (some ⟨B15, 0, none⟩), .int .i64 e3, .pointer (some ⟨B17, 0, none⟩), .int .i64 e3, .pointer (some ⟨B19, 0, none⟩), .int .i64 e4, .pointer (some ⟨B21, 0, none⟩), .int .i64 e4, c23, c24, c25, c26, c27, c28, c29, c30, c31, c32, c33, c34, c35, c36, c37, c38, c39, c40, c41, c42, c43, c44, c45, c46, c47, c48, c49, c50, c51, c52, c53, c54, c55, c56, c57, c58, c59, c60, c61, c62, c63, c64, c65, c66, c67, c68, c69, c70, c71, c72, c73, c74, c75, c76, c77, c78, c79, c80, c81, c82, c83, c84, c85, c86, c87, c88, c89, c90, c91, c92, c93, c94, c95, c96, c97, c98, c99, c100, c101, c102, c103, c104, c105, c106, c107, c108, c109, c110, c111, c112, c113, c114, c115, c116, c117, c118, c119, c120, c121, c122, c123, c124, c125, c126, c127, c128, c129], defers := [] } W := by
  have HK := Lib.hid hK
  have lB3 := Soft.LtH.mk (w := W) kB3.lt
  have hB3_0 := kB3.cell 0
  have hB3_1 := kB3.cell 1
  have hB3_2 := kB3.cell 2
  have hB3_3 := kB3.cell 3
  have hB3_4 := kB3.cell 4
  have hB3_5 := kB3.cell 5
  have lB4 := Soft.LtH.mk (w := W) kB4.lt
  have hB4_0 := kB4.cell 0
  have hB4_1 := kB4.cell 1
  have hB4_2 := kB4.cell 2
  have hB4_3 := kB4.cell 3
  have hB4_4 := kB4.cell 4
  have hB4_5 := kB4.cell 5
  have lB7 := Soft.LtH.mk (w := W) kB7.lt
  have hB7_0 := kB7.cell 0
  have hB7_1 := kB7.cell 1
  have lB9 := Soft.LtH.mk (w := W) kB9.lt
  have hB9_0 := kB9.cell 0
  have hB9_1 := kB9.cell 1
  have lB11 := Soft.LtH.mk (w := W) kB11.lt
  have hB11_0 := kB11.cell 0
  have hB11_1 := kB11.cell 1
  have lB13 := Soft.LtH.mk (w := W) kB13.lt
  have hB13_0 := kB13.cell 0
  have hB13_1 := kB13.cell 1
  have lB15 := Soft.LtH.mk (w := W) kB15.lt
  have hB15_0 := kB15.cell 0
  have hB15_1 := kB15.cell 1
  have hB15_2 := kB15.cell 2
  have hB15_3 := kB15.cell 3
  have hB15_4 := kB15.cell 4
  have hB15_5 := kB15.cell 5
  have lB17 := Soft.LtH.mk (w := W) kB17.lt
  have hB17_0 := kB17.cell 0
  have hB17_1 := kB17.cell 1
  have hB17_2 := kB17.cell 2
  have hB17_3 := kB17.cell 3
  have hB17_4 := kB17.cell 4
  have hB17_5 := kB17.cell 5
  have lB19 := Soft.LtH.mk (w := W) kB19.lt
  have hB19_0 := kB19.cell 0
  have hB19_1 := kB19.cell 1
  have hB19_2 := kB19.cell 2
  have hB19_3 := kB19.cell 3
  have hB19_4 := kB19.cell 4
  have hB19_5 := kB19.cell 5
  have lB21 := Soft.LtH.mk (w := W) kB21.lt
  have hB21_0 := kB21.cell 0
  have hB21_1 := kB21.cell 1
  have hB21_2 := kB21.cell 2
  have hB21_3 := kB21.cell 3
  have hB21_4 := kB21.cell 4
  have hB21_5 := kB21.cell 5
  simp at hB3_0 hB3_1 hB3_2 hB3_3 hB3_4 hB3_5 hB4_0 hB4_1 hB4_2 hB4_3 hB4_4 hB4_5 hB7_0 hB7_1 hB9_0 hB9_1 hB11_0 hB11_1 hB13_0 hB13_1 hB15_0 hB15_1 hB15_2 hB15_3 hB15_4 hB15_5 hB17_0 hB17_1 hB17_2 hB17_3 hB17_4 hB17_5 hB19_0 hB19_1 hB19_2 hB19_3 hB19_4 hB19_5 hB21_0 hB21_1 hB21_2 hB21_3 hB21_4 hB21_5
  clear hK kB3 kB4 kB7 kB9 kB11 kB13 kB15 kB17 kB19 kB21
  unfold tnkLast
  conv => arg 2; whnf
  (refine Soft.region0 [0, 1, 2, 3, 4, 5, 6, 7, 8, 9, 10, 11, 12, 13, 14, 15, 16, 17, 18, 19, 20, 21, 22, 23, 24, 25, 26, 27, 28, 29, 30, 31, 32, 33, 34, 35, 36, 37, 38, 39, 40, 41, 42, 43, 44, 45, 46, 47, 48, 49, 50, 51, 52, 53, 54, 55, 56, 57] [] (by kernel_rfl) (by kernel_rfl) (by kernel_rfl) (by kernel_rfl) ?_; change Soft.wpSoft _ _ _ _ _ [_, _, _, _, _, _, _, _, _, _, _, _, _, _, _, _, _, _, _, _, _, _, _, _, _, _, _, _, _, _, _, _, _, _, _, _, _, _, _, _, _, _, _, _, _, _, _, _, _, _, _, _, _, _, _, _, _, _] _; (repeat (refine Soft.soft_step (fun K hK => ?_); go_simp; (try go_bits); first | (refine hK _ ?_; clear hK K) | (apply Exists.intro; refine ⟨fun x => ?_, hK _ ?_⟩; (first | (go_at_call 36; with_reducible exact (C7.out _ (by with_reducible repeat (first | exact hh | refine Ho.At.alloc ?_ _ | refine Ho.At.bw ?_ _ | refine Tk.At.alloc ?_ _ | refine Tk.At.bw ?_ _)))) | (go_at_call 37; with_reducible exact (D7.out _ (by with_reducible repeat (first | exact hh | refine Ho.At.alloc ?_ _ | refine Ho.At.bw ?_ _ | refine Tk.At.alloc ?_ _ | refine Tk.At.bw ?_ _)))) | (go_at_call 38; with_reducible exact (C8.out _ (by with_reducible repeat (first | exact hh | refine Ho.At.alloc ?_ _ | refine Ho.At.bw ?_ _ | refine Tk.At.alloc ?_ _ | refine Tk.At.bw ?_ _)))) | (go_at_call 39; with_reducible exact (D8.out _ (by with_reducible repeat (first | exact hh | refine Ho.At.alloc ?_ _ | refine Ho.At.bw ?_ _ | refine Tk.At.alloc ?_ _ | refine Tk.At.bw ?_ _)))) | (go_at_call 23; with_reducible exact (L2_sane _))); clear hK K))); refine Soft.soft_nil ?_; intro xw; change wpList _ _ _ [] _ _)
  change wpList _ _ _ [] _ _
  go_wp2_with fail
  refine HK.out _ _ (by simp [results, Tryz.results5, go_sem]) rfl ?_
  (repeat (first | with_reducible exact bel_refl _ | with_reducible refine bel_alloc ?_ _ | with_reducible refine bel_bw _ ?_ | with_reducible refine bel_drew ?_ | with_reducible refine bel_drewN _ ?_ | ((with_reducible refine bel_set ?_ ?_ _); rotate_left; focus (first | (simp; done) | omega | (simp; omega))) | refine bel_step ?_ (by with_reducible assumption)))

end Go.Proofs.YtbjdgaeikihjbaaGreat
