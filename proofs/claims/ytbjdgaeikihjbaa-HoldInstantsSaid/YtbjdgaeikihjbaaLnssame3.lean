/-
  The tail of the law HoldInstants, one of six cases.
  Conditions: each theorem's own premises.
-/
import Derived.Test.YtbjdgaeikihjbaaLina
namespace Go.Proofs.Ytbjdgaeikihjbaa
set_option linter.unusedSimpArgs false
set_option linter.unusedVariables false
open Go.RowKit
set_option maxRecDepth 1000000
set_option maxHeartbeats 8000000
attribute [local go_sem] Instr.field asAgg Soft.upon Soft.BW.cell_if Soft.BW.frozen_if Soft.cell_alloc_if Soft.frozen_alloc_if
attribute [local irreducible] Soft.wpSoft

theorem ins_same3 {h : Ho} {f g M : Fi} {W : World} {B7 B8 B9 sb so sc : Nat} {C : Rg} {m0 o : Int} (k7 : HasBlk W B7 #[.int .i64 (h).id, .int .i64 ((h).along).lo, .int .i64 ((h).along).hi, .slice ((h).vol).p ((h).vol).n ((h).vol).c, .slice ((h).mom).p ((h).mom).n ((h).mom).c, .slice ((h).hei).p ((h).hei).n ((h).hei).c, .int .i64 ((h).tri).lo, .int .i64 ((h).tri).hi, .int .i64 ((h).unt).lo, .int .i64 ((h).unt).hi, .int .i64 ((h).v0).lo, .int .i64 ((h).v0).hi, .int .i64 ((h).h0).lo, .int .i64 ((h).h0).hi] 35) (k8 : HasBlk W B8 #[.int .i64 (f).hold, .int .i64 (f).state, .int .i64 ((f).ull).lo, .int .i64 ((f).ull).hi, .int .i64 ((f).den).lo, .int .i64 ((f).den).hi] 38) (k9 : HasBlk W B9 #[.int .i64 (g).hold, .int .i64 (g).state, .int .i64 ((g).ull).lo, .int .i64 ((g).ull).hi, .int .i64 ((g).den).lo, .int .i64 ((g).den).hi] 38)
    (hs : Fs.At W ⟨some ⟨sb, so, none⟩, 1, sc, [M]⟩) (hh : h.At W)
    (CMO : Hid (∀ W, h.At W → Calls Try.prog 31 #[.agg #[.int .i64 (h).id, .int .i64 ((h).along).lo, .int .i64 ((h).along).hi, .slice ((h).vol).p ((h).vol).n ((h).vol).c, .slice ((h).mom).p ((h).mom).n ((h).mom).c, .slice ((h).hei).p ((h).hei).n ((h).hei).c, .int .i64 ((h).tri).lo, .int .i64 ((h).tri).hi, .int .i64 ((h).unt).lo, .int .i64 ((h).unt).hi, .int .i64 ((h).v0).lo, .int .i64 ((h).v0).hi, .int .i64 ((h).h0).lo, .int .i64 ((h).h0).hi], .agg #[.int .i64 (M).hold, .int .i64 (M).state, .int .i64 ((M).ull).lo, .int .i64 ((M).ull).hi, .int .i64 ((M).den).lo, .int .i64 ((M).den).hi]] W fun e w' => e = .returned (.tuple #[.agg #[.int .i64 (C).lo, .int .i64 (C).hi], .int .i64 0]) ∧ Below W.heap.size W w'))
    (WI : Hid (∀ W, Calls Try.prog 35 #[.agg #[.int .i64 (C).lo, .int .i64 (C).hi], .int .i64 m0, .int .i64 o] W fun e w' => e = .returned (.bool true) ∧ Below W.heap.size W w'))
    (IF : Hid (∀ W, Calls Try.prog 27 #[.agg #[.int .i64 (f.den).lo, .int .i64 (f.den).hi], .agg #[.int .i64 (M.den).lo, .int .i64 (M.den).hi]] W fun e w' => e = .returned (.bool true) ∧ Below W.heap.size W w'))
    (IG : Hid (∀ W, Calls Try.prog 27 #[.agg #[.int .i64 (g.den).lo, .int .i64 (g.den).hi], .agg #[.int .i64 (M.den).lo, .int .i64 (M.den).hi]] W fun e w' => e = .returned (.bool true) ∧ Below W.heap.size W w'))
    (dM : (M.state != f.state) = false) (d33 : (M.state == 3) = true) (d0f : (f.state == 0) = false) (d0g : (g.state == 0) = false)
    {c0 c1 c2 c3 c4 c5 c6 c11 c12 c13 c14 c15 c16 c19 c20 c21 c22 c23 c24 c25 c26 c27 c28 c29 c30 c31 c32 c33 c34 c35 c36 c37 c38 c39 c40 c41 c42 c43 c44 c45 c46 c47 c48 c49 c50 c51 c52 c53 c54 c55 c56 c57 c58 c59 c60 c61 c62 c63 c64 c65 c66 c67 c68 c69 c70 c71 c72 c73 c74 c75 c76 c77 c78 c79 c80 c81 c82 c83 c84 c85 c86 c87 c88 c89 c90 c91 c92 c93 c94 c95 c96 c97 c98 c99 c100 c101 c102 c103 c104 c105 c106 c107 c108 c109 c110 c111 c112 c113 c114 c115 c116 c117 c118 c119 c120 c121 c122 c123 c124 c125 c126 c127 c128 c129 c130 c131 c132 c133 c134 c135 c136 c137 c138 c139 c140 c141 c142 c143 c144 c145 c146 c147 c148 c149 c150 c151 c152 c153 c154 c155 c156 c157 c158 c159 c160 c161 c162 c163 c164 c165 c166 c167 c168 c169 c170 c171 c172 c173 c174 c175 c176 c177 c178 c179 c180 c181 c182 c183 c184 c185 c186 : Value} {w : World} (hwW : Below w.heap.size w W) :
    Code.wp Try.prog insTail (bodyPost Try.prog Try.f10 fun e w' => e = .returned (.bool true) ∧ Below w.heap.size w w') { tmps := #[c0, c1, c2, c3, c4, c5, c6, .pointer (some ⟨B7, 0, none⟩), .pointer (some ⟨B8, 0, none⟩), .pointer (some ⟨B9, 0, none⟩), .slice (some ⟨sb, so, none⟩) 1 sc, c11, c12, c13, c14, c15, c16, .int .i64 m0, .int .i64 o, c19, c20, c21, c22, c23, c24, c25, c26, c27, c28, c29, c30, c31, c32, c33, c34, c35, c36, c37, c38, c39, c40, c41, c42, c43, c44, c45, c46, c47, c48, c49, c50, c51, c52, c53, c54, c55, c56, c57, c58, c59, c60, c61, c62, c63, c64, c65, c66, c67, c68, c69, c70, c71, c72, c73, c74, c75, c76, c77, c78, c79, c80, c81, c82, c83, c84, c85, c86, c87, c88, c89, c90, c91, c92, c93, c94, c95, c96, c97, c98, c99, c100, c101, c102, c103, c104, c105, c106, c107, c108, c109, c110, c111, c112, c113, c114, c115, c116, c117, c118, c119, c120, c121, c122, c123, c124, c125, c126, c127, c128, c129, c130, c131, c132, c133, c134, c135, c136, c137, c138, c139, c140, c141, c142, c143, c144, c145, c146, c147, c148, c149, c150, c151, c152, c153, c154, c155, c156, c157, c158, c159, c160, c161, c162, c163, c164, c165, c166, c167, c168, c169, c170, c171, c172, c173, c174, c175, c176, c177, c178, c179, c180, c181, c182, c183, c184, c185, c186], defers := [] } W := by
  have HQ := Lib.hid hwW
  have l7 := Soft.LtH.mk (w := W) k7.lt
  have l8 := Soft.LtH.mk (w := W) k8.lt
  have l9 := Soft.LtH.mk (w := W) k9.lt
  have e7_0 := k7.cell 0
  have e7_1 := k7.cell 1
  have e7_2 := k7.cell 2
  have e7_3 := k7.cell 3
  have e7_4 := k7.cell 4
  have e7_5 := k7.cell 5
  have e7_6 := k7.cell 6
  have e7_7 := k7.cell 7
  have e7_8 := k7.cell 8
  have e7_9 := k7.cell 9
  have e7_10 := k7.cell 10
  have e7_11 := k7.cell 11
  have e7_12 := k7.cell 12
  have e7_13 := k7.cell 13
  have e8_0 := k8.cell 0
  have e9_0 := k9.cell 0
  have e8_1 := k8.cell 1
  have e9_1 := k9.cell 1
  have e8_2 := k8.cell 2
  have e9_2 := k9.cell 2
  have e8_3 := k8.cell 3
  have e9_3 := k9.cell 3
  have e8_4 := k8.cell 4
  have e9_4 := k9.cell 4
  have e8_5 := k8.cell 5
  have e9_5 := k9.cell 5
  obtain ⟨s1, s2, s3, s4⟩ := hs
  obtain ⟨sb', so', ep, slt, scl⟩ := s4 (by dsimp only; omega)
  cases ep
  dsimp only at s2 s3 scl
  obtain ⟨s0_0, s0_1, s0_2, s0_3, s0_4, s0_5⟩ := scl 0 (by omega)
  simp [fv] at s0_0 s0_1 s0_2 s0_3 s0_4 s0_5
  simp at e7_0 e7_1 e7_2 e7_3 e7_4 e7_5 e7_6 e7_7 e7_8 e7_9 e7_10 e7_11 e7_12 e7_13 e8_0 e9_0 e8_1 e9_1 e8_2 e9_2 e8_3 e9_3 e8_4 e9_4 e8_5 e9_5
  have lsb := Soft.LtH.mk (w := W) slt
  clear s1 s4 scl hwW k7 k8 k9
  unfold insTail
  conv => arg 2; whnf
  go_wp2_with fail
  go_quiet (fail)
  rename Nat => nq
  obtain ⟨q9, eq9⟩ := Soft.BW.mk (w := W) (below_drewN (Below.refl _ _) nq)
  rw [eq9]
  clear eq9
  go_wp2_with fail
  (refine Soft.region1e 8 10 [0, 1, 2, 3, 4, 5, 6, 7, 8] 9 [10, 11] _ (by kernel_rfl) (by kernel_rfl) (by intro _ _ _ _ _ _ h; dsimp +zetaDelta only [Exit.then] at h ⊢; exact Soft.bodyPost_put h) (by kernel_rfl) (by kernel_rfl) (by decide) rfl rfl (by kernel_rfl) ?_; change Soft.wpSoft _ _ _ _ _ [_, _, _, _, _, _, _, _, _] _; (repeat (refine Soft.soft_step (fun K hK => ?_); go_simp; (try go_bits); first | (refine hK _ ?_; clear hK K) | (apply Exists.intro; refine ⟨fun x => ?_, hK _ ?_⟩; ((go_at_call 31; exact CMO.out _ (by with_reducible repeat (first | exact hh | refine Ho.At.alloc ?_ _ | refine Ho.At.bw ?_ _ | refine Tk.At.alloc ?_ _ | refine Tk.At.bw ?_ _ | refine Ho.At.drew ?_ | refine Tk.At.drew ?_)))); clear hK K))); refine Soft.soft_nil ?_)
  refine ⟨fun b => .pointer (some ⟨b, 0, none⟩), .cells #[.int .i64 0, .int .i64 0] 30, fun x => by go_simp, fun kb xx hnew => ?_⟩
  change wpList _ _ _ [_, _] _ _
  obtain ⟨N, x1, rfl, ex⟩ := newSplit hnew
  rw [ex]
  clear hnew ex xx
  refine wpList_store_row rfl 30 _ _ rfl N.w.heap.size _ rfl rfl 30 _ (HasBlk.below (Soft.heap_new N.w _) x1.below) (by kernel_rfl) rfl (by kernel_rfl) ?_
  obtain ⟨q8, ex2, ex3⟩ := bwStore x1 #[.int .i64 C.lo, .int .i64 C.hi]
  rw [ex2]
  clear ex2 ex3 x1
  go_wp2_with ((go_at_call 35; (with_reducible refine (WI.out _).mono ?_); rintro e w_ ⟨rfl, hb_⟩; obtain ⟨t8, rfl⟩ := Soft.BW.mk hb_; clear hb_))
  (refine Soft.region0 [0, 1, 2, 3, 4, 5, 6, 7, 8, 9, 10, 11, 12, 13, 14, 15, 16, 17, 18, 19, 20, 21, 22, 23, 24, 25, 26, 27, 28, 29, 30, 31] [] (by kernel_rfl) (by kernel_rfl) (by kernel_rfl) (by kernel_rfl) ?_; change Soft.wpSoft _ _ _ _ _ [_, _, _, _, _, _, _, _, _, _, _, _, _, _, _, _, _, _, _, _, _, _, _, _, _, _, _, _, _, _, _, _] _; (repeat (refine Soft.soft_step (fun K hK => ?_); go_simp; (try go_bits); first | (refine hK _ ?_; clear hK K) | (apply Exists.intro; refine ⟨fun x => ?_, hK _ ?_⟩; (first | (go_at_call 27; with_reducible exact (IF.out _)) | (go_at_call 27; with_reducible exact (IG.out _)) | (go_at_call 23; with_reducible exact (L2_sane _))); clear hK K))); refine Soft.soft_nil ?_; intro xw; change wpList _ _ _ [] _ _)
  change wpList _ _ _ [] _ _
  go_wp2_with fail
  go_ret
  refine ⟨rfl, bel_step HQ.out ?_⟩
  (repeat (first | with_reducible exact bel_refl _ | with_reducible refine bel_alloc ?_ _ | with_reducible refine bel_bw _ ?_ | with_reducible refine bel_drew ?_ | with_reducible refine bel_drewN _ ?_ | ((with_reducible refine bel_set ?_ ?_ _); rotate_left; focus (first | (simp; done) | omega | (simp; omega))) | refine bel_step ?_ (by with_reducible assumption)))

end Go.Proofs.Ytbjdgaeikihjbaa
