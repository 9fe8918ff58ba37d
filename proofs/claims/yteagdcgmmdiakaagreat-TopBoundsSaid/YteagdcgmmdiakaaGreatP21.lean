/-
  cond: Trim.
  cond: Righting, Heeling.
  cond: Margin.
  Conditions: each theorem's own premises.
-/
import Derived.Test.YteagdcgmmdiakaaGreatP20
import Derived.Test.YteagdcgmmdiakaaGreatP19
namespace Go.Proofs.YteagdcgmmdiakaaGreat
set_option linter.unusedSimpArgs false
set_option linter.unusedVariables false
open Go.RowKit
set_option maxRecDepth 100000
set_option maxHeartbeats 4000000
attribute [local go_sem] Instr.field asAgg Soft.upon Soft.upon0 Soft.stepC Soft.BW.cell_if Soft.BW.frozen_if Soft.cell_alloc_if Soft.frozen_alloc_if
attribute [local irreducible] Soft.wpSoft Soft.wpMix

/-- The trim. -/
def thou (r : Rg) : Rg := ⟨1000 * r.lo, 1000 * r.hi⟩
def triE (S : Sh) (L : La) (V : Wt) : Rg × Int :=
  if (overE S.cen.ps (tonR V)).2 = 0 then if (overE S.tri.ps (tonR V)).2 = 0 then (quoR (prodR V.mass (subR V.along (overE S.cen.ps (tonR V)).1)) (thou (overE S.tri.ps (tonR V)).1), 0) else (⟨0, 0⟩, (overE S.tri.ps (tonR V)).2)
  else (⟨0, 0⟩, (overE S.cen.ps (tonR V)).2)

/-- Two blocks that a region lays, each stored to. -/
theorem two_new {w : World} {x : Soft.BW w} {ka kb : Nat} {o1 o2 c1 c2 : Array Value} {ta tb : TypeId} (hne : ka ≠ kb) (na : Soft.New w ka (.cells o1 ta) x.w) (nb : Soft.New w kb (.cells o2 tb) x.w) :
    ∃ z : Soft.BW w, (x.w.setRow ka c1).setRow kb c2 = z.w ∧ HasBlk z.w ka c1 ta ∧ HasBlk z.w kb c2 tb := by
  have a1 : HasBlk (x.w.setRow ka c1) ka c1 ta := setRow_heap _ _ _ _ _ _ na.at_
  have b1 : HasBlk (x.w.setRow ka c1) kb o2 tb := HasBlk.rowx nb.at_ (Ne.symm hne) _
  have hb : Below w.heap.size w ((x.w.setRow ka c1).setRow kb c2) := below_setRow (below_setRow x.below na.le _) nb.le _
  obtain ⟨z, hz⟩ := Soft.BW.mk hb
  exact ⟨z, hz, by rw [← hz]; exact HasBlk.rowx a1 hne _, by rw [← hz]; exact setRow_heap _ _ _ _ _ _ b1⟩

theorem cond_Trim (S : Sh) (L : La) (V : Wt) (w : World) (h : Afl S L V w) :
    Calls Tryz.prog 102 #[.agg #[.int .i64 (S).len, .slice ((S).dra).p ((S).dra).n ((S).dra).c, .slice ((S).hei).p ((S).hei).n ((S).hei).c, .slice ((S).cen).p ((S).cen).n ((S).cen).c, .slice ((S).tri).p ((S).tri).n ((S).tri).c, .slice ((S).flo).p ((S).flo).n ((S).flo).c, .slice ((S).cross).p ((S).cross).n ((S).cross).c, .slice ((S).sin).p ((S).sin).n ((S).sin).c, .slice ((S).shi).p ((S).shi).n ((S).shi).c, .int .i64 (((S).light).mass).lo, .int .i64 (((S).light).mass).hi, .int .i64 (((S).light).along).lo, .int .i64 (((S).light).along).hi, .int .i64 (((S).light).high).lo, .int .i64 (((S).light).high).hi], .agg #[.slice ((L).ws).p ((L).ws).n ((L).ws).c, .int .i64 ((L).sur).lo, .int .i64 ((L).sur).hi, .int .i64 ((L).shi).lo, .int .i64 ((L).shi).hi]] w fun e w' => e = .returned (.tuple #[.agg #[.int .i64 ((triE S L V).1).lo, .int .i64 ((triE S L V).1).hi], .int .i64 (triE S L V).2]) ∧ Below w.heap.size w w' := by
  have CK := Lib.hid (fun W (hb : Below w.heap.size w W) => afl_check (h.same hb))
  have CT := Lib.hid (fun W (hb : Below w.heap.size w W) => cond_tonnes S L V W (h.l.same hb) h.li h.v)
  have CV := Lib.hid (fun W (hb : Below w.heap.size w W) => cond_total S L V W (h.l.same hb) h.li h.v)
  have CC := Lib.hid (fun W (hb : Below w.heap.size w W) => cond_over S.cen (tonR V) W (h.s.cen.same hb))
  have CI := Lib.hid (fun W (hb : Below w.heap.size w W) => cond_over S.tri (tonR V) W (h.s.tri.same hb))
  obtain ⟨v0, v1, v2, v3, v4, v5, v6, v7, v8, v9, v10, v11, v12, v13, v14, HS0, E1, E2, E3, E4, E5, E6, E7, E8, E9⟩ := ship_letters S
  rw [HS0.out] at CK CT CV ⊢
  rw [E3.out] at CC
  rw [E4.out] at CI
  generalize Value.slice L.ws.p L.ws.n L.ws.c = x0 at CK CT CV ⊢
  generalize Value.int .i64 L.sur.lo = x1 at CK CT CV ⊢
  generalize Value.int .i64 L.sur.hi = x2 at CK CT CV ⊢
  generalize Value.int .i64 L.shi.lo = x3 at CK CT CV ⊢
  generalize Value.int .i64 L.shi.hi = x4 at CK CT CV ⊢
  have HH := Lib.hid h
  clear h
  have HT0 := Lib.hid (show triE S L V = if (overE S.cen.ps (tonR V)).2 = 0 then if (overE S.tri.ps (tonR V)).2 = 0 then (quoR (prodR V.mass (subR V.along (overE S.cen.ps (tonR V)).1)) (thou (overE S.tri.ps (tonR V)).1), 0) else (⟨0, 0⟩, (overE S.tri.ps (tonR V)).2) else (⟨0, 0⟩, (overE S.cen.ps (tonR V)).2) from rfl)
  obtain ⟨m1, m2, m3⟩ := mass_in HH.out.v
  obtain ⟨g1, g2, g3⟩ := along_in HH.out.v
  have CM : Hid ((overE S.cen.ps (tonR V)).2 = 0 → ∀ W, Calls Tryz.prog 50 #[.agg #[.int .i64 (V.along).lo, .int .i64 (V.along).hi], .agg #[.int .i64 ((overE S.cen.ps (tonR V)).1).lo, .int .i64 ((overE S.cen.ps (tonR V)).1).hi]] W fun e w' => e = .returned (.agg #[.int .i64 ((subR V.along (overE S.cen.ps (tonR V)).1)).lo, .int .i64 ((subR V.along (overE S.cen.ps (tonR V)).1)).hi]) ∧ Below W.heap.size W w') := Lib.hid (fun h0 W => by
    obtain ⟨b1, b2, b3⟩ := overE_bd HH.out.ok.cen _ h0
    exact cond_minus _ _ W ⟨by omega, by omega⟩ ⟨by omega, by omega⟩ ⟨by omega, by omega⟩ ⟨by omega, by omega⟩)
  have CP : Hid ((overE S.cen.ps (tonR V)).2 = 0 → ∀ W, Calls Tryz.prog 143 #[.agg #[.int .i64 (V.mass).lo, .int .i64 (V.mass).hi], .agg #[.int .i64 ((subR V.along (overE S.cen.ps (tonR V)).1)).lo, .int .i64 ((subR V.along (overE S.cen.ps (tonR V)).1)).hi]] W fun e w' => e = .returned (.agg #[.int .i64 ((prodR V.mass (subR V.along (overE S.cen.ps (tonR V)).1))).lo, .int .i64 ((prodR V.mass (subR V.along (overE S.cen.ps (tonR V)).1))).hi]) ∧ Below W.heap.size W w') := Lib.hid (fun h0 W => by
    obtain ⟨b1, b2, b3⟩ := overE_bd HH.out.ok.cen _ h0
    have s1 : -2000000 ≤ (subR V.along (overE S.cen.ps (tonR V)).1).lo ∧ (subR V.along (overE S.cen.ps (tonR V)).1).lo ≤ (subR V.along (overE S.cen.ps (tonR V)).1).hi ∧ (subR V.along (overE S.cen.ps (tonR V)).1).hi ≤ 2000000 := by unfold subR; dsimp only; omega
    generalize subR V.along (overE S.cen.ps (tonR V)).1 = sb at *
    have k1 := mul_bdR (x := V.mass.lo) (y := sb.lo) (A := 41000000000) (B := 2000000) (by omega) (by omega) (by omega) (by omega)
    have k2 := mul_bdR (x := V.mass.lo) (y := sb.hi) (A := 41000000000) (B := 2000000) (by omega) (by omega) (by omega) (by omega)
    have k3 := mul_bdR (x := V.mass.hi) (y := sb.lo) (A := 41000000000) (B := 2000000) (by omega) (by omega) (by omega) (by omega)
    have k4 := mul_bdR (x := V.mass.hi) (y := sb.hi) (A := 41000000000) (B := 2000000) (by omega) (by omega) (by omega) (by omega)
    exact cond_product _ _ W (by omega) (by omega) (by omega) (by omega))
  have CQ : Hid ((overE S.cen.ps (tonR V)).2 = 0 → (overE S.tri.ps (tonR V)).2 = 0 → (∀ W, Calls Tryz.prog 116 #[.agg #[.int .i64 ((prodR V.mass (subR V.along (overE S.cen.ps (tonR V)).1))).lo, .int .i64 ((prodR V.mass (subR V.along (overE S.cen.ps (tonR V)).1))).hi], .agg #[.int .i64 (1000 * (overE S.tri.ps (tonR V)).1.lo), .int .i64 (1000 * (overE S.tri.ps (tonR V)).1.hi)]] W fun e w' => e = .returned (.agg #[.int .i64 ((quoR (prodR V.mass (subR V.along (overE S.cen.ps (tonR V)).1)) (thou (overE S.tri.ps (tonR V)).1))).lo, .int .i64 ((quoR (prodR V.mass (subR V.along (overE S.cen.ps (tonR V)).1)) (thou (overE S.tri.ps (tonR V)).1))).hi]) ∧ Below W.heap.size W w') ∧ 1 ≤ (overE S.tri.ps (tonR V)).1.lo ∧ (overE S.tri.ps (tonR V)).1.lo ≤ (overE S.tri.ps (tonR V)).1.hi ∧ (overE S.tri.ps (tonR V)).1.hi ≤ 1000000000) := Lib.hid (fun h0 h1 => by
    obtain ⟨b1, b2, b3⟩ := overE_bd HH.out.ok.cen _ h0
    obtain ⟨c1, c2, c3⟩ := overE_bd HH.out.ok.tri _ h1
    have s1 : -2000000 ≤ (subR V.along (overE S.cen.ps (tonR V)).1).lo ∧ (subR V.along (overE S.cen.ps (tonR V)).1).lo ≤ (subR V.along (overE S.cen.ps (tonR V)).1).hi ∧ (subR V.along (overE S.cen.ps (tonR V)).1).hi ≤ 2000000 := by unfold subR; dsimp only; omega
    have p1 := prodR_bd (a := V.mass) (b := subR V.along (overE S.cen.ps (tonR V)).1) (A := 41000000000) (B := 2000000) (by omega) m2 m3 s1.1 s1.2.1 s1.2.2
    have p2 := prodR_le V.mass (subR V.along (overE S.cen.ps (tonR V)).1)
    exact ⟨fun W => cond_quotient _ (thou (overE S.tri.ps (tonR V)).1) W (by unfold MidR; omega) (by unfold thou; dsimp only; omega), c1, c2, c3⟩)
  clear m1 m2 m3 g1 g2 g3 HH
  generalize hc : overE S.cen.ps (tonR V) = C at *
  generalize ht : overE S.tri.ps (tonR V) = T at *
  clear hc ht
  obtain ⟨⟨cl, ch⟩, cr⟩ := C
  obtain ⟨⟨tl, th⟩, tr⟩ := T
  dsimp only at CC CI HT0 CM CP CQ
  generalize tonR V = r at *
  obtain ⟨⟨ml, mh⟩, ⟨al, ah⟩, ⟨hl, hh⟩⟩ := V
  obtain ⟨rl, rh⟩ := r
  dsimp only at CV CT CC CI HT0 CM CP CQ
  by_cases h0 : cr = 0
  · subst h0
    by_cases h1 : tr = 0
    · subst h1
      rw [HT0.out, if_pos rfl, if_pos rfl]
      clear HT0
      obtain ⟨CQ2, t1, t2, t3⟩ := CQ.out rfl rfl
      have CM2 := Lib.hid (CM.out rfl)
      have CP2 := Lib.hid (CP.out rfl)
      have CQ3 := Lib.hid CQ2
      clear CM CP CQ CQ2
      generalize subR ⟨al, ah⟩ ⟨cl, ch⟩ = sb at *
      generalize prodR ⟨ml, mh⟩ sb = pr at *
      generalize quoR pr (thou ⟨tl, th⟩) = qo at *
      go_enter Tryz.func102, Tryz.ntmps102
      go_wp2_with ((go_at_call 111; (with_reducible refine (CK.out _ (by (with_reducible repeat (first | exact blr _ | refine bla ?_ _ | refine blw _ ?_ | refine bld ?_ | refine bln _ ?_ | refine bls ?_ _ | refine blt ?_)))).mono ?_); rintro e w_ ⟨rfl, hb_⟩; obtain ⟨y1, rfl⟩ := Soft.BW.mk hb_; clear hb_))
      (refine Soft.region2 [0, 1, 2, 3, 4, 5] 6 7 [8, 9] _ _ (by kernel_rfl) (by kernel_rfl) (by kernel_rfl) rfl rfl rfl rfl (by kernel_rfl) ?_; change Soft.wpSoft _ _ _ _ _ [_, _, _, _, _, _] _; (repeat (refine Soft.soft_step (fun K hK => ?_); go_simp; (try go_bits); first | (refine hK _ ?_; clear hK K) | (apply Exists.intro; refine ⟨fun x => ?_, hK _ ?_⟩; (first | (go_at_call 117; with_reducible exact (CV.out _ (by (with_reducible repeat (first | exact blr _ | refine bla ?_ _ | refine blw _ ?_ | refine bld ?_ | refine bln _ ?_ | refine bls ?_ _ | refine blt ?_))))) | (go_at_call 108; with_reducible exact (CT.out _ (by (with_reducible repeat (first | exact blr _ | refine bla ?_ _ | refine blw _ ?_ | refine bld ?_ | refine bln _ ?_ | refine bls ?_ _ | refine blt ?_)))))); clear hK K))); refine Soft.soft_nil ?_)
      refine ⟨fun b => .pointer (some ⟨b, 0, none⟩), .cells #[.int .i64 0, .int .i64 0, .int .i64 0, .int .i64 0, .int .i64 0, .int .i64 0] 29, fun b => .pointer (some ⟨b, 0, none⟩), .cells #[.int .i64 0, .int .i64 0] 27, fun x => by go_simp, fun k x => by go_simp, fun ka kb xx hne na nb => ?_⟩
      change wpList _ _ _ [_, _] _ _
      refine wpList_store_row rfl 29 _ _ rfl ka _ rfl rfl 29 _ na.at_ (by kernel_rfl) rfl (by kernel_rfl) ?_
      refine wpList_store_row rfl 27 _ _ rfl kb _ rfl rfl 27 _ (HasBlk.rowx nb.at_ (Ne.symm hne) _) (by kernel_rfl) rfl (by kernel_rfl) ?_
      obtain ⟨z, ez, b1, b2⟩ := two_new (c1 := #[.int .i64 ml, .int .i64 mh, .int .i64 al, .int .i64 ah, .int .i64 hl, .int .i64 hh]) (c2 := #[.int .i64 rl, .int .i64 rh]) hne na nb
      rw [ez]
      clear ez na nb hne
      have q0 := b1.cell 0
      have q1 := b1.cell 1
      have q2 := b1.cell 2
      have q3 := b1.cell 3
      have q4 := b2.cell 0
      have q5 := b2.cell 1
      simp at q0 q1 q2 q3 q4 q5
      have l0 := Soft.LtH.mk (b := ka) (w := z.w) b1.lt
      have l1 := Soft.LtH.mk (b := kb) (w := z.w) b2.lt
      clear b1 b2
      go_wp2_with (first | (go_at_call 107; (with_reducible refine (CC.out _ (by (with_reducible repeat (first | exact blr _ | refine bla ?_ _ | refine blw _ ?_ | refine bld ?_ | refine bln _ ?_ | refine bls ?_ _ | refine blt ?_)))).mono ?_); rintro e w_ ⟨rfl, hb_⟩; obtain ⟨y2, rfl⟩ := Soft.BW.mk hb_; clear hb_) | (go_at_call 107; (with_reducible refine (CI.out _ (by (with_reducible repeat (first | exact blr _ | refine bla ?_ _ | refine blw _ ?_ | refine bld ?_ | refine bln _ ?_ | refine bls ?_ _ | refine blt ?_)))).mono ?_); rintro e w_ ⟨rfl, hb_⟩; obtain ⟨y3, rfl⟩ := Soft.BW.mk hb_; clear hb_))
      ((refine Soft.region_mix [(true, 0), (true, 1), (true, 2), (true, 3), (true, 4), (true, 7), (true, 8), (true, 9), (true, 10), (true, 11), (true, 12), (true, 13), (false, 5), (false, 6), (false, 14)] [15, 16] (by kernel_rfl) (by kernel_rfl) (by kernel_rfl) (by kernel_rfl) ?_; change Soft.wpMix _ _ _ _ [(true, _), (true, _), (true, _), (true, _), (true, _), (true, _), (true, _), (true, _), (true, _), (true, _), (true, _), (true, _), (false, _), (false, _), (false, _)] _ _); (refine Soft.mix_q (fun K hK => ?_); go_simp; (try go_bits); first | (refine hK _ ?_; clear hK K) | (apply Exists.intro; refine ⟨fun x => ?_, hK _ ?_⟩; fail)); (refine Soft.mix_q (fun K hK => ?_); go_simp; (try go_bits); first | (refine hK _ ?_; clear hK K) | (apply Exists.intro; refine ⟨fun x => ?_, hK _ ?_⟩; fail)); (refine Soft.mix_q (fun K hK => ?_); go_simp; (try go_bits); first | (refine hK _ ?_; clear hK K) | (apply Exists.intro; refine ⟨fun x => ?_, hK _ ?_⟩; fail)); (refine Soft.mix_q (fun K hK => ?_); go_simp; (try go_bits); first | (refine hK _ ?_; clear hK K) | (apply Exists.intro; refine ⟨fun x => ?_, hK _ ?_⟩; fail)); (refine Soft.mix_q (fun K hK => ?_); go_simp; (try go_bits); first | (refine hK _ ?_; clear hK K) | (apply Exists.intro; refine ⟨fun x => ?_, hK _ ?_⟩; fail)); (refine Soft.mix_q (fun K hK => ?_); go_simp; (try go_bits); first | (refine hK _ ?_; clear hK K) | (apply Exists.intro; refine ⟨fun x => ?_, hK _ ?_⟩; fail)); (refine Soft.mix_q (fun K hK => ?_); go_simp; (try go_bits); first | (refine hK _ ?_; clear hK K) | (apply Exists.intro; refine ⟨fun x => ?_, hK _ ?_⟩; fail)); (refine Soft.mix_q (fun K hK => ?_); go_simp; (try go_bits); first | (refine hK _ ?_; clear hK K) | (apply Exists.intro; refine ⟨fun x => ?_, hK _ ?_⟩; fail)); (refine Soft.mix_q (fun K hK => ?_); go_simp; (try go_bits); first | (refine hK _ ?_; clear hK K) | (apply Exists.intro; refine ⟨fun x => ?_, hK _ ?_⟩; fail)); (refine Soft.mix_q (fun K hK => ?_); go_simp; (try go_bits); first | (refine hK _ ?_; clear hK K) | (apply Exists.intro; refine ⟨fun x => ?_, hK _ ?_⟩; fail)); (refine Soft.mix_q (fun K hK => ?_); go_simp; (try go_bits); first | (refine hK _ ?_; clear hK K) | (apply Exists.intro; refine ⟨fun x => ?_, hK _ ?_⟩; fail)); (refine Soft.mix_q (fun K hK => ?_); go_simp; (try go_bits); first | (refine hK _ ?_; clear hK K) | (apply Exists.intro; refine ⟨fun x => ?_, hK _ ?_⟩; fail)); (refine Soft.mix_c (fun K hK => ?_); go_simp; (try go_bits); ((go_at_call 50; (with_reducible refine (CM2.out _).mono ?_); rintro e w_ ⟨rfl, hb_⟩; obtain ⟨y4, rfl⟩ := Soft.BW.mk hb_; clear hb_; refine ⟨_, rfl, (by first | with_reducible exact Soft.BW.below y4 | simpa using Soft.BW.below y4), hK _ _ ?_⟩)); clear hK K); (refine Soft.mix_c (fun K hK => ?_); go_simp; (try go_bits); ((go_at_call 143; (with_reducible refine (CP2.out _).mono ?_); rintro e w_ ⟨rfl, hb_⟩; obtain ⟨y5, rfl⟩ := Soft.BW.mk hb_; clear hb_; refine ⟨_, rfl, (by first | with_reducible exact Soft.BW.below y5 | simpa using Soft.BW.below y5), hK _ _ ?_⟩)); clear hK K); (refine Soft.mix_c (fun K hK => ?_); go_simp; (try go_bits); ((go_at_call 116; (with_reducible refine (CQ3.out _).mono ?_); rintro e w_ ⟨rfl, hb_⟩; obtain ⟨y6, rfl⟩ := Soft.BW.mk hb_; clear hb_; refine ⟨_, rfl, (by first | with_reducible exact Soft.BW.below y6 | simpa using Soft.BW.below y6), hK _ _ ?_⟩)); clear hK K); (refine Soft.mix_nil ?_; intro hbx; change wpList _ _ _ [_, _] _ _))
      go_wp2_with fail
      refine bodyPost_ret (v := .tuple #[.agg #[.int .i64 (qo).lo, .int .i64 (qo).hi], .int .i64 0]) (by simp [results, Tryz.results102, go_sem]) rfl ?_
      refine ⟨rfl, ?_⟩
      (with_reducible repeat (first | exact blr _ | refine bla ?_ _ | refine blw _ ?_ | refine bld ?_ | refine bln _ ?_ | refine bls ?_ _ | refine blt ?_))
    · rw [HT0.out, if_pos rfl, if_neg h1]
      have dT : (tr != 0) = true := bne_iff_ne.2 h1
      clear CM CP CQ h1 HT0
      go_enter Tryz.func102, Tryz.ntmps102
      go_wp2_with ((go_at_call 111; (with_reducible refine (CK.out _ (by (with_reducible repeat (first | exact blr _ | refine bla ?_ _ | refine blw _ ?_ | refine bld ?_ | refine bln _ ?_ | refine bls ?_ _ | refine blt ?_)))).mono ?_); rintro e w_ ⟨rfl, hb_⟩; obtain ⟨y1, rfl⟩ := Soft.BW.mk hb_; clear hb_))
      (refine Soft.region2 [0, 1, 2, 3, 4, 5] 6 7 [8, 9] _ _ (by kernel_rfl) (by kernel_rfl) (by kernel_rfl) rfl rfl rfl rfl (by kernel_rfl) ?_; change Soft.wpSoft _ _ _ _ _ [_, _, _, _, _, _] _; (repeat (refine Soft.soft_step (fun K hK => ?_); go_simp; (try go_bits); first | (refine hK _ ?_; clear hK K) | (apply Exists.intro; refine ⟨fun x => ?_, hK _ ?_⟩; (first | (go_at_call 117; with_reducible exact (CV.out _ (by (with_reducible repeat (first | exact blr _ | refine bla ?_ _ | refine blw _ ?_ | refine bld ?_ | refine bln _ ?_ | refine bls ?_ _ | refine blt ?_))))) | (go_at_call 108; with_reducible exact (CT.out _ (by (with_reducible repeat (first | exact blr _ | refine bla ?_ _ | refine blw _ ?_ | refine bld ?_ | refine bln _ ?_ | refine bls ?_ _ | refine blt ?_)))))); clear hK K))); refine Soft.soft_nil ?_)
      refine ⟨fun b => .pointer (some ⟨b, 0, none⟩), .cells #[.int .i64 0, .int .i64 0, .int .i64 0, .int .i64 0, .int .i64 0, .int .i64 0] 29, fun b => .pointer (some ⟨b, 0, none⟩), .cells #[.int .i64 0, .int .i64 0] 27, fun x => by go_simp, fun k x => by go_simp, fun ka kb xx hne na nb => ?_⟩
      change wpList _ _ _ [_, _] _ _
      refine wpList_store_row rfl 29 _ _ rfl ka _ rfl rfl 29 _ na.at_ (by kernel_rfl) rfl (by kernel_rfl) ?_
      refine wpList_store_row rfl 27 _ _ rfl kb _ rfl rfl 27 _ (HasBlk.rowx nb.at_ (Ne.symm hne) _) (by kernel_rfl) rfl (by kernel_rfl) ?_
      obtain ⟨z, ez, b1, b2⟩ := two_new (c1 := #[.int .i64 ml, .int .i64 mh, .int .i64 al, .int .i64 ah, .int .i64 hl, .int .i64 hh]) (c2 := #[.int .i64 rl, .int .i64 rh]) hne na nb
      rw [ez]
      clear ez na nb hne
      have q0 := b1.cell 0
      have q1 := b1.cell 1
      have q2 := b1.cell 2
      have q3 := b1.cell 3
      have q4 := b2.cell 0
      have q5 := b2.cell 1
      simp at q0 q1 q2 q3 q4 q5
      have l0 := Soft.LtH.mk (b := ka) (w := z.w) b1.lt
      have l1 := Soft.LtH.mk (b := kb) (w := z.w) b2.lt
      clear b1 b2
      go_wp2_with (first | (go_at_call 107; (with_reducible refine (CC.out _ (by (with_reducible repeat (first | exact blr _ | refine bla ?_ _ | refine blw _ ?_ | refine bld ?_ | refine bln _ ?_ | refine bls ?_ _ | refine blt ?_)))).mono ?_); rintro e w_ ⟨rfl, hb_⟩; obtain ⟨y2, rfl⟩ := Soft.BW.mk hb_; clear hb_) | (go_at_call 107; (with_reducible refine (CI.out _ (by (with_reducible repeat (first | exact blr _ | refine bla ?_ _ | refine blw _ ?_ | refine bld ?_ | refine bln _ ?_ | refine bls ?_ _ | refine blt ?_)))).mono ?_); rintro e w_ ⟨rfl, hb_⟩; obtain ⟨y3, rfl⟩ := Soft.BW.mk hb_; clear hb_))
      refine bodyPost_ret (v := .tuple #[.agg #[.int .i64 0, .int .i64 0], .int .i64 tr]) (by simp [results, Tryz.results102, go_sem]) rfl ?_
      refine ⟨rfl, ?_⟩
      (with_reducible repeat (first | exact blr _ | refine bla ?_ _ | refine blw _ ?_ | refine bld ?_ | refine bln _ ?_ | refine bls ?_ _ | refine blt ?_))
  · rw [HT0.out, if_neg h0]
    have dC : (cr != 0) = true := bne_iff_ne.2 h0
    clear CM CP CQ h0 HT0
    go_enter Tryz.func102, Tryz.ntmps102
    go_wp2_with ((go_at_call 111; (with_reducible refine (CK.out _ (by (with_reducible repeat (first | exact blr _ | refine bla ?_ _ | refine blw _ ?_ | refine bld ?_ | refine bln _ ?_ | refine bls ?_ _ | refine blt ?_)))).mono ?_); rintro e w_ ⟨rfl, hb_⟩; obtain ⟨y1, rfl⟩ := Soft.BW.mk hb_; clear hb_))
    (refine Soft.region2 [0, 1, 2, 3, 4, 5] 6 7 [8, 9] _ _ (by kernel_rfl) (by kernel_rfl) (by kernel_rfl) rfl rfl rfl rfl (by kernel_rfl) ?_; change Soft.wpSoft _ _ _ _ _ [_, _, _, _, _, _] _; (repeat (refine Soft.soft_step (fun K hK => ?_); go_simp; (try go_bits); first | (refine hK _ ?_; clear hK K) | (apply Exists.intro; refine ⟨fun x => ?_, hK _ ?_⟩; (first | (go_at_call 117; with_reducible exact (CV.out _ (by (with_reducible repeat (first | exact blr _ | refine bla ?_ _ | refine blw _ ?_ | refine bld ?_ | refine bln _ ?_ | refine bls ?_ _ | refine blt ?_))))) | (go_at_call 108; with_reducible exact (CT.out _ (by (with_reducible repeat (first | exact blr _ | refine bla ?_ _ | refine blw _ ?_ | refine bld ?_ | refine bln _ ?_ | refine bls ?_ _ | refine blt ?_)))))); clear hK K))); refine Soft.soft_nil ?_)
    refine ⟨fun b => .pointer (some ⟨b, 0, none⟩), .cells #[.int .i64 0, .int .i64 0, .int .i64 0, .int .i64 0, .int .i64 0, .int .i64 0] 29, fun b => .pointer (some ⟨b, 0, none⟩), .cells #[.int .i64 0, .int .i64 0] 27, fun x => by go_simp, fun k x => by go_simp, fun ka kb xx hne na nb => ?_⟩
    change wpList _ _ _ [_, _] _ _
    refine wpList_store_row rfl 29 _ _ rfl ka _ rfl rfl 29 _ na.at_ (by kernel_rfl) rfl (by kernel_rfl) ?_
    refine wpList_store_row rfl 27 _ _ rfl kb _ rfl rfl 27 _ (HasBlk.rowx nb.at_ (Ne.symm hne) _) (by kernel_rfl) rfl (by kernel_rfl) ?_
    obtain ⟨z, ez, b1, b2⟩ := two_new (c1 := #[.int .i64 ml, .int .i64 mh, .int .i64 al, .int .i64 ah, .int .i64 hl, .int .i64 hh]) (c2 := #[.int .i64 rl, .int .i64 rh]) hne na nb
    rw [ez]
    clear ez na nb hne
    have q0 := b1.cell 0
    have q1 := b1.cell 1
    have q2 := b1.cell 2
    have q3 := b1.cell 3
    have q4 := b2.cell 0
    have q5 := b2.cell 1
    simp at q0 q1 q2 q3 q4 q5
    have l0 := Soft.LtH.mk (b := ka) (w := z.w) b1.lt
    have l1 := Soft.LtH.mk (b := kb) (w := z.w) b2.lt
    clear b1 b2
    go_wp2_with (first | (go_at_call 107; (with_reducible refine (CC.out _ (by (with_reducible repeat (first | exact blr _ | refine bla ?_ _ | refine blw _ ?_ | refine bld ?_ | refine bln _ ?_ | refine bls ?_ _ | refine blt ?_)))).mono ?_); rintro e w_ ⟨rfl, hb_⟩; obtain ⟨y2, rfl⟩ := Soft.BW.mk hb_; clear hb_))
    refine bodyPost_ret (v := .tuple #[.agg #[.int .i64 0, .int .i64 0], .int .i64 cr]) (by simp [results, Tryz.results102, go_sem]) rfl ?_
    refine ⟨rfl, ?_⟩
    (with_reducible repeat (first | exact blr _ | refine bla ?_ _ | refine blw _ ?_ | refine bld ?_ | refine bln _ ?_ | refine bls ?_ _ | refine blt ?_))

end Go.Proofs.YteagdcgmmdiakaaGreat

namespace Go.Proofs.YteagdcgmmdiakaaGreat
set_option linter.unusedSimpArgs false
set_option linter.unusedVariables false
open Go.RowKit
set_option maxRecDepth 100000
set_option maxHeartbeats 8000000
attribute [local go_sem] Instr.field asAgg Soft.upon Soft.upon0 Soft.stepC Soft.BW.cell_if Soft.BW.frozen_if Soft.cell_alloc_if Soft.frozen_alloc_if
attribute [local irreducible] Soft.wpSoft Soft.wpMix

/-- A store into a block that holds a slice turns no table. -/
theorem Tb.At.put {w : World} {q : Tb} {B : Nat} {p : Option Addr} {n c : Nat} {t : TypeId} (h : q.At w) (hB : HasBlk w B #[.slice p n c] t) (v : Value) : q.At (w.setCell ⟨B, 0, none⟩ v) := by
  by_cases hn : q.n = 0
  · obtain ⟨h1, h2, h3, h4, _⟩ := h
    exact ⟨h1, h2, h3, h4, fun k => absurd hn k⟩
  · obtain ⟨b, o, e, hb, hc⟩ := h.2.2.2.2 hn
    refine h.setCell (fun b' o' e' => ?_) v
    rw [e] at e'
    cases e'
    dsimp only
    intro k
    subst k
    have x := (hc 0 (by omega)).1
    have y := hB.cell (o + 0 * 3)
    rw [x] at y
    match o with
    | 0 => cases y
    | n + 1 => simp at y

/-- The righting arms; the heeling arms. -/
noncomputable def rgtE (S : Sh) (L : La) (V : Wt) : List Pt × Int := drawnE (statS S) (rgtF S (tonR V) (raiR V L))
noncomputable def hlaE (S : Sh) (L : La) (V : Wt) : List Pt × Int := drawnE (statS S) (heelF S.shi.ps (quoR L.shi V.mass))

theorem raiR_in {S : Sh} {L : La} {V : Wt} (hi : LoadIn L) (hv : TotIs (allW S L) V) : 0 ≤ (raiR V L).lo ∧ (raiR V L).lo ≤ (raiR V L).hi ∧ (raiR V L).hi ≤ 1100000000000 := by
  obtain ⟨m1, m2, m3⟩ := mass_in hv
  obtain ⟨g1, g2, g3⟩ := high_in hv
  obtain ⟨s1, s2, s3⟩ := hi.sur
  obtain ⟨q1, q2⟩ := quoR_bd (a := L.sur) (b := V.mass) (K := 1000000000000) (by decide) (by omega) s2 s3 m1 (by omega)
  have q3 := quoR_le (b := V.mass) s2 m1
  have q4 := quoR_nn (a := L.sur) s1 m1 (show 1 ≤ V.mass.hi by omega)
  unfold raiR addR
  dsimp only
  omega
theorem arm_in {S : Sh} {L : La} {V : Wt} (hi : LoadIn L) (hv : TotIs (allW S L) V) : 0 ≤ (quoR L.shi V.mass).lo ∧ (quoR L.shi V.mass).lo ≤ (quoR L.shi V.mass).hi ∧ (quoR L.shi V.mass).hi ≤ 1000000000000 := by
  obtain ⟨m1, m2, m3⟩ := mass_in hv
  obtain ⟨s1, s2, s3⟩ := hi.shi
  obtain ⟨q1, q2⟩ := quoR_bd (a := L.shi) (b := V.mass) (K := 1000000000000) (by decide) (by omega) s2 s3 m1 (by omega)
  have q3 := quoR_le (b := V.mass) s2 m1
  have q4 := quoR_nn (a := L.shi) s1 m1 (show 1 ≤ V.mass.hi by omega)
  exact ⟨q4, q3, q2⟩

theorem cond_Righting (S : Sh) (L : La) (V : Wt) (w : World) (h : Afl S L V w) :
    Calls Tryz.prog 45 #[.agg #[.int .i64 (S).len, .slice ((S).dra).p ((S).dra).n ((S).dra).c, .slice ((S).hei).p ((S).hei).n ((S).hei).c, .slice ((S).cen).p ((S).cen).n ((S).cen).c, .slice ((S).tri).p ((S).tri).n ((S).tri).c, .slice ((S).flo).p ((S).flo).n ((S).flo).c, .slice ((S).cross).p ((S).cross).n ((S).cross).c, .slice ((S).sin).p ((S).sin).n ((S).sin).c, .slice ((S).shi).p ((S).shi).n ((S).shi).c, .int .i64 (((S).light).mass).lo, .int .i64 (((S).light).mass).hi, .int .i64 (((S).light).along).lo, .int .i64 (((S).light).along).hi, .int .i64 (((S).light).high).lo, .int .i64 (((S).light).high).hi], .agg #[.slice ((L).ws).p ((L).ws).n ((L).ws).c, .int .i64 ((L).sur).lo, .int .i64 ((L).sur).hi, .int .i64 ((L).shi).lo, .int .i64 ((L).shi).hi]] w (DrawPost (rgtE S L V) w) := by
  have CK := Lib.hid (fun W (hb : Below w.heap.size w W) => afl_check (h.same hb))
  have CT := Lib.hid (fun W (hb : Below w.heap.size w W) => cond_tonnes S L V W (h.l.same hb) h.li h.v)
  have CR := Lib.hid (fun W (hb : Below w.heap.size w W) => cond_raised S L V W (h.l.same hb) h.li h.v)
  have CS := Lib.hid (fun W (hb : Below w.heap.size w W) => cond_stations S W (h.s.same hb) h.ok)
  obtain ⟨g1, g2, g3⟩ := raiR_in h.li h.v
  have h12 : S.cross.n ≤ 12 := by rw [← h.s.cross.1]; exact h.ok.n.2
  have HF := Lib.hid (fun (W : World) (x : Int) (bs bt bh : Nat) (hb : Below w.heap.size w W) => cond_Righting1 S (tonR V) (raiR V L) x bs bt bh W (h.s.same hb) h.ok.sin h12 g1 g2 g3)
  have HD := Lib.hid (show rgtE S L V = drawnE (statS S) (rgtF S (tonR V) (raiR V L)) from rfl)
  have hcf : ∀ args W, Sem.run Tryz.prog (callFunc 113 args) W = .ok (.enter 113 args) W := cf_enter Tryz.func113 (by kernel_rfl) rfl
  have HCF := Lib.hid hcf
  obtain ⟨v0, v1, v2, v3, v4, v5, v6, v7, v8, v9, v10, v11, v12, v13, v14, HS0, E1, E2, E3, E4, E5, E6, E7, E8, E9⟩ := ship_letters S
  obtain ⟨x0, x1, x2, x3, x4, HL0, F0, F1, F2⟩ := load_letters L
  rw [HS0.out, HL0.out] at CK CT CR ⊢
  rw [HS0.out] at CS
  rw [E6.out, E7.out] at HF
  clear h g1 g2 g3 h12 hcf
  generalize rgtE S L V = D at *
  generalize rgtF S (tonR V) (raiR V L) = F at *
  generalize tonR V = tn at *
  generalize raiR V L = hg at *
  obtain ⟨tl, th⟩ := tn
  obtain ⟨hl, hh⟩ := hg
  dsimp only at HF CT CR
  go_enter Tryz.func45, Tryz.ntmps45
  go_wp2_with ((go_at_call 111; (with_reducible refine (CK.out _ (by (with_reducible repeat (first | exact blr _ | refine bla ?_ _ | refine blw _ ?_ | refine bld ?_ | refine bln _ ?_ | refine bls ?_ _ | refine blt ?_)))).mono ?_); rintro e w_ ⟨rfl, hb_⟩; obtain ⟨y1, rfl⟩ := Soft.BW.mk hb_; clear hb_))
  (refine Soft.region2 [0, 1, 2, 3, 4, 5] 6 7 [8, 9] _ _ (by kernel_rfl) (by kernel_rfl) (by kernel_rfl) rfl rfl rfl rfl (by kernel_rfl) ?_; change Soft.wpSoft _ _ _ _ _ [_, _, _, _, _, _] _; (repeat (refine Soft.soft_step (fun K hK => ?_); go_simp; (try go_bits); first | (refine hK _ ?_; clear hK K) | (apply Exists.intro; refine ⟨fun x => ?_, hK _ ?_⟩; (first | (go_at_call 108; with_reducible exact (CT.out _ (by (with_reducible repeat (first | exact blr _ | refine bla ?_ _ | refine blw _ ?_ | refine bld ?_ | refine bln _ ?_ | refine bls ?_ _ | refine blt ?_))))) | (go_at_call 112; with_reducible exact (CR.out _ (by (with_reducible repeat (first | exact blr _ | refine bla ?_ _ | refine blw _ ?_ | refine bld ?_ | refine bln _ ?_ | refine bls ?_ _ | refine blt ?_)))))); clear hK K))); refine Soft.soft_nil ?_)
  refine ⟨fun b => .pointer (some ⟨b, 0, none⟩), .cells #[.int .i64 0, .int .i64 0] 27, fun b => .pointer (some ⟨b, 0, none⟩), .cells #[.int .i64 0, .int .i64 0] 27, fun x => by go_simp, fun k x => by go_simp, fun ka kb xx hne na nb => ?_⟩
  change wpList _ _ _ [_, _] _ _
  refine wpList_store_row rfl 27 _ _ rfl ka _ rfl rfl 27 _ na.at_ (by kernel_rfl) rfl (by kernel_rfl) ?_
  refine wpList_store_row rfl 27 _ _ rfl kb _ rfl rfl 27 _ (HasBlk.rowx nb.at_ (Ne.symm hne) _) (by kernel_rfl) rfl (by kernel_rfl) ?_
  obtain ⟨z, ez, b1, b2⟩ := two_new (c1 := #[.int .i64 tl, .int .i64 th]) (c2 := #[.int .i64 hl, .int .i64 hh]) hne na nb
  rw [ez]
  clear ez na nb hne
  have bs0 : HasBlk z.w w.heap.size #[v0, v1, v2, v3, v4, v5, v6, v7, v8, v9, v10, v11, v12, v13, v14] 31 := (by simp only [HasBlk, Soft.BW.heap_if, Soft.heap_alloc_if, Soft.heap_new, Soft.heap_new1, Soft.heap_new2, Soft.heap_new3, Soft.heap_new4, Soft.heap_new5])
  have HB1 := Lib.hid b1
  have HB2 := Lib.hid b2
  have HB0 := Lib.hid bs0
  clear b1 b2 bs0
  go_wp2_with (go_at_call 48; refine (CS.out _ (by (with_reducible repeat (first | exact blr _ | refine bla ?_ _ | refine blw _ ?_ | refine bld ?_ | refine bln _ ?_ | refine bls ?_ _ | refine blt ?_)))).mono ?_; rintro e w_ ⟨s, rfl, hs, hsx, hb_⟩; obtain ⟨y2, rfl⟩ := Soft.BW.mk hb_; clear hb_; have HSX := Lib.hid hsx; have HSA := Lib.hid hs; clear hs hsx)
  have hzy : Below z.w.heap.size z.w y2.w := by (with_reducible repeat (first | exact blr _ | refine bla ?_ _ | refine blw _ ?_ | refine bld ?_ | refine bln _ ?_ | refine bls ?_ _ | refine blt ?_))
  have hwy : Below w.heap.size w y2.w := by (with_reducible repeat (first | exact blr _ | refine bla ?_ _ | refine blw _ ?_ | refine bld ?_ | refine bln _ ?_ | refine bls ?_ _ | refine blt ?_))
  have hbr : HasBlk y2.w (w.heap.size + 1 + 1) #[.slice none 0 0] 24 := (by simp only [HasBlk, Soft.BW.heap_if, Soft.heap_alloc_if, Soft.heap_new, Soft.heap_new1, Soft.heap_new2, Soft.heap_new3, Soft.heap_new4, Soft.heap_new5])
  have CD := cond_drawn3 113 (.pointer (some ⟨w.heap.size, 0, none⟩)) (.pointer (some ⟨ka, 0, none⟩)) (.pointer (some ⟨kb, 0, none⟩)) HCF.out s F y2.w HSA.out (fun W hW i hi => HF.out W (iv s.xs i) w.heap.size ka kb (bel_step hwy hW) (((HB0.out.below hzy).below hW).cell 6) (((HB0.out.below hzy).below hW).cell 7) (((HB1.out.below hzy).below hW).cell 0) (((HB1.out.below hzy).below hW).cell 1) (((HB2.out.below hzy).below hW).cell 0) (((HB2.out.below hzy).below hW).cell 1))
  rw [HSX.out, ← HD.out] at CD
  refine CD.mono ?_
  rintro e w5 ⟨q, rfl, hq, hqp, hb5⟩
  have b5 := HasBlk.below hbr hb5
  have cr := b5.cell 0
  have fr := b5.frozen 0
  simp at cr
  have l5 := Soft.LtH.mk (b := w.heap.size + 1 + 1) (w := w5) b5.lt
  have HFI := Lib.hid (⟨hq.put b5 (.slice q.p q.n q.c), hqp, (bel_step hwy hb5).setCell (p := ⟨w.heap.size + 1 + 1, 0, none⟩) (by dsimp only; omega) (.slice q.p q.n q.c)⟩ : _ ∧ _ ∧ _)
  clear hzy hwy hbr CD hq hqp hb5 b5
  go_wp2_with fail
  refine bodyPost_ret (v := .tuple #[.agg #[.slice q.p q.n q.c], .int .i64 D.2]) (by simp [results, Tryz.results45, go_sem, cr, fr]) rfl ?_
  exact ⟨q, rfl, HFI.out.1, HFI.out.2.1, HFI.out.2.2⟩

theorem cond_Heeling (S : Sh) (L : La) (V : Wt) (w : World) (h : Afl S L V w) :
    Calls Tryz.prog 46 #[.agg #[.int .i64 (S).len, .slice ((S).dra).p ((S).dra).n ((S).dra).c, .slice ((S).hei).p ((S).hei).n ((S).hei).c, .slice ((S).cen).p ((S).cen).n ((S).cen).c, .slice ((S).tri).p ((S).tri).n ((S).tri).c, .slice ((S).flo).p ((S).flo).n ((S).flo).c, .slice ((S).cross).p ((S).cross).n ((S).cross).c, .slice ((S).sin).p ((S).sin).n ((S).sin).c, .slice ((S).shi).p ((S).shi).n ((S).shi).c, .int .i64 (((S).light).mass).lo, .int .i64 (((S).light).mass).hi, .int .i64 (((S).light).along).lo, .int .i64 (((S).light).along).hi, .int .i64 (((S).light).high).lo, .int .i64 (((S).light).high).hi], .agg #[.slice ((L).ws).p ((L).ws).n ((L).ws).c, .int .i64 ((L).sur).lo, .int .i64 ((L).sur).hi, .int .i64 ((L).shi).lo, .int .i64 ((L).shi).hi]] w (DrawPost (hlaE S L V) w) := by
  have CK := Lib.hid (fun W (hb : Below w.heap.size w W) => afl_check (h.same hb))
  have CT := Lib.hid (fun W (hb : Below w.heap.size w W) => cond_total S L V W (h.l.same hb) h.li h.v)
  have CS := Lib.hid (fun W (hb : Below w.heap.size w W) => cond_stations S W (h.s.same hb) h.ok)
  obtain ⟨g1, g2, g3⟩ := arm_in h.li h.v
  obtain ⟨m1, m2, m3⟩ := mass_in h.v
  obtain ⟨s1, s2, s3⟩ := h.li.shi
  have CQ := Lib.hid (fun W => cond_quotient L.shi V.mass W (by unfold MidR; omega) ⟨m1, by omega⟩)
  have HF := Lib.hid (fun (W : World) (x : Int) (bs bt : Nat) (hb : Below w.heap.size w W) => cond_Heeling1 S.shi (quoR L.shi V.mass) x bs bt W (h.s.shi.same hb) h.ok.shi g1 g2 g3)
  have HD := Lib.hid (show hlaE S L V = drawnE (statS S) (heelF S.shi.ps (quoR L.shi V.mass)) from rfl)
  have hcf : ∀ args W, Sem.run Tryz.prog (callFunc 118 args) W = .ok (.enter 118 args) W := cf_enter Tryz.func118 (by kernel_rfl) rfl
  have HCF := Lib.hid hcf
  obtain ⟨v0, v1, v2, v3, v4, v5, v6, v7, v8, v9, v10, v11, v12, v13, v14, HS0, E1, E2, E3, E4, E5, E6, E7, E8, E9⟩ := ship_letters S
  rw [HS0.out] at CK CT CS ⊢
  rw [E8.out] at HF
  generalize Value.slice L.ws.p L.ws.n L.ws.c = x0 at CK CT ⊢
  generalize Value.int .i64 L.sur.lo = x1 at CK CT ⊢
  generalize Value.int .i64 L.sur.hi = x2 at CK CT ⊢
  clear h g1 g2 g3 hcf m1 m2 m3 s1 s2 s3
  generalize hlaE S L V = D at *
  generalize heelF S.shi.ps (quoR L.shi V.mass) = F at *
  generalize quoR L.shi V.mass = qo at *
  generalize L.shi = sh at *
  obtain ⟨ql, qh⟩ := qo
  obtain ⟨⟨ml, mh⟩, ⟨al, ah⟩, ⟨hl, hh⟩⟩ := V
  obtain ⟨sl, sh_⟩ := sh
  dsimp only at HF CT CQ CK
  go_enter Tryz.func46, Tryz.ntmps46
  go_wp2_with ((go_at_call 111; (with_reducible refine (CK.out _ (by (with_reducible repeat (first | exact blr _ | refine bla ?_ _ | refine blw _ ?_ | refine bld ?_ | refine bln _ ?_ | refine bls ?_ _ | refine blt ?_)))).mono ?_); rintro e w_ ⟨rfl, hb_⟩; obtain ⟨y1, rfl⟩ := Soft.BW.mk hb_; clear hb_))
  (refine Soft.region1 [0, 1, 2, 3, 4, 5, 6] 7 [8] _ (by kernel_rfl) (by kernel_rfl) (by kernel_rfl) rfl rfl (by kernel_rfl) ?_; change Soft.wpSoft _ _ _ _ _ [_, _, _, _, _, _, _] _; (repeat (refine Soft.soft_step (fun K hK => ?_); go_simp; (try go_bits); first | (refine hK _ ?_; clear hK K) | (apply Exists.intro; refine ⟨fun x => ?_, hK _ ?_⟩; (first | (go_at_call 117; with_reducible exact (CT.out _ (by (with_reducible repeat (first | exact blr _ | refine bla ?_ _ | refine blw _ ?_ | refine bld ?_ | refine bln _ ?_ | refine bls ?_ _ | refine blt ?_))))) | (go_at_call 116; with_reducible exact (CQ.out _))); clear hK K))); refine Soft.soft_nil ?_)
  refine ⟨fun b => .pointer (some ⟨b, 0, none⟩), .cells #[.int .i64 0, .int .i64 0] 27, fun x => by go_simp, fun kb xx hnew => ?_⟩
  change wpList _ _ _ [_] _ _
  obtain ⟨N, z1, rfl, ex⟩ := newSplit hnew
  rw [ex]
  clear hnew ex xx
  refine wpList_store_row rfl 27 _ _ rfl N.w.heap.size _ rfl rfl 27 _ (HasBlk.below (Soft.heap_new N.w _) z1.below) (by kernel_rfl) rfl (by kernel_rfl) ?_
  obtain ⟨z, ex2, ex3⟩ := bwStore z1 #[.int .i64 ql, .int .i64 qh]
  rw [ex2]
  clear ex2 ex3 z1
  have b1 : HasBlk z.w N.w.heap.size #[.int .i64 ql, .int .i64 qh] 27 := HasBlk.below (Soft.heap_new N.w _) z.below
  have bs0 : HasBlk z.w w.heap.size #[v0, v1, v2, v3, v4, v5, v6, v7, v8, v9, v10, v11, v12, v13, v14] 31 := (by simp only [HasBlk, Soft.BW.heap_if, Soft.heap_alloc_if, Soft.heap_new, Soft.heap_new1, Soft.heap_new2, Soft.heap_new3, Soft.heap_new4, Soft.heap_new5])
  have HB1 := Lib.hid b1
  have HB0 := Lib.hid bs0
  clear b1 bs0
  go_wp2_with (go_at_call 48; refine (CS.out _ (by (with_reducible repeat (first | exact blr _ | refine bla ?_ _ | refine blw _ ?_ | refine bld ?_ | refine bln _ ?_ | refine bls ?_ _ | refine blt ?_)))).mono ?_; rintro e w_ ⟨s, rfl, hs, hsx, hb_⟩; obtain ⟨y2, rfl⟩ := Soft.BW.mk hb_; clear hb_; have HSX := Lib.hid hsx; have HSA := Lib.hid hs; clear hs hsx)
  have hzy : Below z.w.heap.size z.w y2.w := by (with_reducible repeat (first | exact blr _ | refine bla ?_ _ | refine blw _ ?_ | refine bld ?_ | refine bln _ ?_ | refine bls ?_ _ | refine blt ?_))
  have hwy : Below w.heap.size w y2.w := by (with_reducible repeat (first | exact blr _ | refine bla ?_ _ | refine blw _ ?_ | refine bld ?_ | refine bln _ ?_ | refine bls ?_ _ | refine blt ?_))
  have hbr : HasBlk y2.w (w.heap.size + 1 + 1) #[.slice none 0 0] 24 := (by simp only [HasBlk, Soft.BW.heap_if, Soft.heap_alloc_if, Soft.heap_new, Soft.heap_new1, Soft.heap_new2, Soft.heap_new3, Soft.heap_new4, Soft.heap_new5])
  have CD := cond_drawn2 118 (.pointer (some ⟨w.heap.size, 0, none⟩)) (.pointer (some ⟨N.w.heap.size, 0, none⟩)) HCF.out s F y2.w HSA.out (fun W hW i hi => HF.out W (iv s.xs i) w.heap.size N.w.heap.size (bel_step hwy hW) (((HB0.out.below hzy).below hW).cell 8) (((HB1.out.below hzy).below hW).cell 0) (((HB1.out.below hzy).below hW).cell 1))
  rw [HSX.out, ← HD.out] at CD
  refine CD.mono ?_
  rintro e w5 ⟨q, rfl, hq, hqp, hb5⟩
  have b5 := HasBlk.below hbr hb5
  have cr := b5.cell 0
  have fr := b5.frozen 0
  simp at cr
  have l5 := Soft.LtH.mk (b := w.heap.size + 1 + 1) (w := w5) b5.lt
  have HFI := Lib.hid (⟨hq.put b5 (.slice q.p q.n q.c), hqp, (bel_step hwy hb5).setCell (p := ⟨w.heap.size + 1 + 1, 0, none⟩) (by dsimp only; omega) (.slice q.p q.n q.c)⟩ : _ ∧ _ ∧ _)
  clear hzy hwy hbr CD hq hqp hb5 b5
  go_wp2_with fail
  refine bodyPost_ret (v := .tuple #[.agg #[.slice q.p q.n q.c], .int .i64 D.2]) (by simp [results, Tryz.results46, go_sem, cr, fr]) rfl ?_
  exact ⟨q, rfl, HFI.out.1, HFI.out.2.1, HFI.out.2.2⟩

end Go.Proofs.YteagdcgmmdiakaaGreat

namespace Go.Proofs.YteagdcgmmdiakaaGreat
set_option linter.unusedSimpArgs false
set_option linter.unusedVariables false
open Go.RowKit
set_option maxRecDepth 100000
set_option maxHeartbeats 8000000
attribute [local go_sem] Instr.field asAgg Soft.upon Soft.upon0 Soft.stepC Soft.BW.cell_if Soft.BW.frozen_if Soft.cell_alloc_if Soft.frozen_alloc_if
attribute [local irreducible] Soft.wpSoft Soft.wpMix

/-- The margins. -/
noncomputable def mgnE (S : Sh) (L : La) (V : Wt) : List Pt × Int :=
  if (rgtE S L V).2 = 0 then if (hlaE S L V).2 = 0 then drawnE (statS S) (mgnF (rgtE S L V).1 (hlaE S L V).1) else ([], (hlaE S L V).2) else ([], (rgtE S L V).2)

theorem cond_Margin (S : Sh) (L : La) (V : Wt) (w : World) (h : Afl S L V w) :
    Calls Tryz.prog 17 #[.agg #[.int .i64 (S).len, .slice ((S).dra).p ((S).dra).n ((S).dra).c, .slice ((S).hei).p ((S).hei).n ((S).hei).c, .slice ((S).cen).p ((S).cen).n ((S).cen).c, .slice ((S).tri).p ((S).tri).n ((S).tri).c, .slice ((S).flo).p ((S).flo).n ((S).flo).c, .slice ((S).cross).p ((S).cross).n ((S).cross).c, .slice ((S).sin).p ((S).sin).n ((S).sin).c, .slice ((S).shi).p ((S).shi).n ((S).shi).c, .int .i64 (((S).light).mass).lo, .int .i64 (((S).light).mass).hi, .int .i64 (((S).light).along).lo, .int .i64 (((S).light).along).hi, .int .i64 (((S).light).high).lo, .int .i64 (((S).light).high).hi], .agg #[.slice ((L).ws).p ((L).ws).n ((L).ws).c, .int .i64 ((L).sur).lo, .int .i64 ((L).sur).hi, .int .i64 ((L).shi).lo, .int .i64 ((L).shi).hi]] w (DrawPost (mgnE S L V) w) := by
  have CR := Lib.hid (fun W (hb : Below w.heap.size w W) => cond_Righting S L V W (h.same hb))
  have CH := Lib.hid (fun W (hb : Below w.heap.size w W) => cond_Heeling S L V W (h.same hb))
  have CS := Lib.hid (fun W (hb : Below w.heap.size w W) => cond_stations S W (h.s.same hb) h.ok)
  have HM := Lib.hid (show mgnE S L V = if (rgtE S L V).2 = 0 then if (hlaE S L V).2 = 0 then drawnE (statS S) (mgnF (rgtE S L V).1 (hlaE S L V).1) else ([], (hlaE S L V).2) else ([], (rgtE S L V).2) from rfl)
  have hcf : ∀ args W, Sem.run Tryz.prog (callFunc 49 args) W = .ok (.enter 49 args) W := cf_enter Tryz.func49 (by kernel_rfl) rfl
  have HCF := Lib.hid hcf
  obtain ⟨v0, v1, v2, v3, v4, v5, v6, v7, v8, v9, v10, v11, v12, v13, v14, HS0, E1, E2, E3, E4, E5, E6, E7, E8, E9⟩ := ship_letters S
  obtain ⟨x0, x1, x2, x3, x4, HL0, F0, F1, F2⟩ := load_letters L
  rw [HS0.out, HL0.out] at CR CH ⊢
  rw [HS0.out] at CS
  clear h hcf
  generalize mgnE S L V = D at *
  generalize rgtE S L V = R at *
  generalize hlaE S L V = G at *
  obtain ⟨rp, re⟩ := R
  obtain ⟨gp, ge⟩ := G
  dsimp only at HM
  by_cases h0 : re = 0
  · subst h0
    by_cases h1 : ge = 0
    · subst h1
      have HD := Lib.hid (HM.out.trans ((if_pos rfl).trans (if_pos rfl)))
      clear HM
      go_enter Tryz.func17, Tryz.ntmps17
      go_wp2_with (first | (go_at_call 45; refine (CR.out _ (by (with_reducible repeat (first | exact blr _ | refine bla ?_ _ | refine blw _ ?_ | refine bld ?_ | refine bln _ ?_ | refine bls ?_ _ | refine blt ?_)))).mono ?_; rintro e w_ ⟨a, rfl, ha, hap, hb_⟩; obtain ⟨y1, rfl⟩ := Soft.BW.mk hb_; clear hb_; have HA := Lib.hid ha; have HAP := Lib.hid hap; clear ha hap) | (go_at_call 46; refine (CH.out _ (by (with_reducible repeat (first | exact blr _ | refine bla ?_ _ | refine blw _ ?_ | refine bld ?_ | refine bln _ ?_ | refine bls ?_ _ | refine blt ?_)))).mono ?_; rintro e w_ ⟨b, rfl, hb, hbp, hb_⟩; obtain ⟨y2, rfl⟩ := Soft.BW.mk hb_; clear hb_; have HB := Lib.hid hb; have HBP := Lib.hid hbp; clear hb hbp) | (go_at_call 48; refine (CS.out _ (by (with_reducible repeat (first | exact blr _ | refine bla ?_ _ | refine blw _ ?_ | refine bld ?_ | refine bln _ ?_ | refine bls ?_ _ | refine blt ?_)))).mono ?_; rintro e w_ ⟨s, rfl, hs, hsx, hb_⟩; obtain ⟨y3, rfl⟩ := Soft.BW.mk hb_; clear hb_; have HSX := Lib.hid hsx; have HSA := Lib.hid hs; clear hs hsx))
      have hay : Below (y1.w.alloc (.cells #[.slice a.p a.n a.c] 24)).heap.size (y1.w.alloc (.cells #[.slice a.p a.n a.c] 24)) y3.w := by (with_reducible repeat (first | exact blr _ | refine bla ?_ _ | refine blw _ ?_ | refine bld ?_ | refine bln _ ?_ | refine bls ?_ _ | refine blt ?_))
      have hby : Below (y2.w.alloc (.cells #[.slice b.p b.n b.c] 24)).heap.size (y2.w.alloc (.cells #[.slice b.p b.n b.c] 24)) y3.w := by (with_reducible repeat (first | exact blr _ | refine bla ?_ _ | refine blw _ ?_ | refine bld ?_ | refine bln _ ?_ | refine bls ?_ _ | refine blt ?_))
      have hay0 : Below y1.w.heap.size y1.w y3.w := by (with_reducible repeat (first | exact blr _ | refine bla ?_ _ | refine blw _ ?_ | refine bld ?_ | refine bln _ ?_ | refine bls ?_ _ | refine blt ?_))
      have hby0 : Below y2.w.heap.size y2.w y3.w := by (with_reducible repeat (first | exact blr _ | refine bla ?_ _ | refine blw _ ?_ | refine bld ?_ | refine bln _ ?_ | refine bls ?_ _ | refine blt ?_))
      have hwy : Below w.heap.size w y3.w := by (with_reducible repeat (first | exact blr _ | refine bla ?_ _ | refine blw _ ?_ | refine bld ?_ | refine bln _ ?_ | refine bls ?_ _ | refine blt ?_))
      have hbr : HasBlk y3.w (w.heap.size + 1 + 1) #[.slice none 0 0] 24 := (by simp only [HasBlk, Soft.BW.heap_if, Soft.heap_alloc_if, Soft.heap_new, Soft.heap_new1, Soft.heap_new2, Soft.heap_new3, Soft.heap_new4, Soft.heap_new5])
      have ga : HasBlk y3.w y1.w.heap.size #[.slice a.p a.n a.c] 24 := HasBlk.below (Soft.heap_new y1.w _) hay
      have gb : HasBlk y3.w y2.w.heap.size #[.slice b.p b.n b.c] 24 := HasBlk.below (Soft.heap_new y2.w _) hby
      have haA := HA.out.same hay0
      have hbB := HB.out.same hby0
      have CD := cond_drawn2 49 (.pointer (some ⟨y1.w.heap.size, 0, none⟩)) (.pointer (some ⟨y2.w.heap.size, 0, none⟩)) HCF.out s (mgnF a.ps b.ps) y3.w HSA.out (fun W hW i hi => cond_Margin1 a b (iv s.xs i) y1.w.heap.size y2.w.heap.size W (haA.same hW) (hbB.same hW) ((ga.below hW).cell 0) ((gb.below hW).cell 0))
      rw [HSX.out, HAP.out, HBP.out, ← HD.out] at CD
      refine CD.mono ?_
      rintro e w5 ⟨q, rfl, hq, hqp, hb5⟩
      have b5 := HasBlk.below hbr hb5
      have cr := b5.cell 0
      have fr := b5.frozen 0
      simp at cr
      have l5 := Soft.LtH.mk (b := w.heap.size + 1 + 1) (w := w5) b5.lt
      have HFI := Lib.hid (⟨hq.put b5 (.slice q.p q.n q.c), hqp, (bel_step hwy hb5).setCell (p := ⟨w.heap.size + 1 + 1, 0, none⟩) (by dsimp only; omega) (.slice q.p q.n q.c)⟩ : _ ∧ _ ∧ _)
      clear hwy hbr CD hq hqp hb5 b5 hay hby hay0 hby0 ga gb haA hbB
      go_wp2_with fail
      refine bodyPost_ret (v := .tuple #[.agg #[.slice q.p q.n q.c], .int .i64 D.2]) (by simp [results, Tryz.results17, go_sem, cr, fr]) rfl ?_
      exact ⟨q, rfl, HFI.out.1, HFI.out.2.1, HFI.out.2.2⟩
    · have HD := Lib.hid (HM.out.trans ((if_pos rfl).trans (if_neg h1)))
      have dG : (ge != 0) = true := bne_iff_ne.2 h1
      clear HM h1
      go_enter Tryz.func17, Tryz.ntmps17
      go_wp2_with (first | (go_at_call 45; refine (CR.out _ (by (with_reducible repeat (first | exact blr _ | refine bla ?_ _ | refine blw _ ?_ | refine bld ?_ | refine bln _ ?_ | refine bls ?_ _ | refine blt ?_)))).mono ?_; rintro e w_ ⟨a, rfl, ha, hap, hb_⟩; obtain ⟨y1, rfl⟩ := Soft.BW.mk hb_; clear hb_; have HA := Lib.hid ha; have HAP := Lib.hid hap; clear ha hap) | (go_at_call 46; refine (CH.out _ (by (with_reducible repeat (first | exact blr _ | refine bla ?_ _ | refine blw _ ?_ | refine bld ?_ | refine bln _ ?_ | refine bls ?_ _ | refine blt ?_)))).mono ?_; rintro e w_ ⟨b, rfl, hb, hbp, hb_⟩; obtain ⟨y2, rfl⟩ := Soft.BW.mk hb_; clear hb_; have HB := Lib.hid hb; have HBP := Lib.hid hbp; clear hb hbp))
      refine bodyPost_ret (v := .tuple #[.agg #[.slice none 0 0], .int .i64 ge]) (by simp [results, Tryz.results17, go_sem]) rfl ?_
      refine ⟨⟨none, 0, 0, []⟩, by rw [HD.out], tb_nil _, by rw [HD.out], ?_⟩
      (with_reducible repeat (first | exact blr _ | refine bla ?_ _ | refine blw _ ?_ | refine bld ?_ | refine bln _ ?_ | refine bls ?_ _ | refine blt ?_))
  · have HD := Lib.hid (HM.out.trans (if_neg h0))
    have dR : (re != 0) = true := bne_iff_ne.2 h0
    clear HM h0
    go_enter Tryz.func17, Tryz.ntmps17
    go_wp2_with (first | (go_at_call 45; refine (CR.out _ (by (with_reducible repeat (first | exact blr _ | refine bla ?_ _ | refine blw _ ?_ | refine bld ?_ | refine bln _ ?_ | refine bls ?_ _ | refine blt ?_)))).mono ?_; rintro e w_ ⟨a, rfl, ha, hap, hb_⟩; obtain ⟨y1, rfl⟩ := Soft.BW.mk hb_; clear hb_; have HA := Lib.hid ha; have HAP := Lib.hid hap; clear ha hap))
    refine bodyPost_ret (v := .tuple #[.agg #[.slice none 0 0], .int .i64 re]) (by simp [results, Tryz.results17, go_sem]) rfl ?_
    refine ⟨⟨none, 0, 0, []⟩, by rw [HD.out], tb_nil _, by rw [HD.out], ?_⟩
    (with_reducible repeat (first | exact blr _ | refine bla ?_ _ | refine blw _ ?_ | refine bld ?_ | refine bln _ ?_ | refine bls ?_ _ | refine blt ?_))

end Go.Proofs.YteagdcgmmdiakaaGreat
