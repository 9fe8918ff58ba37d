/-
  cond: check; all weights together; tonnes; raised.
  Sums, quotients and products of ranges narrow where these do; how great a centre is.
  The contracts of the library at this program: slices.Sort, Min, Max, Compact at ints; the laying of slices.SortFunc at weights.
  cond: product, raised, Tonnes, Draft, Metric.
  Tables within other ones: the curves and the lines of a table.
  Tables within other ones, of one point or more: their values at a place, over a range; a twofold area.
  Conditions: each theorem's own premises.
-/
import Derived.Test.YteagdcgmmdiakaaGreatP17
import Derived.Laws.AppendOwnNone
import Derived.Shelf.Small.Bits
import Derived.Shelf.Small.Wraps
import Derived.Shelf.Strconv.Itoa0
import Derived.Shelf.Sort.Plain
import Derived.Shelf.Slices.Turned
import Derived.Ground.Names2Prog
import Derived.Shelf.Slices.CompactI
import Derived.Shelf.Slices.In.SortNone
import Derived.Test.YteagdcgmmdiakaaGreatProg
import Derived.Test.YteagdcgmmdiakaaGreatP09
import Derived.Test.YteagdcgmmdiakaaGreatP08
namespace Go.Proofs.YteagdcgmmdiakaaGreat
set_option linter.unusedSimpArgs false
set_option linter.unusedVariables false
open Go.RowKit
set_option maxRecDepth 100000
set_option maxHeartbeats 4000000
attribute [local go_sem] Instr.field asAgg Soft.upon Soft.upon0 Soft.stepC Soft.BW.cell_if Soft.BW.frozen_if Soft.cell_alloc_if Soft.frozen_alloc_if
attribute [local irreducible] Soft.wpSoft Soft.wpMix

/-- A ship's cells as letters. -/
theorem ship_letters (S : Sh) : ∃ v0 v1 v2 v3 v4 v5 v6 v7 v8 v9 v10 v11 v12 v13 v14 : Value, Hid ((#[.int .i64 (S).len, .slice ((S).dra).p ((S).dra).n ((S).dra).c, .slice ((S).hei).p ((S).hei).n ((S).hei).c, .slice ((S).cen).p ((S).cen).n ((S).cen).c, .slice ((S).tri).p ((S).tri).n ((S).tri).c, .slice ((S).flo).p ((S).flo).n ((S).flo).c, .slice ((S).cross).p ((S).cross).n ((S).cross).c, .slice ((S).sin).p ((S).sin).n ((S).sin).c, .slice ((S).shi).p ((S).shi).n ((S).shi).c, .int .i64 (((S).light).mass).lo, .int .i64 (((S).light).mass).hi, .int .i64 (((S).light).along).lo, .int .i64 (((S).light).along).hi, .int .i64 (((S).light).high).lo, .int .i64 (((S).light).high).hi] : Array Value) = #[v0, v1, v2, v3, v4, v5, v6, v7, v8, v9, v10, v11, v12, v13, v14]) ∧ Hid (.slice S.dra.p S.dra.n S.dra.c = v1) ∧ Hid (.slice S.hei.p S.hei.n S.hei.c = v2) ∧ Hid (.slice S.cen.p S.cen.n S.cen.c = v3) ∧ Hid (.slice S.tri.p S.tri.n S.tri.c = v4) ∧ Hid (.slice S.flo.p S.flo.n S.flo.c = v5) ∧ Hid (.slice S.cross.p S.cross.n S.cross.c = v6) ∧ Hid (.slice S.sin.p S.sin.n S.sin.c = v7) ∧ Hid (.slice S.shi.p S.shi.n S.shi.c = v8) ∧ Hid ((#[.int .i64 ((S.light).mass).lo, .int .i64 ((S.light).mass).hi, .int .i64 ((S.light).along).lo, .int .i64 ((S.light).along).hi, .int .i64 ((S.light).high).lo, .int .i64 ((S.light).high).hi] : Array Value) = #[v9, v10, v11, v12, v13, v14]) :=
  ⟨_, _, _, _, _, _, _, _, _, _, _, _, _, _, _, Lib.hid rfl, Lib.hid rfl, Lib.hid rfl, Lib.hid rfl, Lib.hid rfl, Lib.hid rfl, Lib.hid rfl, Lib.hid rfl, Lib.hid rfl, Lib.hid rfl⟩
theorem load_letters (L : La) : ∃ x0 x1 x2 x3 x4 : Value, Hid ((#[.slice ((L).ws).p ((L).ws).n ((L).ws).c, .int .i64 ((L).sur).lo, .int .i64 ((L).sur).hi, .int .i64 ((L).shi).lo, .int .i64 ((L).shi).hi] : Array Value) = #[x0, x1, x2, x3, x4]) ∧ Hid (.slice L.ws.p L.ws.n L.ws.c = x0) ∧ Hid ((#[.int .i64 (L.sur).lo, .int .i64 (L.sur).hi] : Array Value) = #[x1, x2]) ∧ Hid ((#[.int .i64 (L.shi).lo, .int .i64 (L.shi).hi] : Array Value) = #[x3, x4]) :=
  ⟨_, _, _, _, _, Lib.hid rfl, Lib.hid rfl, Lib.hid rfl, Lib.hid rfl⟩

theorem cond_check (S : Sh) (L : La) (w : World) (hS : S.At w) (hL : L.At w) (ok : ShipOk S) :
    Calls Tryz.prog 111 #[.agg #[.int .i64 (S).len, .slice ((S).dra).p ((S).dra).n ((S).dra).c, .slice ((S).hei).p ((S).hei).n ((S).hei).c, .slice ((S).cen).p ((S).cen).n ((S).cen).c, .slice ((S).tri).p ((S).tri).n ((S).tri).c, .slice ((S).flo).p ((S).flo).n ((S).flo).c, .slice ((S).cross).p ((S).cross).n ((S).cross).c, .slice ((S).sin).p ((S).sin).n ((S).sin).c, .slice ((S).shi).p ((S).shi).n ((S).shi).c, .int .i64 (((S).light).mass).lo, .int .i64 (((S).light).mass).hi, .int .i64 (((S).light).along).lo, .int .i64 (((S).light).along).hi, .int .i64 (((S).light).high).lo, .int .i64 (((S).light).high).hi], .agg #[.slice ((L).ws).p ((L).ws).n ((L).ws).c, .int .i64 ((L).sur).lo, .int .i64 ((L).sur).hi, .int .i64 ((L).shi).lo, .int .i64 ((L).shi).hi]] w fun e w' => e = .returned (.int .i64 (ldErr L)) ∧ Below w.heap.size w w' := by
  have CS := Lib.hid (fun W (hb : Below w.heap.size w W) => cond_CheckShip S W (hS.same hb))
  have CL := Lib.hid (fun W (hb : Below w.heap.size w W) => cond_CheckLoad L W (hL.same hb))
  rw [shipErr_ok ok] at CS
  clear hS hL ok
  obtain ⟨v0, v1, v2, v3, v4, v5, v6, v7, v8, v9, v10, v11, v12, v13, v14, HS0, E1, E2, E3, E4, E5, E6, E7, E8, E9⟩ := ship_letters S
  obtain ⟨x0, x1, x2, x3, x4, HL0, F0, F1, F2⟩ := load_letters L
  rw [HS0.out] at CS ⊢
  rw [HL0.out] at CL ⊢
  generalize ldErr L = er at *
  go_enter Tryz.func111, Tryz.ntmps111
  go_wp2_with (first | (go_at_call 14; (with_reducible refine (CS.out _ (by (with_reducible repeat (first | exact blr _ | refine bla ?_ _ | refine blw _ ?_ | refine bld ?_ | refine bln _ ?_ | refine bls ?_ _ | refine blt ?_)))).mono ?_); rintro e w_ ⟨rfl, hb_⟩; obtain ⟨y1, rfl⟩ := Soft.BW.mk hb_; clear hb_) | (go_at_call 145; (with_reducible refine (CL.out _ (by (with_reducible repeat (first | exact blr _ | refine bla ?_ _ | refine blw _ ?_ | refine bld ?_ | refine bln _ ?_ | refine bls ?_ _ | refine blt ?_)))).mono ?_); rintro e w_ ⟨rfl, hb_⟩; obtain ⟨y2, rfl⟩ := Soft.BW.mk hb_; clear hb_))
  go_ret
  refine ⟨rfl, ?_⟩
  (with_reducible repeat (first | exact blr _ | refine bla ?_ _ | refine blw _ ?_ | refine bld ?_ | refine bln _ ?_ | refine bls ?_ _ | refine blt ?_))

theorem add_nn (b off j : Nat) : (⟨b, off, none⟩ : Addr).add j = ⟨b, off + j, none⟩ := by
  unfold Addr.add
  split
  · next h => subst h; rfl
  · rfl
/-- A slice of weights is appended. -/
theorem app_wts {w : World} {ops : Array Oper} {rest : List Oper} {o : Oper} {a : Act} {Q : Exit → Act → World → Prop} (hgd : o.guard = none) (s x : Operand)
    (ho : o.op = .call { callee := .builtin .append, args := #[s, x], argTypes := #[56, 56] }) (B : Nat) (v : Value) (l : List Wt) (hs : a.eval s = v) (hown : OwnW w B v l)
    (t : Sl Wt) (hx : a.eval x = .slice t.p t.n t.c) (ht : WsAt w t) (hc : t.p = none → t.c = 0) (hn : l.length + t.n ≤ 1000) (hB : B ≤ w.heap.size)
    (h : ∀ v' w', OwnW w' B v' (l ++ t.xs) → Below B w w' → wpList Tryz.prog ops Q rest (a.put o.dst v') w') : wpList Tryz.prog ops Q (o :: rest) a w := by
  obtain ⟨i0, hi, hz0, hz1, hz2⟩ := infos info_wt
  obtain ⟨p, n, c, xs⟩ := t
  have h1 := ht.1
  dsimp only at hx hc hn h h1
  by_cases hn0 : n = 0
  · subst hn0
    obtain rfl : xs = [] := List.eq_nil_of_length_eq_zero h1
    cases p with
    | none =>
      obtain rfl : c = 0 := hc rfl
      refine wpList_append_own_none hgd s x 56 ho B 29 i0 6 Tryz.underlying56 hi v l.length (wts l) hs hown hx (h v w ?_ (Below.refl _ _))
      rw [List.append_nil]
      exact hown
    | some ad =>
      refine wpList_append_own w hgd s x 56 ho B 29 i0 _ 6 48 Tryz.underlying56 hi hz0 hz1 hz2 rfl (by decide) v l.length (wts l) hs hown ad 0 c [] hx rfl (fun j u hu => by simp at hu) (fun u hu => absurd hu List.not_mem_nil) (by unfold maxLen; omega) (by omega) hB ?_
      intro v' w' g1 g2 _
      refine h v' w' ?_ (below_of_grown g2 hB fun k hk => (hown.lt k hk).1)
      unfold OwnW
      rw [List.append_nil]
      simpa using g1
  · obtain ⟨b, off, rfl, hb, hc2⟩ := ht.2.2.2 hn0
    refine wpList_append_own w hgd s x 56 ho B 29 i0 _ 6 48 Tryz.underlying56 hi hz0 hz1 hz2 rfl (by decide) v l.length (wts l) hs hown ⟨b, off, none⟩ n c (wts xs) hx (by rw [wts_length, h1]) (fun j u hu => ?_) (fun u hu => ?_) (by unfold maxLen; omega) (by omega) hB ?_
    · have hj : j < xs.length * 6 := by rw [← wts_length]; exact (List.getElem?_eq_some_iff.1 hu).1
      have hk : j / 6 < xs.length := by omega
      have e := wts_get xs (j / 6) hk (j % 6) (Nat.mod_lt _ (by decide))
      rw [show j / 6 * 6 + j % 6 = j by omega, hu] at e
      have := hc2 (j / 6) (by dsimp only; omega) (j % 6) u e.symm
      rw [add_nn b off j]
      rw [show off + j / 6 * 6 + j % 6 = off + j by omega] at this
      exact this
    · obtain ⟨j, hj⟩ := List.getElem?_of_mem hu
      have hj2 : j < xs.length * 6 := by rw [← wts_length]; exact (List.getElem?_eq_some_iff.1 hj).1
      have e := wts_get xs (j / 6) (by omega) (j % 6) (Nat.mod_lt _ (by decide))
      rw [show j / 6 * 6 + j % 6 = j by omega, hj] at e
      have hm := List.mem_of_getElem? e.symm
      simp [wtC] at hm
      rcases hm with rfl | rfl | rfl | rfl | rfl | rfl <;> rfl
    · intro v' w' g1 g2 _
      refine h v' w' ?_ (below_of_grown g2 hB fun k hk => (hown.lt k hk).1)
      unfold OwnW
      rw [List.length_append, wts_append, h1]
      exact g1

theorem ownW_one {w : World} {g : Nat} {q : Wt} (h : HasBlk w g #[.int .i64 ((q).mass).lo, .int .i64 ((q).mass).hi, .int .i64 ((q).along).lo, .int .i64 ((q).along).hi, .int .i64 ((q).high).lo, .int .i64 ((q).high).hi] 29) : OwnW w g (.slice (some ⟨g, 0, none⟩) 1 1) [q] :=
  ⟨rfl, .inr ⟨g, 1, _, rfl, Nat.le_refl _, h, Nat.le_refl _, by unfold maxLen; omega, rfl, rfl⟩⟩

theorem OwnW.at2 {w : World} {B : Nat} {v : Value} {l : List Wt} (h : OwnW w B v l) (hn : l ≠ []) : ∃ g c, v = .slice (some ⟨g, 0, none⟩) l.length c ∧ WsAt w ⟨some ⟨g, 0, none⟩, l.length, c, l⟩ := by
  obtain ⟨g, c, e, _⟩ := h.shape hn
  obtain ⟨p, c', e', h'⟩ := h.at hn
  rw [e] at e'
  simp only [Value.slice.injEq, true_and] at e'
  obtain ⟨rfl, rfl⟩ := e'
  exact ⟨g, c, e, h'⟩

/-- All weights of a ship and a load. -/
def allW (S : Sh) (L : La) : List Wt := S.light :: L.ws.xs

theorem cond_total (S : Sh) (L : La) (V : Wt) (w : World) (hL : L.At w) (hi : LoadIn L) (hV : TotIs (allW S L) V) :
    Calls Tryz.prog 117 #[.agg #[.int .i64 (S).len, .slice ((S).dra).p ((S).dra).n ((S).dra).c, .slice ((S).hei).p ((S).hei).n ((S).hei).c, .slice ((S).cen).p ((S).cen).n ((S).cen).c, .slice ((S).tri).p ((S).tri).n ((S).tri).c, .slice ((S).flo).p ((S).flo).n ((S).flo).c, .slice ((S).cross).p ((S).cross).n ((S).cross).c, .slice ((S).sin).p ((S).sin).n ((S).sin).c, .slice ((S).shi).p ((S).shi).n ((S).shi).c, .int .i64 (((S).light).mass).lo, .int .i64 (((S).light).mass).hi, .int .i64 (((S).light).along).lo, .int .i64 (((S).light).along).hi, .int .i64 (((S).light).high).lo, .int .i64 (((S).light).high).hi], .agg #[.slice ((L).ws).p ((L).ws).n ((L).ws).c, .int .i64 ((L).sur).lo, .int .i64 ((L).sur).hi, .int .i64 ((L).shi).lo, .int .i64 ((L).shi).hi]] w fun e w' => e = .returned (.agg #[.int .i64 ((V).mass).lo, .int .i64 ((V).mass).hi, .int .i64 ((V).along).lo, .int .i64 ((V).along).hi, .int .i64 ((V).high).lo, .int .i64 ((V).high).hi]) ∧ Below w.heap.size w w' := by
  have hn := hL.1.1
  have hn40 := hi.n
  have HL := Lib.hid hL
  have HV := Lib.hid hV
  clear hL hi hV
  obtain ⟨v0, v1, v2, v3, v4, v5, v6, v7, v8, v9, v10, v11, v12, v13, v14, HS0, E1, E2, E3, E4, E5, E6, E7, E8, E9⟩ := ship_letters S
  obtain ⟨x0, x1, x2, x3, x4, HL0, F0, F1, F2⟩ := load_letters L
  have c9 := E9.out
  simp only [Array.mk.injEq, List.cons.injEq, and_true] at c9
  obtain ⟨c9, c10, c11, c12, c13, c14⟩ := c9
  rw [HS0.out, HL0.out]
  have f0 := F0.out
  subst c9 c10 c11 c12 c13 c14 f0
  have hN : ([S.light] ++ L.ws.xs : List Wt) ≠ [] := by simp
  go_enter Tryz.func117, Tryz.ntmps117
  go_wp2_with (at_builtin; refine app_wts rfl (.tmp 10) (.tmp 12) rfl (w.heap.size + 1 + 1 + 1) _ [S.light] rfl (ownW_one (q := S.light) (by simp only [HasBlk, Soft.BW.heap_if, Soft.heap_alloc_if, Soft.heap_new, Soft.heap_new1, Soft.heap_new2, Soft.heap_new3, Soft.heap_new4, Soft.heap_new5])) L.ws rfl (WsAt.same HL.out.1 (by (with_reducible repeat (first | exact blr _ | refine bla ?_ _ | refine blw _ ?_ | refine bld ?_ | refine bln _ ?_ | refine bls ?_ _ | refine blt ?_)))) HL.out.2 (by simp; omega) (by simp) ?_; intro v' w' hOW hBL)
  have b2 : HasBlk w' (w.heap.size + 1 + 1) #[.int .i64 0, .int .i64 0, .int .i64 0, .int .i64 0, .int .i64 0, .int .i64 0] 29 := (hBL.block _ (by omega)).trans (by simp only [HasBlk, Soft.BW.heap_if, Soft.heap_alloc_if, Soft.heap_new, Soft.heap_new1, Soft.heap_new2, Soft.heap_new3, Soft.heap_new4, Soft.heap_new5])
  have hB : Below w.heap.size w w' := (show Below w.heap.size w _ by (with_reducible repeat (first | exact blr _ | refine bla ?_ _ | refine blw _ ?_ | refine bld ?_ | refine bln _ ?_ | refine bls ?_ _ | refine blt ?_))).trans (hBL.mono (by omega))
  clear hBL
  obtain ⟨g, c, rfl, hWs⟩ := hOW.at2 hN
  have CS := cond_Sum1 g 0 _ c (allW S L) (by simp) w' hWs
  refine CS.mono ?_
  rintro e w2 ⟨⟨u, cc, hu, rfl⟩, hb2⟩
  obtain ⟨hu2, rfl⟩ := HV.out.sum hu
  obtain rfl := hu2.uniq HV.out
  have B2 := Lib.hid (b2.below hb2)
  have HB := Lib.hid (bel_step hB hb2)
  clear b2 hB hb2 hu hu2 hWs CS hOW HV HL
  have q0 := B2.out.cell 0
  have q1 := B2.out.cell 1
  have q2 := B2.out.cell 2
  have q3 := B2.out.cell 3
  have q4 := B2.out.cell 4
  have q5 := B2.out.cell 5
  have z0 := B2.out.frozen 0
  have z1 := B2.out.frozen 1
  have z2 := B2.out.frozen 2
  have z3 := B2.out.frozen 3
  have z4 := B2.out.frozen 4
  have z5 := B2.out.frozen 5
  simp at q0 q1 q2 q3 q4 q5
  have l2 := Soft.LtH.mk (b := w.heap.size + 1 + 1) (w := w2) B2.out.lt
  have HB3 := Lib.hid (B2.out.below (bel_alloc (bel_refl w2) (.cells #[.int .i64 ((u).mass).lo, .int .i64 ((u).mass).hi, .int .i64 ((u).along).lo, .int .i64 ((u).along).hi, .int .i64 ((u).high).lo, .int .i64 ((u).high).hi] 29)))
  go_wp2_with (refine wpList_store_row rfl 29 (.tmp 4) (.tmp 17) rfl (w.heap.size + 1 + 1) #[.int .i64 ((u).mass).lo, .int .i64 ((u).mass).hi, .int .i64 ((u).along).lo, .int .i64 ((u).along).hi, .int .i64 ((u).high).lo, .int .i64 ((u).high).hi] rfl rfl 29 _ HB3.out (by kernel_rfl) rfl (by kernel_rfl) ?_)
  refine bodyPost_ret (results_cell_row rfl _ _ (w.heap.size + 1 + 1) _ _ _ _ rfl (setRow_heap _ _ _ _ _ _ HB3.out) Tryz.underlying29 rfl (by kernel_rfl)) rfl ?_
  exact ⟨rfl, below_setRow (bel_alloc HB.out _) (by omega) _⟩

/-- The displacement in tonnes; the height of the centre, raised by free surfaces. -/
def tonR (V : Wt) : Rg := quoR V.mass ⟨1000, 1000⟩
def raiR (V : Wt) (L : La) : Rg := addR V.high (quoR L.sur V.mass)

theorem mass_in {xs : List Wt} {V : Wt} (h : TotIs xs V) : 1 ≤ V.mass.lo ∧ V.mass.lo ≤ V.mass.hi ∧ V.mass.hi ≤ 41000000000 := by
  have a := mSum_in xs.length h.all.n h.all.w
  have b := h.all.pos
  have c := h.all.n
  rw [h.mass]
  omega

theorem cond_tonnes (S : Sh) (L : La) (V : Wt) (w : World) (hL : L.At w) (hi : LoadIn L) (hV : TotIs (allW S L) V) :
    Calls Tryz.prog 108 #[.agg #[.int .i64 (S).len, .slice ((S).dra).p ((S).dra).n ((S).dra).c, .slice ((S).hei).p ((S).hei).n ((S).hei).c, .slice ((S).cen).p ((S).cen).n ((S).cen).c, .slice ((S).tri).p ((S).tri).n ((S).tri).c, .slice ((S).flo).p ((S).flo).n ((S).flo).c, .slice ((S).cross).p ((S).cross).n ((S).cross).c, .slice ((S).sin).p ((S).sin).n ((S).sin).c, .slice ((S).shi).p ((S).shi).n ((S).shi).c, .int .i64 (((S).light).mass).lo, .int .i64 (((S).light).mass).hi, .int .i64 (((S).light).along).lo, .int .i64 (((S).light).along).hi, .int .i64 (((S).light).high).lo, .int .i64 (((S).light).high).hi], .agg #[.slice ((L).ws).p ((L).ws).n ((L).ws).c, .int .i64 ((L).sur).lo, .int .i64 ((L).sur).hi, .int .i64 ((L).shi).lo, .int .i64 ((L).shi).hi]] w fun e w' => e = .returned (.agg #[.int .i64 (tonR V).lo, .int .i64 (tonR V).hi]) ∧ Below w.heap.size w w' := by
  have CT := Lib.hid (fun W (hb : Below w.heap.size w W) => cond_total S L V W (hL.same hb) hi hV)
  obtain ⟨m1, m2, m3⟩ := mass_in hV
  have CQ := Lib.hid (fun W => cond_quotient V.mass ⟨1000, 1000⟩ W (by unfold MidR; omega) (by decide))
  have HT := Lib.hid (show tonR V = quoR V.mass ⟨1000, 1000⟩ from rfl)
  clear hL hi hV
  rw [HT.out]
  generalize quoR V.mass ⟨1000, 1000⟩ = q at *
  obtain ⟨v0, v1, v2, v3, v4, v5, v6, v7, v8, v9, v10, v11, v12, v13, v14, HS0, E1, E2, E3, E4, E5, E6, E7, E8, E9⟩ := ship_letters S
  obtain ⟨x0, x1, x2, x3, x4, HL0, F0, F1, F2⟩ := load_letters L
  rw [HS0.out, HL0.out] at CT ⊢
  go_enter Tryz.func108, Tryz.ntmps108
  go_wp2_with (first | (go_at_call 117; (with_reducible refine (CT.out _ (by (with_reducible repeat (first | exact blr _ | refine bla ?_ _ | refine blw _ ?_ | refine bld ?_ | refine bln _ ?_ | refine bls ?_ _ | refine blt ?_)))).mono ?_); rintro e w_ ⟨rfl, hb_⟩; obtain ⟨y1, rfl⟩ := Soft.BW.mk hb_; clear hb_) | (go_at_call 116; (with_reducible refine (CQ.out _).mono ?_); rintro e w_ ⟨rfl, hb_⟩; obtain ⟨y2, rfl⟩ := Soft.BW.mk hb_; clear hb_))
  refine bodyPost_ret (v := .agg #[.int .i64 (q).lo, .int .i64 (q).hi]) (by simp [results, Tryz.results108, go_sem]) rfl ?_
  refine ⟨rfl, ?_⟩
  (with_reducible repeat (first | exact blr _ | refine bla ?_ _ | refine blw _ ?_ | refine bld ?_ | refine bln _ ?_ | refine bls ?_ _ | refine blt ?_))

end Go.Proofs.YteagdcgmmdiakaaGreat

namespace Go.Proofs.YteagdcgmmdiakaaGreat
set_option linter.unusedSimpArgs false
set_option linter.unusedVariables false
open Go.RowKit

/-- The product of two ranges. -/
def prodR (a b : Rg) : Rg := ⟨min (min (a.lo * b.lo) (a.lo * b.hi)) (min (a.hi * b.lo) (a.hi * b.hi)), max (max (a.lo * b.lo) (a.lo * b.hi)) (max (a.hi * b.lo) (a.hi * b.hi))⟩

theorem addR_in {a b c d : Rg} (h : InS a b) (k : InS c d) : InS (addR a c) (addR b d) := by
  obtain ⟨h1, h2⟩ := h
  obtain ⟨k1, k2⟩ := k
  constructor <;> (unfold addR; dsimp only; omega)
theorem subR_in {a b c d : Rg} (h : InS a b) (k : InS c d) : InS (subR a c) (subR b d) := by
  obtain ⟨h1, h2⟩ := h
  obtain ⟨k1, k2⟩ := k
  constructor <;> (unfold subR; dsimp only; omega)
theorem cdiv_ge (x b : Int) (hb : 1 ≤ b) : x / b ≤ -(-x / b) := by
  have k1 := Int.ediv_mul_le x (show b ≠ 0 by omega)
  have k2 := Int.ediv_mul_le (-x) (show b ≠ 0 by omega)
  apply Classical.byContradiction
  intro hc
  have k3 : (1 : Int) * b ≤ (x / b + -x / b) * b := Int.mul_le_mul_of_nonneg_right (by omega) (by omega)
  rw [Int.add_mul] at k3
  omega

/-- Between the quotients of the ends. -/
theorem quo_lo {x y b c d : Int} (h : x ≤ y) (hb : 1 ≤ b) (h1 : b ≤ c) (h2 : c ≤ d) : min (x / b) (x / d) ≤ y / c := by
  have e := Int.ediv_le_ediv (show 0 < c by omega) h
  by_cases h0 : 0 ≤ x
  · have := ndiv_anti h0 (show 1 ≤ c by omega) h2
    omega
  · have := ndiv_mono_neg (show x ≤ 0 by omega) hb h1
    omega
theorem quo_hi {x y b c d : Int} (h : y ≤ x) (hb : 1 ≤ b) (h1 : b ≤ c) (h2 : c ≤ d) : -(-y / c) ≤ max (-(-x / b)) (-(-x / d)) := by
  have := quo_lo (x := -x) (y := -y) (by omega) hb h1 h2
  omega
theorem quoR_in {a a' b b' : Rg} (ha : InS a' a) (hb : InS b' b) (h1 : 1 ≤ b.lo) (h2 : b'.lo ≤ b'.hi) : InS (quoR a' b') (quoR a b) := by
  obtain ⟨a1, a2⟩ := ha
  obtain ⟨b1, b2⟩ := hb
  have l1 := quo_lo (x := a.lo) (y := a'.lo) (b := b.lo) (c := b'.lo) (d := b.hi) a1 h1 b1 (by omega)
  have l2 := quo_lo (x := a.lo) (y := a'.lo) (b := b.lo) (c := b'.hi) (d := b.hi) a1 h1 (by omega) b2
  have u1 := quo_hi (x := a.hi) (y := a'.hi) (b := b.lo) (c := b'.lo) (d := b.hi) a2 h1 b1 (by omega)
  have u2 := quo_hi (x := a.hi) (y := a'.hi) (b := b.lo) (c := b'.hi) (d := b.hi) a2 h1 (by omega) b2
  unfold quoR
  constructor
  · dsimp only; omega
  · dsimp only; omega
theorem quoR_le {a b : Rg} (h : a.lo ≤ a.hi) (h1 : 1 ≤ b.lo) : (quoR a b).lo ≤ (quoR a b).hi := by
  unfold quoR
  dsimp only
  have e := Int.ediv_le_ediv (show 0 < b.lo by omega) h
  have := cdiv_ge a.hi b.lo h1
  omega
theorem div_bd {x b K : Int} (h1 : -K ≤ x) (h2 : x ≤ K) (hK : 0 ≤ K) (hb : 1 ≤ b) : -K ≤ x / b ∧ x / b ≤ K := by
  constructor
  · refine (Int.le_ediv_iff_mul_le (by omega)).2 ?_
    have : K * 1 ≤ K * b := Int.mul_le_mul_of_nonneg_left hb hK
    rw [Int.neg_mul]
    omega
  · have h := Int.ediv_le_ediv (show 0 < b by omega) h2
    have : K / b ≤ K / 1 := ndiv_anti hK (by decide) hb
    rw [Int.ediv_one] at this
    omega
theorem quoR_bd {a b : Rg} {K : Int} (hK : 0 ≤ K) (h1 : -K ≤ a.lo) (h2 : a.lo ≤ a.hi) (h3 : a.hi ≤ K) (b1 : 1 ≤ b.lo) (b2 : 1 ≤ b.hi) : -K ≤ (quoR a b).lo ∧ (quoR a b).hi ≤ K := by
  have p1 := div_bd h1 (show a.lo ≤ K by omega) hK b1
  have p2 := div_bd h1 (show a.lo ≤ K by omega) hK b2
  have q1 := div_bd (show -K ≤ -a.hi by omega) (show -a.hi ≤ K by omega) hK b1
  have q2 := div_bd (show -K ≤ -a.hi by omega) (show -a.hi ≤ K by omega) hK b2
  unfold quoR
  dsimp only
  omega
theorem quoR_nn {a b : Rg} (h1 : 0 ≤ a.lo) (b1 : 1 ≤ b.lo) (b2 : 1 ≤ b.hi) : 0 ≤ (quoR a b).lo := by
  have p1 := Int.ediv_nonneg h1 (show 0 ≤ b.lo by omega)
  have p2 := Int.ediv_nonneg h1 (show 0 ≤ b.hi by omega)
  unfold quoR
  dsimp only
  omega

/-- A product between those of the ends. -/
theorem mul_between {a b x y : Int} (h1 : a ≤ x) (h2 : x ≤ b) : min (a * y) (b * y) ≤ x * y ∧ x * y ≤ max (a * y) (b * y) := by
  by_cases hy : 0 ≤ y
  · have := Int.mul_le_mul_of_nonneg_right h1 hy
    have := Int.mul_le_mul_of_nonneg_right h2 hy
    omega
  · have := Int.mul_le_mul_of_nonpos_right h1 (show y ≤ 0 by omega)
    have := Int.mul_le_mul_of_nonpos_right h2 (show y ≤ 0 by omega)
    omega
theorem prod_has {a b : Rg} {x y : Int} (h1 : a.lo ≤ x) (h2 : x ≤ a.hi) (h3 : b.lo ≤ y) (h4 : y ≤ b.hi) : (prodR a b).lo ≤ x * y ∧ x * y ≤ (prodR a b).hi := by
  have k := mul_between (y := y) h1 h2
  have l := mul_between (y := a.lo) h3 h4
  have m := mul_between (y := a.hi) h3 h4
  rw [Int.mul_comm b.lo, Int.mul_comm b.hi, Int.mul_comm y] at l m
  unfold prodR
  dsimp only
  omega
theorem prodR_in {a a' b b' : Rg} (ha : InS a' a) (hb : InS b' b) (h1 : a'.lo ≤ a'.hi) (h2 : b'.lo ≤ b'.hi) : InS (prodR a' b') (prodR a b) := by
  obtain ⟨a1, a2⟩ := ha
  obtain ⟨b1, b2⟩ := hb
  have k1 := prod_has (a := a) (b := b) (x := a'.lo) (y := b'.lo) a1 (by omega) b1 (by omega)
  have k2 := prod_has (a := a) (b := b) (x := a'.lo) (y := b'.hi) a1 (by omega) (by omega) b2
  have k3 := prod_has (a := a) (b := b) (x := a'.hi) (y := b'.lo) (by omega) a2 b1 (by omega)
  have k4 := prod_has (a := a) (b := b) (x := a'.hi) (y := b'.hi) (by omega) a2 (by omega) b2
  constructor
  · show (prodR a b).lo ≤ min (min (a'.lo * b'.lo) (a'.lo * b'.hi)) (min (a'.hi * b'.lo) (a'.hi * b'.hi))
    omega
  · show max (max (a'.lo * b'.lo) (a'.lo * b'.hi)) (max (a'.hi * b'.lo) (a'.hi * b'.hi)) ≤ (prodR a b).hi
    omega
theorem prodR_le (a b : Rg) : (prodR a b).lo ≤ (prodR a b).hi := by
  unfold prodR
  dsimp only
  omega
theorem mul_bdR {x y A B : Int} (h1 : 0 ≤ x) (h2 : x ≤ A) (h3 : -B ≤ y) (h4 : y ≤ B) : -(A * B) ≤ x * y ∧ x * y ≤ A * B := by
  have a : x * y ≤ x * B := Int.mul_le_mul_of_nonneg_left h4 h1
  have b : x * (-B) ≤ x * y := Int.mul_le_mul_of_nonneg_left h3 h1
  have c : x * B ≤ A * B := Int.mul_le_mul_of_nonneg_right h2 (by omega)
  rw [Int.mul_neg] at b
  omega
theorem prodR_bd {a b : Rg} {A B : Int} (h1 : 0 ≤ a.lo) (h2 : a.lo ≤ a.hi) (h3 : a.hi ≤ A) (h4 : -B ≤ b.lo) (h5 : b.lo ≤ b.hi) (h6 : b.hi ≤ B) : -(A * B) ≤ (prodR a b).lo ∧ (prodR a b).hi ≤ A * B := by
  have k1 := mul_bdR (x := a.lo) (y := b.lo) (A := A) (B := B) h1 (by omega) h4 (by omega)
  have k2 := mul_bdR (x := a.lo) (y := b.hi) (A := A) (B := B) h1 (by omega) (by omega) h6
  have k3 := mul_bdR (x := a.hi) (y := b.lo) (A := A) (B := B) (by omega) h3 h4 (by omega)
  have k4 := mul_bdR (x := a.hi) (y := b.hi) (A := A) (B := B) (by omega) h3 (by omega) h6
  unfold prodR
  dsimp only
  omega

/-- A mix's moment lies between its mass at the least place and at the greatest. -/
theorem low_between {l : List Wt} {pl : Wt → Int} {a b : Int} (hw : ∀ k, k < l.length → isWt (wv l k)) (hp : ∀ k, k < l.length → a ≤ pl (wv l k) ∧ pl (wv l k) ≤ b) : ∀ k, k ≤ l.length → a * (lowM l pl k).1 ≤ (lowM l pl k).2 ∧ (lowM l pl k).2 ≤ b * (lowM l pl k).1
  | 0, _ => by simp [lowM]
  | k + 1, hk => by
    obtain ⟨c, d⟩ := low_between hw hp k (by omega)
    obtain ⟨p1, p2⟩ := hp k (by omega)
    obtain ⟨⟨w1, _, _⟩, _⟩ := hw k (by omega)
    have m1 := Int.mul_le_mul_of_nonneg_right p1 w1
    have m2 := Int.mul_le_mul_of_nonneg_right p2 w1
    rw [Int.mul_comm (pl _)] at m1 m2
    unfold lowM
    dsimp only
    rw [Int.mul_add, Int.mul_add]
    omega
theorem mix_between {l : List Wt} {pl : Wt → Int} {a b : Int} (hw : ∀ k, k < l.length → isWt (wv l k)) (hp : ∀ k, k < l.length → a ≤ pl (wv l k) ∧ pl (wv l k) ≤ b) : ∀ k, k ≤ l.length → a * (mixP l pl k).1 ≤ (mixP l pl k).2 ∧ (mixP l pl k).2 ≤ b * (mixP l pl k).1
  | 0, _ => low_between hw hp _ (Nat.le_refl _)
  | k + 1, hk => by
    obtain ⟨c, d⟩ := mix_between hw hp k (by omega)
    obtain ⟨p1, p2⟩ := hp k (by omega)
    obtain ⟨⟨_, w1, _⟩, _⟩ := hw k (by omega)
    have m1 := Int.mul_le_mul_of_nonneg_right p1 (show 0 ≤ (wv l k).mass.hi - (wv l k).mass.lo by omega)
    have m2 := Int.mul_le_mul_of_nonneg_right p2 (show 0 ≤ (wv l k).mass.hi - (wv l k).mass.lo by omega)
    rw [Int.mul_comm (pl _)] at m1 m2
    unfold mixP
    dsimp only
    rw [Int.mul_add, Int.mul_add]
    omega
theorem div_between {a b m M : Int} (hm : 1 ≤ m) (h1 : a * m ≤ M) (h2 : M ≤ b * m) : a ≤ M / m ∧ M / m ≤ b := by
  constructor
  · exact (Int.le_ediv_iff_mul_le (by omega)).2 h1
  · have h := Int.ediv_le_ediv (show 0 < m by omega) h2
    rw [Int.mul_ediv_cancel _ (by omega)] at h
    exact h

theorem perm_sum (f : Wt → Int) {l l' : List Wt} (h : l.Perm l') : (l.map f).sum = (l'.map f).sum := by
  induction h with
  | nil => rfl
  | cons x _ ih => simp [ih]
  | swap x y l => simp; omega
  | trans _ _ a b => exact a.trans b
theorem sum_le_sum {f g : Wt → Int} : ∀ l : List Wt, (∀ x ∈ l, f x ≤ g x) → (l.map f).sum ≤ (l.map g).sum
  | [], _ => Int.le_refl _
  | x :: l, h => by
    have a := sum_le_sum l (fun y hy => h y (List.mem_cons_of_mem _ hy))
    have b := h x List.mem_cons_self
    simp only [List.map_cons, List.sum_cons]
    omega
theorem centre_bd {sel : Wt → Rg} {a b : Int} (h10 : -1000000 ≤ a) (h11 : b ≤ 1000000) {xs : List Wt} (h : AllWt xs) (hp : ∀ x, isWt x → a ≤ (sel x).lo ∧ (sel x).lo ≤ (sel x).hi ∧ (sel x).hi ≤ b) {r : Rg} (hr : CentreIs sel xs r) : a ≤ r.lo ∧ r.lo ≤ r.hi ∧ r.hi ≤ b := by
  obtain ⟨l1, l2, p1, q1, p2, q2, rfl⟩ := hr
  have ok1 := h.ok p1 (fun x => (sel x).lo) fun x hx => by have := hp x hx; omega
  have ok2 := h.ok p2 (fun x => (sel x).hi) fun x hx => by have := hp x hx; omega
  have e1 : xs.length = l1.length := p1.length_eq.symm
  have e2 : xs.length = l2.length := p2.length_eq.symm
  obtain ⟨_, lo1, k, hk, lo2⟩ := cLo_spec (f := mixP l1 fun x => (sel x).lo) xs.length
  have hn := cHi_neg (mixP l2 fun x => (sel x).hi) (xs.length + 1)
  obtain ⟨_, hi1, k', hk', hi2⟩ := cLo_spec (f := fun k => ((mixP l2 (fun x => (sel x).hi) k).1, -(mixP l2 (fun x => (sel x).hi) k).2)) xs.length
  dsimp only at hi1 hi2 ⊢
  rw [hn]
  dsimp only
  have b1 := mix_between (pl := fun x => (sel x).lo) (a := a) (b := b) ok1.w (fun k hk => by have := hp _ (ok1.w k hk); exact ⟨this.1, by omega⟩) k (by omega)
  have b2 := mix_between (pl := fun x => (sel x).hi) (a := a) (b := b) ok2.w (fun k hk => by have := hp _ (ok2.w k hk); exact ⟨by omega, this.2.2⟩) k' (by omega)
  obtain ⟨⟨m1, _⟩, _⟩ := ok1.mix k (by omega)
  obtain ⟨⟨m2, _⟩, _⟩ := ok2.mix k' (by omega)
  have d1 := div_between m1 b1.1 b1.2
  have d2 := div_between (a := -b) (b := -a) (M := -(mixP l2 (fun x => (sel x).hi) k').2) m2 (by rw [Int.neg_mul]; omega) (by rw [Int.neg_mul]; omega)
  -- the least weights alone: one mix of each order has the same mass
  have s1 := lo1 0 (Nat.zero_le _)
  have s2 := hi1 0 (Nat.zero_le _)
  have key : (mixP l1 (fun x => (sel x).lo) 0).1 = (mixP l2 (fun x => (sel x).hi) 0).1 ∧ (mixP l1 (fun x => (sel x).lo) 0).2 ≤ (mixP l2 (fun x => (sel x).hi) 0).2 := by
    have f : ∀ (l : List Wt) (pl : Wt → Int), (mixP l pl 0).1 = (l.map fun x => x.mass.lo).sum ∧ (mixP l pl 0).2 = (l.map fun x => x.mass.lo * pl x).sum := by
      intro l pl
      have g : ∀ n, n ≤ l.length → (lowM l pl n).1 = ((l.take n).map fun x => x.mass.lo).sum ∧ (lowM l pl n).2 = ((l.take n).map fun x => x.mass.lo * pl x).sum := by
        intro n hn
        induction n with
        | zero => simp [lowM]
        | succ n ih =>
          obtain ⟨i1, i2⟩ := ih (by omega)
          have e : l.take (n + 1) = l.take n ++ [wv l n] := by
            rw [List.take_add_one]
            simp [wv, List.getElem?_eq_getElem (show n < l.length by omega)]
          rw [e]
          simp only [lowM, List.map_append, List.sum_append_int, i1, i2]
          simp
      have := g l.length (Nat.le_refl _)
      rw [List.take_length] at this
      exact this
    obtain ⟨f1, f2⟩ := f l1 fun x => (sel x).lo
    obtain ⟨f3, f4⟩ := f l2 fun x => (sel x).hi
    have pm : l1.Perm l2 := p1.trans p2.symm
    have e1 : (l1.map fun x => x.mass.lo).sum = (l2.map fun x => x.mass.lo).sum := perm_sum _ pm
    have e2 : (l1.map fun x => x.mass.lo * (sel x).lo).sum = (l2.map fun x => x.mass.lo * (sel x).lo).sum := perm_sum _ pm
    refine ⟨by rw [f1, f3, e1], ?_⟩
    rw [f2, f4, e2]
    have hmem : ∀ x ∈ l2, isWt x := fun x hx => by
      obtain ⟨k, hk, rfl⟩ := mem_wv hx
      exact ok2.w k hk
    exact sum_le_sum l2 fun x hx => Int.mul_le_mul_of_nonneg_left (hp x (hmem x hx)).2.1 (hmem x hx).1.1
  obtain ⟨⟨m0, _⟩, _⟩ := ok2.mix 0 (Nat.zero_le _)
  rw [key.1] at s1
  have t1 := Int.ediv_le_ediv (show 0 < (mixP l2 (fun x => (sel x).hi) 0).1 by omega) key.2
  have t2 := cdiv_ge (mixP l2 (fun x => (sel x).hi) 0).2 _ m0
  refine ⟨by omega, by omega, by omega⟩

end Go.Proofs.YteagdcgmmdiakaaGreat

namespace Go.Proofs
open Go.Shelf
def Tryz.lays189_ren : Go.Shelf.Ren := ⟨fun | 189 => 119 | 125 => 147 | 257 => 146 | 128 => 169 | 129 => 170 | 294 => 160 | 295 => 161 | 296 => 162 | 297 => 163 | 298 => 164 | 299 => 165 | 216 => 166 | 300 => 167 | 301 => 168 | 328 => 174 | 329 => 175 | 330 => 176 | 331 => 177 | 332 => 178 | 215 => 179 | 343 => 188 | n => n, fun | 28 => 39 | 3 => 3 | 46 => 184 | 0 => 0 | 51 => 205 | 53 => 207 | 4 => 4 | 183 => 198 | 182 => 197 | 131 => 202 | 5 => 5 | 9 => 9 | 218 => 212 | 222 => 216 | 228 => 223 | 229 => 110 | n => n, fun | n => n⟩
theorem Tryz.lays189 : Go.Proofs.Lays.n189 Tryz.prog Tryz.lays189_ren := {
  mixed := by kernel_rfl
  f125 := Tryz.func147.trans (congrArg some (by kernel_rfl))
  f128 := Tryz.func169.trans (congrArg some (by kernel_rfl))
  f129 := Tryz.func170.trans (congrArg some (by kernel_rfl))
  f189 := Tryz.func119.trans (congrArg some (by kernel_rfl))
  f215 := Tryz.func179.trans (congrArg some (by kernel_rfl))
  f216 := Tryz.func166.trans (congrArg some (by kernel_rfl))
  f257 := Tryz.func146.trans (congrArg some (by kernel_rfl))
  f294 := Tryz.func160.trans (congrArg some (by kernel_rfl))
  f295 := Tryz.func161.trans (congrArg some (by kernel_rfl))
  f296 := Tryz.func162.trans (congrArg some (by kernel_rfl))
  f297 := Tryz.func163.trans (congrArg some (by kernel_rfl))
  f298 := Tryz.func164.trans (congrArg some (by kernel_rfl))
  f299 := Tryz.func165.trans (congrArg some (by kernel_rfl))
  f300 := Tryz.func167.trans (congrArg some (by kernel_rfl))
  f301 := Tryz.func168.trans (congrArg some (by kernel_rfl))
  f328 := Tryz.func174.trans (congrArg some (by kernel_rfl))
  f329 := Tryz.func175.trans (congrArg some (by kernel_rfl))
  f330 := Tryz.func176.trans (congrArg some (by kernel_rfl))
  f331 := Tryz.func177.trans (congrArg some (by kernel_rfl))
  f332 := Tryz.func178.trans (congrArg some (by kernel_rfl))
  f343 := Tryz.func188.trans (congrArg some (by kernel_rfl))
  t0 := Tryz.underlying0
  a0 := Tryz.isAgg0
  z0 := Tryz.sizeOf0
  v0 := Tryz.zeroValue0
  t3 := Tryz.underlying3
  a3 := Tryz.isAgg3
  z3 := Tryz.sizeOf3
  v3 := Tryz.zeroValue3
  t4 := Tryz.underlying4
  a4 := Tryz.isAgg4
  z4 := Tryz.sizeOf4
  v4 := Tryz.zeroValue4
  t5 := Tryz.underlying5
  a5 := Tryz.isAgg5
  z5 := Tryz.sizeOf5
  v5 := Tryz.zeroValue5
  t9 := Tryz.underlying9
  a9 := Tryz.isAgg9
  z9 := Tryz.sizeOf9
  v9 := Tryz.zeroValue9
  t28 := Tryz.underlying39
  a28 := Tryz.isAgg39
  z28 := Tryz.sizeOf39
  v28 := Tryz.zeroValue39
  t46 := Tryz.underlying184
  a46 := Tryz.isAgg184
  z46 := Tryz.sizeOf184
  v46 := Tryz.zeroValue184
  t51 := Tryz.underlying205
  a51 := Tryz.isAgg205
  z51 := Tryz.sizeOf205
  v51 := Tryz.zeroValue205
  t53 := Tryz.underlying207
  a53 := Tryz.isAgg207
  z53 := Tryz.sizeOf207
  v53 := Tryz.zeroValue207
  t131 := Tryz.underlying202
  a131 := Tryz.isAgg202
  z131 := Tryz.sizeOf202
  v131 := Tryz.zeroValue202
  t182 := Tryz.underlying197
  a182 := Tryz.isAgg197
  z182 := Tryz.sizeOf197
  v182 := Tryz.zeroValue197
  t183 := Tryz.underlying198
  a183 := Tryz.isAgg198
  z183 := Tryz.sizeOf198
  v183 := Tryz.zeroValue198
  t218 := Tryz.underlying212
  a218 := Tryz.isAgg212
  z218 := Tryz.sizeOf212
  v218 := Tryz.zeroValue212
  t222 := Tryz.underlying216
  a222 := Tryz.isAgg216
  z222 := Tryz.sizeOf216
  v222 := Tryz.zeroValue216
  t228 := Tryz.underlying223
  a228 := Tryz.isAgg223
  z228 := Tryz.sizeOf223
  v228 := Tryz.zeroValue223
  t229 := Tryz.underlying110
  a229 := Tryz.isAgg110
  z229 := Tryz.sizeOf110
  v229 := Tryz.zeroValue110 }
open Go.Sort Go.RowKit in
theorem Tryz.slices_Sort_int (blk off cap : Nat) (zs : List Int) (w : World) (hH : Holds (Value.int .i64) w blk off zs.toArray) (hblk : blk < w.heap.size) (hsz : zs.length < 4611686018427387904) :
    Calls Tryz.prog 119 #[.slice (some ⟨blk, off, none⟩) zs.length cap] w fun e w' =>
      e = .returned (.tuple #[]) ∧ ∃ n os, w' = grow (putRow (Value.int .i64) (Sort.ahead w n) blk off (zs.mergeSort fun x y => decide (x ≤ y)).toArray) os := Any.slices_Sort_int Tryz.lays189 blk off cap zs w hH hblk hsz
def Tryz.lays113_ren : Go.Shelf.Ren := ⟨fun | 113 => 157 | n => n, fun | 28 => 39 | 3 => 3 | 4 => 4 | 9 => 9 | 20 => 20 | 0 => 0 | n => n, fun | n => n⟩
theorem Tryz.lays113 : Go.Proofs.Lays.n113 Tryz.prog Tryz.lays113_ren := {
  mixed := by kernel_rfl
  f113 := Tryz.func157.trans (congrArg some (by kernel_rfl))
  t0 := Tryz.underlying0
  a0 := Tryz.isAgg0
  z0 := Tryz.sizeOf0
  v0 := Tryz.zeroValue0
  t3 := Tryz.underlying3
  a3 := Tryz.isAgg3
  z3 := Tryz.sizeOf3
  v3 := Tryz.zeroValue3
  t4 := Tryz.underlying4
  a4 := Tryz.isAgg4
  z4 := Tryz.sizeOf4
  v4 := Tryz.zeroValue4
  t9 := Tryz.underlying9
  a9 := Tryz.isAgg9
  z9 := Tryz.sizeOf9
  v9 := Tryz.zeroValue9
  t20 := Tryz.underlying20
  a20 := Tryz.isAgg20
  z20 := Tryz.sizeOf20
  v20 := Tryz.zeroValue20
  t28 := Tryz.underlying39
  a28 := Tryz.isAgg39
  z28 := Tryz.sizeOf39
  v28 := Tryz.zeroValue39 }
open Go.Lib in
theorem Tryz.slices_Max_int (b off n c : Nat) (zs : List Int) (w : World) (hn : 0 < n) (hz : n ≤ zs.length) (hbig : n ≤ 9223372036854775807) (hc : ∀ j, j < zs.length → w.cell? ⟨b, off + j, none⟩ = some (.int .i64 (zs.getD j 0))) :
    Calls Tryz.prog 157 #[.slice (some ⟨b, off, none⟩) n c] w fun e w' => e = .returned (.int .i64 (Lib.maxOf (zs.take n))) ∧ w' = w := Any.slices_Max_int Tryz.lays113 b off n c zs w hn hz hbig hc
def Tryz.lays114_ren : Go.Shelf.Ren := ⟨fun | 114 => 156 | n => n, fun | 28 => 39 | 3 => 3 | 4 => 4 | 9 => 9 | 20 => 20 | 0 => 0 | n => n, fun | n => n⟩
theorem Tryz.lays114 : Go.Proofs.Lays.n114 Tryz.prog Tryz.lays114_ren := {
  mixed := by kernel_rfl
  f114 := Tryz.func156.trans (congrArg some (by kernel_rfl))
  t0 := Tryz.underlying0
  a0 := Tryz.isAgg0
  z0 := Tryz.sizeOf0
  v0 := Tryz.zeroValue0
  t3 := Tryz.underlying3
  a3 := Tryz.isAgg3
  z3 := Tryz.sizeOf3
  v3 := Tryz.zeroValue3
  t4 := Tryz.underlying4
  a4 := Tryz.isAgg4
  z4 := Tryz.sizeOf4
  v4 := Tryz.zeroValue4
  t9 := Tryz.underlying9
  a9 := Tryz.isAgg9
  z9 := Tryz.sizeOf9
  v9 := Tryz.zeroValue9
  t20 := Tryz.underlying20
  a20 := Tryz.isAgg20
  z20 := Tryz.sizeOf20
  v20 := Tryz.zeroValue20
  t28 := Tryz.underlying39
  a28 := Tryz.isAgg39
  z28 := Tryz.sizeOf39
  v28 := Tryz.zeroValue39 }
open Go.Lib in
theorem Tryz.slices_Min_int (b off n c : Nat) (zs : List Int) (w : World) (hn : 0 < n) (hz : n ≤ zs.length) (hbig : n ≤ 9223372036854775807) (hc : ∀ j, j < zs.length → w.cell? ⟨b, off + j, none⟩ = some (.int .i64 (zs.getD j 0))) :
    Calls Tryz.prog 156 #[.slice (some ⟨b, off, none⟩) n c] w fun e w' => e = .returned (.int .i64 (Lib.minOf (zs.take n))) ∧ w' = w := Any.slices_Min_int Tryz.lays114 b off n c zs w hn hz hbig hc
def Tryz.laysNm220_ren : Go.Shelf.Ren := ⟨fun | 20 => 120 | n => n, fun | 22 => 39 | 3 => 3 | 4 => 4 | 0 => 0 | n => n, fun | n => n⟩
theorem Tryz.laysNm220 : Go.Proofs.Lays2.n20 Tryz.prog Tryz.laysNm220_ren := {
  mixed := by kernel_rfl
  f20 := Tryz.func120.trans (congrArg some (by kernel_rfl))
  t0 := Tryz.underlying0
  a0 := Tryz.isAgg0
  z0 := Tryz.sizeOf0
  v0 := Tryz.zeroValue0
  t3 := Tryz.underlying3
  a3 := Tryz.isAgg3
  z3 := Tryz.sizeOf3
  v3 := Tryz.zeroValue3
  t4 := Tryz.underlying4
  a4 := Tryz.isAgg4
  z4 := Tryz.sizeOf4
  v4 := Tryz.zeroValue4
  t22 := Tryz.underlying39
  a22 := Tryz.isAgg39
  z22 := Tryz.sizeOf39
  v22 := Tryz.zeroValue39
  i3 := by kernel_rfl }
open Go.RowKit Go.Lib Go.Sort in
theorem Tryz.slices_Compact_int (blk off cap : Nat) (zs : List Int) (w : World) (hH : Holds (Value.int .i64) w blk off zs.toArray) (hsz : zs.length ≤ 9223372036854775807) (hcap : zs.length ≤ cap) :
    Calls Tryz.prog 120 #[.slice (some ⟨blk, off, none⟩) zs.length cap] w fun e w' => e = .returned (.slice (some ⟨blk, off, none⟩) (Lib.compact zs).length cap) ∧ ∃ q, w' = putRow (Value.int .i64) (Sort.ahead w q) blk off (Lib.compact zs ++ List.replicate (zs.length - (Lib.compact zs).length) 0).toArray := Any.slices_Compact_int Tryz.laysNm220 blk off cap zs w hH hsz hcap
end Go.Proofs

namespace Go.Proofs.YteagdcgmmdiakaaGreat
set_option linter.unusedSimpArgs false
set_option linter.unusedVariables false
open Go.RowKit
set_option maxRecDepth 100000
set_option maxHeartbeats 4000000
attribute [local go_sem] Instr.field asAgg Soft.upon Soft.upon0 Soft.stepC Soft.BW.cell_if Soft.BW.frozen_if Soft.cell_alloc_if Soft.frozen_alloc_if
attribute [local irreducible] Soft.wpSoft Soft.wpMix


theorem four_cells {w : World} {g : Nat} {a b c d : Int} {t : TypeId} (h : HasBlk w g #[.int .i64 a, .int .i64 b, .int .i64 c, .int .i64 d] t) : ∀ j, j < [a, b, c, d].length → w.cell? ⟨g, 0 + j, none⟩ = some (.int .i64 ([a, b, c, d].getD j 0)) := fun j hj => by
  rw [Nat.zero_add]
  match j, hj with
  | 0, _ => exact h.cell 0
  | 1, _ => exact h.cell 1
  | 2, _ => exact h.cell 2
  | 3, _ => exact h.cell 3
theorem min_four (a b c d : Int) : Lib.minOf ([a, b, c, d].take 4) = min (min a b) (min c d) := by
  simp [Lib.minOf]
theorem max_four (a b c d : Int) : Lib.maxOf ([a, b, c, d].take 4) = max (max a b) (max c d) := by
  simp [Lib.maxOf]

theorem cond_product (a b : Rg) (w : World) (h1 : -4000000000000000000 ≤ a.lo * b.lo ∧ a.lo * b.lo ≤ 4000000000000000000) (h2 : -4000000000000000000 ≤ a.lo * b.hi ∧ a.lo * b.hi ≤ 4000000000000000000) (h3 : -4000000000000000000 ≤ a.hi * b.lo ∧ a.hi * b.lo ≤ 4000000000000000000) (h4 : -4000000000000000000 ≤ a.hi * b.hi ∧ a.hi * b.hi ≤ 4000000000000000000) :
    Calls Tryz.prog 143 #[.agg #[.int .i64 (a).lo, .int .i64 (a).hi], .agg #[.int .i64 (b).lo, .int .i64 (b).hi]] w fun e w' => e = .returned (.agg #[.int .i64 (prodR a b).lo, .int .i64 (prodR a b).hi]) ∧ Below w.heap.size w w' := by
  obtain ⟨h11, h12⟩ := h1
  obtain ⟨h21, h22⟩ := h2
  obtain ⟨h31, h32⟩ := h3
  obtain ⟨h41, h42⟩ := h4
  have HV := Lib.hid (show prodR a b = ⟨min (min (a.lo * b.lo) (a.lo * b.hi)) (min (a.hi * b.lo) (a.hi * b.hi)), max (max (a.lo * b.lo) (a.lo * b.hi)) (max (a.hi * b.lo) (a.hi * b.hi))⟩ from rfl)
  rw [HV.out]
  clear HV
  have CM := Lib.hid (fun (W : World) (g : Nat) (h : HasBlk W g #[.int .i64 (a.lo * b.lo), .int .i64 (a.lo * b.hi), .int .i64 (a.hi * b.lo), .int .i64 (a.hi * b.hi)] 3) => Tryz.slices_Min_int g 0 4 4 [a.lo * b.lo, a.lo * b.hi, a.hi * b.lo, a.hi * b.hi] W (by decide) (by simp) (by decide) (four_cells h))
  have CX := Lib.hid (fun (W : World) (g : Nat) (h : HasBlk W g #[.int .i64 (a.lo * b.lo), .int .i64 (a.lo * b.hi), .int .i64 (a.hi * b.lo), .int .i64 (a.hi * b.hi)] 3) => Tryz.slices_Max_int g 0 4 4 [a.lo * b.lo, a.lo * b.hi, a.hi * b.lo, a.hi * b.hi] W (by decide) (by simp) (by decide) (four_cells h))
  rw [min_four] at CM
  rw [max_four] at CX
  go_enter Tryz.func143, Tryz.ntmps143
  go_wp2_with (first | (go_at_call 156; (with_reducible refine (CM.out _ _ (by simp only [HasBlk, Soft.BW.heap_if, Soft.heap_alloc_if, Soft.heap_new, Soft.heap_new1, Soft.heap_new2, Soft.heap_new3, Soft.heap_new4, Soft.heap_new5])).mono ?_); rintro e w_ ⟨rfl, hw_⟩; subst w_) | (go_at_call 157; (with_reducible refine (CX.out _ _ (by simp only [HasBlk, Soft.BW.heap_if, Soft.heap_alloc_if, Soft.heap_new, Soft.heap_new1, Soft.heap_new2, Soft.heap_new3, Soft.heap_new4, Soft.heap_new5])).mono ?_); rintro e w_ ⟨rfl, hw_⟩; subst w_))
  refine bodyPost_ret (v := .agg #[.int .i64 (min (min (a.lo * b.lo) (a.lo * b.hi)) (min (a.hi * b.lo) (a.hi * b.hi))), .int .i64 (max (max (a.lo * b.lo) (a.lo * b.hi)) (max (a.hi * b.lo) (a.hi * b.hi)))]) (by simp [results, Tryz.results143, go_sem]) rfl ?_
  refine ⟨rfl, ?_⟩
  (with_reducible repeat (first | exact blr _ | refine bla ?_ _ | refine blw _ ?_ | refine bld ?_ | refine bln _ ?_ | refine bls ?_ _ | refine blt ?_))

theorem along_in {xs : List Wt} {V : Wt} (h : TotIs xs V) : -1000000 ≤ V.along.lo ∧ V.along.lo ≤ V.along.hi ∧ V.along.hi ≤ 1000000 :=
  centre_bd (by decide) (by decide) h.all (fun x hx => by obtain ⟨_, ⟨a, b, c⟩, _⟩ := hx; omega) h.along
theorem high_in {xs : List Wt} {V : Wt} (h : TotIs xs V) : 0 ≤ V.high.lo ∧ V.high.lo ≤ V.high.hi ∧ V.high.hi ≤ 1000000 :=
  centre_bd (by decide) (by decide) h.all (fun x hx => by obtain ⟨_, _, a, b, c⟩ := hx; omega) h.high

theorem cond_raised (S : Sh) (L : La) (V : Wt) (w : World) (hL : L.At w) (hi : LoadIn L) (hV : TotIs (allW S L) V) :
    Calls Tryz.prog 112 #[.agg #[.int .i64 (S).len, .slice ((S).dra).p ((S).dra).n ((S).dra).c, .slice ((S).hei).p ((S).hei).n ((S).hei).c, .slice ((S).cen).p ((S).cen).n ((S).cen).c, .slice ((S).tri).p ((S).tri).n ((S).tri).c, .slice ((S).flo).p ((S).flo).n ((S).flo).c, .slice ((S).cross).p ((S).cross).n ((S).cross).c, .slice ((S).sin).p ((S).sin).n ((S).sin).c, .slice ((S).shi).p ((S).shi).n ((S).shi).c, .int .i64 (((S).light).mass).lo, .int .i64 (((S).light).mass).hi, .int .i64 (((S).light).along).lo, .int .i64 (((S).light).along).hi, .int .i64 (((S).light).high).lo, .int .i64 (((S).light).high).hi], .agg #[.slice ((L).ws).p ((L).ws).n ((L).ws).c, .int .i64 ((L).sur).lo, .int .i64 ((L).sur).hi, .int .i64 ((L).shi).lo, .int .i64 ((L).shi).hi]] w fun e w' => e = .returned (.agg #[.int .i64 (raiR V L).lo, .int .i64 (raiR V L).hi]) ∧ Below w.heap.size w w' := by
  have CT := Lib.hid (fun W (hb : Below w.heap.size w W) => cond_total S L V W (hL.same hb) hi hV)
  obtain ⟨m1, m2, m3⟩ := mass_in hV
  obtain ⟨g1, g2, g3⟩ := high_in hV
  obtain ⟨s1, s2, s3⟩ := hi.sur
  obtain ⟨q1, q2⟩ := quoR_bd (a := L.sur) (b := V.mass) (K := 1000000000000) (by decide) (by omega) s2 s3 m1 (by omega)
  have q3 := quoR_le (b := V.mass) s2 m1
  have CQ := Lib.hid (fun W => cond_quotient L.sur V.mass W (by unfold MidR; omega) ⟨m1, by omega⟩)
  have CP := Lib.hid (fun W => cond_plus V.high (quoR L.sur V.mass) W ⟨by omega, by omega⟩ ⟨by omega, by omega⟩ ⟨by omega, by omega⟩ ⟨by omega, by omega⟩)
  have HR := Lib.hid (show raiR V L = addR V.high (quoR L.sur V.mass) from rfl)
  clear hL hi hV m1 m2 m3 g1 g2 g3 s1 s2 s3 q1 q2 q3
  rw [HR.out]
  obtain ⟨v0, v1, v2, v3, v4, v5, v6, v7, v8, v9, v10, v11, v12, v13, v14, HS0, E1, E2, E3, E4, E5, E6, E7, E8, E9⟩ := ship_letters S
  rw [HS0.out] at CT ⊢
  generalize quoR L.sur V.mass = q at *
  generalize addR V.high q = r at *
  generalize Value.slice L.ws.p L.ws.n L.ws.c = x0 at CT ⊢
  go_enter Tryz.func112, Tryz.ntmps112
  go_wp2_with ((go_at_call 117; (with_reducible refine (CT.out _ (by (with_reducible repeat (first | exact blr _ | refine bla ?_ _ | refine blw _ ?_ | refine bld ?_ | refine bln _ ?_ | refine bls ?_ _ | refine blt ?_)))).mono ?_); rintro e w_ ⟨rfl, hb_⟩; obtain ⟨y1, rfl⟩ := Soft.BW.mk hb_; clear hb_))
  (refine Soft.region0 [0, 1, 2, 3, 4, 5, 6, 7] [8] (by kernel_rfl) (by kernel_rfl) (by kernel_rfl) (by kernel_rfl) ?_; change Soft.wpSoft _ _ _ _ _ [_, _, _, _, _, _, _, _] _; (repeat (refine Soft.soft_step (fun K hK => ?_); go_simp; (try go_bits); first | (refine hK _ ?_; clear hK K) | (apply Exists.intro; refine ⟨fun x => ?_, hK _ ?_⟩; (first | (go_at_call 116; with_reducible exact (CQ.out _)) | (go_at_call 61; with_reducible exact (CP.out _))); clear hK K))); refine Soft.soft_nil ?_; intro xw; change wpList _ _ _ [_] _ _)
  go_wp2_with fail
  refine bodyPost_ret (v := .agg #[.int .i64 (r).lo, .int .i64 (r).hi]) (by simp [results, Tryz.results112, go_sem]) rfl ?_
  refine ⟨rfl, ?_⟩
  (with_reducible repeat (first | exact blr _ | refine bla ?_ _ | refine blw _ ?_ | refine bld ?_ | refine bln _ ?_ | refine bls ?_ _ | refine blt ?_))

end Go.Proofs.YteagdcgmmdiakaaGreat

namespace Go.Proofs.YteagdcgmmdiakaaGreat
set_option linter.unusedSimpArgs false
set_option linter.unusedVariables false
open Go.RowKit

/-- A table qs within another one ps: the same places, its numbers within. -/
structure TabIn (ps qs : List Pt) : Prop where
  len : qs.length = ps.length
  at_ : ∀ j, j < ps.length → (pt qs j).x = (pt ps j).x ∧ (pt ps j).lo ≤ (pt qs j).lo ∧ (pt qs j).lo ≤ (pt qs j).hi ∧ (pt qs j).hi ≤ (pt ps j).hi
theorem TabIn.ends {ps qs : List Pt} (h : TabIn ps qs) (hp : 1 ≤ ps.length) : firstX qs = firstX ps ∧ lastX qs = lastX ps := by
  refine ⟨(h.at_ 0 (by omega)).1, ?_⟩
  show (pt qs (qs.length - 1)).x = _
  rw [h.len]
  exact (h.at_ _ (by omega)).1

theorem seg_tab {a b c d : Pt} (hc : c.x = a.x) (hd : d.x = b.x) (hab : a.x < b.x) (h1 : a.lo ≤ c.lo) (h2 : b.lo ≤ d.lo) (h3 : c.hi ≤ a.hi) (h4 : d.hi ≤ b.hi) {x : Int} (h5 : a.x ≤ x) (h6 : x ≤ b.x) :
    segLo a b x ≤ segLo c d x ∧ segHi c d x ≤ segHi a b x := by
  have k1 := lin_mono a b a.lo b.lo c.lo d.lo x h5 h6 h1 h2
  have k2 := lin_mono a b c.hi d.hi a.hi b.hi x h5 h6 h3 h4
  unfold lin at k1 k2
  unfold segLo segHi
  rw [hc, hd]
  generalize a.lo * (b.x - x) + b.lo * (x - a.x) = p1 at *
  generalize c.lo * (b.x - x) + d.lo * (x - a.x) = p2 at *
  generalize a.hi * (b.x - x) + b.hi * (x - a.x) = p3 at *
  generalize c.hi * (b.x - x) + d.hi * (x - a.x) = p4 at *
  have e1 := Int.ediv_le_ediv (show 0 < b.x - a.x by omega) k1
  have e2 := Int.ediv_le_ediv (show 0 < b.x - a.x by omega) (show -p3 ≤ -p4 by omega)
  exact ⟨e1, by omega⟩

theorem upto_pt (f : Nat → Pt) (n k : Nat) (h : k < n) : pt (upto f n) k = f k := by
  simp [pt, upto, h]
theorem tabIn_side {ps : List Pt} (h : TabOk ps) (up : Bool) : TabIn ps (sideP ps up) := by
  refine ⟨upto_length _ _, fun j hj => ?_⟩
  obtain ⟨_, _, a, _⟩ := h.all j hj
  unfold sideP
  rw [upto_pt _ _ _ hj]
  unfold sidePt
  cases up
  · exact ⟨rfl, Int.le_refl _, Int.le_refl _, a⟩
  · exact ⟨rfl, a, Int.le_refl _, Int.le_refl _⟩
theorem tabIn_curve {ps : List Pt} (h : TabOk ps) (xs : List Int) (i : Nat) : TabIn ps (curveP ps xs i) := by
  refine ⟨upto_length _ _, fun j hj => ?_⟩
  obtain ⟨_, _, a, _⟩ := h.all j hj
  unfold curveP
  rw [upto_pt _ _ _ hj]
  have := oneN_in (r := ⟨(pt ps j).lo, (pt ps j).hi⟩) a xs (i + j)
  exact ⟨rfl, this.1, Int.le_refl _, this.2⟩
theorem inS_one {r : Rg} (h : r.lo ≤ r.hi) (xs : List Int) (i : Nat) : InS (oneR r xs i) r := oneN_in h xs i

end Go.Proofs.YteagdcgmmdiakaaGreat

namespace Go.Proofs.YteagdcgmmdiakaaGreat
set_option linter.unusedSimpArgs false
set_option linter.unusedVariables false
open Go.RowKit

/-- What a table of one point has there. -/
theorem atS_one {ps : List Pt} (hok : TabOk ps) (h1 : ps.length = 1) {x : Int} (ha : firstX ps ≤ x) (hb : x ≤ lastX ps) : x = (pt ps 0).x ∧ atS ps x = ⟨(pt ps 0).lo, (pt ps 0).hi⟩ := by
  have e : lastX ps = (pt ps 0).x := by show (pt ps (ps.length - 1)).x = _; rw [h1]
  refine ⟨by have : firstX ps = (pt ps 0).x := rfl; omega, ?_⟩
  unfold atS pieceAt pcAt
  rw [if_pos h1]
  exact if_pos rfl

theorem at_in {ps qs : List Pt} (ht : TabOk ps) (ht' : TabOk qs) (h : TabIn ps qs) {x : Int} (h1 : firstX ps ≤ x) (h2 : x ≤ lastX ps) : InS (atS qs x) (atS ps x) := by
  obtain ⟨e1, e2⟩ := h.ends ht.pos
  by_cases one : ps.length = 1
  · obtain ⟨_, a⟩ := atS_one ht one h1 h2
    obtain ⟨_, b⟩ := atS_one ht' (by rw [h.len]; exact one) (x := x) (by omega) (by omega)
    obtain ⟨_, z1, _, z2⟩ := h.at_ 0 (by omega)
    rw [a, b]
    exact ⟨z1, z2⟩
  · have two : 2 ≤ ps.length := by have := ht.pos; omega
    obtain ⟨k, k1, k3, k4⟩ := piece_of ht two h1 h2
    have hlt := ht.lt (k + 1) k (by omega) k1
    obtain ⟨a1, a2, _, a3⟩ := h.at_ k (by omega)
    obtain ⟨b1, b2, _, b3⟩ := h.at_ (k + 1) k1
    have e := h.len
    rw [atS_seg ht k1 k3 k4, atS_seg (k := k) ht' (by omega) (by omega) (by omega)]
    exact seg_tab a1 b1 hlt a2 b2 a3 b3 k3 k4

/-- The values over a range have those at each of its places. -/
theorem over_has1 {ps : List Pt} (hok : TabOk ps) {r : Rg} (h1 : firstX ps ≤ r.lo) (h3 : r.hi ≤ lastX ps) {x : Int} (hx1 : r.lo ≤ x) (hx2 : x ≤ r.hi) :
    (overS ps r).lo ≤ (atS ps x).lo ∧ (atS ps x).hi ≤ (overS ps r).hi := by
  obtain ⟨a, b, c⟩ := overG_has hok h1 (by omega) h3 ps.length (Nat.le_refl _)
  change (overS ps r).lo ≤ _ ∧ _ ≤ (overS ps r).hi at a
  change (overS ps r).lo ≤ _ ∧ _ ≤ (overS ps r).hi at b
  change ∀ j, j < ps.length → _ → _ → (overS ps r).lo ≤ _ ∧ _ ≤ (overS ps r).hi at c
  by_cases one : ps.length = 1
  · obtain ⟨e1, _⟩ := atS_one hok one (x := x) (by omega) (by omega)
    obtain ⟨e2, _⟩ := atS_one hok one (x := r.lo) (by omega) (by omega)
    have : x = r.lo := by omega
    rw [this]; exact a
  have two : 2 ≤ ps.length := by have := hok.pos; omega
  obtain ⟨k, k1, k2, k3⟩ := piece_of hok two (show firstX ps ≤ x by omega) (show x ≤ lastX ps by omega)
  have hlt := hok.lt (k + 1) k (by omega) k1
  have key : ∀ y, (pt ps k).x ≤ y → y ≤ (pt ps (k + 1)).x → (overS ps r).lo ≤ (atS ps y).lo ∧ (atS ps y).hi ≤ (overS ps r).hi → (overS ps r).lo ≤ segLo (pt ps k) (pt ps (k + 1)) y ∧ segHi (pt ps k) (pt ps (k + 1)) y ≤ (overS ps r).hi := fun y e1 e2 h => by
    rw [atS_seg hok k1 e1 e2] at h; exact h
  rw [atS_seg hok k1 k2 k3]
  have hs : ∃ s, (pt ps k).x ≤ s ∧ s ≤ x ∧ (overS ps r).lo ≤ (atS ps s).lo ∧ (atS ps s).hi ≤ (overS ps r).hi := by
    by_cases e : (pt ps k).x < r.lo
    · exact ⟨r.lo, by omega, hx1, a⟩
    · exact ⟨(pt ps k).x, by omega, k2, c k (by omega) (by omega) (by omega)⟩
  have he : ∃ e, x ≤ e ∧ e ≤ (pt ps (k + 1)).x ∧ (overS ps r).lo ≤ (atS ps e).lo ∧ (atS ps e).hi ≤ (overS ps r).hi := by
    by_cases e : r.hi < (pt ps (k + 1)).x
    · exact ⟨r.hi, hx2, by omega, b⟩
    · exact ⟨(pt ps (k + 1)).x, k3, by omega, c (k + 1) k1 (by omega) (by omega)⟩
  obtain ⟨s, s1, s2, s3⟩ := hs
  obtain ⟨e, e1, e2, e3⟩ := he
  exact seg_between _ _ hlt s x e s2 e1 _ _ (key s s1 (by omega) s3) (key e (by omega) e2 e3)

theorem overS_nar {ps qs : List Pt} (ht : TabOk ps) (ht' : TabOk qs) (h : TabIn ps qs) {r s : Rg} (h1 : firstX ps ≤ r.lo) (h3 : r.hi ≤ lastX ps) (hs : s.lo ≤ s.hi) (hi : InS s r) : InS (overS qs s) (overS ps r) := by
  obtain ⟨e1, e2⟩ := h.ends ht.pos
  obtain ⟨i1, i2⟩ := hi
  have key : ∀ x, s.lo ≤ x → x ≤ s.hi → (overS ps r).lo ≤ (atS qs x).lo ∧ (atS qs x).hi ≤ (overS ps r).hi := fun x a b => by
    have o := over_has1 ht h1 h3 (x := x) (by omega) (by omega)
    have t := at_in ht ht' h (x := x) (by omega) (by omega)
    exact ⟨by have := o.1; have := t.1; omega, by have := o.2; have := t.2; omega⟩
  exact overG_cut ht' (by omega) hs (by omega) _ _ (key _ (Int.le_refl _) hs) (key _ hs (Int.le_refl _)) (fun j _ a b => key _ a b) _ (Nat.le_refl _)

/-- Over: where it has a value, so has what is narrower, and that lies within. -/
theorem overE_nar {ps qs : List Pt} (ht : TabOk ps) (ht' : TabOk qs) (h : TabIn ps qs) {r s : Rg} (hs : s.lo ≤ s.hi) (hi : InS s r) (h0 : (overE ps r).2 = 0) : (overE qs s).2 = 0 ∧ InS (overE qs s).1 (overE ps r).1 := by
  obtain ⟨e1, e2⟩ := h.ends ht.pos
  unfold overE at h0 ⊢
  rw [if_pos ht] at h0
  rw [if_pos ht', if_pos ht]
  by_cases hr : rangeErr r = 0
  · rw [if_pos hr] at h0
    by_cases hin : firstX ps ≤ r.lo ∧ r.hi ≤ lastX ps
    · have hb := ht.ends
      obtain ⟨i1, i2⟩ := hi
      have hr' : rangeErr s = 0 := by
        rcases rangeErr_cases s with ⟨a, _⟩ | ⟨_, a⟩
        · exact a
        · exact absurd ⟨hs, by omega, by omega⟩ a
      rw [if_pos hr, if_pos hin, if_pos hr', if_pos ⟨by omega, by omega⟩]
      exact ⟨rfl, overS_nar ht ht' h hin.1 hin.2 hs ⟨i1, i2⟩⟩
    · rw [if_neg hin] at h0; cases h0
  · rw [if_neg hr] at h0; cases h0

theorem overS_le {ps : List Pt} (hok : TabOk ps) {r : Rg} (h1 : firstX ps ≤ r.lo) (h2 : r.lo ≤ r.hi) (h3 : r.hi ≤ lastX ps) : (overS ps r).lo ≤ (overS ps r).hi := by
  have a := over_has1 hok h1 h3 (Int.le_refl _) h2
  have b := atS_le hok h1 (show r.lo ≤ lastX ps by omega)
  omega
/-- The values of a table lie within its limits. -/
theorem atS_bd {ps : List Pt} {lo hi most : Int} (h : isTab ps lo hi most) {x : Int} (h1 : firstX ps ≤ x) (h2 : x ≤ lastX ps) : lo ≤ (atS ps x).lo ∧ (atS ps x).lo ≤ (atS ps x).hi ∧ (atS ps x).hi ≤ hi := by
  have a := atS_in h.1 h1 h2 lo hi (fun k hk => by
    obtain ⟨c, d, _⟩ := h.2 k hk
    obtain ⟨_, _, e, _⟩ := h.1.all k hk
    exact ⟨c, d⟩)
  exact ⟨a.a, a.b, a.c⟩
theorem overS_bd {ps : List Pt} {lo hi most : Int} (h : isTab ps lo hi most) {r : Rg} (h1 : firstX ps ≤ r.lo) (h2 : r.lo ≤ r.hi) (h3 : r.hi ≤ lastX ps) : lo ≤ (overS ps r).lo ∧ (overS ps r).lo ≤ (overS ps r).hi ∧ (overS ps r).hi ≤ hi := by
  have k : ∀ x, firstX ps ≤ x → x ≤ lastX ps → lo ≤ (atS ps x).lo ∧ (atS ps x).hi ≤ hi := fun x a b => by have := atS_bd h a b; exact ⟨this.1, this.2.2⟩
  obtain ⟨a, b⟩ := overG_cut h.1 h1 h2 h3 lo hi (k _ h1 (by omega)) (k _ (by omega) h3) (fun j hj a b => k _ (by omega) (by omega)) _ (Nat.le_refl _)
  exact ⟨a, overS_le h.1 h1 h2 h3, b⟩
theorem overE_bd {ps : List Pt} {lo hi most : Int} (h : isTab ps lo hi most) (r : Rg) (h0 : (overE ps r).2 = 0) : lo ≤ (overE ps r).1.lo ∧ (overE ps r).1.lo ≤ (overE ps r).1.hi ∧ (overE ps r).1.hi ≤ hi := by
  unfold overE at h0 ⊢
  rw [if_pos h.1] at h0 ⊢
  rcases rangeErr_cases r with ⟨a, b, _⟩ | ⟨a, _⟩
  · rw [if_pos a] at h0 ⊢
    by_cases hin : firstX ps ≤ r.lo ∧ r.hi ≤ lastX ps
    · rw [if_pos hin]
      exact overS_bd h hin.1 b hin.2
    · rw [if_neg hin] at h0; cases h0
  · rw [if_neg (by omega)] at h0; cases h0

end Go.Proofs.YteagdcgmmdiakaaGreat
