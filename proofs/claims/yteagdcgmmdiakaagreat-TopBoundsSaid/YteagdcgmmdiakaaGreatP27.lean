/-
  Top: told.
  Top: narrows.
  TopBounds' last loop: the margin's points.
  TopBounds' margins.
  TopBounds' facts.
  TopBounds: what is told.
  TopBounds: the weights.
  Conditions: each theorem's own premises.
-/
import Derived.Test.YteagdcgmmdiakaaGreatP23
import Derived.Test.YteagdcgmmdiakaaGreatP26
import Derived.WalkMore
import Derived.Test.YteagdcgmmdiakaaGreatP17
namespace Go.Proofs.YteagdcgmmdiakaaGreat
set_option linter.unusedSimpArgs false
set_option linter.unusedVariables false
open Go.RowKit
set_option maxRecDepth 100000
set_option maxHeartbeats 8000000
attribute [local go_sem] Instr.field asAgg Soft.upon Soft.upon0 Soft.stepC Soft.BW.cell_if Soft.BW.frozen_if Soft.cell_alloc_if Soft.frozen_alloc_if
attribute [local irreducible] Soft.wpSoft Soft.wpMix
/-- The load of parts. -/
structure LaIs (P : Pa) (L : La) : Prop where
  ws : L.ws.xs = (loadE P.holds.xs P.fills.xs P.tanks.xs P.levels.xs).2.ws
  sur : L.sur = (loadE P.holds.xs P.fills.xs P.tanks.xs P.levels.xs).2.sur
  shi : L.shi = (loadE P.holds.xs P.fills.xs P.tanks.xs P.levels.xs).2.shi
/-- What the facts come to, whatever the load. -/
def FaR (S : Sh) (most : Int) (L : La) (w : World) (e : Ending) (w' : World) : Prop :=
  ∃ (q : Fs) (er : Int), e = .returned (.tuple #[.slice q.p q.n q.c, .int .i64 er]) ∧ q.At w' ∧ Below w.heap.size w w' ∧ ((¬LoadIn L ∧ er = 32) ∨ (LoadIn L ∧ er = 0 ∧ ∃ V, TotIs (allW S L) V ∧ q.xs = facE S L V most))
theorem mSum_ge {xs : List Wt} : ∀ k, (∀ j, j < k + 1 → isWt (wv xs j)) → (wv xs 0).mass.lo ≤ (mSum xs (k + 1)).lo
  | 0, _ => by
    unfold mSum mSum addR
    dsimp only
    omega
  | k + 1, h => by
    have ih := mSum_ge (xs := xs) k (fun j hj => h j (by omega))
    obtain ⟨⟨w1, w2, w3⟩, _, _⟩ := h (k + 1) (by omega)
    rw [show mSum xs (k + 1 + 1) = addR (mSum xs (k + 1)) (wv xs (k + 1)).mass from rfl]
    unfold addR
    dsimp only
    omega
theorem allW_ok {S : Sh} {L : La} (ok : ShipOk S) (hi : LoadIn L) : AllWt (allW S L) := by
  have hw : ∀ k, k < (allW S L).length → isWt (wv (allW S L) k) := fun k hk => by
    match k, hk with
    | 0, _ => exact ok.light
    | k + 1, hk => exact hi.w k (by simpa [allW] using hk)
  have hl : (allW S L).length = L.ws.xs.length + 1 := rfl
  refine ⟨by have := hi.n; omega, hw, ?_⟩
  have h1 := mSum_ge (xs := allW S L) L.ws.xs.length (fun j hj => hw j (by omega))
  have h2 := ok.mass
  rw [hl]
  change S.light.mass.lo ≤ _ at h1
  omega
theorem cond_Facts_any (S : Sh) (L : La) (most : Int) (w : World) (hS : S.At w) (hL : L.At w) (ok : ShipOk S) (hm : 0 ≤ most ∧ most ≤ 900) :
    Calls Tryz.prog 44 #[.agg #[.int .i64 (S).len, .slice ((S).dra).p ((S).dra).n ((S).dra).c, .slice ((S).hei).p ((S).hei).n ((S).hei).c, .slice ((S).cen).p ((S).cen).n ((S).cen).c, .slice ((S).tri).p ((S).tri).n ((S).tri).c, .slice ((S).flo).p ((S).flo).n ((S).flo).c, .slice ((S).cross).p ((S).cross).n ((S).cross).c, .slice ((S).sin).p ((S).sin).n ((S).sin).c, .slice ((S).shi).p ((S).shi).n ((S).shi).c, .int .i64 (((S).light).mass).lo, .int .i64 (((S).light).mass).hi, .int .i64 (((S).light).along).lo, .int .i64 (((S).light).along).hi, .int .i64 (((S).light).high).lo, .int .i64 (((S).light).high).hi], .agg #[.slice ((L).ws).p ((L).ws).n ((L).ws).c, .int .i64 ((L).sur).lo, .int .i64 ((L).sur).hi, .int .i64 ((L).shi).lo, .int .i64 ((L).shi).hi], .int .i64 most] w (FaR S most L w) := by
  by_cases hi : LoadIn L
  · obtain ⟨V, hV⟩ := tot_ex (allW_ok ok hi)
    refine (cond_Facts S L V most w ⟨hS, hL, ok, hi, hV⟩ hm).mono ?_
    rintro e w' ⟨q, rfl, hq, hx, hb⟩
    exact ⟨q, 0, rfl, hq, hb, .inr ⟨hi, rfl, V, hV, hx⟩⟩
  · have h32 : moErr L most = 32 := by unfold moErr; rw [ldErr_bad hi]; rfl
    have h := cond_Facts_bad S L most w hS hL ok (by rw [h32]; decide)
    rw [h32] at h
    refine h.mono ?_
    rintro e w' ⟨q, rfl, hq, hx, hb⟩
    exact ⟨q, 32, rfl, hq, hb, .inl ⟨hi, rfl⟩⟩
/-- What told tells. -/
def ToldPost (P : Pa) (w : World) (e : Ending) (w' : World) : Prop := ∃ L : La, LaIs P L ∧ FaR P.ship P.most L w e w'
theorem Top_told (P : Pa) (w : World) (hP : P.At w) (ok : PartsOk P) :
    Calls Tryz.prog 15 #[.agg #[.int .i64 ((P).ship).len, .slice (((P).ship).dra).p (((P).ship).dra).n (((P).ship).dra).c, .slice (((P).ship).hei).p (((P).ship).hei).n (((P).ship).hei).c, .slice (((P).ship).cen).p (((P).ship).cen).n (((P).ship).cen).c, .slice (((P).ship).tri).p (((P).ship).tri).n (((P).ship).tri).c, .slice (((P).ship).flo).p (((P).ship).flo).n (((P).ship).flo).c, .slice (((P).ship).cross).p (((P).ship).cross).n (((P).ship).cross).c, .slice (((P).ship).sin).p (((P).ship).sin).n (((P).ship).sin).c, .slice (((P).ship).shi).p (((P).ship).shi).n (((P).ship).shi).c, .int .i64 ((((P).ship).light).mass).lo, .int .i64 ((((P).ship).light).mass).hi, .int .i64 ((((P).ship).light).along).lo, .int .i64 ((((P).ship).light).along).hi, .int .i64 ((((P).ship).light).high).lo, .int .i64 ((((P).ship).light).high).hi, .slice ((P).holds).p ((P).holds).n ((P).holds).c, .slice ((P).fills).p ((P).fills).n ((P).fills).c, .slice ((P).tanks).p ((P).tanks).n ((P).tanks).c, .slice ((P).levels).p ((P).levels).n ((P).levels).c, .int .i64 (P).most]] w (ToldPost P w) := by
  have CL := Lib.hid (fun W (hb : Below w.heap.size w W) => hold_Load P.holds P.fills P.tanks P.levels W (hP.same hb).holds (hP.same hb).fills (hP.same hb).tanks (hP.same hb).levels)
  have CF := Lib.hid (fun W (hb : Below w.heap.size w W) (L : La) (hL : L.At W) => cond_Facts_any P.ship L P.most W ((hP.same hb).ship) hL ok.ship ⟨ok.most0, ok.most1⟩)
  have HLI := Lib.hid (fun (L : La) (a : L.ws.xs = (loadE P.holds.xs P.fills.xs P.tanks.xs P.levels.xs).2.ws) (b : L.sur = (loadE P.holds.xs P.fills.xs P.tanks.xs P.levels.xs).2.sur) (c : L.shi = (loadE P.holds.xs P.fills.xs P.tanks.xs P.levels.xs).2.shi) => (⟨a, b, c⟩ : LaIs P L))
  clear hP ok
  generalize loadE P.holds.xs P.fills.xs P.tanks.xs P.levels.xs = E at CL HLI
  obtain ⟨E1, ⟨El, ⟨Es0, Es1⟩, ⟨Eh0, Eh1⟩⟩⟩ := E
  dsimp only at CL HLI
  generalize Value.int .i64 P.ship.len = v0 at CF ⊢
  generalize Value.slice P.ship.dra.p P.ship.dra.n P.ship.dra.c = v1 at CF ⊢
  generalize Value.slice P.ship.hei.p P.ship.hei.n P.ship.hei.c = v2 at CF ⊢
  generalize Value.slice P.ship.cen.p P.ship.cen.n P.ship.cen.c = v3 at CF ⊢
  generalize Value.slice P.ship.tri.p P.ship.tri.n P.ship.tri.c = v4 at CF ⊢
  generalize Value.slice P.ship.flo.p P.ship.flo.n P.ship.flo.c = v5 at CF ⊢
  generalize Value.slice P.ship.cross.p P.ship.cross.n P.ship.cross.c = v6 at CF ⊢
  generalize Value.slice P.ship.sin.p P.ship.sin.n P.ship.sin.c = v7 at CF ⊢
  generalize Value.slice P.ship.shi.p P.ship.shi.n P.ship.shi.c = v8 at CF ⊢
  generalize Value.int .i64 P.ship.light.mass.lo = v9 at CF ⊢
  generalize Value.int .i64 P.ship.light.mass.hi = v10 at CF ⊢
  generalize Value.int .i64 P.ship.light.along.lo = v11 at CF ⊢
  generalize Value.int .i64 P.ship.light.along.hi = v12 at CF ⊢
  generalize Value.int .i64 P.ship.light.high.lo = v13 at CF ⊢
  generalize Value.int .i64 P.ship.light.high.hi = v14 at CF ⊢
  generalize Value.slice P.holds.p P.holds.n P.holds.c = v15 at CL ⊢
  generalize Value.slice P.fills.p P.fills.n P.fills.c = v16 at CL ⊢
  generalize Value.slice P.tanks.p P.tanks.n P.tanks.c = v17 at CL ⊢
  generalize Value.slice P.levels.p P.levels.n P.levels.c = v18 at CL ⊢
  generalize Value.int .i64 P.most = v19 at CF ⊢
  go_enter Tryz.func15, Tryz.ntmps15
  go_wp2_with (first | (go_at_call 13; (with_reducible refine (CL.out _ (by (with_reducible repeat (first | exact blr _ | refine bla ?_ _ | refine blw _ ?_ | refine bld ?_ | refine bln _ ?_ | refine bls ?_ _ | refine blt ?_)))).mono ?_); rintro e w_ ⟨p, cc, rfl, hws, hb_, hpc⟩; obtain ⟨y1, rfl⟩ := Soft.BW.mk hb_; clear hb_) | (go_at_call 44; (refine (CF.out _ (by (with_reducible repeat (first | exact blr _ | refine bla ?_ _ | refine blw _ ?_ | refine bld ?_ | refine bln _ ?_ | refine bls ?_ _ | refine blt ?_))) ⟨⟨p, El.length, cc, El⟩, ⟨Es0, Es1⟩, ⟨Eh0, Eh1⟩⟩ ⟨WsAt.same hws (by (with_reducible repeat (first | exact blr _ | refine bla ?_ _ | refine blw _ ?_ | refine bld ?_ | refine bln _ ?_ | refine bls ?_ _ | refine blt ?_))), hpc⟩).mono ?_); rintro e w5 ⟨q, er, rfl, hq, hb5, hr⟩))
  have hW : Below w.heap.size w (y1.w.alloc (.cells #[.slice p El.length cc, .int .i64 Es0, .int .i64 Es1, .int .i64 Eh0, .int .i64 Eh1] 58)) := by (with_reducible repeat (first | exact blr _ | refine bla ?_ _ | refine blw _ ?_ | refine bld ?_ | refine bln _ ?_ | refine bls ?_ _ | refine blt ?_))
  refine bodyPost_ret (v := .tuple #[.slice q.p q.n q.c, .int .i64 er]) (by simp [results, Tryz.results15, go_sem]) rfl ?_
  exact ⟨⟨⟨p, El.length, cc, El⟩, ⟨Es0, Es1⟩, ⟨Eh0, Eh1⟩⟩, HLI.out _ rfl rfl rfl, q, er, rfl, hq, bel_step hW hb5, hr⟩

/-- A fact of the list tells as much as x. -/
def fndE (x : Ft) (ys : List Ft) : Nat → Bool
  | 0 => false
  | k + 1 => fndE x ys k || (decide ((fv ys k).nm.toList = x.nm.toList) && decide (x.val.lo ≤ (fv ys k).val.lo ∧ (fv ys k).val.hi ≤ x.val.hi))
theorem Top_narrows (a b : Fs) (w : World) (ha : a.At w) (hb : b.At w) (h : ∀ i, i < a.n → fndE (fv a.xs i) b.xs b.n = true) :
    Calls Tryz.prog 16 #[.slice a.p a.n a.c, .slice b.p b.n b.c] w fun e w' => e = .returned (.bool true) ∧ Below w.heap.size w w' := by
  obtain ⟨ap, an, ac, ax⟩ := a
  obtain ⟨bp, bn, bc, bx⟩ := b
  have HA := Lib.hid ha
  have HB := Lib.hid hb
  have H := Lib.hid h
  have b1 := ha.2.1
  have b2 := ha.2.2.1
  have b3 := hb.2.1
  have b4 := hb.2.2.1
  dsimp only at b1 b2 b3 b4
  clear ha hb h
  go_enter Tryz.func16, Tryz.ntmps16
  go_wp2_with fail
  go_loopw [12] (fun i wr => ∃ k : Nat, i = .int .i64 k ∧ k ≤ an ∧ Below w.heap.size w wr) (fun i _ => an - (intOf i).toNat)
  case atStart => exact ⟨0, rfl, by omega, Below.refl _ _⟩
  case round =>
    obtain ⟨k, rfl, hk, hbw⟩ := hrel
    by_cases hlt : k < an
    · obtain ⟨_, _, _, h4⟩ := HA.out.same hbw
      obtain ⟨ab, ao, e, hab, hac⟩ := h4 (by dsimp only; omega)
      dsimp only at e hac
      subst e
      obtain ⟨x0, x1, x2⟩ := hac k hlt
      have la := Soft.LtH.mk (b := ab) (w := wr) hab
      have HBW := Lib.hid hbw
      have HK := Lib.hid (H.out k hlt)
      clear h4 hac hbw
      generalize fv ax k = x at *
      go_wp2_with fail
      have hx0 : HasBlk (wr.alloc (.cells #[.string x.nm, .int .i64 x.val.lo, .int .i64 x.val.hi] 114)) wr.heap.size #[.string x.nm, .int .i64 x.val.lo, .int .i64 x.val.hi] 114 := Soft.heap_new wr _
      have hbl0 := bel_alloc HBW.out (.cells #[.string x.nm, .int .i64 x.val.lo, .int .i64 x.val.hi] 114)
      have hX := HBW.out.size
      clear x0 x1 x2 la hab HBW
      generalize wr.heap.size = X at *
      go_loopw [7, 18] (fun f i wi => ∃ j : Nat, f = .bool (fndE x bx j) ∧ i = .int .i64 j ∧ j ≤ bn ∧ HasBlk wi X #[.string x.nm, .int .i64 x.val.lo, .int .i64 x.val.hi] 114 ∧ Below w.heap.size w wi) (fun _ i _ => bn - (intOf i).toNat)
      case atStart => exact ⟨0, rfl, rfl, by omega, hx0, hbl0⟩
      case round =>
        obtain ⟨j, rfl, rfl, hj, hx, hbi⟩ := hrel
        clear hx0 hbl0
        have x0 := hx.cell 0
        have x1 := hx.cell 1
        have x2 := hx.cell 2
        simp at x0 x1 x2
        have lx := Soft.LtH.mk (b := X) (w := wr) hx.lt
        by_cases hjl : j < bn
        · obtain ⟨_, _, _, h4⟩ := HB.out.same hbi
          obtain ⟨bb, bo, e, hbb, hbc⟩ := h4 (by dsimp only; omega)
          dsimp only at e hbc
          subst e
          obtain ⟨y0, y1, y2⟩ := hbc j hjl
          have lb := Soft.LtH.mk (b := bb) (w := wr) hbb
          have HNX := Lib.hid (show fndE x bx (j + 1) = (fndE x bx j || (decide ((fv bx j).nm.toList = x.nm.toList) && decide (x.val.lo ≤ (fv bx j).val.lo ∧ (fv bx j).val.hi ≤ x.val.hi))) from rfl)
          have HX := Lib.hid hx
          have HBI := Lib.hid hbi
          clear h4 hbc hx hbi
          by_cases hf : fndE x bx j = true
          · go_wp2_with fail
            go_roundw
            case rel => exact ⟨j + 1, by rw [HNX.out, hf]; rfl, by simp, by omega, HX.out.below (by (with_reducible repeat (first | exact blr _ | refine bla ?_ _ | refine blw _ ?_ | refine bld ?_ | refine bln _ ?_ | refine bls ?_ _ | refine blt ?_))), bel_step HBI.out (by (with_reducible repeat (first | exact blr _ | refine bla ?_ _ | refine blw _ ?_ | refine bld ?_ | refine bln _ ?_ | refine bls ?_ _ | refine blt ?_)))⟩
            case measure => simp [intOf]; omega
          · have hf : fndE x bx j = false := by rw [← Bool.not_eq_true]; exact hf
            by_cases hn : (fv bx j).nm.toList = x.nm.toList
            · by_cases hw : x.val.lo ≤ (fv bx j).val.lo ∧ (fv bx j).val.hi ≤ x.val.hi
              · have HW := Lib.hid hw
                have HN := Lib.hid hn
                clear hw
                go_wp2_with ((go_at_call 12; (with_reducible refine (Top_within (fv bx j).val x.val _ true (decide_eq_true HW.out).symm).mono ?_); rintro e w_ ⟨rfl, hb_⟩; obtain ⟨y5, rfl⟩ := Soft.BW.mk hb_; clear hb_))
                go_roundw
                case rel => exact ⟨j + 1, by rw [HNX.out, hf]; simp only [decide_eq_true HW.out, decide_eq_true HN.out]; rfl, by simp, by omega, HX.out.below (by (with_reducible repeat (first | exact blr _ | refine bla ?_ _ | refine blw _ ?_ | refine bld ?_ | refine bln _ ?_ | refine bls ?_ _ | refine blt ?_))), bel_step HBI.out (by (with_reducible repeat (first | exact blr _ | refine bla ?_ _ | refine blw _ ?_ | refine bld ?_ | refine bln _ ?_ | refine bls ?_ _ | refine blt ?_)))⟩
                case measure => simp [intOf]; omega
              · have HW := Lib.hid hw
                have HN := Lib.hid hn
                clear hw
                go_wp2_with ((go_at_call 12; (with_reducible refine (Top_within (fv bx j).val x.val _ false (decide_eq_false HW.out).symm).mono ?_); rintro e w_ ⟨rfl, hb_⟩; obtain ⟨y5, rfl⟩ := Soft.BW.mk hb_; clear hb_))
                go_roundw
                case rel => exact ⟨j + 1, by rw [HNX.out, hf]; simp only [decide_eq_false HW.out, decide_eq_true HN.out]; rfl, by simp, by omega, HX.out.below (by (with_reducible repeat (first | exact blr _ | refine bla ?_ _ | refine blw _ ?_ | refine bld ?_ | refine bln _ ?_ | refine bls ?_ _ | refine blt ?_))), bel_step HBI.out (by (with_reducible repeat (first | exact blr _ | refine bla ?_ _ | refine blw _ ?_ | refine bld ?_ | refine bln _ ?_ | refine bls ?_ _ | refine blt ?_)))⟩
                case measure => simp [intOf]; omega
            · have HN := Lib.hid hn
              go_wp2_with fail
              go_roundw
              case rel => exact ⟨j + 1, by rw [HNX.out, hf]; simp only [decide_eq_false HN.out]; rfl, by simp, by omega, HX.out.below (by (with_reducible repeat (first | exact blr _ | refine bla ?_ _ | refine blw _ ?_ | refine bld ?_ | refine bln _ ?_ | refine bls ?_ _ | refine blt ?_))), bel_step HBI.out (by (with_reducible repeat (first | exact blr _ | refine bla ?_ _ | refine blw _ ?_ | refine bld ?_ | refine bln _ ?_ | refine bls ?_ _ | refine blt ?_)))⟩
              case measure => simp [intOf]; omega
        · obtain rfl : j = bn := by omega
          have HBI := Lib.hid hbi
          have hf := HK.out
          clear hbi hx
          go_wp2_with fail
          go_roundw
          case rel => exact ⟨k + 1, by simp, by omega, HBI.out⟩
          case measure => simp [intOf]; omega
    · obtain rfl : k = an := by omega
      have HBW := Lib.hid hbw
      clear hbw
      go_wp2_with fail
      go_ret
      exact ⟨rfl, HBW.out⟩
end Go.Proofs.YteagdcgmmdiakaaGreat
namespace Go.Proofs.YteagdcgmmdiakaaGreat
set_option linter.unusedSimpArgs false
set_option linter.unusedVariables false
open Go.RowKit
set_option maxRecDepth 1000000
set_option maxHeartbeats 20000000
attribute [local go_sem] Instr.field asAgg Soft.upon Soft.upon0 Soft.stepC Soft.BW.cell_if Soft.BW.frozen_if Soft.cell_alloc_if Soft.frozen_alloc_if
attribute [local irreducible] Soft.wpSoft Soft.wpMix
variable {u0 u1 u2 u3 u4 u5 u6 u7 u8 u9 u10 u11 u12 u13 u14 u15 u16 u17 u18 u19 u20 u21 u22 u23 u24 u25 u26 u27 u28 u29 u30 u31 u32 u33 u34 u35 u36 u37 u38 u39 u40 u41 u42 u43 u44 u45 u46 u47 u48 u49 u50 u51 u52 u53 u54 u55 u56 u57 u58 u59 u60 u61 u62 u63 u64 u65 u66 u67 u68 u69 u70 u71 u72 u73 u74 u75 u76 u77 u78 u79 u80 u81 u82 u83 u84 u85 u86 u87 u88 u89 u90 u91 u92 u93 u94 u95 u96 u97 u98 u99 u100 u101 u102 u103 u104 u105 u106 u107 u108 u109 u110 u111 u112 u113 u114 u115 u116 u117 u118 u119 u120 u121 u122 u123 u124 u125 u126 u127 u128 u129 u130 u131 u132 u133 u134 u135 u136 u137 u138 u139 u140 u141 u142 u143 u144 u145 u146 u147 u148 u149 u150 u151 u152 u153 u154 u155 u156 u157 u158 u159 u160 u161 u162 u163 u164 u165 u166 u167 u168 u169 u170 u171 u172 u173 u174 u175 u176 u177 u178 u179 u180 u181 u182 u183 u184 u185 u186 u187 u188 u189 u190 u191 u192 u193 u194 u195 u196 u197 u198 u199 u200 u201 u202 u203 u204 u205 u206 u207 u208 u209 u210 u211 u212 u213 u214 u215 u216 u217 : Value}
def pcutSeq : Nat → Code → Code
  | 0, c => c
  | n + 1, .seq _ b => pcutSeq n b
  | _ + 1, c => c
noncomputable def bndCut (n : Nat) : Code := pcutSeq n (Tryz.f4.body.getD .skip)
theorem bnd_last {x y : Tb} {de ee : Int} {W : World} {B18 B20 : Nat} {R : Ending → World → Prop}
    (HX : Hid (x.At W)) (HY : Hid (y.At W)) (H18 : Hid (HasBlk W B18 #[.slice x.p x.n x.c] 24)) (H20 : Hid (HasBlk W B20 #[.slice y.p y.n y.c] 24))
    (HD : Hid (de = 0 → ee = 0 ∧ y.n = x.n ∧ ∀ k, k < y.n → (pt y.ps k).x = (pt x.ps k).x ∧ (pt x.ps k).lo ≤ (pt y.ps k).lo ∧ (pt y.ps k).hi ≤ (pt x.ps k).hi))
    (hR : ∀ w', Below W.heap.size W w' → R (.returned (.bool true)) w') :
    Code.wp Tryz.prog (bndCut 14) (bodyPost Tryz.prog Tryz.f4 R) { tmps := #[u0, u1, u2, u3, u4, u5, u6, u7, u8, u9, u10, u11, u12, u13, u14, u15, u16, u17, .pointer (some ⟨B18, 0, none⟩), .int .i64 de, .pointer (some ⟨B20, 0, none⟩), .int .i64 ee, u22, u23, u24, u25, u26, u27, u28, u29, u30, u31, u32, u33, u34, u35, u36, u37, u38, u39, u40, u41, u42, u43, u44, u45, u46, u47, u48, u49, u50, u51, u52, u53, u54, u55, u56, u57, u58, u59, u60, u61, u62, u63, u64, u65, u66, u67, u68, u69, u70, u71, u72, u73, u74, u75, u76, u77, u78, u79, u80, u81, u82, u83, u84, u85, u86, u87, u88, u89, u90, u91, u92, u93, u94, u95, u96, u97, u98, u99, u100, u101, u102, u103, u104, u105, u106, u107, u108, u109, u110, u111, u112, u113, u114, u115, u116, u117, u118, u119, u120, u121, u122, u123, u124, u125, u126, u127, u128, u129, u130, u131, u132, u133, u134, u135, u136, u137, u138, u139, u140, u141, u142, u143, u144, u145, u146, u147, u148, u149, u150, u151, u152, u153, u154, u155, u156, u157, u158, u159, u160, u161, u162, u163, u164, u165, u166, u167, u168, u169, u170, u171, u172, u173, u174, u175, u176, u177, u178, u179, u180, u181, u182, u183, u184, u185, u186, u187, u188, u189, u190, u191, u192, u193, u194, u195, u196, u197, u198, u199, u200, u201, u202, u203, u204, u205, u206, u207, u208, u209, u210, u211, u212, u213, u214, u215, u216, u217], defers := [] } W := by
  have HR := Lib.hid hR
  clear hR
  unfold bndCut
  conv => arg 2; whnf
  by_cases hd : de = 0
  rotate_left
  · have dd : (de != 0) = true := bne_iff_ne.2 hd
    clear HD hd
    go_wp2_with fail
    exact HR.out _ (bel_refl _)
  subst hd
  obtain ⟨rfl, hn0, hp0⟩ := HD.out rfl
  have HN := Lib.hid hn0
  have HP := Lib.hid hp0
  clear HD hn0 hp0
  obtain ⟨xp, xn, xc, xs⟩ := x
  obtain ⟨yp, yn, yc, ys⟩ := y
  dsimp only at HN HP
  have hyc := HY.out.2.1
  have hyc2 := HY.out.2.2.1
  have hxc := HX.out.2.1
  have hxc2 := HX.out.2.2.1
  have hxc3 := HX.out.2.2.2.1
  have hyc3 := HY.out.2.2.2.1
  dsimp only at hyc hyc2 hxc hxc2 hxc3 hyc3
  have a0 := H18.out.cell 0
  have b0 := H20.out.cell 0
  dsimp only at a0 b0
  simp at a0 b0
  have l18 := Soft.LtH.mk (b := B18) (w := W) H18.out.lt
  have l20 := Soft.LtH.mk (b := B20) (w := W) H20.out.lt
  obtain rfl : yn = xn := HN.out
  go_wp2_with fail
  go_loopw [181] (fun i wr => ∃ k : Nat, i = .int .i64 k ∧ k ≤ yn ∧ Below W.heap.size W wr) (fun i _ => yn - (intOf i).toNat)
  case atStart => exact ⟨0, rfl, by omega, Below.refl _ _⟩
  case round =>
    obtain ⟨k, rfl, hk, hbr⟩ := hrel
    by_cases hlt : k < yn
    · obtain ⟨_, _, _, _, h5⟩ := HX.out.same hbr
      obtain ⟨bx, ox, e, hbx, hcx⟩ := h5 (by dsimp only; omega)
      dsimp only at e
      subst e
      obtain ⟨x0, x1, x2⟩ := hcx k hlt
      obtain ⟨_, _, _, _, h6⟩ := HY.out.same hbr
      obtain ⟨by_, oy, e, hby, hcy⟩ := h6 (by dsimp only; omega)
      dsimp only at e
      subst e
      obtain ⟨y0, y1, y2⟩ := hcy k hlt
      obtain ⟨p0, p1, p2⟩ := HP.out k hlt
      dsimp only at x0 x1 x2 y0 y1 y2 p0 p1 p2
      have c0 := (H18.out.below hbr).cell 0
      simp at c0
      have l18 := Soft.LtH.mk (b := B18) (w := wr) (H18.out.below hbr).lt
      have lx := Soft.LtH.mk (b := bx) (w := wr) hbx
      have ly := Soft.LtH.mk (b := by_) (w := wr) hby
      have HB := Lib.hid hbr
      clear h5 h6 hcx hcy hbr a0 b0
      generalize pt xs k = X at *
      generalize pt ys k = Y at *
      have t0 : (Y.x != X.x) = false := by rw [p0]; simp
      have t1 : ¬Y.lo < X.lo := by omega
      have t2 : ¬X.hi < Y.hi := by omega
      clear p0 p1 p2
      go_wp2_with fail
      go_quiet (fail)
      go_wp2_with fail
      go_roundw
      case rel => exact ⟨k + 1, by simp, by omega, bel_step HB.out (bel_drewN _ (bel_alloc (bel_refl _) _))⟩
      case measure => simp [intOf]; omega
    · obtain rfl : k = yn := by omega
      have HB := Lib.hid hbr
      clear hbr
      go_wp2_with fail
      exact HR.out _ HB.out

theorem bnd_mgn {D D' : List Pt × Int} {W : World} {B2 B6 B7 B9 : Nat} {p0 p1 p2 p3 p4 p5 p6 p7 p8 p9 p10 p11 p12 p13 p14 p15 p16 p17 p18 p19 q0 q1 q2 q3 q4 q5 q6 q7 q8 q9 q10 q11 q12 q13 q14 q15 q16 q17 q18 q19 x0 x1 x2 x3 x4 z0 z1 z2 z3 z4 : Value} {R : Ending → World → Prop}
    (H2 : Hid (HasBlk W B2 #[p0, p1, p2, p3, p4, p5, p6, p7, p8, p9, p10, p11, p12, p13, p14, p15, p16, p17, p18, p19] 37)) (H6 : Hid (HasBlk W B6 #[q0, q1, q2, q3, q4, q5, q6, q7, q8, q9, q10, q11, q12, q13, q14, q15, q16, q17, q18, q19] 37)) (H7 : Hid (HasBlk W B7 #[x0, x1, x2, x3, x4] 58)) (H9 : Hid (HasBlk W B9 #[z0, z1, z2, z3, z4] 58))
    (CM : Hid (∀ W', Below W.heap.size W W' → Calls Tryz.prog 17 #[.agg #[p0, p1, p2, p3, p4, p5, p6, p7, p8, p9, p10, p11, p12, p13, p14], .agg #[x0, x1, x2, x3, x4]] W' (DrawPost D W'))) (CN : Hid (∀ W', Below W.heap.size W W' → Calls Tryz.prog 17 #[.agg #[q0, q1, q2, q3, q4, q5, q6, q7, q8, q9, q10, q11, q12, q13, q14], .agg #[z0, z1, z2, z3, z4]] W' (DrawPost D' W')))
    (HD : Hid (D.2 = 0 → D'.2 = 0 ∧ D'.1.length = D.1.length ∧ ∀ k, k < D.1.length → (pt D'.1 k).x = (pt D.1 k).x ∧ (pt D.1 k).lo ≤ (pt D'.1 k).lo ∧ (pt D'.1 k).hi ≤ (pt D.1 k).hi))
    (hR : ∀ w', Below W.heap.size W w' → R (.returned (.bool true)) w') :
    Code.wp Tryz.prog (bndCut 12) (bodyPost Tryz.prog Tryz.f4 R) { tmps := #[u0, u1, .pointer (some ⟨B2, 0, none⟩), u3, u4, u5, .pointer (some ⟨B6, 0, none⟩), .pointer (some ⟨B7, 0, none⟩), u8, .pointer (some ⟨B9, 0, none⟩), u10, u11, u12, u13, u14, u15, u16, u17, u18, u19, u20, u21, u22, u23, u24, u25, u26, u27, u28, u29, u30, u31, u32, u33, u34, u35, u36, u37, u38, u39, u40, u41, u42, u43, u44, u45, u46, u47, u48, u49, u50, u51, u52, u53, u54, u55, u56, u57, u58, u59, u60, u61, u62, u63, u64, u65, u66, u67, u68, u69, u70, u71, u72, u73, u74, u75, u76, u77, u78, u79, u80, u81, u82, u83, u84, u85, u86, u87, u88, u89, u90, u91, u92, u93, u94, u95, u96, u97, u98, u99, u100, u101, u102, u103, u104, u105, u106, u107, u108, u109, u110, u111, u112, u113, u114, u115, u116, u117, u118, u119, u120, u121, u122, u123, u124, u125, u126, u127, u128, u129, u130, u131, u132, u133, u134, u135, u136, u137, u138, u139, u140, u141, u142, u143, u144, u145, u146, u147, u148, u149, u150, u151, u152, u153, u154, u155, u156, u157, u158, u159, u160, u161, u162, u163, u164, u165, u166, u167, u168, u169, u170, u171, u172, u173, u174, u175, u176, u177, u178, u179, u180, u181, u182, u183, u184, u185, u186, u187, u188, u189, u190, u191, u192, u193, u194, u195, u196, u197, u198, u199, u200, u201, u202, u203, u204, u205, u206, u207, u208, u209, u210, u211, u212, u213, u214, u215, u216, u217], defers := [] } W := by
  have HR := Lib.hid hR
  clear hR
  unfold bndCut
  conv => arg 2; whnf
  obtain ⟨dp, de⟩ := D
  obtain ⟨ep, ee⟩ := D'
  dsimp only at HD
  have ca0 := H2.out.cell 0
  have ca1 := H2.out.cell 1
  have ca2 := H2.out.cell 2
  have ca3 := H2.out.cell 3
  have ca4 := H2.out.cell 4
  have ca5 := H2.out.cell 5
  have ca6 := H2.out.cell 6
  have ca7 := H2.out.cell 7
  have ca8 := H2.out.cell 8
  have ca9 := H2.out.cell 9
  have ca10 := H2.out.cell 10
  have ca11 := H2.out.cell 11
  have ca12 := H2.out.cell 12
  have ca13 := H2.out.cell 13
  have ca14 := H2.out.cell 14
  simp at ca0 ca1 ca2 ca3 ca4 ca5 ca6 ca7 ca8 ca9 ca10 ca11 ca12 ca13 ca14
  have lca := Soft.LtH.mk (b := B2) (w := W) H2.out.lt
  have cb0 := H6.out.cell 0
  have cb1 := H6.out.cell 1
  have cb2 := H6.out.cell 2
  have cb3 := H6.out.cell 3
  have cb4 := H6.out.cell 4
  have cb5 := H6.out.cell 5
  have cb6 := H6.out.cell 6
  have cb7 := H6.out.cell 7
  have cb8 := H6.out.cell 8
  have cb9 := H6.out.cell 9
  have cb10 := H6.out.cell 10
  have cb11 := H6.out.cell 11
  have cb12 := H6.out.cell 12
  have cb13 := H6.out.cell 13
  have cb14 := H6.out.cell 14
  simp at cb0 cb1 cb2 cb3 cb4 cb5 cb6 cb7 cb8 cb9 cb10 cb11 cb12 cb13 cb14
  have lcb := Soft.LtH.mk (b := B6) (w := W) H6.out.lt
  have cc0 := H7.out.cell 0
  have cc1 := H7.out.cell 1
  have cc2 := H7.out.cell 2
  have cc3 := H7.out.cell 3
  have cc4 := H7.out.cell 4
  simp at cc0 cc1 cc2 cc3 cc4
  have lcc := Soft.LtH.mk (b := B7) (w := W) H7.out.lt
  have cd0 := H9.out.cell 0
  have cd1 := H9.out.cell 1
  have cd2 := H9.out.cell 2
  have cd3 := H9.out.cell 3
  have cd4 := H9.out.cell 4
  simp at cd0 cd1 cd2 cd3 cd4
  have lcd := Soft.LtH.mk (b := B9) (w := W) H9.out.lt
  go_wp2_with (first | (go_at_call 17; (with_reducible refine (CM.out _ (by (with_reducible repeat (first | exact blr _ | refine bla ?_ _ | refine blw _ ?_ | refine bld ?_ | refine bln _ ?_ | refine bls ?_ _ | refine blt ?_)))).mono ?_); rintro e w_ ⟨a, rfl, ha, hap, hb_⟩; obtain ⟨y1, rfl⟩ := Soft.BW.mk hb_; clear hb_; have HA := Lib.hid ha; have HAP := Lib.hid hap; clear ha hap) | (go_at_call 17; (with_reducible refine (CN.out _ (by (with_reducible repeat (first | exact blr _ | refine bla ?_ _ | refine blw _ ?_ | refine bld ?_ | refine bln _ ?_ | refine bls ?_ _ | refine blt ?_)))).mono ?_); rintro e w_ ⟨b, rfl, hb, hbp, hb_⟩; obtain ⟨y2, rfl⟩ := Soft.BW.mk hb_; clear hb_; have HB := Lib.hid hb; have HBP := Lib.hid hbp; clear hb hbp; (rename ∀ (a : Act) (w_1 : World), Code.wp _ (Code.seq _ _) _ a w_1 → _ => hk_); have HKX := Lib.hid hk_; clear hk_))
  have hap := HAP.out
  have hbp := HBP.out
  have n1 := HA.out.1
  have n2 := HB.out.1
  refine HKX.out _ _ (bnd_last (x := a) (y := b) (Lib.hid ?_) (Lib.hid ?_) (Lib.hid ?_) (Lib.hid ?_) (Lib.hid ?_) ?_)
  · exact HA.out.same (by (with_reducible repeat (first | exact blr _ | refine bla ?_ _ | refine blw _ ?_ | refine bld ?_ | refine bln _ ?_ | refine bls ?_ _ | refine blt ?_)))
  · exact HB.out.same (by (with_reducible repeat (first | exact blr _ | refine bla ?_ _ | refine blw _ ?_ | refine bld ?_ | refine bln _ ?_ | refine bls ?_ _ | refine blt ?_)))
  · exact HasBlk.below (Soft.heap_new y1.w _) (by (with_reducible repeat (first | exact blr _ | refine bla ?_ _ | refine blw _ ?_ | refine bld ?_ | refine bln _ ?_ | refine bls ?_ _ | refine blt ?_)))
  · exact Soft.heap_new y2.w _
  · intro h0
    obtain ⟨e1, e2, e3⟩ := HD.out h0
    rw [hap] at n1
    rw [hbp] at n2
    refine ⟨e1, by omega, fun k hk => ?_⟩
    rw [hap, hbp]
    exact e3 k (by omega)
  · exact fun w' hw' => HR.out w' (bel_step (by (with_reducible repeat (first | exact blr _ | refine bla ?_ _ | refine blw _ ?_ | refine bld ?_ | refine bln _ ?_ | refine bls ?_ _ | refine blt ?_))) hw')

theorem bnd_nar {q q' : Fs} {er er' : Int} {W : World} {B2 B6 B7 B9 : Nat} {p0 p1 p2 p3 p4 p5 p6 p7 p8 p9 p10 p11 p12 p13 p14 p15 p16 p17 p18 p19 q0 q1 q2 q3 q4 q5 q6 q7 q8 q9 q10 q11 q12 q13 q14 q15 q16 q17 q18 q19 x0 x1 x2 x3 x4 z0 z1 z2 z3 z4 : Value} {R : Ending → World → Prop}
    (H2 : Hid (HasBlk W B2 #[p0, p1, p2, p3, p4, p5, p6, p7, p8, p9, p10, p11, p12, p13, p14, p15, p16, p17, p18, p19] 37)) (H6 : Hid (HasBlk W B6 #[q0, q1, q2, q3, q4, q5, q6, q7, q8, q9, q10, q11, q12, q13, q14, q15, q16, q17, q18, q19] 37)) (H7 : Hid (HasBlk W B7 #[x0, x1, x2, x3, x4] 58)) (H9 : Hid (HasBlk W B9 #[z0, z1, z2, z3, z4] 58))
    (HQ : Hid (q.At W)) (HQ' : Hid (q'.At W)) (HE : Hid (er = 32 ∨ (er = 0 ∧ er' = 0 ∧ ∀ i, i < q.n → fndE (fv q.xs i) q'.xs q'.n = true)))
    (HM : Hid (er = 0 → ∃ D D' : List Pt × Int, (∀ W', Below W.heap.size W W' → Calls Tryz.prog 17 #[.agg #[p0, p1, p2, p3, p4, p5, p6, p7, p8, p9, p10, p11, p12, p13, p14], .agg #[x0, x1, x2, x3, x4]] W' (DrawPost D W')) ∧ (∀ W', Below W.heap.size W W' → Calls Tryz.prog 17 #[.agg #[q0, q1, q2, q3, q4, q5, q6, q7, q8, q9, q10, q11, q12, q13, q14], .agg #[z0, z1, z2, z3, z4]] W' (DrawPost D' W')) ∧ (D.2 = 0 → D'.2 = 0 ∧ D'.1.length = D.1.length ∧ ∀ k, k < D.1.length → (pt D'.1 k).x = (pt D.1 k).x ∧ (pt D.1 k).lo ≤ (pt D'.1 k).lo ∧ (pt D'.1 k).hi ≤ (pt D.1 k).hi)))
    (hR : ∀ w', Below W.heap.size W w' → R (.returned (.bool true)) w') :
    Code.wp Tryz.prog (bndCut 10) (bodyPost Tryz.prog Tryz.f4 R) { tmps := #[u0, u1, .pointer (some ⟨B2, 0, none⟩), u3, u4, u5, .pointer (some ⟨B6, 0, none⟩), .pointer (some ⟨B7, 0, none⟩), u8, .pointer (some ⟨B9, 0, none⟩), u10, u11, u12, u13, .slice q.p q.n q.c, .int .i64 er, (.slice q'.p q'.n q'.c), .int .i64 er', u18, u19, u20, u21, u22, u23, u24, u25, u26, u27, u28, u29, u30, u31, u32, u33, u34, u35, u36, u37, u38, u39, u40, u41, u42, u43, u44, u45, u46, u47, u48, u49, u50, u51, u52, u53, u54, u55, u56, u57, u58, u59, u60, u61, u62, u63, u64, u65, u66, u67, u68, u69, u70, u71, u72, u73, u74, u75, u76, u77, u78, u79, u80, u81, u82, u83, u84, u85, u86, u87, u88, u89, u90, u91, u92, u93, u94, u95, u96, u97, u98, u99, u100, u101, u102, u103, u104, u105, u106, u107, u108, u109, u110, u111, u112, u113, u114, u115, u116, u117, u118, u119, u120, u121, u122, u123, u124, u125, u126, u127, u128, u129, u130, u131, u132, u133, u134, u135, u136, u137, u138, u139, u140, u141, u142, u143, u144, u145, u146, u147, u148, u149, u150, u151, u152, u153, u154, u155, u156, u157, u158, u159, u160, u161, u162, u163, u164, u165, u166, u167, u168, u169, u170, u171, u172, u173, u174, u175, u176, u177, u178, u179, u180, u181, u182, u183, u184, u185, u186, u187, u188, u189, u190, u191, u192, u193, u194, u195, u196, u197, u198, u199, u200, u201, u202, u203, u204, u205, u206, u207, u208, u209, u210, u211, u212, u213, u214, u215, u216, u217], defers := [] } W := by
  have HR := Lib.hid hR
  clear hR
  unfold bndCut
  conv => arg 2; whnf
  rcases HE.out with h | ⟨h, h1, h2⟩
  · have d0 : (er != 0) = true := by rw [h]; rfl
    have d1 : (er == 32) = true := by rw [h]; rfl
    clear HM HE h
    go_wp2_with fail
    exact HR.out _ (bel_refl _)
  · subst h
    subst h1
    obtain ⟨D, D', m1, m2, m3⟩ := HM.out rfl
    have CN := Lib.hid (fun W' (hb : Below W.heap.size W W') => Top_narrows q q' W' (HQ.out.same hb) (HQ'.out.same hb) h2)
    have M1 := Lib.hid m1
    have M2 := Lib.hid m2
    have M3 := Lib.hid m3
    clear HM HE m1 m2 m3 h2
    go_wp2_with ((go_at_call 16; (with_reducible refine (CN.out _ (by (with_reducible repeat (first | exact blr _ | refine bla ?_ _ | refine blw _ ?_ | refine bld ?_ | refine bln _ ?_ | refine bls ?_ _ | refine blt ?_)))).mono ?_); rintro e w_ ⟨rfl, hb_⟩; obtain ⟨y1, rfl⟩ := Soft.BW.mk hb_; clear hb_; (rename ∀ (a : Act) (w_1 : World), Code.wp _ (Code.seq _ _) _ a w_1 → _ => hk_); have HKX := Lib.hid hk_; clear hk_))
    have hy : Below W.heap.size W y1.w := y1.below
    refine HKX.out _ _ (bnd_mgn (D := D) (D' := D') (Lib.hid (H2.out.below hy)) (Lib.hid (H6.out.below hy)) (Lib.hid (H7.out.below hy)) (Lib.hid (H9.out.below hy)) (Lib.hid fun W' hb => M1.out W' (bel_step hy hb)) (Lib.hid fun W' hb => M2.out W' (bel_step hy hb)) M3 (fun w' hw' => HR.out w' (bel_step hy hw')))

theorem bnd_told {PP PQ : Pa} {W : World} {B2 B6 B7 B9 : Nat} {p0 p1 p2 p3 p4 p5 p6 p7 p8 p9 p10 p11 p12 p13 p14 p15 p16 p17 p18 p19 q0 q1 q2 q3 q4 q5 q6 q7 q8 q9 q10 q11 q12 q13 q14 q15 q16 q17 q18 q19 x0 x1 x2 x3 x4 z0 z1 z2 z3 z4 : Value} {R : Ending → World → Prop}
    (H2 : Hid (HasBlk W B2 #[p0, p1, p2, p3, p4, p5, p6, p7, p8, p9, p10, p11, p12, p13, p14, p15, p16, p17, p18, p19] 37)) (H6 : Hid (HasBlk W B6 #[q0, q1, q2, q3, q4, q5, q6, q7, q8, q9, q10, q11, q12, q13, q14, q15, q16, q17, q18, q19] 37)) (H7 : Hid (HasBlk W B7 #[x0, x1, x2, x3, x4] 58)) (H9 : Hid (HasBlk W B9 #[z0, z1, z2, z3, z4] 58))
    (CT : Hid (∀ W', Below W.heap.size W W' → Calls Tryz.prog 15 #[.agg #[p0, p1, p2, p3, p4, p5, p6, p7, p8, p9, p10, p11, p12, p13, p14, p15, p16, p17, p18, p19]] W' (ToldPost PP W'))) (CU : Hid (∀ W', Below W.heap.size W W' → Calls Tryz.prog 15 #[.agg #[q0, q1, q2, q3, q4, q5, q6, q7, q8, q9, q10, q11, q12, q13, q14, q15, q16, q17, q18, q19]] W' (ToldPost PQ W')))
    (TL : Hid (∀ L L', LaIs PP L → LaIs PQ L' → LoadIn L → LoadIn L' ∧ ∀ V V', TotIs (allW PP.ship L) V → TotIs (allW PQ.ship L') V' → ∀ i, i < (facE PP.ship L V PP.most).length → fndE (fv (facE PP.ship L V PP.most) i) (facE PQ.ship L' V' PQ.most) (facE PQ.ship L' V' PQ.most).length = true))
    (TM : Hid (∀ L, LaIs PP L → LoadIn L → ∃ D D' : List Pt × Int, (∀ W', Below W.heap.size W W' → Calls Tryz.prog 17 #[.agg #[p0, p1, p2, p3, p4, p5, p6, p7, p8, p9, p10, p11, p12, p13, p14], .agg #[x0, x1, x2, x3, x4]] W' (DrawPost D W')) ∧ (∀ W', Below W.heap.size W W' → Calls Tryz.prog 17 #[.agg #[q0, q1, q2, q3, q4, q5, q6, q7, q8, q9, q10, q11, q12, q13, q14], .agg #[z0, z1, z2, z3, z4]] W' (DrawPost D' W')) ∧ (D.2 = 0 → D'.2 = 0 ∧ D'.1.length = D.1.length ∧ ∀ k, k < D.1.length → (pt D'.1 k).x = (pt D.1 k).x ∧ (pt D.1 k).lo ≤ (pt D'.1 k).lo ∧ (pt D'.1 k).hi ≤ (pt D.1 k).hi)))
    (hR : ∀ w', Below W.heap.size W w' → R (.returned (.bool true)) w') :
    Code.wp Tryz.prog (bndCut 8) (bodyPost Tryz.prog Tryz.f4 R) { tmps := #[u0, u1, .pointer (some ⟨B2, 0, none⟩), u3, u4, u5, .pointer (some ⟨B6, 0, none⟩), .pointer (some ⟨B7, 0, none⟩), u8, .pointer (some ⟨B9, 0, none⟩), u10, u11, u12, u13, u14, u15, u16, u17, u18, u19, u20, u21, u22, u23, u24, u25, u26, u27, u28, u29, u30, u31, u32, u33, u34, u35, u36, u37, u38, u39, u40, u41, u42, u43, u44, u45, u46, u47, u48, u49, u50, u51, u52, u53, u54, u55, u56, u57, u58, u59, u60, u61, u62, u63, u64, u65, u66, u67, u68, u69, u70, u71, u72, u73, u74, u75, u76, u77, u78, u79, u80, u81, u82, u83, u84, u85, u86, u87, u88, u89, u90, u91, u92, u93, u94, u95, u96, u97, u98, u99, u100, u101, u102, u103, u104, u105, u106, u107, u108, u109, u110, u111, u112, u113, u114, u115, u116, u117, u118, u119, u120, u121, u122, u123, u124, u125, u126, u127, u128, u129, u130, u131, u132, u133, u134, u135, u136, u137, u138, u139, u140, u141, u142, u143, u144, u145, u146, u147, u148, u149, u150, u151, u152, u153, u154, u155, u156, u157, u158, u159, u160, u161, u162, u163, u164, u165, u166, u167, u168, u169, u170, u171, u172, u173, u174, u175, u176, u177, u178, u179, u180, u181, u182, u183, u184, u185, u186, u187, u188, u189, u190, u191, u192, u193, u194, u195, u196, u197, u198, u199, u200, u201, u202, u203, u204, u205, u206, u207, u208, u209, u210, u211, u212, u213, u214, u215, u216, u217], defers := [] } W := by
  have HR := Lib.hid hR
  clear hR
  unfold bndCut
  conv => arg 2; whnf
  go_wp2_with (first | (refine wpList_load_part rfl 37 (.tmp 2) rfl B2 0 rfl 37 _ #[p0, p1, p2, p3, p4, p5, p6, p7, p8, p9, p10, p11, p12, p13, p14, p15, p16, p17, p18, p19] _ H2.out Tryz.underlying37 rfl (by kernel_rfl) rfl ?_) | (refine wpList_load_part rfl 37 (.tmp 6) rfl B6 0 rfl 37 _ #[q0, q1, q2, q3, q4, q5, q6, q7, q8, q9, q10, q11, q12, q13, q14, q15, q16, q17, q18, q19] _ (H6.out.below (show Below W.heap.size W y1.w from y1.below)) Tryz.underlying37 rfl (by kernel_rfl) rfl ?_) | (go_at_call 15; (with_reducible refine (CT.out _ (by (with_reducible repeat (first | exact blr _ | refine bla ?_ _ | refine blw _ ?_ | refine bld ?_ | refine bln _ ?_ | refine bls ?_ _ | refine blt ?_)))).mono ?_); rintro e w_ ⟨L, hL, q, er, rfl, hq, hb_, hr⟩; obtain ⟨y1, rfl⟩ := Soft.BW.mk hb_; clear hb_; have HL := Lib.hid hL; have HQ := Lib.hid hq; have HR1 := Lib.hid hr; clear hL hq hr) | (go_at_call 15; (with_reducible refine (CU.out _ (by (with_reducible repeat (first | exact blr _ | refine bla ?_ _ | refine blw _ ?_ | refine bld ?_ | refine bln _ ?_ | refine bls ?_ _ | refine blt ?_)))).mono ?_); rintro e w_ ⟨L', hL', q', er', rfl, hq', hb_, hr'⟩; obtain ⟨y2, rfl⟩ := Soft.BW.mk hb_; clear hb_; have HL' := Lib.hid hL'; have HQ' := Lib.hid hq'; have HR2 := Lib.hid hr'; clear hL' hq' hr'; (rename ∀ (a : Act) (w_1 : World), Code.wp _ (Code.seq _ _) _ a w_1 → _ => hk_); have HKX := Lib.hid hk_; clear hk_))
  have hy : Below W.heap.size W y2.w := by (with_reducible repeat (first | exact blr _ | refine bla ?_ _ | refine blw _ ?_ | refine bld ?_ | refine bln _ ?_ | refine bls ?_ _ | refine blt ?_))
  refine HKX.out _ _ (bnd_nar (q := q) (q' := q') (er := er) (er' := er') (Lib.hid (H2.out.below hy)) (Lib.hid (H6.out.below hy)) (Lib.hid (H7.out.below hy)) (Lib.hid (H9.out.below hy)) (Lib.hid (HQ.out.same (by (with_reducible repeat (first | exact blr _ | refine bla ?_ _ | refine blw _ ?_ | refine bld ?_ | refine bln _ ?_ | refine bls ?_ _ | refine blt ?_))))) HQ' (Lib.hid ?_) (Lib.hid fun h0 => ?_) (fun w' hw' => HR.out w' (bel_step hy hw')))
  · rcases HR1.out with ⟨_, h⟩ | ⟨hi, h0, V, hV, hx⟩
    · exact .inl h
    · obtain ⟨hi', hf⟩ := TL.out L L' HL.out HL'.out hi
      rcases HR2.out with ⟨h, _⟩ | ⟨_, h0', V', hV', hx'⟩
      · exact absurd hi' h
      · refine .inr ⟨h0, h0', fun i hi => ?_⟩
        have n1 := HQ.out.1
        have n2 := HQ'.out.1
        rw [hx] at n1
        rw [hx'] at n2
        rw [hx, hx', ← n2]
        exact hf V V' hV hV' i (by omega)
  · have hi : LoadIn L := by
      rcases HR1.out with ⟨_, h⟩ | ⟨hi, _⟩
      · omega
      · exact hi
    obtain ⟨D, D', m1, m2, m3⟩ := TM.out L HL.out hi
    exact ⟨D, D', fun W' hb => m1 W' (bel_step hy hb), fun W' hb => m2 W' (bel_step hy hb), m3⟩

theorem bnd_wts {a b : Sl Wt} {PP PQ : Pa} {W : World} {B2 B6 B7 B9 : Nat} {p0 p1 p2 p3 p4 p5 p6 p7 p8 p9 p10 p11 p12 p13 p14 p15 p16 p17 p18 p19 q0 q1 q2 q3 q4 q5 q6 q7 q8 q9 q10 q11 q12 q13 q14 q15 q16 q17 q18 q19 x1 x2 x3 x4 z1 z2 z3 z4 : Value} {R : Ending → World → Prop}
    (H2 : Hid (HasBlk W B2 #[p0, p1, p2, p3, p4, p5, p6, p7, p8, p9, p10, p11, p12, p13, p14, p15, p16, p17, p18, p19] 37)) (H6 : Hid (HasBlk W B6 #[q0, q1, q2, q3, q4, q5, q6, q7, q8, q9, q10, q11, q12, q13, q14, q15, q16, q17, q18, q19] 37)) (H7 : Hid (HasBlk W B7 #[.slice a.p a.n a.c, x1, x2, x3, x4] 58)) (H9 : Hid (HasBlk W B9 #[.slice b.p b.n b.c, z1, z2, z3, z4] 58))
    (CT : Hid (∀ W', Below W.heap.size W W' → Calls Tryz.prog 15 #[.agg #[p0, p1, p2, p3, p4, p5, p6, p7, p8, p9, p10, p11, p12, p13, p14, p15, p16, p17, p18, p19]] W' (ToldPost PP W'))) (CU : Hid (∀ W', Below W.heap.size W W' → Calls Tryz.prog 15 #[.agg #[q0, q1, q2, q3, q4, q5, q6, q7, q8, q9, q10, q11, q12, q13, q14, q15, q16, q17, q18, q19]] W' (ToldPost PQ W')))
    (TL : Hid (∀ L L', LaIs PP L → LaIs PQ L' → LoadIn L → LoadIn L' ∧ ∀ V V', TotIs (allW PP.ship L) V → TotIs (allW PQ.ship L') V' → ∀ i, i < (facE PP.ship L V PP.most).length → fndE (fv (facE PP.ship L V PP.most) i) (facE PQ.ship L' V' PQ.most) (facE PQ.ship L' V' PQ.most).length = true))
    (TM : Hid (∀ L, LaIs PP L → LoadIn L → ∃ D D' : List Pt × Int, (∀ W', Below W.heap.size W W' → Calls Tryz.prog 17 #[.agg #[p0, p1, p2, p3, p4, p5, p6, p7, p8, p9, p10, p11, p12, p13, p14], .agg #[.slice a.p a.n a.c, x1, x2, x3, x4]] W' (DrawPost D W')) ∧ (∀ W', Below W.heap.size W W' → Calls Tryz.prog 17 #[.agg #[q0, q1, q2, q3, q4, q5, q6, q7, q8, q9, q10, q11, q12, q13, q14], .agg #[.slice b.p b.n b.c, z1, z2, z3, z4]] W' (DrawPost D' W')) ∧ (D.2 = 0 → D'.2 = 0 ∧ D'.1.length = D.1.length ∧ ∀ k, k < D.1.length → (pt D'.1 k).x = (pt D.1 k).x ∧ (pt D.1 k).lo ≤ (pt D'.1 k).lo ∧ (pt D'.1 k).hi ≤ (pt D.1 k).hi)))
    (HA : Hid (WsAt W a)) (HB : Hid (WsAt W b)) (HN : Hid (b.n = a.n)) (HW : Hid (∀ k, k < a.n → InS (wv b.xs k).mass (wv a.xs k).mass ∧ InS (wv b.xs k).along (wv a.xs k).along ∧ InS (wv b.xs k).high (wv a.xs k).high))
    (hR : ∀ w', Below W.heap.size W w' → R (.returned (.bool true)) w') :
    Code.wp Tryz.prog (bndCut 7) (bodyPost Tryz.prog Tryz.f4 R) { tmps := #[u0, u1, .pointer (some ⟨B2, 0, none⟩), u3, u4, u5, .pointer (some ⟨B6, 0, none⟩), .pointer (some ⟨B7, 0, none⟩), u8, .pointer (some ⟨B9, 0, none⟩), u10, u11, u12, u13, u14, u15, u16, u17, u18, u19, u20, u21, u22, u23, u24, u25, u26, u27, u28, u29, u30, u31, u32, u33, u34, u35, u36, u37, u38, u39, u40, u41, u42, u43, u44, u45, u46, u47, u48, u49, u50, u51, u52, u53, u54, u55, u56, u57, u58, u59, u60, u61, u62, u63, u64, u65, u66, u67, u68, u69, u70, u71, u72, u73, u74, u75, u76, u77, u78, u79, u80, u81, u82, u83, u84, u85, u86, u87, u88, u89, u90, u91, u92, u93, u94, u95, u96, u97, u98, u99, u100, u101, u102, u103, u104, u105, u106, u107, u108, u109, u110, u111, u112, u113, u114, u115, u116, u117, u118, u119, u120, u121, u122, u123, u124, u125, u126, u127, u128, u129, u130, u131, u132, u133, u134, u135, u136, u137, u138, u139, u140, u141, u142, u143, u144, u145, u146, u147, u148, u149, u150, u151, u152, u153, u154, u155, u156, u157, u158, u159, u160, u161, u162, u163, u164, u165, u166, u167, u168, u169, u170, u171, u172, u173, u174, u175, u176, u177, u178, u179, u180, u181, u182, u183, u184, u185, u186, u187, u188, u189, u190, u191, u192, u193, u194, u195, u196, u197, u198, u199, u200, u201, u202, u203, u204, u205, u206, u207, u208, u209, u210, u211, u212, u213, u214, u215, u216, u217], defers := [] } W := by
  have HR := Lib.hid hR
  clear hR
  unfold bndCut
  conv => arg 2; whnf
  obtain ⟨ap, an, ac, ax⟩ := a
  obtain ⟨bp, bn, bc, bx⟩ := b
  dsimp only at HN HW H7 H9
  have a1 := HA.out.2.1
  have a2 := HA.out.2.2.1
  have b1 := HB.out.2.1
  have b2 := HB.out.2.2.1
  dsimp only at a1 a2 b1 b2
  obtain rfl : bn = an := HN.out
  have c7 := H7.out.cell 0
  have c9 := H9.out.cell 0
  simp at c7 c9
  have l7 := Soft.LtH.mk (b := B7) (w := W) H7.out.lt
  have l9 := Soft.LtH.mk (b := B9) (w := W) H9.out.lt
  go_wp2_with fail
  rename ∀ (a : Act) (w_1 : World), Code.wp _ (Code.seq _ _) _ a w_1 → _ => hk_
  have HKX := Lib.hid hk_
  clear hk_
  go_loopw [96] (fun i wr => ∃ k : Nat, i = .int .i64 k ∧ k ≤ bn ∧ Below W.heap.size W wr) (fun i _ => bn - (intOf i).toNat)
  case atStart => exact ⟨0, rfl, by omega, Below.refl _ _⟩
  case round =>
    obtain ⟨k, rfl, hk, hbr⟩ := hrel
    clear c7 c9 l7 l9
    by_cases hlt : k < bn
    · obtain ⟨ba, oa, e, hba, hca⟩ := (HA.out.same hbr).cells (by dsimp only; omega)
      dsimp only at e hca
      subst e
      obtain ⟨x0, x1, x2, x3, x4, x5⟩ := hca k hlt
      obtain ⟨bb, ob, e, hbb, hcb⟩ := (HB.out.same hbr).cells (by dsimp only; omega)
      dsimp only at e hcb
      subst e
      obtain ⟨y0, y1, y2, y3, y4, y5⟩ := hcb k hlt
      obtain ⟨p0, p1, p2⟩ := HW.out k hlt
      have c7 := (H7.out.below hbr).cell 0
      simp at c7
      have l7 := Soft.LtH.mk (b := B7) (w := wr) (H7.out.below hbr).lt
      have la := Soft.LtH.mk (b := ba) (w := wr) hba
      have lb := Soft.LtH.mk (b := bb) (w := wr) hbb
      have HBR := Lib.hid hbr
      unfold InS at p0 p1 p2
      have P0 := Lib.hid p0
      have P1 := Lib.hid p1
      have P2 := Lib.hid p2
      clear hca hcb hbr p0 p1 p2
      generalize wv ax k = X at *
      generalize wv bx k = Y at *
      go_wp2_with (first | (go_at_call 12; (with_reducible refine (Top_within Y.mass X.mass _ true (decide_eq_true P0.out).symm).mono ?_); rintro e w_ ⟨rfl, hb_⟩; obtain ⟨z1_, rfl⟩ := Soft.BW.mk hb_; clear hb_) | (go_at_call 12; (with_reducible refine (Top_within Y.along X.along _ true (decide_eq_true P1.out).symm).mono ?_); rintro e w_ ⟨rfl, hb_⟩; obtain ⟨z2_, rfl⟩ := Soft.BW.mk hb_; clear hb_) | (go_at_call 12; (with_reducible refine (Top_within Y.high X.high _ true (decide_eq_true P2.out).symm).mono ?_); rintro e w_ ⟨rfl, hb_⟩; obtain ⟨z3_, rfl⟩ := Soft.BW.mk hb_; clear hb_))
      go_roundw
      case rel => exact ⟨k + 1, by simp, by omega, bel_step HBR.out (by (with_reducible repeat (first | exact blr _ | refine bla ?_ _ | refine blw _ ?_ | refine bld ?_ | refine bln _ ?_ | refine bls ?_ _ | refine blt ?_)))⟩
      case measure => simp [intOf]; omega
    · obtain rfl : k = bn := by omega
      have HBR := Lib.hid hbr
      clear hbr
      go_wp2_with fail
      have hy := HBR.out
      refine HKX.out _ _ ?_
      refine bnd_told (PP := PP) (PQ := PQ) (Lib.hid (H2.out.below hy)) (Lib.hid (H6.out.below hy)) (Lib.hid (H7.out.below hy)) (Lib.hid (H9.out.below hy)) (Lib.hid fun W' hb => CT.out W' (bel_step hy hb)) (Lib.hid fun W' hb => CU.out W' (bel_step hy hb)) TL (Lib.hid fun L hL hi => ?_) (fun w' hw' => HR.out w' (bel_step hy hw'))
      obtain ⟨D, D', m1, m2, m3⟩ := TM.out L hL hi
      exact ⟨D, D', fun W' hb => m1 W' (bel_step hy hb), fun W' hb => m2 W' (bel_step hy hb), m3⟩
end Go.Proofs.YteagdcgmmdiakaaGreat
