/-
  What truth makes of parts: words; the arrays that grow side by side in it.
  What a load without fault says of its parts; where the tails of truth begin.
  Truth's last loop: the tanks and their levels.
  Conditions: each theorem's own premises.
-/
import Derived.Test.YteagdcgmmdiakaaGreatP12
import Derived.Test.YteagdcgmmdiakaaGreatP17
namespace Go.Proofs.YteagdcgmmdiakaaGreat
set_option linter.unusedSimpArgs false
set_option linter.unusedVariables false
open Go.RowKit
set_option maxRecDepth 100000
set_option maxHeartbeats 4000000

def upB (xs : List Int) (i : Nat) : Bool := decide (pickN xs i 2 = 1)
/-- A cross curve; a hold; a fill; a tank; a level of the truth. -/
def CrT (xs : List Int) (c : Cr) (i : Nat) (c' : Cr) : Prop := c'.tonnes = c.tonnes ∧ c'.arms.ps = curveP c.arms.ps xs (7 + i)
structure HoT (xs : List Int) (h : Ho) (i : Nat) (h' : Ho) : Prop where
  id : h'.id = h.id
  along : h'.along = oneR h.along xs i
  vol : h'.vol.ps = sideP h.vol.ps (upB xs (11 + i))
  mom : h'.mom.ps = curveP h.mom.ps xs i
  hei : h'.hei.ps = sideP h.hei.ps (upB xs (11 + i))
  tri : h'.tri = oneR h.tri xs i
  unt : h'.unt = oneR h.unt xs i
  v0 : h'.v0 = oneR h.v0 xs i
  h0 : h'.h0 = oneR h.h0 xs i
def fiT (xs : List Int) (f : Fi) (i : Nat) : Fi := ⟨f.hold, f.state, oneR f.ull xs (12 + i), oneR f.den xs (13 + i)⟩
structure TkT (xs : List Int) (t : Tk) (i : Nat) (t' : Tk) : Prop where
  id : t'.id = t.id
  along : t'.along = oneR t.along xs i
  vol : t'.vol.ps = sideP t.vol.ps (upB xs (14 + i))
  sur : t'.sur.ps = curveP t.sur.ps xs i
  hei : t'.hei.ps = sideP t.hei.ps (upB xs (14 + i))
def lvT (xs : List Int) (l : Lv) (i : Nat) : Lv := ⟨l.tank, l.pressed, oneR l.snd xs (15 + i), oneR l.den xs (16 + i)⟩
def wtT (xs : List Int) (x : Wt) : Wt := ⟨oneR x.mass xs 8, oneR x.along xs 9, oneR x.high xs 10⟩
/-- The ship's tables over the displacement and the angle. -/
structure ShT (xs : List Int) (S S' : Sh) : Prop where
  len : S'.len = S.len
  dra : S'.dra.ps = curveP S.dra.ps xs 0
  hei : S'.hei.ps = curveP S.hei.ps xs 1
  cen : S'.cen.ps = curveP S.cen.ps xs 2
  tri : S'.tri.ps = curveP S.tri.ps xs 3
  flo : S'.flo.ps = curveP S.flo.ps xs 4
  sin : S'.sin.ps = curveP S.sin.ps xs 5
  shi : S'.shi.ps = curveP S.shi.ps xs 6
  light : S'.light = wtT xs S.light
  ncross : S'.cross.xs.length = S.cross.xs.length
  cross : ∀ i, i < S.cross.xs.length → CrT xs (crv S.cross.xs i) i (crv S'.cross.xs i)
/-- The parts that truth makes. -/
structure PaT (xs : List Int) (P P' : Pa) : Prop where
  ship : ShT xs P.ship P'.ship
  most : P'.most = P.most
  nh : P'.holds.xs.length = P.holds.xs.length
  nf : P'.fills.xs.length = P.holds.xs.length
  nt : P'.tanks.xs.length = P.tanks.xs.length
  nl : P'.levels.xs.length = P.tanks.xs.length
  holds : ∀ i, i < P.holds.xs.length → HoT xs (hv P.holds.xs i) i (hv P'.holds.xs i)
  fills : ∀ i, i < P.holds.xs.length → fiv P'.fills.xs i = fiT xs (fiv P.fills.xs i) i
  tanks : ∀ i, i < P.tanks.xs.length → TkT xs (tv P.tanks.xs i) i (tv P'.tanks.xs i)
  levels : ∀ i, i < P.tanks.xs.length → lv P'.levels.xs i = lvT xs (lv P.levels.xs i) i

theorem flatMap_snoc' {α : Type} (C : α → List Value) (l : List α) (x : α) : (l ++ [x]).flatMap C = l.flatMap C ++ C x := by simp
theorem get_snoc' {α : Type} [Inhabited α] (l : List α) (x : α) (i : Nat) : ((l ++ [x])[i]?).getD default = if i < l.length then (l[i]?).getD default else if i = l.length then x else default := by
  by_cases h : i < l.length
  · rw [if_pos h, List.getElem?_append_left h]
  · rw [if_neg h, List.getElem?_append_right (by omega)]
    by_cases e : i = l.length
    · rw [if_pos e]; subst e; simp
    · rw [if_neg e, List.getElem?_eq_none (by simp; omega)]; rfl

def zeroPa : Array Value := #[.int .i64 0, .slice none 0 0, .slice none 0 0, .slice none 0 0, .slice none 0 0, .slice none 0 0, .slice none 0 0, .slice none 0 0, .slice none 0 0, .int .i64 0, .int .i64 0, .int .i64 0, .int .i64 0, .int .i64 0, .int .i64 0, .slice none 0 0, .slice none 0 0, .slice none 0 0, .slice none 0 0, .int .i64 0]

/-- What truth carries: its own four blocks, the arrays that grow, and the tables that were made. -/
structure Tru (w wr : World) (PC SC oc : Array Value) (rows : List Row) (tabs : List Tb) : Prop where
  out : HasBlk wr (w.heap.size + 3) oc 37
  heap : Heap wr (w.heap.size + 4) rows tabs
  p0 : HasBlk wr w.heap.size PC 37
  p1 : HasBlk wr (w.heap.size + 1) zeroPa 37
  p2 : HasBlk wr (w.heap.size + 2) SC 31
  bel : Below w.heap.size w wr
theorem Tru.call {w wr W : World} {PC SC oc : Array Value} {rows : List Row} {tabs : List Tb} (h : Tru w wr PC SC oc rows tabs) (hb : Below wr.heap.size wr W) : Tru w W PC SC oc rows tabs :=
  ⟨h.out.below hb, h.heap.same hb, h.p0.below hb, h.p1.below hb, h.p2.below hb, bel_step h.bel hb⟩
theorem Tru.lt {w wr : World} {PC SC oc : Array Value} {rows : List Row} {tabs : List Tb} (h : Tru w wr PC SC oc rows tabs) : w.heap.size + 4 ≤ wr.heap.size := h.out.lt

/-- More tables; then one of the arrays grows, and its slice is laid into the parts. -/
theorem Tru.add {w W Y w3 : World} {PC SC oc : Array Value} {rows : List Row} {tabs : List Tb} (h : Tru w W PC SC oc rows tabs) (hY : Below W.heap.size W Y) {more : List Tb} (hm : ∀ t ∈ more, t.At Y ∧ ∀ b o, t.p = some ⟨b, o, none⟩ → W.heap.size ≤ b)
    (i : Nat) {r r' : Row} (hi : rows[i]? = some r) {g : Nat} (ho : r'.own w3 (w.heap.size + 4)) (hb : Below (w.heap.size + 4) Y w3) (hg : Y.grownBy w3 r.v.ownBlock) (hl : r.v.ownBlock = some g ∨ g = Y.heap.size) (hv : r'.v.ownBlock = some g) (idx : Nat) (u : Value) :
    Tru w (w3.setCell ⟨w.heap.size + 3, idx, none⟩ u) PC SC (oc.setIfInBounds idx u) (rows.set i r') (tabs ++ more) := by
  have hlt := h.lt
  have k1 := h.heap.addTabs (W := Y) hY hlt (more := more) (fun t ht => ⟨(hm t ht).1, fun _ b o e => (hm t ht).2 b o e⟩)
  have k2 := k1.grow i (r := r) (r' := r') (g := g) hi ho hg hl hv
  have k3 := k2.set (p := ⟨w.heap.size + 3, idx, none⟩) (by dsimp only; omega) u
  have bl : ∀ {X : Nat} {c : Array Value} {t : TypeId}, HasBlk W X c t → X < w.heap.size + 4 → HasBlk w3 X c t := fun hx hX => (hb.block _ hX).trans (HasBlk.below hx hY)
  exact ⟨HasBlk.put (bl h.out (by omega)) idx u, k3, HasBlk.set_other (bl h.p0 (by omega)) (by dsimp only; omega) _, HasBlk.set_other (bl h.p1 (by omega)) (by dsimp only; omega) _, HasBlk.set_other (bl h.p2 (by omega)) (by dsimp only; omega) _, ((bel_step h.bel hY).trans (hb.mono (by omega))).setCell (by dsimp only; omega) _⟩

def rows5 (vc vh vf vt vl : Value) (C : List Cr) (H : List Ho) (F : List Fi) (T : List Tk) (L : List Lv) : List Row :=
  [⟨80, 2, C.flatMap crC, C.length, vc⟩, ⟨49, 14, H.flatMap hoC, H.length, vh⟩, ⟨44, 6, F.flatMap fiC, F.length, vf⟩, ⟨83, 6, T.flatMap tkC, T.length, vt⟩, ⟨85, 6, L.flatMap lvC, L.length, vl⟩]
theorem rows5_C {vc vh vf vt vl : Value} {C : List Cr} {H : List Ho} {F : List Fi} {T : List Tk} {L : List Lv} {v' : Value} {q : Cr} : (rows5 vc vh vf vt vl C H F T L).set 0 ⟨80, 2, C.flatMap crC ++ crC q, C.length + 1, v'⟩ = rows5 v' vh vf vt vl (C ++ [q]) H F T L := by
  unfold rows5
  rw [flatMap_snoc', List.length_append]
  rfl
theorem rows5_H {vc vh vf vt vl : Value} {C : List Cr} {H : List Ho} {F : List Fi} {T : List Tk} {L : List Lv} {v' : Value} {q : Ho} : (rows5 vc vh vf vt vl C H F T L).set 1 ⟨49, 14, H.flatMap hoC ++ hoC q, H.length + 1, v'⟩ = rows5 vc v' vf vt vl C (H ++ [q]) F T L := by
  unfold rows5
  rw [flatMap_snoc', List.length_append]
  rfl
theorem rows5_F {vc vh vf vt vl : Value} {C : List Cr} {H : List Ho} {F : List Fi} {T : List Tk} {L : List Lv} {v' : Value} {q : Fi} : (rows5 vc vh vf vt vl C H F T L).set 2 ⟨44, 6, F.flatMap fiC ++ fiC q, F.length + 1, v'⟩ = rows5 vc vh v' vt vl C H (F ++ [q]) T L := by
  unfold rows5
  rw [flatMap_snoc', List.length_append]
  rfl
theorem rows5_T {vc vh vf vt vl : Value} {C : List Cr} {H : List Ho} {F : List Fi} {T : List Tk} {L : List Lv} {v' : Value} {q : Tk} : (rows5 vc vh vf vt vl C H F T L).set 3 ⟨83, 6, T.flatMap tkC ++ tkC q, T.length + 1, v'⟩ = rows5 vc vh vf v' vl C H F (T ++ [q]) L := by
  unfold rows5
  rw [flatMap_snoc', List.length_append]
  rfl
theorem rows5_L {vc vh vf vt vl : Value} {C : List Cr} {H : List Ho} {F : List Fi} {T : List Tk} {L : List Lv} {v' : Value} {q : Lv} : (rows5 vc vh vf vt vl C H F T L).set 4 ⟨85, 6, L.flatMap lvC ++ lvC q, L.length + 1, v'⟩ = rows5 vc vh vf vt v' C H F T (L ++ [q]) := by
  unfold rows5
  rw [flatMap_snoc', List.length_append]
  rfl

theorem rt5_cross : RowTy 25 80 2 := by
  have h : (Tryz.prog.info? 80).map (fun i => (i.zero, i.size, i.bytes)) = some (some (.agg #[.int .i64 0, .slice none 0 0]), 2, 32) := by kernel_rfl
  obtain ⟨i, h1, h2, h3, h4⟩ := infos h
  exact ⟨Tryz.underlying25, ⟨i, _, h1, h2, h3, by omega, rfl⟩, by decide⟩
theorem rt5_hold : RowTy 32 49 14 := by
  have h : (Tryz.prog.info? 49).map (fun i => (i.zero, i.size, i.bytes)) = some (some (.agg #[.int .i64 0, .int .i64 0, .int .i64 0, .slice none 0 0, .slice none 0 0, .slice none 0 0, .int .i64 0, .int .i64 0, .int .i64 0, .int .i64 0, .int .i64 0, .int .i64 0, .int .i64 0, .int .i64 0]), 14, 160) := by kernel_rfl
  obtain ⟨i, h1, h2, h3, h4⟩ := infos h
  exact ⟨Tryz.underlying32, ⟨i, _, h1, h2, h3, by omega, rfl⟩, by decide⟩
theorem rt5_fill : RowTy 33 44 6 := by
  have h : (Tryz.prog.info? 44).map (fun i => (i.zero, i.size, i.bytes)) = some (some (.agg #[.int .i64 0, .int .i64 0, .int .i64 0, .int .i64 0, .int .i64 0, .int .i64 0]), 6, 48) := by kernel_rfl
  obtain ⟨i, h1, h2, h3, h4⟩ := infos h
  exact ⟨Tryz.underlying33, ⟨i, _, h1, h2, h3, by omega, rfl⟩, by decide⟩
theorem rt5_tank : RowTy 34 83 6 := by
  have h : (Tryz.prog.info? 83).map (fun i => (i.zero, i.size, i.bytes)) = some (some (.agg #[.int .i64 0, .int .i64 0, .int .i64 0, .slice none 0 0, .slice none 0 0, .slice none 0 0]), 6, 96) := by kernel_rfl
  obtain ⟨i, h1, h2, h3, h4⟩ := infos h
  exact ⟨Tryz.underlying34, ⟨i, _, h1, h2, h3, by omega, rfl⟩, by decide⟩
theorem rt5_level : RowTy 35 85 6 := by
  have h : (Tryz.prog.info? 85).map (fun i => (i.zero, i.size, i.bytes)) = some (some (.agg #[.int .i64 0, .bool false, .int .i64 0, .int .i64 0, .int .i64 0, .int .i64 0]), 6, 48) := by kernel_rfl
  obtain ⟨i, h1, h2, h3, h4⟩ := infos h
  exact ⟨Tryz.underlying35, ⟨i, _, h1, h2, h3, by omega, rfl⟩, by decide⟩

end Go.Proofs.YteagdcgmmdiakaaGreat

namespace Go.Proofs.YteagdcgmmdiakaaGreat
set_option linter.unusedSimpArgs false
set_option linter.unusedVariables false
open Go.RowKit
set_option maxRecDepth 100000
set_option maxHeartbeats 4000000

/-- A load without fault. -/
structure LoadOk (hs : List Ho) (fs : List Fi) (ts : List Tk) (ls : List Lv) : Prop where
  nh : hs.length ≤ 9
  nt : ts.length ≤ 9
  nf : fs.length = hs.length
  nl : ls.length = ts.length
  h : ∀ k, k < hs.length → fillErr (hv hs k) (fiv fs k) = 0
  t : ∀ k, k < ts.length → levelErr (tv ts k) (lv ls k) = 0
theorem loadOk_of {hs : List Ho} {fs : List Fi} {ts : List Tk} {ls : List Lv} (h : (loadE hs fs ts ls).1 = 0) : LoadOk hs fs ts ls := by
  by_cases c1 : 9 < hs.length ∨ 9 < ts.length
  · unfold loadE at h; rw [if_pos c1] at h; cases h
  by_cases c2 : hs.length ≠ fs.length ∨ ts.length ≠ ls.length
  · unfold loadE at h; rw [if_neg c1, if_pos c2] at h; cases h
  have a1 : hs.length ≤ 9 := by omega
  have a2 : ts.length ≤ 9 := by omega
  have a3 : hs.length = fs.length := by omega
  have a4 : ts.length = ls.length := by omega
  have hz : ∀ k, k ≤ hs.length → (hRun hs fs k).1 = 0 := fun k hk => by
    match k, hk with
    | 0, _ => rfl
    | k + 1, hk =>
      apply Classical.byContradiction
      intro e
      rw [loadE_h a1 a2 a3 a4 (show k < hs.length by omega) e] at h
      exact e h
  have tz : ∀ k, k ≤ ts.length → (tRun ts ls (hRun hs fs hs.length) k).1 = 0 := fun k hk => by
    match k, hk with
    | 0, _ => exact hz _ (Nat.le_refl _)
    | k + 1, hk =>
      apply Classical.byContradiction
      intro e
      rw [loadE_t a1 a2 a3 a4 (show k < ts.length by omega) e] at h
      exact e h
  refine ⟨a1, a2, a3.symm, a4.symm, fun k hk => ?_, fun k hk => ?_⟩
  · have h1 := hz (k + 1) (by omega)
    have h0 := hz k (by omega)
    by_cases hd : dupH hs k = true
    · rw [hRun_dup h0 hd] at h1; cases h1
    · apply Classical.byContradiction
      intro e
      rw [hRun_bad h0 (by simpa using hd) e] at h1
      exact e h1
  · have h1 := tz (k + 1) (by omega)
    have h0 := tz k (by omega)
    by_cases hd : dupT ts k = true
    · rw [tRun_dup h0 hd] at h1; cases h1
    · apply Classical.byContradiction
      intro e
      rw [tRun_bad h0 (by simpa using hd) e] at h1
      exact e h1

theorem tbSane_of {w : World} {t : Tb} (ht : t.At w) (hok : TabOk t.ps) : TbSane t := by
  have hn := ht.1
  have hl := hok.le
  refine ⟨by omega, fun k hk => ?_⟩
  obtain ⟨_, _, a, b, c, _⟩ := hok.all k (by omega)
  unfold RgOk
  dsimp only
  omega
theorem rgOk_part {r : Rg} {lo hi : Int} (h : isPart r lo hi) (h1 : -2000000000000000 ≤ lo) (h2 : hi ≤ 2000000000000000) : RgOk r := by
  obtain ⟨a, b, c⟩ := h
  unfold RgOk
  omega
theorem kept_blk {Y w3 : World} {row : Option Nat} {B : Nat} {c : Array Value} {t : TypeId} (h : HasBlk Y B c t) (hg : Y.grownBy w3 row) (hr : row ≠ some B) : HasBlk w3 B c t := (hg.block B h.lt (fun e => hr e.symm)).trans h

theorem Tru.row {w wr : World} {PC SC oc : Array Value} {rows : List Row} {tabs : List Tb} (h : Tru w wr PC SC oc rows tabs) (oc' : Array Value) : Tru w (wr.setRow (w.heap.size + 3) oc') PC SC oc' rows tabs :=
  ⟨setRow_heap _ _ _ _ _ _ h.out, h.heap.row (by omega) _, HasBlk.rowx h.p0 (by omega) _, HasBlk.rowx h.p1 (by omega) _, HasBlk.rowx h.p2 (by omega) _, below_setRow h.bel (by omega) _⟩

def ucutSeq : Nat → Code → Code
  | 0, c => c
  | n + 1, .seq _ b => ucutSeq n b
  | _ + 1, c => c
/-- What follows the ship in truth; the tanks. -/
noncomputable def truH : Code := ucutSeq 6 (Tryz.f7.body.getD .skip)
noncomputable def truT : Code := ucutSeq 7 (Tryz.f7.body.getD .skip)

end Go.Proofs.YteagdcgmmdiakaaGreat

namespace Go.Proofs.YteagdcgmmdiakaaGreat
set_option linter.unusedSimpArgs false
set_option linter.unusedVariables false
open Go.RowKit
set_option maxRecDepth 1000000
set_option maxHeartbeats 20000000
attribute [local go_sem] Instr.field asAgg Soft.upon Soft.upon0 Soft.stepC Soft.BW.cell_if Soft.BW.frozen_if Soft.cell_alloc_if Soft.frozen_alloc_if
attribute [local irreducible] Soft.wpSoft Soft.wpMix

theorem own_one {w : World} {B : Nat} {r : Row} (h : r.own w B) : r.v.oneCell' = true := by
  rcases h.2 with ⟨e, _⟩ | ⟨g, c, cur, e, _⟩ <;> rw [e] <;> rfl

theorem truth_tanks {s : Is} {w W : World} {p0 p1 p2 p3 p4 p5 p6 p7 p8 p9 p10 p11 p12 p13 p14 c0 c1 c2 c3 c4 c5 c6 c7 c8 c9 c10 c11 c12 c13 c14 vc vh vf : Value} {hp fp tp lp : Option Addr} {hn hc fn fc tn tc ln lc : Nat} {tx : List Tk} {lx : List Lv} {most : Int} {SC : Array Value} {C : List Cr} {H : List Ho} {F : List Fi} {tabs : List Tb} {u0 u3 u5 u7 u8 u9 u10 u11 u12 u13 u14 u15 u16 u17 u18 u19 u20 u21 u22 u23 u24 u25 u26 u27 u28 u29 u30 u31 u32 u33 u34 u35 u36 u37 u38 u39 u40 u41 u42 u43 u44 u45 u46 u47 u48 u49 u50 u51 u52 u53 u54 u55 u56 u57 u58 u59 u60 u61 u62 u63 u64 u65 u66 u67 u68 u69 u70 u71 u72 u73 u74 u75 u76 u77 u78 u79 u80 u81 u82 u83 u84 u85 u86 u87 u88 u89 u90 u91 u92 u93 u94 u95 u96 u97 u98 u99 u100 u101 u102 u103 u104 u105 u106 u107 u108 u109 u110 u111 u112 u113 u114 u115 u116 u117 u118 u119 u120 u121 u122 u123 u124 u125 u126 u127 u128 u129 u130 u131 u132 u133 u134 u135 u136 u137 u138 u139 u140 u141 u142 u143 u144 u145 u146 u147 u148 u149 u150 u151 u152 u153 u154 u155 u156 u157 u158 u159 u160 u161 u162 u163 u164 u165 u166 u167 u168 u169 u170 u171 u172 u173 u174 u175 u176 u177 u178 u179 u180 u181 u182 u183 u184 u185 u186 u187 u188 u189 u190 u191 u192 u193 u194 u195 u196 u197 u198 u199 u200 u201 u202 u203 u204 u205 u206 u207 u208 u209 u210 u211 u212 u213 u214 u215 u216 u217 u218 u219 u220 u221 u222 u223 u224 u225 u226 u227 u228 u229 u230 u231 u232 u233 u234 u235 u236 u237 u238 u239 u240 u241 u242 u243 u244 u245 u246 u247 u248 u249 u250 u251 : Value} {R : Ending → World → Prop}
    (HSI : Hid (s.At w)) (HT : Hid (TsAt w ⟨tp, tn, tc, tx⟩)) (HL : Hid (LsAt w ⟨lp, ln, lc, lx⟩)) (h9 : tn ≤ 9) (hln : ln = tn) (HOK : Hid (∀ k, k < tn → TankOk (tv tx k) ∧ LevelIn (tv tx k) (lv lx k)))
    (H1 : Hid ((#[c0, c1, c2, c3, c4, c5, c6, c7, c8, c9, c10, c11, c12, c13, c14] : Array Value).all (·.oneCell') = true)) (HTR : Hid (Tru w W #[p0, p1, p2, p3, p4, p5, p6, p7, p8, p9, p10, p11, p12, p13, p14, .slice hp hn hc, .slice fp fn fc, .slice tp tn tc, .slice lp ln lc, .int .i64 most] SC #[c0, c1, c2, c3, c4, c5, c6, c7, c8, c9, c10, c11, c12, c13, c14, vh, vf, (.slice none 0 0), (.slice none 0 0), .int .i64 most] (rows5 vc vh vf (.slice none 0 0) (.slice none 0 0) C H F [] []) tabs))
    (hR : ∀ (vt vl : Value) (T : List Tk) (L : List Lv) (tabs' : List Tb) (w' : World), T.length = tn → L.length = tn → (∀ j, j < tn → TkT s.xs (tv tx j) j (tv T j)) → (∀ j, j < tn → lv L j = lvT s.xs (lv lx j) j) → (∀ t ∈ T, t.vol ∈ tabs' ∧ t.sur ∈ tabs' ∧ t.hei ∈ tabs') → (∀ t ∈ tabs, t ∈ tabs') →
      Heap w' (w.heap.size + 4) (rows5 vc vh vf vt vl C H F T L) tabs' → Below w.heap.size w w' → R (.returned (.agg #[c0, c1, c2, c3, c4, c5, c6, c7, c8, c9, c10, c11, c12, c13, c14, vh, vf, vt, vl, .int .i64 most])) w') :
    Code.wp Tryz.prog truT (bodyPost Tryz.prog Tryz.f7 R) { tmps := #[u0, .slice s.p s.n s.c, .pointer (some ⟨w.heap.size, 0, none⟩), u3, .pointer (some ⟨w.heap.size + 1, 0, none⟩), u5, .pointer (some ⟨w.heap.size + 3, 0, none⟩), u7, u8, u9, u10, u11, u12, u13, u14, u15, u16, u17, u18, u19, u20, u21, u22, u23, u24, u25, u26, u27, u28, u29, u30, u31, u32, u33, u34, u35, u36, u37, u38, u39, u40, u41, u42, u43, u44, u45, u46, u47, u48, u49, u50, u51, u52, u53, u54, u55, u56, u57, u58, u59, u60, u61, u62, u63, u64, u65, u66, u67, u68, u69, u70, u71, u72, u73, u74, u75, u76, u77, u78, u79, u80, u81, u82, u83, u84, u85, u86, u87, u88, u89, u90, u91, u92, u93, u94, u95, u96, u97, u98, u99, u100, u101, u102, u103, u104, u105, u106, u107, u108, u109, u110, u111, u112, u113, u114, u115, u116, u117, u118, u119, u120, u121, u122, u123, u124, u125, u126, u127, u128, u129, u130, u131, u132, u133, u134, u135, u136, u137, u138, u139, u140, u141, u142, u143, u144, u145, u146, u147, u148, u149, u150, u151, u152, u153, u154, u155, u156, u157, u158, u159, u160, u161, u162, u163, u164, u165, u166, u167, u168, u169, u170, u171, u172, u173, u174, u175, u176, u177, u178, u179, u180, u181, u182, u183, u184, u185, u186, u187, u188, u189, u190, u191, u192, u193, u194, u195, u196, u197, u198, u199, u200, u201, u202, u203, u204, u205, u206, u207, u208, u209, u210, u211, u212, u213, u214, u215, u216, u217, u218, u219, u220, u221, u222, u223, u224, u225, u226, u227, u228, u229, u230, u231, u232, u233, u234, u235, u236, u237, u238, u239, u240, u241, u242, u243, u244, u245, u246, u247, u248, u249, u250, u251], defers := [] } W := by
  have s17 := HTR.out.p0.cell 17
  simp at s17
  have l0 := Soft.LtH.mk (b := w.heap.size) (w := W) HTR.out.p0.lt
  have HR := Lib.hid hR
  clear hR
  unfold truT
  conv => arg 2; whnf
  go_wp2_with fail
  go_loopw [187] (fun i wr => ∃ (k : Nat) (vt vl : Value) (T : List Tk) (L : List Lv) (tabs' : List Tb), i = .int .i64 k ∧ k ≤ tn ∧ T.length = k ∧ L.length = k ∧ (∀ j, j < k → TkT s.xs (tv tx j) j (tv T j)) ∧ (∀ j, j < k → lv L j = lvT s.xs (lv lx j) j) ∧ (∀ t ∈ T, t.vol ∈ tabs' ∧ t.sur ∈ tabs' ∧ t.hei ∈ tabs') ∧ (∀ t ∈ tabs, t ∈ tabs') ∧ Tru w wr #[p0, p1, p2, p3, p4, p5, p6, p7, p8, p9, p10, p11, p12, p13, p14, .slice hp hn hc, .slice fp fn fc, .slice tp tn tc, .slice lp ln lc, .int .i64 most] SC #[c0, c1, c2, c3, c4, c5, c6, c7, c8, c9, c10, c11, c12, c13, c14, vh, vf, vt, vl, .int .i64 most] (rows5 vc vh vf vt vl C H F T L) tabs') (fun i _ => tn - (intOf i).toNat)
  case atStart => exact ⟨0, (.slice none 0 0), (.slice none 0 0), [], [], tabs, rfl, Nat.zero_le _, rfl, rfl, fun j hj => absurd hj (Nat.not_lt_zero j), fun j hj => absurd hj (Nat.not_lt_zero j), fun t ht => absurd ht List.not_mem_nil, fun t ht => ht, HTR.out⟩
  case round =>
    obtain ⟨k, vt, vl, T, L, tabs', rfl, hk, hTl, hLl, hT, hL, htb, hsub, htr⟩ := hrel
    clear HTR s17 l0
    by_cases hlt : k < tn
    · have aT := HT.out.same htr.bel
      have aL := HL.out.same htr.bel
      obtain ⟨bt, ot, rfl, hbt0, _⟩ := HT.out.cells (by dsimp only; omega)
      obtain ⟨bl, ol, rfl, hbl0, _⟩ := HL.out.cells (by dsimp only; omega)
      obtain ⟨bt1, ot1, e1, hbt, hct⟩ := aT.cells (by dsimp only; omega)
      obtain ⟨bl1, ol1, e2, hbl, hcl⟩ := aL.cells (by dsimp only; omega)
      cases e1
      cases e2
      have aQ := aT.2.2 k hlt
      obtain ⟨x0, x1, x2, x3, x4, x5⟩ := hct k hlt
      obtain ⟨y0, y1, y2, y3, y4, y5⟩ := hcl k (by dsimp only; omega)
      dsimp only at x0 x1 x2 x3 x4 x5 y0 y1 y2 y3 y4 y5 hbt hbl hbt0 hbl0 aQ
      have s18 := htr.p0.cell 18
      simp at s18
      have lb0 := Soft.LtH.mk (b := bt) (w := wr) hbt
      have lb1 := Soft.LtH.mk (b := bl) (w := wr) hbl
      have l0 := Soft.LtH.mk (b := w.heap.size) (w := wr) htr.p0.lt
      obtain ⟨ok1, ok2⟩ := HOK.out k hlt
      have CP := Lib.hid (fun W (hb : Below wr.heap.size wr W) => show Calls Tryz.prog 11 #[.slice s.p s.n s.c, .int .i64 (14 + (k : Int)), .int .i64 2] W (fun e w' => e = .returned (.int .i64 (pickN s.xs (14 + k) 2)) ∧ w' = W) from Top_pick s (14 + k) 2 W ((HSI.out.below htr.bel).below hb) (by omega) (by decide))
      have HUP := Lib.hid (show upB s.xs (14 + k) = decide (pickN s.xs (14 + k) 2 = 1) from rfl)
      have HTR := Lib.hid htr; have HTL := Lib.hid hTl; have HLL := Lib.hid hLl; have HTT := Lib.hid hT; have HLT := Lib.hid hL; have HTB := Lib.hid htb; have HSUB := Lib.hid hsub; have AQ := Lib.hid aQ; have OK1 := Lib.hid ok1; have OK2 := Lib.hid ok2
      clear htr hTl hLl hT hL htb hsub aT aL hct hcl ok1 ok2 aQ
      generalize pickN s.xs (14 + k) 2 = pk at *
      generalize hq : tv tx k = q at *
      generalize hg : lv lx k = g at *
      have HQE := Lib.hid hq; have HGE := Lib.hid hg
      clear hq hg
      go_wp2_with (go_at_call 11; refine (CP.out _ (by (with_reducible repeat (first | exact blr _ | refine bla ?_ _ | refine blw _ ?_ | refine bld ?_ | refine bln _ ?_ | refine bls ?_ _ | refine blt ?_)))).mono ?_; rintro e w_ ⟨rfl, hw_⟩; subst w_)
      obtain ⟨up, hup⟩ : ∃ up, (pk == 1) = up := ⟨_, rfl⟩
      have HUP2 := Lib.hid (show upB s.xs (14 + k) = up by rw [HUP.out, ← hup]; exact (Bool.beq_eq_decide_eq pk 1).symm)
      rw [hup]
      clear hup HUP CP x0 x1 x2 x3 x4 x5 y0 y1 y2 y3 y4 y5 lb0 lb1 hbt hbl hbt0 hbl0 s18 l0
      have t0 : HasBlk ((wr.alloc (.cells #[.int .i64 (q).id, .int .i64 ((q).along).lo, .int .i64 ((q).along).hi, .slice ((q).vol).p ((q).vol).n ((q).vol).c, .slice ((q).sur).p ((q).sur).n ((q).sur).c, .slice ((q).hei).p ((q).hei).n ((q).hei).c] 83)).alloc (.cells #[.int .i64 (g).tank, .bool (g).pressed, .int .i64 ((g).snd).lo, .int .i64 ((g).snd).hi, .int .i64 ((g).den).lo, .int .i64 ((g).den).hi] 85)) wr.heap.size #[.int .i64 (q).id, .int .i64 ((q).along).lo, .int .i64 ((q).along).hi, .slice ((q).vol).p ((q).vol).n ((q).vol).c, .slice ((q).sur).p ((q).sur).n ((q).sur).c, .slice ((q).hei).p ((q).hei).n ((q).hei).c] 83 := by simp only [HasBlk, Soft.heap_alloc_if, Soft.heap_new]
      have g0 : HasBlk ((wr.alloc (.cells #[.int .i64 (q).id, .int .i64 ((q).along).lo, .int .i64 ((q).along).hi, .slice ((q).vol).p ((q).vol).n ((q).vol).c, .slice ((q).sur).p ((q).sur).n ((q).sur).c, .slice ((q).hei).p ((q).hei).n ((q).hei).c] 83)).alloc (.cells #[.int .i64 (g).tank, .bool (g).pressed, .int .i64 ((g).snd).lo, .int .i64 ((g).snd).hi, .int .i64 ((g).den).lo, .int .i64 ((g).den).hi] 85)) (wr.heap.size + 1) #[.int .i64 (g).tank, .bool (g).pressed, .int .i64 ((g).snd).lo, .int .i64 ((g).snd).hi, .int .i64 ((g).den).lo, .int .i64 ((g).den).hi] 85 := by simp only [HasBlk, Soft.heap_new1]
      have hW5 : Below wr.heap.size wr ((wr.alloc (.cells #[.int .i64 (q).id, .int .i64 ((q).along).lo, .int .i64 ((q).along).hi, .slice ((q).vol).p ((q).vol).n ((q).vol).c, .slice ((q).sur).p ((q).sur).n ((q).sur).c, .slice ((q).hei).p ((q).hei).n ((q).hei).c] 83)).alloc (.cells #[.int .i64 (g).tank, .bool (g).pressed, .int .i64 ((g).snd).lo, .int .i64 ((g).snd).hi, .int .i64 ((g).den).lo, .int .i64 ((g).den).hi] 85)) := by (with_reducible repeat (first | exact blr _ | refine bla ?_ _ | refine blw _ ?_ | refine bld ?_ | refine bln _ ?_ | refine bls ?_ _ | refine blt ?_))
      generalize ((wr.alloc (.cells #[.int .i64 (q).id, .int .i64 ((q).along).lo, .int .i64 ((q).along).hi, .slice ((q).vol).p ((q).vol).n ((q).vol).c, .slice ((q).sur).p ((q).sur).n ((q).sur).c, .slice ((q).hei).p ((q).hei).n ((q).hei).c] 83)).alloc (.cells #[.int .i64 (g).tank, .bool (g).pressed, .int .i64 ((g).snd).lo, .int .i64 ((g).snd).hi, .int .i64 ((g).den).lo, .int .i64 ((g).den).hi] 85)) = W5 at *
      have tr := HTR.out.call hW5
      have HSZ := Lib.hid (show w.heap.size + 4 ≤ wr.heap.size from HTR.out.lt)
      have HTG := Lib.hid (show ∀ gg, vt.ownBlock = some gg → gg < wr.heap.size from fun gg e => (World.ownsRow.lt (HTR.out.heap.own 3 _ rfl) gg e).2)
      have AQ5 := Lib.hid (AQ.out.same hW5)
      have HW5 := Lib.hid tr.bel
      clear HTR AQ hW5
      have tl := t0.lt
      have gl := g0.lt
      generalize wr.heap.size = RB at *
      have x0 := t0.cell 0
      have x1 := t0.cell 1
      have x2 := t0.cell 2
      have x3 := t0.cell 3
      have x4 := t0.cell 4
      have x5 := t0.cell 5
      have m0 := tr.out.cell 17
      simp at x0 x1 x2 x3 x4 x5 m0
      have lr := Soft.LtH.mk (b := RB) (w := W5) tl
      have l3 := Soft.LtH.mk (b := w.heap.size + 3) (w := W5) tr.out.lt
      have HTR := Lib.hid tr; have HG0 := Lib.hid g0
      clear tr g0 t0
      have CO1 := Lib.hid (fun W (hb : Below W5.heap.size W5 W) => show Calls Tryz.prog 9 #[.agg #[.int .i64 (q.along).lo, .int .i64 (q.along).hi], .slice s.p s.n s.c, .int .i64 (k : Int)] W (fun e w' => e = .returned (.agg #[.int .i64 (oneR (q.along) s.xs (k)).lo, .int .i64 (oneR (q.along) s.xs (k)).hi]) ∧ Below W.heap.size W w') from Top_one (q.along) s (k) W ((HSI.out.below HW5.out).below hb) (by omega) (rgOk_part OK1.out.along (by decide) (by decide)))
      have CT1 := Lib.hid (fun W (hb : Below W5.heap.size W5 W) => Top_side (q.vol) up W ((AQ5.out.1).same hb) (tbSane_of (AQ5.out.1) OK1.out.tabs.1.1).1)
      have CT2 := Lib.hid (fun W (hb : Below W5.heap.size W5 W) => show Calls Tryz.prog 22 #[.agg #[.slice (q.sur).p (q.sur).n (q.sur).c], .slice s.p s.n s.c, .int .i64 (k : Int)] W (TbPost W (curveP (q.sur).ps s.xs k)) from Top_curve (q.sur) s k W ((AQ5.out.2.1).same hb) ((HSI.out.below HW5.out).below hb) (by omega) (tbSane_of (AQ5.out.2.1) OK1.out.tabs.2.1.1.1))
      have CT3 := Lib.hid (fun W (hb : Below W5.heap.size W5 W) => Top_side (q.hei) up W ((AQ5.out.2.2).same hb) (tbSane_of (AQ5.out.2.2) OK1.out.tabs.2.2.1.1).1)
      generalize hr1 : oneR q.along s.xs k = r1 at *
      have HR1 := Lib.hid hr1
      clear hr1
      go_wp2_with fail
      ((refine Soft.region_mix [(true, 0), (true, 1), (true, 2), (true, 3), (true, 4), (true, 5), (true, 6), (true, 7), (true, 9), (true, 10), (true, 11), (true, 13), (true, 14), (true, 15), (true, 16), (true, 18), (true, 19), (true, 20), (false, 8), (false, 12), (false, 17), (false, 21), (true, 22), (false, 23)] [24, 25, 26] (by kernel_rfl) (by kernel_rfl) (by kernel_rfl) (by kernel_rfl) ?_; change Soft.wpMix _ _ _ _ [(true, _), (true, _), (true, _), (true, _), (true, _), (true, _), (true, _), (true, _), (true, _), (true, _), (true, _), (true, _), (true, _), (true, _), (true, _), (true, _), (true, _), (true, _), (false, _), (false, _), (false, _), (false, _), (true, _), (false, _)] _ _); (refine Soft.mix_q (fun K hK => ?_); go_simp; (try go_bits); first | (refine hK _ ?_; clear hK K) | (apply Exists.intro; refine ⟨fun x => ?_, hK _ ?_⟩; fail)); (refine Soft.mix_q (fun K hK => ?_); go_simp; (try go_bits); first | (refine hK _ ?_; clear hK K) | (apply Exists.intro; refine ⟨fun x => ?_, hK _ ?_⟩; fail)); (refine Soft.mix_q (fun K hK => ?_); go_simp; (try go_bits); first | (refine hK _ ?_; clear hK K) | (apply Exists.intro; refine ⟨fun x => ?_, hK _ ?_⟩; fail)); (refine Soft.mix_q (fun K hK => ?_); go_simp; (try go_bits); first | (refine hK _ ?_; clear hK K) | (apply Exists.intro; refine ⟨fun x => ?_, hK _ ?_⟩; fail)); (refine Soft.mix_q (fun K hK => ?_); go_simp; (try go_bits); first | (refine hK _ ?_; clear hK K) | (apply Exists.intro; refine ⟨fun x => ?_, hK _ ?_⟩; fail)); (refine Soft.mix_q (fun K hK => ?_); go_simp; (try go_bits); first | (refine hK _ ?_; clear hK K) | (apply Exists.intro; refine ⟨fun x => ?_, hK _ ?_⟩; fail)); (refine Soft.mix_q (fun K hK => ?_); go_simp; (try go_bits); first | (refine hK _ ?_; clear hK K) | (apply Exists.intro; refine ⟨fun x => ?_, hK _ ?_⟩; fail)); (refine Soft.mix_q (fun K hK => ?_); go_simp; (try go_bits); first | (refine hK _ ?_; clear hK K) | (apply Exists.intro; refine ⟨fun x => ?_, hK _ ?_⟩; fail)); (refine Soft.mix_q (fun K hK => ?_); go_simp; (try go_bits); first | (refine hK _ ?_; clear hK K) | (apply Exists.intro; refine ⟨fun x => ?_, hK _ ?_⟩; fail)); (refine Soft.mix_q (fun K hK => ?_); go_simp; (try go_bits); first | (refine hK _ ?_; clear hK K) | (apply Exists.intro; refine ⟨fun x => ?_, hK _ ?_⟩; fail)); (refine Soft.mix_q (fun K hK => ?_); go_simp; (try go_bits); first | (refine hK _ ?_; clear hK K) | (apply Exists.intro; refine ⟨fun x => ?_, hK _ ?_⟩; fail)); (refine Soft.mix_q (fun K hK => ?_); go_simp; (try go_bits); first | (refine hK _ ?_; clear hK K) | (apply Exists.intro; refine ⟨fun x => ?_, hK _ ?_⟩; fail)); (refine Soft.mix_q (fun K hK => ?_); go_simp; (try go_bits); first | (refine hK _ ?_; clear hK K) | (apply Exists.intro; refine ⟨fun x => ?_, hK _ ?_⟩; fail)); (refine Soft.mix_q (fun K hK => ?_); go_simp; (try go_bits); first | (refine hK _ ?_; clear hK K) | (apply Exists.intro; refine ⟨fun x => ?_, hK _ ?_⟩; fail)); (refine Soft.mix_q (fun K hK => ?_); go_simp; (try go_bits); first | (refine hK _ ?_; clear hK K) | (apply Exists.intro; refine ⟨fun x => ?_, hK _ ?_⟩; fail)); (refine Soft.mix_q (fun K hK => ?_); go_simp; (try go_bits); first | (refine hK _ ?_; clear hK K) | (apply Exists.intro; refine ⟨fun x => ?_, hK _ ?_⟩; fail)); (refine Soft.mix_q (fun K hK => ?_); go_simp; (try go_bits); first | (refine hK _ ?_; clear hK K) | (apply Exists.intro; refine ⟨fun x => ?_, hK _ ?_⟩; fail)); (refine Soft.mix_q (fun K hK => ?_); go_simp; (try go_bits); first | (refine hK _ ?_; clear hK K) | (apply Exists.intro; refine ⟨fun x => ?_, hK _ ?_⟩; fail)); (refine Soft.mix_c (fun K hK => ?_); go_simp; (try go_bits); ((go_at_call 9; (with_reducible refine (CO1.out _ (by (with_reducible repeat (first | exact blr _ | refine bla ?_ _ | refine blw _ ?_ | refine bld ?_ | refine bln _ ?_ | refine bls ?_ _ | refine blt ?_)))).mono ?_); rintro e w_ ⟨rfl, hb_⟩; obtain ⟨o1, rfl⟩ := Soft.BW.mk hb_; clear hb_; refine ⟨_, rfl, (by first | with_reducible exact Soft.BW.below o1 | simpa using Soft.BW.below o1), hK _ _ ?_⟩)); clear hK K); (refine Soft.mix_c (fun K hK => ?_); go_simp; (try go_bits); ((go_at_call 23; (with_reducible refine (CT1.out _ (by (with_reducible repeat (first | exact blr _ | refine bla ?_ _ | refine blw _ ?_ | refine bld ?_ | refine bln _ ?_ | refine bls ?_ _ | refine blt ?_)))).mono ?_); rintro e w_ ⟨q1, rfl, hq1, hp1, hf1, hb_⟩; obtain ⟨y1, rfl⟩ := Soft.BW.mk hb_; clear hb_; have HQ1 := Lib.hid hq1; have HF1 := Lib.hid hf1; have HE1 := Lib.hid hp1; clear hq1 hf1 hp1; refine ⟨_, rfl, (by first | with_reducible exact Soft.BW.below y1 | simpa using Soft.BW.below y1), hK _ _ ?_⟩)); clear hK K); (refine Soft.mix_c (fun K hK => ?_); go_simp; (try go_bits); ((go_at_call 22; (with_reducible refine (CT2.out _ (by (with_reducible repeat (first | exact blr _ | refine bla ?_ _ | refine blw _ ?_ | refine bld ?_ | refine bln _ ?_ | refine bls ?_ _ | refine blt ?_)))).mono ?_); rintro e w_ ⟨q2, rfl, hq2, hp2, hf2, hb_⟩; obtain ⟨y2, rfl⟩ := Soft.BW.mk hb_; clear hb_; have HQ2 := Lib.hid hq2; have HF2 := Lib.hid hf2; have HE2 := Lib.hid hp2; clear hq2 hf2 hp2; refine ⟨_, rfl, (by first | with_reducible exact Soft.BW.below y2 | simpa using Soft.BW.below y2), hK _ _ ?_⟩)); clear hK K); (refine Soft.mix_c (fun K hK => ?_); go_simp; (try go_bits); ((go_at_call 23; (with_reducible refine (CT3.out _ (by (with_reducible repeat (first | exact blr _ | refine bla ?_ _ | refine blw _ ?_ | refine bld ?_ | refine bln _ ?_ | refine bls ?_ _ | refine blt ?_)))).mono ?_); rintro e w_ ⟨q3, rfl, hq3, hp3, hf3, hb_⟩; obtain ⟨y3, rfl⟩ := Soft.BW.mk hb_; clear hb_; have HQ3 := Lib.hid hq3; have HF3 := Lib.hid hf3; have HE3 := Lib.hid hp3; clear hq3 hf3 hp3; refine ⟨_, rfl, (by first | with_reducible exact Soft.BW.below y3 | simpa using Soft.BW.below y3), hK _ _ ?_⟩)); clear hK K); (refine Soft.mix_q (fun K hK => ?_); go_simp; (try go_bits); first | (refine hK _ ?_; clear hK K) | (apply Exists.intro; refine ⟨fun x => ?_, hK _ ?_⟩; fail)); (refine Soft.mix_c (fun K hK => ?_); go_simp; (try go_bits); refine ⟨by first | exact Below.refl _ _ | exact Below.alloc (Below.refl _ _) (Nat.le_refl _) _, hK _ _ ?_⟩; clear hK K); (refine Soft.mix_nil ?_; intro hbx; change wpList _ _ _ [_, _, _] _ _))
      have hY : Below W5.heap.size W5 (y3.w.alloc (.cells #[.int .i64 q.id, .int .i64 r1.lo, .int .i64 r1.hi, .slice q1.p q1.n q1.c, .slice q2.p q2.n q2.c, .slice q3.p q3.n q3.c] 83)) := by (with_reducible repeat (first | exact blr _ | refine bla ?_ _ | refine blw _ ?_ | refine bld ?_ | refine bln _ ?_ | refine bls ?_ _ | refine blt ?_))
      have HY5 := Lib.hid hY
      have hYs := hY.size
      have hy1 : W5.heap.size ≤ y3.w.heap.size := by have := (show Below W5.heap.size W5 y3.w by (with_reducible repeat (first | exact blr _ | refine bla ?_ _ | refine blw _ ?_ | refine bld ?_ | refine bln _ ?_ | refine bls ?_ _ | refine blt ?_))).size; exact this
      have hlt4 := HTR.out.lt
      have OW := Lib.hid ((HTR.out.call hY).heap.own 3 _ rfl)
      have PK := Lib.hid ((HTR.out.out).below hY)
      clear hY
      go_wp2_with (at_builtin; go_loud (refine app_row rt5_tank rfl (.tmp 203) (.tmp 225) rfl (w.heap.size + 4) vt T.length (T.flatMap tkC) rfl OW.out y3.w.heap.size (tkC (⟨q.id, r1, q1, q2, q3⟩ : Tk)) rfl rfl (fun u hu => by simp [tkC] at hu; rcases hu with rfl | rfl | rfl | rfl | rfl | rfl <;> rfl) (fun jj uu huu => (HasBlk.cell (c := #[.int .i64 q.id, .int .i64 r1.lo, .int .i64 r1.hi, .slice q1.p q1.n q1.c, .slice q2.p q2.n q2.c, .slice q3.p q3.n q3.c]) (t := 83) (Soft.heap_new _ _) jj).trans (by simpa [tkC] using huu)) (by have := HTL.out; omega) (by omega) ?_); intro g3 g3c wg3 ho3 hb3 hg3 hl3 hg4 hg5 hc4 hc5; have HOg3 := Lib.hid ho3; have HBg3 := Lib.hid hb3; have HGg3 := Lib.hid hg3; have HLg3 := Lib.hid hl3; have z7 := HasBlk.frozen ((hb3.block (w.heap.size + 3) (by omega)).trans PK.out) 17; have z8 := HasBlk.cell ((hb3.block (w.heap.size + 3) (by omega)).trans PK.out) 17; simp at z8; have lz := Soft.LtH.mk (b := w.heap.size + 3) (w := wg3) (Nat.lt_of_lt_of_le (by omega) hb3.size); clear ho3 hb3 hg3 hl3)
      have HT_ := HTR.out.add HY5.out (more := [q1, q2, q3]) (fun t ht => by 
        simp only [List.mem_cons, List.not_mem_nil, or_false] at ht
        have z1 : Below W5.heap.size W5 o1.w := by (with_reducible repeat (first | exact blr _ | refine bla ?_ _ | refine blw _ ?_ | refine bld ?_ | refine bln _ ?_ | refine bls ?_ _ | refine blt ?_))
        have z2 : Below W5.heap.size W5 y1.w := by (with_reducible repeat (first | exact blr _ | refine bla ?_ _ | refine blw _ ?_ | refine bld ?_ | refine bln _ ?_ | refine bls ?_ _ | refine blt ?_))
        have z3 : Below W5.heap.size W5 y2.w := by (with_reducible repeat (first | exact blr _ | refine bla ?_ _ | refine blw _ ?_ | refine bld ?_ | refine bln _ ?_ | refine bls ?_ _ | refine blt ?_))
        rcases ht with rfl | rfl | rfl
        · exact ⟨HQ1.out.same (by (with_reducible repeat (first | exact blr _ | refine bla ?_ _ | refine blw _ ?_ | refine bld ?_ | refine bln _ ?_ | refine bls ?_ _ | refine blt ?_))), fun b o e => Nat.le_trans z1.size (HF1.out b o e)⟩
        · exact ⟨HQ2.out.same (by (with_reducible repeat (first | exact blr _ | refine bla ?_ _ | refine blw _ ?_ | refine bld ?_ | refine bln _ ?_ | refine bls ?_ _ | refine blt ?_))), fun b o e => Nat.le_trans z2.size (HF2.out b o e)⟩
        · exact ⟨HQ3.out.same (by (with_reducible repeat (first | exact blr _ | refine bla ?_ _ | refine blw _ ?_ | refine bld ?_ | refine bln _ ?_ | refine bls ?_ _ | refine blt ?_))), fun b o e => Nat.le_trans z3.size (HF3.out b o e)⟩) 3 rfl (r' := ⟨83, 6, T.flatMap tkC ++ tkC (⟨q.id, r1, q1, q2, q3⟩ : Tk), T.length + 1, .slice (some ⟨g3, 0, none⟩) (T.length + 1) g3c⟩) HOg3.out HBg3.out HGg3.out HLg3.out rfl 17 (.slice (some ⟨g3, 0, none⟩) (T.length + 1) g3c)
      rw [rows5_T] at HT_
      have g0 := HasBlk.set_other (kept_blk (HG0.out.below HY5.out) HGg3.out (fun e => absurd (HTG.out (RB + 1) e) (Nat.not_lt_of_le (Nat.le_succ RB)))) (p := ⟨w.heap.size + 3, 17, none⟩) (by have := HSZ.out; dsimp only; omega) (.slice (some ⟨g3, 0, none⟩) (T.length + 1) g3c)
      have RQ := Lib.hid (⟨HE1.out, HE2.out, HE3.out⟩ : _ ∧ _ ∧ _)
      clear HTR HG0 HE1 HE2 HE3 HF1 HF2 HF3 HQ1 HQ2 HQ3 HY5 HOg3 HBg3 HGg3 HLg3 PK OW z7 z8 lz x0 x1 x2 x3 x4 x5 m0 lr l3 CO1 CT1 CT2 CT3 AQ5 HTG HW5 hYs hy1 hlt4 tl gl hbx
      generalize wg3.setCell ⟨w.heap.size + 3, 17, none⟩ (.slice (some ⟨g3, 0, none⟩) (T.length + 1) g3c) = W6 at *
      have HTR := Lib.hid HT_
      clear HT_
      have HW6 := Lib.hid HTR.out.bel
      have hlt4 := HTR.out.lt
      have gl := g0.lt
      have e0 := g0.cell 0
      have e1 := g0.cell 1
      have e2 := g0.cell 2
      have e3 := g0.cell 3
      have e4 := g0.cell 4
      have e5 := g0.cell 5
      have m0 := HTR.out.out.cell 18
      simp at e0 e1 e2 e3 e4 e5 m0
      have lr := Soft.LtH.mk (b := RB + 1) (w := W6) gl
      have l3 := Soft.LtH.mk (b := w.heap.size + 3) (w := W6) HTR.out.out.lt
      have hx0 := OK1.out.tabs.1.1.all 0 (by have := OK1.out.tabs.1.2; omega)
      have hxl := OK1.out.tabs.1.1.all (q.vol.ps.length - 1) (by have := OK1.out.tabs.1.2; omega)
      have CO2 := Lib.hid (fun W (hb : Below W6.heap.size W6 W) => show Calls Tryz.prog 9 #[.agg #[.int .i64 (g.snd).lo, .int .i64 (g.snd).hi], .slice s.p s.n s.c, .int .i64 (15 + (k : Int))] W (fun e w' => e = .returned (.agg #[.int .i64 (oneR (g.snd) s.xs (15 + k)).lo, .int .i64 (oneR (g.snd) s.xs (15 + k)).hi]) ∧ Below W.heap.size W w') from Top_one (g.snd) s (15 + k) W ((HSI.out.below HW6.out).below hb) (by omega) (rgOk_part OK2.out.2.2.1 (by have := hx0.1; show -2000000000000000 ≤ (pt q.vol.ps 0).x; omega) (by have := hxl.2.1; show (pt q.vol.ps (q.vol.ps.length - 1)).x ≤ (2000000000000000 : Int); omega)))
      have CO3 := Lib.hid (fun W (hb : Below W6.heap.size W6 W) => show Calls Tryz.prog 9 #[.agg #[.int .i64 (g.den).lo, .int .i64 (g.den).hi], .slice s.p s.n s.c, .int .i64 (16 + (k : Int))] W (fun e w' => e = .returned (.agg #[.int .i64 (oneR (g.den) s.xs (16 + k)).lo, .int .i64 (oneR (g.den) s.xs (16 + k)).hi]) ∧ Below W.heap.size W w') from Top_one (g.den) s (16 + k) W ((HSI.out.below HW6.out).below hb) (by omega) (rgOk_part OK2.out.2.1 (by decide) (by decide)))
      generalize hr2 : oneR g.snd s.xs (15 + k) = r2 at *
      generalize hr3 : oneR g.den s.xs (16 + k) = r3 at *
      have HR2 := Lib.hid hr2; have HR3 := Lib.hid hr3
      clear hr2 hr3 hx0 hxl
      go_wp2_with fail
      ((refine Soft.region_mix [(true, 0), (true, 1), (true, 2), (true, 3), (true, 4), (true, 5), (true, 6), (true, 7), (true, 8), (true, 9), (true, 10), (true, 12), (true, 13), (true, 14), (true, 15), (true, 16), (false, 11), (false, 17), (true, 18), (false, 19)] [20, 21, 22] (by kernel_rfl) (by kernel_rfl) (by kernel_rfl) (by kernel_rfl) ?_; change Soft.wpMix _ _ _ _ [(true, _), (true, _), (true, _), (true, _), (true, _), (true, _), (true, _), (true, _), (true, _), (true, _), (true, _), (true, _), (true, _), (true, _), (true, _), (true, _), (false, _), (false, _), (true, _), (false, _)] _ _); (refine Soft.mix_q (fun K hK => ?_); go_simp; (try go_bits); first | (refine hK _ ?_; clear hK K) | (apply Exists.intro; refine ⟨fun x => ?_, hK _ ?_⟩; fail)); (refine Soft.mix_q (fun K hK => ?_); go_simp; (try go_bits); first | (refine hK _ ?_; clear hK K) | (apply Exists.intro; refine ⟨fun x => ?_, hK _ ?_⟩; fail)); (refine Soft.mix_q (fun K hK => ?_); go_simp; (try go_bits); first | (refine hK _ ?_; clear hK K) | (apply Exists.intro; refine ⟨fun x => ?_, hK _ ?_⟩; fail)); (refine Soft.mix_q (fun K hK => ?_); go_simp; (try go_bits); first | (refine hK _ ?_; clear hK K) | (apply Exists.intro; refine ⟨fun x => ?_, hK _ ?_⟩; fail)); (refine Soft.mix_q (fun K hK => ?_); go_simp; (try go_bits); first | (refine hK _ ?_; clear hK K) | (apply Exists.intro; refine ⟨fun x => ?_, hK _ ?_⟩; fail)); (refine Soft.mix_q (fun K hK => ?_); go_simp; (try go_bits); first | (refine hK _ ?_; clear hK K) | (apply Exists.intro; refine ⟨fun x => ?_, hK _ ?_⟩; fail)); (refine Soft.mix_q (fun K hK => ?_); go_simp; (try go_bits); first | (refine hK _ ?_; clear hK K) | (apply Exists.intro; refine ⟨fun x => ?_, hK _ ?_⟩; fail)); (refine Soft.mix_q (fun K hK => ?_); go_simp; (try go_bits); first | (refine hK _ ?_; clear hK K) | (apply Exists.intro; refine ⟨fun x => ?_, hK _ ?_⟩; fail)); (refine Soft.mix_q (fun K hK => ?_); go_simp; (try go_bits); first | (refine hK _ ?_; clear hK K) | (apply Exists.intro; refine ⟨fun x => ?_, hK _ ?_⟩; fail)); (refine Soft.mix_q (fun K hK => ?_); go_simp; (try go_bits); first | (refine hK _ ?_; clear hK K) | (apply Exists.intro; refine ⟨fun x => ?_, hK _ ?_⟩; fail)); (refine Soft.mix_q (fun K hK => ?_); go_simp; (try go_bits); first | (refine hK _ ?_; clear hK K) | (apply Exists.intro; refine ⟨fun x => ?_, hK _ ?_⟩; fail)); (refine Soft.mix_q (fun K hK => ?_); go_simp; (try go_bits); first | (refine hK _ ?_; clear hK K) | (apply Exists.intro; refine ⟨fun x => ?_, hK _ ?_⟩; fail)); (refine Soft.mix_q (fun K hK => ?_); go_simp; (try go_bits); first | (refine hK _ ?_; clear hK K) | (apply Exists.intro; refine ⟨fun x => ?_, hK _ ?_⟩; fail)); (refine Soft.mix_q (fun K hK => ?_); go_simp; (try go_bits); first | (refine hK _ ?_; clear hK K) | (apply Exists.intro; refine ⟨fun x => ?_, hK _ ?_⟩; fail)); (refine Soft.mix_q (fun K hK => ?_); go_simp; (try go_bits); first | (refine hK _ ?_; clear hK K) | (apply Exists.intro; refine ⟨fun x => ?_, hK _ ?_⟩; fail)); (refine Soft.mix_q (fun K hK => ?_); go_simp; (try go_bits); first | (refine hK _ ?_; clear hK K) | (apply Exists.intro; refine ⟨fun x => ?_, hK _ ?_⟩; fail)); (refine Soft.mix_c (fun K hK => ?_); go_simp; (try go_bits); ((go_at_call 9; (with_reducible refine (CO2.out _ (by (with_reducible repeat (first | exact blr _ | refine bla ?_ _ | refine blw _ ?_ | refine bld ?_ | refine bln _ ?_ | refine bls ?_ _ | refine blt ?_)))).mono ?_); rintro e w_ ⟨rfl, hb_⟩; obtain ⟨o2, rfl⟩ := Soft.BW.mk hb_; clear hb_; refine ⟨_, rfl, (by first | with_reducible exact Soft.BW.below o2 | simpa using Soft.BW.below o2), hK _ _ ?_⟩)); clear hK K); (refine Soft.mix_c (fun K hK => ?_); go_simp; (try go_bits); ((go_at_call 9; (with_reducible refine (CO3.out _ (by (with_reducible repeat (first | exact blr _ | refine bla ?_ _ | refine blw _ ?_ | refine bld ?_ | refine bln _ ?_ | refine bls ?_ _ | refine blt ?_)))).mono ?_); rintro e w_ ⟨rfl, hb_⟩; obtain ⟨o3, rfl⟩ := Soft.BW.mk hb_; clear hb_; refine ⟨_, rfl, (by first | with_reducible exact Soft.BW.below o3 | simpa using Soft.BW.below o3), hK _ _ ?_⟩)); clear hK K); (refine Soft.mix_q (fun K hK => ?_); go_simp; (try go_bits); first | (refine hK _ ?_; clear hK K) | (apply Exists.intro; refine ⟨fun x => ?_, hK _ ?_⟩; fail)); (refine Soft.mix_c (fun K hK => ?_); go_simp; (try go_bits); refine ⟨by first | exact Below.refl _ _ | exact Below.alloc (Below.refl _ _) (Nat.le_refl _) _, hK _ _ ?_⟩; clear hK K); (refine Soft.mix_nil ?_; intro hbx; change wpList _ _ _ [_, _, _] _ _))
      have hY : Below W6.heap.size W6 (o3.w.alloc (.cells #[.int .i64 g.tank, .bool g.pressed, .int .i64 r2.lo, .int .i64 r2.hi, .int .i64 r3.lo, .int .i64 r3.hi] 85)) := by (with_reducible repeat (first | exact blr _ | refine bla ?_ _ | refine blw _ ?_ | refine bld ?_ | refine bln _ ?_ | refine bls ?_ _ | refine blt ?_))
      have HY6 := Lib.hid hY
      have hYs := hY.size
      have hy1 : W6.heap.size ≤ o3.w.heap.size := by have := (show Below W6.heap.size W6 o3.w by (with_reducible repeat (first | exact blr _ | refine bla ?_ _ | refine blw _ ?_ | refine bld ?_ | refine bln _ ?_ | refine bls ?_ _ | refine blt ?_))).size; exact this
      have hlt4 := HTR.out.lt
      have OW := Lib.hid ((HTR.out.call hY).heap.own 4 _ rfl)
      have PK := Lib.hid ((HTR.out.out).below hY)
      clear hY
      go_wp2_with (at_builtin; go_loud (refine app_row rt5_level rfl (.tmp 229) (.tmp 247) rfl (w.heap.size + 4) vl L.length (L.flatMap lvC) rfl OW.out o3.w.heap.size (lvC (⟨g.tank, g.pressed, r2, r3⟩ : Lv)) rfl rfl (fun u hu => by simp [lvC] at hu; rcases hu with rfl | rfl | rfl | rfl | rfl | rfl <;> rfl) (fun jj uu huu => (HasBlk.cell (c := #[.int .i64 g.tank, .bool g.pressed, .int .i64 r2.lo, .int .i64 r2.hi, .int .i64 r3.lo, .int .i64 r3.hi]) (t := 85) (Soft.heap_new _ _) jj).trans (by simpa [lvC] using huu)) (by have := HLL.out; omega) (by omega) ?_); intro g4 g4c wg4 ho3 hb3 hg3 hl3 hg4 hg5 hc4 hc5; have HOg4 := Lib.hid ho3; have HBg4 := Lib.hid hb3; have HGg4 := Lib.hid hg3; have HLg4 := Lib.hid hl3; have z7 := HasBlk.frozen ((hb3.block (w.heap.size + 3) (by omega)).trans PK.out) 18; have z8 := HasBlk.cell ((hb3.block (w.heap.size + 3) (by omega)).trans PK.out) 18; simp at z8; have lz := Soft.LtH.mk (b := w.heap.size + 3) (w := wg4) (Nat.lt_of_lt_of_le (by omega) hb3.size); clear ho3 hb3 hg3 hl3)
      have HT_ := HTR.out.add HY6.out (more := []) (fun t ht => by exact absurd ht List.not_mem_nil) 4 rfl (r' := ⟨85, 6, L.flatMap lvC ++ lvC (⟨g.tank, g.pressed, r2, r3⟩ : Lv), L.length + 1, .slice (some ⟨g4, 0, none⟩) (L.length + 1) g4c⟩) HOg4.out HBg4.out HGg4.out HLg4.out rfl 18 (.slice (some ⟨g4, 0, none⟩) (L.length + 1) g4c)
      rw [rows5_L, List.append_nil] at HT_
      go_roundw
      case rel =>
        refine ⟨k + 1, .slice (some ⟨g3, 0, none⟩) (T.length + 1) g3c, .slice (some ⟨g4, 0, none⟩) (L.length + 1) g4c, T ++ [(⟨q.id, r1, q1, q2, q3⟩ : Tk)], L ++ [(⟨g.tank, g.pressed, r2, r3⟩ : Lv)], tabs' ++ [q1, q2, q3], by simp, by omega, by simp [HTL.out], by simp [HLL.out], fun j hj => ?_, fun j hj => ?_, fun t ht => ?_, fun t ht => List.mem_append_left _ (HSUB.out t ht), HT_⟩
        · have hcr := get_snoc' T (⟨q.id, r1, q1, q2, q3⟩ : Tk) j
          rw [HTL.out] at hcr
          show TkT _ _ _ (((T ++ [(⟨q.id, r1, q1, q2, q3⟩ : Tk)])[j]?).getD default)
          rw [hcr]
          by_cases e : j < k
          · rw [if_pos e]; exact HTT.out j e
          · obtain rfl : j = k := by omega
            rw [if_neg e, if_pos rfl, HQE.out]
            obtain ⟨a1, a2, a3⟩ := RQ.out
            exact ⟨rfl, HR1.out.symm, by rw [HUP2.out]; exact a1, a2, by rw [HUP2.out]; exact a3⟩
        · have hcr := get_snoc' L (⟨g.tank, g.pressed, r2, r3⟩ : Lv) j
          rw [HLL.out] at hcr
          show (((L ++ [(⟨g.tank, g.pressed, r2, r3⟩ : Lv)])[j]?).getD default) = _
          rw [hcr]
          by_cases e : j < k
          · rw [if_pos e]; exact HLT.out j e
          · obtain rfl : j = k := by omega
            rw [if_neg e, if_pos rfl, HGE.out, ← HR2.out, ← HR3.out]
            rfl
        · rcases List.mem_append.1 ht with h | h
          · obtain ⟨a1, a2, a3⟩ := HTB.out t h
            exact ⟨List.mem_append_left _ a1, List.mem_append_left _ a2, List.mem_append_left _ a3⟩
          · obtain rfl := List.mem_singleton.1 h
            exact ⟨List.mem_append_right _ (by simp), List.mem_append_right _ (by simp), List.mem_append_right _ (by simp)⟩
      case measure => simp [intOf]; omega
    · obtain rfl : k = tn := by omega
      have n3 := own_one (htr.heap.own 3 _ rfl)
      have n4 := own_one (htr.heap.own 4 _ rfl)
      have n1 := own_one (htr.heap.own 1 _ rfl)
      have n2 := own_one (htr.heap.own 2 _ rfl)
      have ONE := Lib.hid (show (#[c0, c1, c2, c3, c4, c5, c6, c7, c8, c9, c10, c11, c12, c13, c14, vh, vf, vt, vl, .int .i64 most] : Array Value).all (·.oneCell') = true by
        have h1 := H1.out
        simp only [List.all_toArray, List.all_cons, List.all_nil, Bool.and_true, Bool.and_eq_true] at h1 ⊢
        obtain ⟨a0, a1, a2, a3, a4, a5, a6, a7, a8, a9, a10, a11, a12, a13, a14⟩ := h1
        exact ⟨a0, a1, a2, a3, a4, a5, a6, a7, a8, a9, a10, a11, a12, a13, a14, n1, n2, n3, n4, rfl⟩)
      have HTR := Lib.hid htr
      clear htr
      have HF := Lib.hid (⟨hTl, hLl, hT, hL, htb, hsub⟩ : _ ∧ _ ∧ _ ∧ _ ∧ _ ∧ _)
      clear hTl hLl hT hL htb hsub n1 n2 n3 n4 hlt hk
      go_wp2_with (first
        | (refine wpList_load_part rfl 37 (.tmp 6) rfl (w.heap.size + 3) 0 rfl 37 _ #[c0, c1, c2, c3, c4, c5, c6, c7, c8, c9, c10, c11, c12, c13, c14, vh, vf, vt, vl, .int .i64 most] _ HTR.out.out Tryz.underlying37 rfl (by kernel_rfl) rfl ?_)
        | (refine wpList_store_row rfl 37 (.tmp 4) (.tmp 251) rfl (w.heap.size + 1) #[c0, c1, c2, c3, c4, c5, c6, c7, c8, c9, c10, c11, c12, c13, c14, vh, vf, vt, vl, .int .i64 most] rfl rfl 37 _ HTR.out.p1 (by kernel_rfl) rfl ONE.out ?_))
      refine bodyPost_ret (results_cell_row rfl _ _ (w.heap.size + 1) _ _ _ _ rfl (setRow_heap _ _ _ _ _ _ HTR.out.p1) Tryz.underlying37 rfl (by kernel_rfl)) rfl ?_
      obtain ⟨f1, f2, f3, f4, f5, f6⟩ := HF.out
      exact HR.out vt vl T L tabs' _ f1 f2 f3 f4 f5 f6 (HTR.out.heap.row (by omega) _) (below_setRow HTR.out.bel (by omega) _)

end Go.Proofs.YteagdcgmmdiakaaGreat
