/-
  The walk of the law HoldSums: words and laws.
  Conditions: each theorem's own premises.
-/
import Derived.Test.YtbjdgaeikihjbaaGrow
import Derived.Test.YtbjdgaeikihjbaaSump
import Derived.Test.YtbjdgaeikihjbaaHlod
import Derived.Test.YtbjdgaeikihjbaaLlod
import Derived.Test.YtbjdgaeikihjbaaMade
import Derived.Test.YtbjdgaeikihjbaaMadf
import Derived.Test.YtbjdgaeikihjbaaTnk
import Derived.Test.YtbjdgaeikihjbaaLev
import Derived.Test.YtbjdgaeikihjbaaSanf
import Derived.Deep.RegionHeld3
import Derived.Deep.RegionLaw
import Derived.Deep.AppendLies
namespace Go.Proofs.Ytbjdgaeikihjbaa
set_option linter.unusedSimpArgs false
set_option linter.unusedVariables false
open Go.RowKit
set_option maxRecDepth 100000
set_option maxHeartbeats 20000000
attribute [local go_sem] Instr.field asAgg Soft.upon Soft.BW.cell_if Soft.BW.frozen_if Soft.cell_alloc_if Soft.frozen_alloc_if
attribute [local irreducible] Soft.wpSoft

/-- Five numbers. -/
structure Fv where
  a : Int
  b : Int
  c : Int
  d : Int
  e : Int
instance : Inhabited Fv := ⟨⟨0, 0, 0, 0, 0⟩⟩
instance : Inhabited Is := ⟨⟨none, 0, 0, []⟩⟩
instance : Inhabited Rw := ⟨⟨0, 0, default, default⟩⟩
def fvC (f : Fv) : List Value := [.int .i64 f.a, .int .i64 f.b, .int .i64 f.c, .int .i64 f.d, .int .i64 f.e]
def rwC (r : Rw) : List Value := [.int .i64 r.id, .int .i64 r.first, .slice r.steps.p r.steps.n r.steps.c, .slice r.vals.p r.vals.n r.vals.c]
abbrev rv (l : List Rw) (i : Nat) : Rw := l[i]?.getD default
abbrev v5 (l : List Fv) (i : Nat) : Fv := l[i]?.getD default
def RsAt (w : World) (s : Sl Rw) : Prop := s.xs.length = s.n ∧ RowsAt w s.p s.n s.c 4 (fun i => rwC (rv s.xs i)) ∧ ∀ i, i < s.n → (rv s.xs i).At w
def V5At (w : World) (s : Sl Fv) : Prop := s.xs.length = s.n ∧ RowsAt w s.p s.n s.c 5 (fun i => fvC (v5 s.xs i))
theorem RsAt.same {w w' : World} {s : Sl Rw} (h : RsAt w s) (hb : Below w.heap.size w w') : RsAt w' s := ⟨h.1, h.2.1.same hb, fun i hi => (h.2.2 i hi).below hb⟩
theorem V5At.same {w w' : World} {s : Sl Fv} (h : V5At w s) (hb : Below w.heap.size w w') : V5At w' s := ⟨h.1, h.2.same hb⟩
theorem RsAt.cells {w : World} {s : Sl Rw} (h : RsAt w s) (hn : s.n ≠ 0) : ∃ b o, s.p = some ⟨b, o, none⟩ ∧ b < w.heap.size ∧ ∀ i, i < s.n →
    w.cell? ⟨b, o + i * 4, none⟩ = some (.int .i64 (rv s.xs i).id) ∧ w.cell? ⟨b, o + i * 4 + 1, none⟩ = some (.int .i64 (rv s.xs i).first) ∧ w.cell? ⟨b, o + i * 4 + 2, none⟩ = some (.slice (rv s.xs i).steps.p (rv s.xs i).steps.n (rv s.xs i).steps.c) ∧
    w.cell? ⟨b, o + i * 4 + 3, none⟩ = some (.slice (rv s.xs i).vals.p (rv s.xs i).vals.n (rv s.xs i).vals.c) := by
  obtain ⟨b, o, e, hb, hc⟩ := h.2.1.2.2 hn
  refine ⟨b, o, e, hb, fun i hi => ?_⟩
  have k := hc i hi
  exact ⟨k 0 _ rfl, k 1 _ rfl, k 2 _ rfl, k 3 _ rfl⟩
theorem V5At.cells {w : World} {s : Sl Fv} (h : V5At w s) (hn : s.n ≠ 0) : ∃ b o, s.p = some ⟨b, o, none⟩ ∧ b < w.heap.size ∧ ∀ i, i < s.n →
    w.cell? ⟨b, o + i * 5, none⟩ = some (.int .i64 (v5 s.xs i).a) ∧ w.cell? ⟨b, o + i * 5 + 1, none⟩ = some (.int .i64 (v5 s.xs i).b) ∧ w.cell? ⟨b, o + i * 5 + 2, none⟩ = some (.int .i64 (v5 s.xs i).c) ∧
    w.cell? ⟨b, o + i * 5 + 3, none⟩ = some (.int .i64 (v5 s.xs i).d) ∧ w.cell? ⟨b, o + i * 5 + 4, none⟩ = some (.int .i64 (v5 s.xs i).e) := by
  obtain ⟨b, o, e, hb, hc⟩ := h.2.2.2 hn
  refine ⟨b, o, e, hb, fun i hi => ?_⟩
  have k := hc i hi
  exact ⟨k 0 _ rfl, k 1 _ rfl, k 2 _ rfl, k 3 _ rfl, k 4 _ rfl⟩

theorem rt_hold : RowTy 97 35 14 := by
  have h : (Try.prog.info? 35).map (fun i => (i.zero, i.size, i.bytes)) = some (some (.agg #[.int .i64 0, .int .i64 0, .int .i64 0, .slice none 0 0, .slice none 0 0, .slice none 0 0, .int .i64 0, .int .i64 0, .int .i64 0, .int .i64 0, .int .i64 0, .int .i64 0, .int .i64 0, .int .i64 0]), 14, 160) := by kernel_rfl
  obtain ⟨i, h1, h2, h3, h4⟩ := infos h
  exact ⟨Try.underlying97, ⟨i, _, h1, h2, h3, by omega, rfl⟩, by decide⟩
theorem rt_tank : RowTy 98 62 6 := by
  have h : (Try.prog.info? 62).map (fun i => (i.zero, i.size, i.bytes)) = some (some (.agg #[.int .i64 0, .int .i64 0, .int .i64 0, .slice none 0 0, .slice none 0 0, .slice none 0 0]), 6, 96) := by kernel_rfl
  obtain ⟨i, h1, h2, h3, h4⟩ := infos h
  exact ⟨Try.underlying98, ⟨i, _, h1, h2, h3, by omega, rfl⟩, by decide⟩
theorem rt_fill : RowTy 75 38 6 := by
  have h : (Try.prog.info? 38).map (fun i => (i.zero, i.size, i.bytes)) = some (some (.agg #[.int .i64 0, .int .i64 0, .int .i64 0, .int .i64 0, .int .i64 0, .int .i64 0]), 6, 48) := by kernel_rfl
  obtain ⟨i, h1, h2, h3, h4⟩ := infos h
  exact ⟨Try.underlying75, ⟨i, _, h1, h2, h3, by omega, rfl⟩, by decide⟩
theorem rt_level : RowTy 99 91 6 := by
  have h : (Try.prog.info? 91).map (fun i => (i.zero, i.size, i.bytes)) = some (some (.agg #[.int .i64 0, .bool false, .int .i64 0, .int .i64 0, .int .i64 0, .int .i64 0]), 6, 48) := by kernel_rfl
  obtain ⟨i, h1, h2, h3, h4⟩ := infos h
  exact ⟨Try.underlying99, ⟨i, _, h1, h2, h3, by omega, rfl⟩, by decide⟩

def hTabs (h : Ho) : List Tb := [h.vol, h.mom, h.hei]
def tTabs (t : Tk) : List Tb := [t.vol, t.sur, t.hei]
def rows4 (a b c d : Value) (H : List Ho) (F : List Fi) (T : List Tk) (L : List Lv) : List Row :=
  [⟨35, 14, H.flatMap hoC, H.length, a⟩, ⟨38, 6, F.flatMap fiC, F.length, b⟩, ⟨62, 6, T.flatMap tkC, T.length, c⟩, ⟨91, 6, L.flatMap lvC, L.length, d⟩]

/-- What the law's loop carries. -/
structure SumRel (w wr : World) (a b c d : Value) (H : List Ho) (F : List Fi) (T : List Tk) (L : List Lv) : Prop where
  blk : HasBlk wr w.heap.size #[a, b, c, d] 101
  heap : Heap wr (w.heap.size + 1) (rows4 a b c d H F T L) (H.flatMap hTabs ++ T.flatMap tTabs)
  bel : Below w.heap.size w wr
theorem SumRel.call {w wr W : World} {a b c d : Value} {H : List Ho} {F : List Fi} {T : List Tk} {L : List Lv} (h : SumRel w wr a b c d H F T L) (hb : Below wr.heap.size wr W) : SumRel w W a b c d H F T L :=
  ⟨h.blk.below hb, h.heap.same hb, bel_step h.bel hb⟩
/-- The compartments so far. -/
structure Good (H : List Ho) (F : List Fi) (T : List Tk) (L : List Lv) : Prop where
  h : ∀ i, i < H.length → HoldOk (hv H i) ∧ (hv H i).id = (i : Int) + 1
  f : ∀ i, i < F.length → FillIn (hv H i) (fiv F i)
  t : ∀ i, i < T.length → TankOk (tv T i) ∧ (tv T i).id = (i : Int) + 1
  l : ∀ i, i < L.length → LevelIn (tv T i) (lv L i)

theorem SumRel.own0 {w wr : World} {a b c d : Value} {H : List Ho} {F : List Fi} {T : List Tk} {L : List Lv} (h : SumRel w wr a b c d H F T L) : wr.ownsRow (w.heap.size + 1) 35 14 a H.length (H.flatMap hoC) := h.heap.own 0 _ rfl
theorem SumRel.own1 {w wr : World} {a b c d : Value} {H : List Ho} {F : List Fi} {T : List Tk} {L : List Lv} (h : SumRel w wr a b c d H F T L) : wr.ownsRow (w.heap.size + 1) 38 6 b F.length (F.flatMap fiC) := h.heap.own 1 _ rfl
theorem SumRel.own2 {w wr : World} {a b c d : Value} {H : List Ho} {F : List Fi} {T : List Tk} {L : List Lv} (h : SumRel w wr a b c d H F T L) : wr.ownsRow (w.heap.size + 1) 62 6 c T.length (T.flatMap tkC) := h.heap.own 2 _ rfl
theorem SumRel.own3 {w wr : World} {a b c d : Value} {H : List Ho} {F : List Fi} {T : List Tk} {L : List Lv} (h : SumRel w wr a b c d H F T L) : wr.ownsRow (w.heap.size + 1) 91 6 d L.length (L.flatMap lvC) := h.heap.own 3 _ rfl

theorem flatMap_snoc {α : Type} (C : α → List Value) (l : List α) (x : α) : (l ++ [x]).flatMap C = l.flatMap C ++ C x := by simp
theorem hTabs_snoc (l : List Ho) (x : Ho) : (l ++ [x]).flatMap hTabs = l.flatMap hTabs ++ hTabs x := by simp
theorem tTabs_snoc (l : List Tk) (x : Tk) : (l ++ [x]).flatMap tTabs = l.flatMap tTabs ++ tTabs x := by simp

section
variable {w W Y w3 : World} {va vb vc vd : Value} {H : List Ho} {F : List Fi} {T : List Tk} {L : List Lv} {g c : Nat}
/-- One more hold. -/
theorem SumRel.addH (h : SumRel w W va vb vc vd H F T L) (hY : Below W.heap.size W Y) {q : Ho} (hq : q.At Y) (hfr : ∀ t ∈ [q.vol, q.mom, q.hei], ∀ b o, t.p = some ⟨b, o, none⟩ → W.heap.size ≤ b)
    (ho : w3.ownsRow (w.heap.size + 1) 35 14 (.slice (some ⟨g, 0, none⟩) (H.length + 1) c) (H.length + 1) (H.flatMap hoC ++ hoC q)) (hb : Below (w.heap.size + 1) Y w3) (hg : Y.grownBy w3 va.ownBlock) (hl : va.ownBlock = some g ∨ g = Y.heap.size) :
    SumRel w (w3.setCell ⟨w.heap.size, 0, none⟩ (.slice (some ⟨g, 0, none⟩) (H.length + 1) c)) (.slice (some ⟨g, 0, none⟩) (H.length + 1) c) vb vc vd (H ++ [q]) F T L := by
  have hlt : w.heap.size + 1 ≤ W.heap.size := h.blk.lt
  have k1 := h.heap.addTabs (W := Y) hY hlt (more := hTabs q) (fun t ht => ⟨by
    simp only [hTabs, List.mem_cons, List.not_mem_nil, or_false] at ht
    rcases ht with rfl | rfl | rfl
    · exact hq.1
    · exact hq.2.1
    · exact hq.2.2, fun _ b o e => hfr t (by simpa [hTabs] using ht) b o e⟩)
  have k2 := k1.grow 0 (r := ⟨35, 14, H.flatMap hoC, H.length, va⟩) (r' := ⟨35, 14, H.flatMap hoC ++ hoC q, H.length + 1, .slice (some ⟨g, 0, none⟩) (H.length + 1) c⟩) (g := g) rfl ho hg hl rfl
  have k3 := k2.set (p := ⟨w.heap.size, 0, none⟩) (by dsimp only; omega) (.slice (some ⟨g, 0, none⟩) (H.length + 1) c)
  refine ⟨HasBlk.put (c := #[va, vb, vc, vd]) ((hb.block _ (by omega)).trans (h.blk.below hY)) 0 _, ?_, ?_⟩
  · have e1 : rows4 (.slice (some ⟨g, 0, none⟩) (H.length + 1) c) vb vc vd (H ++ [q]) F T L = (rows4 va vb vc vd H F T L).set 0 ⟨35, 14, H.flatMap hoC ++ hoC q, H.length + 1, .slice (some ⟨g, 0, none⟩) (H.length + 1) c⟩ := by
      unfold rows4
      rw [flatMap_snoc, List.length_append]
      rfl
    rw [e1]
    exact ⟨k3.own, k3.dis, fun t ht => k3.tab t (by
      rw [hTabs_snoc] at ht
      simp only [List.mem_append] at ht ⊢
      rcases ht with (ht | ht) | ht
      · exact .inl (.inl ht)
      · exact .inr ht
      · exact .inl (.inr ht))⟩
  · exact ((bel_step h.bel hY).trans (hb.mono (by omega))).setCell (Nat.le_refl _) _
/-- One more tank. -/
theorem SumRel.addT (h : SumRel w W va vb vc vd H F T L) (hY : Below W.heap.size W Y) {q : Tk} (hq : q.At Y) (hfr : ∀ t ∈ [q.vol, q.sur, q.hei], ∀ b o, t.p = some ⟨b, o, none⟩ → W.heap.size ≤ b)
    (ho : w3.ownsRow (w.heap.size + 1) 62 6 (.slice (some ⟨g, 0, none⟩) (T.length + 1) c) (T.length + 1) (T.flatMap tkC ++ tkC q)) (hb : Below (w.heap.size + 1) Y w3) (hg : Y.grownBy w3 vc.ownBlock) (hl : vc.ownBlock = some g ∨ g = Y.heap.size) :
    SumRel w (w3.setCell ⟨w.heap.size, 2, none⟩ (.slice (some ⟨g, 0, none⟩) (T.length + 1) c)) va vb (.slice (some ⟨g, 0, none⟩) (T.length + 1) c) vd H F (T ++ [q]) L := by
  have hlt : w.heap.size + 1 ≤ W.heap.size := h.blk.lt
  have k1 := h.heap.addTabs (W := Y) hY hlt (more := tTabs q) (fun t ht => ⟨by
    simp only [tTabs, List.mem_cons, List.not_mem_nil, or_false] at ht
    rcases ht with rfl | rfl | rfl
    · exact hq.1
    · exact hq.2.1
    · exact hq.2.2, fun _ b o e => hfr t (by simpa [tTabs] using ht) b o e⟩)
  have k2 := k1.grow 2 (r := ⟨62, 6, T.flatMap tkC, T.length, vc⟩) (r' := ⟨62, 6, T.flatMap tkC ++ tkC q, T.length + 1, .slice (some ⟨g, 0, none⟩) (T.length + 1) c⟩) (g := g) rfl ho hg hl rfl
  have k3 := k2.set (p := ⟨w.heap.size, 2, none⟩) (by dsimp only; omega) (.slice (some ⟨g, 0, none⟩) (T.length + 1) c)
  refine ⟨HasBlk.put (c := #[va, vb, vc, vd]) ((hb.block _ (by omega)).trans (h.blk.below hY)) 2 _, ?_, ?_⟩
  · have e1 : rows4 va vb (.slice (some ⟨g, 0, none⟩) (T.length + 1) c) vd H F (T ++ [q]) L = (rows4 va vb vc vd H F T L).set 2 ⟨62, 6, T.flatMap tkC ++ tkC q, T.length + 1, .slice (some ⟨g, 0, none⟩) (T.length + 1) c⟩ := by
      unfold rows4
      rw [flatMap_snoc, List.length_append]
      rfl
    rw [e1]
    exact ⟨k3.own, k3.dis, fun t ht => k3.tab t (by
      rw [tTabs_snoc, ← List.append_assoc] at ht
      exact ht)⟩
  · exact ((bel_step h.bel hY).trans (hb.mono (by omega))).setCell (Nat.le_refl _) _
/-- One more fill. -/
theorem SumRel.addF (h : SumRel w Y va vb vc vd H F T L) {q : Fi}
    (ho : w3.ownsRow (w.heap.size + 1) 38 6 (.slice (some ⟨g, 0, none⟩) (F.length + 1) c) (F.length + 1) (F.flatMap fiC ++ fiC q)) (hb : Below (w.heap.size + 1) Y w3) (hg : Y.grownBy w3 vb.ownBlock) (hl : vb.ownBlock = some g ∨ g = Y.heap.size) :
    SumRel w (w3.setCell ⟨w.heap.size, 1, none⟩ (.slice (some ⟨g, 0, none⟩) (F.length + 1) c)) va (.slice (some ⟨g, 0, none⟩) (F.length + 1) c) vc vd H (F ++ [q]) T L := by
  have k2 := h.heap.grow 1 (r := ⟨38, 6, F.flatMap fiC, F.length, vb⟩) (r' := ⟨38, 6, F.flatMap fiC ++ fiC q, F.length + 1, .slice (some ⟨g, 0, none⟩) (F.length + 1) c⟩) (g := g) rfl ho hg hl rfl
  have k3 := k2.set (p := ⟨w.heap.size, 1, none⟩) (by dsimp only; omega) (.slice (some ⟨g, 0, none⟩) (F.length + 1) c)
  refine ⟨HasBlk.put (c := #[va, vb, vc, vd]) ((hb.block _ (by omega)).trans h.blk) 1 _, ?_, (h.bel.trans (hb.mono (by omega))).setCell (Nat.le_refl _) _⟩
  have e1 : rows4 va (.slice (some ⟨g, 0, none⟩) (F.length + 1) c) vc vd H (F ++ [q]) T L = (rows4 va vb vc vd H F T L).set 1 ⟨38, 6, F.flatMap fiC ++ fiC q, F.length + 1, .slice (some ⟨g, 0, none⟩) (F.length + 1) c⟩ := by
    unfold rows4
    rw [flatMap_snoc, List.length_append]
    rfl
  rw [e1]
  exact k3
/-- One more level. -/
theorem SumRel.addL (h : SumRel w Y va vb vc vd H F T L) {q : Lv}
    (ho : w3.ownsRow (w.heap.size + 1) 91 6 (.slice (some ⟨g, 0, none⟩) (L.length + 1) c) (L.length + 1) (L.flatMap lvC ++ lvC q)) (hb : Below (w.heap.size + 1) Y w3) (hg : Y.grownBy w3 vd.ownBlock) (hl : vd.ownBlock = some g ∨ g = Y.heap.size) :
    SumRel w (w3.setCell ⟨w.heap.size, 3, none⟩ (.slice (some ⟨g, 0, none⟩) (L.length + 1) c)) va vb vc (.slice (some ⟨g, 0, none⟩) (L.length + 1) c) H F T (L ++ [q]) := by
  have k2 := h.heap.grow 3 (r := ⟨91, 6, L.flatMap lvC, L.length, vd⟩) (r' := ⟨91, 6, L.flatMap lvC ++ lvC q, L.length + 1, .slice (some ⟨g, 0, none⟩) (L.length + 1) c⟩) (g := g) rfl ho hg hl rfl
  have k3 := k2.set (p := ⟨w.heap.size, 3, none⟩) (by dsimp only; omega) (.slice (some ⟨g, 0, none⟩) (L.length + 1) c)
  refine ⟨HasBlk.put (c := #[va, vb, vc, vd]) ((hb.block _ (by omega)).trans h.blk) 3 _, ?_, (h.bel.trans (hb.mono (by omega))).setCell (Nat.le_refl _) _⟩
  have e1 : rows4 va vb vc (.slice (some ⟨g, 0, none⟩) (L.length + 1) c) H F T (L ++ [q]) = (rows4 va vb vc vd H F T L).set 3 ⟨91, 6, L.flatMap lvC ++ lvC q, L.length + 1, .slice (some ⟨g, 0, none⟩) (L.length + 1) c⟩ := by
    unfold rows4
    rw [flatMap_snoc, List.length_append]
    rfl
  rw [e1]
  exact k3
end

theorem get_snoc {α : Type} [Inhabited α] (l : List α) (x : α) (i : Nat) : ((l ++ [x])[i]?).getD default = if i < l.length then (l[i]?).getD default else if i = l.length then x else default := by
  by_cases h : i < l.length
  · rw [if_pos h, List.getElem?_append_left h]
  · rw [if_neg h, List.getElem?_append_right (by omega)]
    by_cases e : i = l.length
    · rw [if_pos e]; subst e; simp
    · rw [if_neg e, List.getElem?_eq_none (by simp; omega)]; rfl
theorem Good.snoc {H : List Ho} {F : List Fi} {T : List Tk} {L : List Lv} {h : Ho} {f : Fi} {t : Tk} {l : Lv} (g : Good H F T L) (e1 : F.length = H.length) (e2 : T.length = H.length) (e3 : L.length = H.length) (ah : HoldOk h ∧ h.id = (H.length : Int) + 1) (af : FillIn h f) (at_ : TankOk t ∧ t.id = (T.length : Int) + 1) (al : LevelIn t l) :
    Good (H ++ [h]) (F ++ [f]) (T ++ [t]) (L ++ [l]) := by
  have hh : ∀ i, hv (H ++ [h]) i = if i < H.length then hv H i else if i = H.length then h else default := get_snoc H h
  have hf : ∀ i, fiv (F ++ [f]) i = if i < F.length then fiv F i else if i = F.length then f else default := get_snoc F f
  have ht : ∀ i, tv (T ++ [t]) i = if i < T.length then tv T i else if i = T.length then t else default := get_snoc T t
  have hl : ∀ i, lv (L ++ [l]) i = if i < L.length then lv L i else if i = L.length then l else default := get_snoc L l
  refine ⟨fun i hi => ?_, fun i hi => ?_, fun i hi => ?_, fun i hi => ?_⟩
  · simp at hi
    rw [hh]
    split
    · rename_i c; exact g.h i c
    · rename_i c
      rw [if_pos (by omega), show i = H.length by omega]
      exact ah
  · simp at hi
    rw [hh, hf]
    split
    · rename_i c
      rw [if_pos (by omega)]
      exact g.f i (by omega)
    · rename_i c
      rw [if_pos (by omega), if_neg (by omega), if_pos (by omega)]
      exact af
  · simp at hi
    rw [ht]
    split
    · rename_i c; exact g.t i c
    · rename_i c
      rw [if_pos (by omega), show i = T.length by omega]
      exact at_
  · simp at hi
    rw [ht, hl]
    split
    · rename_i c
      rw [if_pos (by omega)]
      exact g.l i (by omega)
    · rename_i c
      rw [if_pos (by omega), if_neg (by omega), if_pos (by omega)]
      exact al

theorem rows4_H {va vb vc vd : Value} {H : List Ho} {F : List Fi} {T : List Tk} {L : List Lv} {g c : Nat} {q : Ho} : rows4 (.slice (some ⟨g, 0, none⟩) (H.length + 1) c) vb vc vd (H ++ [q]) F T L = (rows4 va vb vc vd H F T L).set 0 ⟨35, 14, H.flatMap hoC ++ hoC q, H.length + 1, .slice (some ⟨g, 0, none⟩) (H.length + 1) c⟩ := by
  unfold rows4
  rw [flatMap_snoc, List.length_append]
  rfl
theorem Free.addH {Y w3 : World} {va vb vc vd : Value} {H : List Ho} {F : List Fi} {T : List Tk} {L : List Lv} {g c b : Nat} {o : Obj} (q : Ho) (h : Free Y (rows4 va vb vc vd H F T L) b o) (hg : Y.grownBy w3 va.ownBlock) (hl : va.ownBlock = some g ∨ g = Y.heap.size) : Free w3 (rows4 (.slice (some ⟨g, 0, none⟩) (H.length + 1) c) vb vc vd (H ++ [q]) F T L) b o := by
  rw [rows4_H]
  exact h.grow 0 rfl hg hl rfl
theorem SumRel.lastH {w wr : World} {vb vc vd : Value} {H : List Ho} {F : List Fi} {T : List Tk} {L : List Lv} {g k c : Nat} {q : Ho} (h : SumRel w wr (.slice (some ⟨g, 0, none⟩) (k + 1) c) vb vc vd (H ++ [q]) F T L) (hk : H.length = k) : ∀ j u, (hoC q)[j]? = some u → wr.cell? ⟨g, k * 14 + j, none⟩ = some u := fun j u hu => by
  have ho := h.own0
  have hl : (H ++ [q]).length = k + 1 := by simp [hk]
  rw [hl] at ho
  have hj : j < 14 := by
    have := (List.getElem?_eq_some_iff.1 hu).1
    exact this
  rw [ho.cellAt (k * 14 + j) (by rw [Nat.add_mul]; omega), flatMap_get hoC (fun _ => rfl) _ k (by omega) j hj]
  have e : ((H ++ [q])[k]?).getD default = q := by rw [← hk]; simp
  rw [e]
  exact hu
theorem rows4_F {va vb vc vd : Value} {H : List Ho} {F : List Fi} {T : List Tk} {L : List Lv} {g c : Nat} {q : Fi} : rows4 va (.slice (some ⟨g, 0, none⟩) (F.length + 1) c) vc vd H (F ++ [q]) T L = (rows4 va vb vc vd H F T L).set 1 ⟨38, 6, F.flatMap fiC ++ fiC q, F.length + 1, .slice (some ⟨g, 0, none⟩) (F.length + 1) c⟩ := by
  unfold rows4
  rw [flatMap_snoc, List.length_append]
  rfl
theorem Free.addF {Y w3 : World} {va vb vc vd : Value} {H : List Ho} {F : List Fi} {T : List Tk} {L : List Lv} {g c b : Nat} {o : Obj} (q : Fi) (h : Free Y (rows4 va vb vc vd H F T L) b o) (hg : Y.grownBy w3 vb.ownBlock) (hl : vb.ownBlock = some g ∨ g = Y.heap.size) : Free w3 (rows4 va (.slice (some ⟨g, 0, none⟩) (F.length + 1) c) vc vd H (F ++ [q]) T L) b o := by
  rw [rows4_F]
  exact h.grow 1 rfl hg hl rfl
theorem SumRel.lastF {w wr : World} {va vc vd : Value} {H : List Ho} {F : List Fi} {T : List Tk} {L : List Lv} {g k c : Nat} {q : Fi} (h : SumRel w wr va (.slice (some ⟨g, 0, none⟩) (k + 1) c) vc vd H (F ++ [q]) T L) (hk : F.length = k) : ∀ j u, (fiC q)[j]? = some u → wr.cell? ⟨g, k * 6 + j, none⟩ = some u := fun j u hu => by
  have ho := h.own1
  have hl : (F ++ [q]).length = k + 1 := by simp [hk]
  rw [hl] at ho
  have hj : j < 6 := by
    have := (List.getElem?_eq_some_iff.1 hu).1
    exact this
  rw [ho.cellAt (k * 6 + j) (by rw [Nat.add_mul]; omega), flatMap_get fiC (fun _ => rfl) _ k (by omega) j hj]
  have e : ((F ++ [q])[k]?).getD default = q := by rw [← hk]; simp
  rw [e]
  exact hu
theorem rows4_T {va vb vc vd : Value} {H : List Ho} {F : List Fi} {T : List Tk} {L : List Lv} {g c : Nat} {q : Tk} : rows4 va vb (.slice (some ⟨g, 0, none⟩) (T.length + 1) c) vd H F (T ++ [q]) L = (rows4 va vb vc vd H F T L).set 2 ⟨62, 6, T.flatMap tkC ++ tkC q, T.length + 1, .slice (some ⟨g, 0, none⟩) (T.length + 1) c⟩ := by
  unfold rows4
  rw [flatMap_snoc, List.length_append]
  rfl
theorem Free.addT {Y w3 : World} {va vb vc vd : Value} {H : List Ho} {F : List Fi} {T : List Tk} {L : List Lv} {g c b : Nat} {o : Obj} (q : Tk) (h : Free Y (rows4 va vb vc vd H F T L) b o) (hg : Y.grownBy w3 vc.ownBlock) (hl : vc.ownBlock = some g ∨ g = Y.heap.size) : Free w3 (rows4 va vb (.slice (some ⟨g, 0, none⟩) (T.length + 1) c) vd H F (T ++ [q]) L) b o := by
  rw [rows4_T]
  exact h.grow 2 rfl hg hl rfl
theorem SumRel.lastT {w wr : World} {va vb vd : Value} {H : List Ho} {F : List Fi} {T : List Tk} {L : List Lv} {g k c : Nat} {q : Tk} (h : SumRel w wr va vb (.slice (some ⟨g, 0, none⟩) (k + 1) c) vd H F (T ++ [q]) L) (hk : T.length = k) : ∀ j u, (tkC q)[j]? = some u → wr.cell? ⟨g, k * 6 + j, none⟩ = some u := fun j u hu => by
  have ho := h.own2
  have hl : (T ++ [q]).length = k + 1 := by simp [hk]
  rw [hl] at ho
  have hj : j < 6 := by
    have := (List.getElem?_eq_some_iff.1 hu).1
    exact this
  rw [ho.cellAt (k * 6 + j) (by rw [Nat.add_mul]; omega), flatMap_get tkC (fun _ => rfl) _ k (by omega) j hj]
  have e : ((T ++ [q])[k]?).getD default = q := by rw [← hk]; simp
  rw [e]
  exact hu
theorem rows4_L {va vb vc vd : Value} {H : List Ho} {F : List Fi} {T : List Tk} {L : List Lv} {g c : Nat} {q : Lv} : rows4 va vb vc (.slice (some ⟨g, 0, none⟩) (L.length + 1) c) H F T (L ++ [q]) = (rows4 va vb vc vd H F T L).set 3 ⟨91, 6, L.flatMap lvC ++ lvC q, L.length + 1, .slice (some ⟨g, 0, none⟩) (L.length + 1) c⟩ := by
  unfold rows4
  rw [flatMap_snoc, List.length_append]
  rfl
theorem Free.addL {Y w3 : World} {va vb vc vd : Value} {H : List Ho} {F : List Fi} {T : List Tk} {L : List Lv} {g c b : Nat} {o : Obj} (q : Lv) (h : Free Y (rows4 va vb vc vd H F T L) b o) (hg : Y.grownBy w3 vd.ownBlock) (hl : vd.ownBlock = some g ∨ g = Y.heap.size) : Free w3 (rows4 va vb vc (.slice (some ⟨g, 0, none⟩) (L.length + 1) c) H F T (L ++ [q])) b o := by
  rw [rows4_L]
  exact h.grow 3 rfl hg hl rfl
theorem SumRel.lastL {w wr : World} {va vb vc : Value} {H : List Ho} {F : List Fi} {T : List Tk} {L : List Lv} {g k c : Nat} {q : Lv} (h : SumRel w wr va vb vc (.slice (some ⟨g, 0, none⟩) (k + 1) c) H F T (L ++ [q])) (hk : L.length = k) : ∀ j u, (lvC q)[j]? = some u → wr.cell? ⟨g, k * 6 + j, none⟩ = some u := fun j u hu => by
  have ho := h.own3
  have hl : (L ++ [q]).length = k + 1 := by simp [hk]
  rw [hl] at ho
  have hj : j < 6 := by
    have := (List.getElem?_eq_some_iff.1 hu).1
    exact this
  rw [ho.cellAt (k * 6 + j) (by rw [Nat.add_mul]; omega), flatMap_get lvC (fun _ => rfl) _ k (by omega) j hj]
  have e : ((L ++ [q])[k]?).getD default = q := by rw [← hk]; simp
  rw [e]
  exact hu
theorem SumRel.atH {w wr : World} {va vb vc vd : Value} {H : List Ho} {F : List Fi} {T : List Tk} {L : List Lv} {q : Ho} (h : SumRel w wr va vb vc vd H F T L) (hq : q ∈ H) : q.At wr := by
  have key : ∀ t ∈ hTabs q, t.At wr := fun t ht => (h.heap.tab t (List.mem_append_left _ (List.mem_flatMap.2 ⟨q, hq, ht⟩))).1
  exact ⟨key _ (by simp [hTabs]), key _ (by simp [hTabs]), key _ (by simp [hTabs])⟩
theorem SumRel.atT {w wr : World} {va vb vc vd : Value} {H : List Ho} {F : List Fi} {T : List Tk} {L : List Lv} {q : Tk} (h : SumRel w wr va vb vc vd H F T L) (hq : q ∈ T) : q.At wr := by
  have key : ∀ t ∈ tTabs q, t.At wr := fun t ht => (h.heap.tab t (List.mem_append_right _ (List.mem_flatMap.2 ⟨q, hq, ht⟩))).1
  exact ⟨key _ (by simp [tTabs]), key _ (by simp [tTabs]), key _ (by simp [tTabs])⟩

/-- What holds at a normal end; there is no other one. -/
def atNormal (R : Act → World → Prop) : Exit → Act → World → Prop
  | .normal, a, w => R a w
  | _, _, _ => False
theorem region_then {P : Program} {id : Nat} {ops : Array Oper} {d : Bool} {Q : Exit → Act → World → Prop} {a : Act} {w : World} (R : Act → Act → World → Prop)
    (h1 : (Code.region id ops d).wp P (atNormal (R a)) a w) (h2 : ∀ a' w', R a a' w' → Q .normal a' w') : (Code.region id ops d).wp P Q a w :=
  Code.wp_mono (fun e a' w' hr => by cases e <;> first | exact h2 a' w' hr | exact (hr : False).elim) h1

end Go.Proofs.Ytbjdgaeikihjbaa
