/-
  Several arrays that a call grows, side by side, and the tables that what they hold leads to.
  Conditions: each theorem's own premises.
-/
import Derived.Test.YtbjdgaeikihjbaaLodq
namespace Go.Proofs.Ytbjdgaeikihjbaa
set_option linter.unusedSimpArgs false
set_option linter.unusedVariables false
open Go.RowKit
set_option maxRecDepth 100000
set_option maxHeartbeats 4000000

/-- An array of the call's own: its elements' type and size, its cells, how many elements it has, and the slice. -/
structure Row where
  e : TypeId
  sz : Nat
  cs : List Value
  n : Nat
  v : Value

def Row.own (r : Row) (w : World) (B : Nat) : Prop := w.ownsRow B r.e r.sz r.v r.n r.cs

/-- A table lies where no array grows. -/
def TbFree (w : World) (B : Nat) (rows : List Row) (t : Tb) : Prop :=
  t.At w ∧ (t.n ≠ 0 → ∀ b o, t.p = some ⟨b, o, none⟩ → B ≤ b ∧ ∀ (i : Nat) (r : Row), rows[i]? = some r → r.v.ownBlock ≠ some b)

structure Heap (w : World) (B : Nat) (rows : List Row) (tabs : List Tb) : Prop where
  own : ∀ (i : Nat) (r : Row), rows[i]? = some r → r.own w B
  dis : ∀ (i j : Nat) (r s : Row), rows[i]? = some r → rows[j]? = some s → i ≠ j → ∀ g, r.v.ownBlock = some g → s.v.ownBlock ≠ some g
  tab : ∀ t ∈ tabs, TbFree w B rows t

theorem ownsRow_same {w W : World} {B : Nat} {e : TypeId} {sz : Nat} {v : Value} {n : Nat} {cs : List Value} (h : w.ownsRow B e sz v n cs) (hb : Below w.heap.size w W) : W.ownsRow B e sz v n cs := by
  refine ⟨h.1, ?_⟩
  rcases h.2 with hn | ⟨g, cap, cur, rfl, hb', hgg, rest⟩
  · exact .inl hn
  · exact .inr ⟨g, cap, cur, rfl, hb', (hb.block g (Array.getElem?_eq_some_iff.1 hgg).1).trans hgg, rest⟩
theorem ownsRow_set {w : World} {B : Nat} {e : TypeId} {sz : Nat} {v : Value} {n : Nat} {cs : List Value} (h : w.ownsRow B e sz v n cs) {p : Addr} (hp : p.block < B) (u : Value) : (w.setCell p u).ownsRow B e sz v n cs := by
  refine ⟨h.1, ?_⟩
  rcases h.2 with hn | ⟨g, cap, cur, rfl, hb', hgg, rest⟩
  · exact .inl hn
  · exact .inr ⟨g, cap, cur, rfl, hb', (Below.heap_setCell w p u g (by omega)).trans hgg, rest⟩
theorem ownsRow_row {w : World} {B : Nat} {e : TypeId} {sz : Nat} {v : Value} {n : Nat} {cs : List Value} (h : w.ownsRow B e sz v n cs) {X : Nat} (hp : X < B) (us : Array Value) : (w.setRow X us).ownsRow B e sz v n cs := by
  refine ⟨h.1, ?_⟩
  rcases h.2 with hn | ⟨g, cap, cur, rfl, hb', hgg, rest⟩
  · exact .inl hn
  · exact .inr ⟨g, cap, cur, rfl, hb', (setRow_other w X g us (by omega)).trans hgg, rest⟩

theorem TbFree.same {w W : World} {B : Nat} {rows : List Row} {t : Tb} (h : TbFree w B rows t) (hb : Below w.heap.size w W) : TbFree W B rows t := ⟨h.1.same hb, h.2⟩
theorem TbFree.set {w : World} {B : Nat} {rows : List Row} {t : Tb} (h : TbFree w B rows t) {p : Addr} (hp : p.block < B) (u : Value) : TbFree (w.setCell p u) B rows t := by
  refine ⟨?_, h.2⟩
  by_cases hn : t.n = 0
  · exact ⟨h.1.1, h.1.2.1, h.1.2.2.1, h.1.2.2.2.1, fun hne => absurd hn hne⟩
  · exact h.1.setCell (fun b o e => by have := (h.2 hn b o e).1; omega) u
theorem TbFree.row {w : World} {B : Nat} {rows : List Row} {t : Tb} (h : TbFree w B rows t) {X : Nat} (hp : X < B) (us : Array Value) : TbFree (w.setRow X us) B rows t := by
  refine ⟨?_, h.2⟩
  by_cases hn : t.n = 0
  · exact ⟨h.1.1, h.1.2.1, h.1.2.2.1, h.1.2.2.2.1, fun hne => absurd hn hne⟩
  · exact h.1.rowx (fun b o e => by have := (h.2 hn b o e).1; omega) us

theorem Heap.same {w W : World} {B : Nat} {rows : List Row} {tabs : List Tb} (h : Heap w B rows tabs) (hb : Below w.heap.size w W) : Heap W B rows tabs :=
  ⟨fun i r hi => ownsRow_same (h.own i r hi) hb, h.dis, fun t ht => (h.tab t ht).same hb⟩
theorem Heap.set {w : World} {B : Nat} {rows : List Row} {tabs : List Tb} (h : Heap w B rows tabs) {p : Addr} (hp : p.block < B) (u : Value) : Heap (w.setCell p u) B rows tabs :=
  ⟨fun i r hi => ownsRow_set (h.own i r hi) hp u, h.dis, fun t ht => (h.tab t ht).set hp u⟩
theorem Heap.row {w : World} {B : Nat} {rows : List Row} {tabs : List Tb} (h : Heap w B rows tabs) {X : Nat} (hp : X < B) (us : Array Value) : Heap (w.setRow X us) B rows tabs :=
  ⟨fun i r hi => ownsRow_row (h.own i r hi) hp us, h.dis, fun t ht => (h.tab t ht).row hp us⟩

theorem Tb.At.grown {w w' : World} {t : Tb} {row : Option Nat} (h : t.At w) (hg : w.grownBy w' row) (hr : t.n ≠ 0 → ∀ b o, t.p = some ⟨b, o, none⟩ → some b ≠ row) : t.At w' := by
  obtain ⟨h1, h2, h3, h4, h5⟩ := h
  refine ⟨h1, h2, h3, h4, fun hn => ?_⟩
  obtain ⟨b, o, e, hlt, hc⟩ := h5 hn
  have key : ∀ k, w'.cell? ⟨b, k, none⟩ = w.cell? ⟨b, k, none⟩ := fun k => World.cell?_of_block (a := ⟨b, k, none⟩) (hg.block b hlt (hr hn b o e))
  refine ⟨b, o, e, Nat.lt_of_lt_of_le hlt hg.size, fun i hi => ?_⟩
  rw [key, key, key]
  exact hc i hi

/-- One of the arrays grows. -/
theorem Heap.grow {w w' : World} {B : Nat} {rows : List Row} {tabs : List Tb} (h : Heap w B rows tabs) (i : Nat) {r r' : Row} (hi : rows[i]? = some r) {g : Nat} (ho : r'.own w' B) (hg : w.grownBy w' r.v.ownBlock) (hl : r.v.ownBlock = some g ∨ g = w.heap.size) (hv : r'.v.ownBlock = some g) :
    Heap w' B (rows.set i r') tabs := by
  have get : ∀ (j : Nat) (s : Row), (rows.set i r')[j]? = some s → (j = i ∧ s = r') ∨ (j ≠ i ∧ rows[j]? = some s) := fun j s hj => by
    rw [List.getElem?_set] at hj
    by_cases e : i = j
    · rw [if_pos e] at hj
      split at hj
      · cases hj; exact .inl ⟨e.symm, rfl⟩
      · cases hj
    · rw [if_neg e] at hj; exact .inr ⟨fun e2 => e e2.symm, hj⟩
  have far : ∀ (j : Nat) (s : Row), j ≠ i → rows[j]? = some s → s.v.ownBlock ≠ some g := fun j s hj hs e => by
    rcases hl with e1 | e1
    · exact h.dis i j r s hi hs (Ne.symm hj) g e1 e
    · have := (World.ownsRow.lt (h.own j s hs) g e).2
      omega
  refine ⟨fun j s hj => ?_, fun j k s t hj hk hne g' e => ?_, fun t ht => ?_⟩
  · rcases get j s hj with ⟨_, rfl⟩ | ⟨hne, hs⟩
    · exact ho
    · refine World.ownsRow.kept (h.own j s hs) hg ?_
      cases hv' : s.v.ownBlock with
      | none => exact .inl rfl
      | some k => exact .inr (fun e => h.dis i j r s hi hs (Ne.symm hne) k e.symm hv')
  · rcases get j s hj with ⟨rfl, rfl⟩ | ⟨hne1, hs⟩ <;> rcases get k t hk with ⟨rfl, rfl⟩ | ⟨hne2, ht⟩
    · exact absurd rfl hne
    · rw [hv] at e
      cases e
      exact far k t hne2 ht
    · rw [hv]
      intro e2
      cases e2
      exact far j s hne1 hs e
    · exact h.dis j k s t hs ht hne g' e
  · obtain ⟨ha, hf⟩ := h.tab t ht
    have hb : t.n ≠ 0 → ∀ b o, t.p = some ⟨b, o, none⟩ → b < w.heap.size := fun hn b o e => by
      obtain ⟨b', o', e', hlt, _⟩ := ha.2.2.2.2 hn
      rw [e] at e'
      cases e'
      exact hlt
    refine ⟨ha.grown hg (fun hn b o e e2 => (hf hn b o e).2 i r hi e2.symm), fun hn b o e => ⟨(hf hn b o e).1, fun j s hj => ?_⟩⟩
    rcases get j s hj with ⟨rfl, rfl⟩ | ⟨_, hs⟩
    · rw [hv]
      intro e2
      cases e2
      rcases hl with e1 | e1
      · exact (hf hn g o e).2 j r hi e1
      · have := hb hn g o e
        omega
    · exact (hf hn b o e).2 j s hs
/-- More tables, that lie in new memory. -/
theorem Heap.addTabs {w W : World} {B : Nat} {rows : List Row} {tabs : List Tb} (h : Heap w B rows tabs) (hb : Below w.heap.size w W) (hB : B ≤ w.heap.size) {more : List Tb} (hm : ∀ t ∈ more, t.At W ∧ (t.n ≠ 0 → ∀ b o, t.p = some ⟨b, o, none⟩ → w.heap.size ≤ b)) : Heap W B rows (tabs ++ more) := by
  have k := h.same hb
  refine ⟨k.own, k.dis, fun t ht => ?_⟩
  rcases List.mem_append.1 ht with ht | ht
  · exact k.tab t ht
  · obtain ⟨a, b⟩ := hm t ht
    refine ⟨a, fun hn x o e => ⟨Nat.le_trans hB (b hn x o e), fun j s hj e2 => ?_⟩⟩
    have := (World.ownsRow.lt (h.own j s hj) x e2).2
    have := b hn x o e
    omega

/-- What append asks of an element's type. -/
structure RowTy (te e : TypeId) (sz : Nat) : Prop where
  und : Try.prog.underlying te = some (.slice e)
  info : ∃ i z, Try.prog.info? e = some i ∧ i.zero = some z ∧ i.size = sz ∧ i.bytes ≤ 1000 ∧ z.cells.size = sz
  pos : 0 < sz

/-- An element more at the end of one of the arrays. -/
theorem app_row {w : World} {ops : Array Oper} {rest : List Oper} {o : Oper} {a : Act} {Q : Exit → Act → World → Prop} {te e : TypeId} {sz : Nat} (T : RowTy te e sz) (hgd : o.guard = none) (s x : Operand)
    (ho : o.op = .call { callee := .builtin .append, args := #[s, x], argTypes := #[te, te] }) (B : Nat) (v : Value) (n : Nat) (cs : List Value) (hs : a.eval s = v) (hown : w.ownsRow B e sz v n cs)
    (b : Nat) (news : List Value) (hx : a.eval x = .slice (some ⟨b, 0, none⟩) 1 1) (hlen : news.length = sz) (hone : ∀ u ∈ news, u.oneCell' = true) (h0 : ∀ j u, news[j]? = some u → w.cell? ⟨b, j, none⟩ = some u) (hn : n ≤ 1000) (hB : B ≤ w.heap.size)
    (h : ∀ g cap w', w'.ownsRow B e sz (.slice (some ⟨g, 0, none⟩) (n + 1) cap) (n + 1) (cs ++ news) → Below B w w' → w.grownBy w' v.ownBlock → (v.ownBlock = some g ∨ g = w.heap.size) → B ≤ g → g < w'.heap.size → n + 1 ≤ cap → cap ≤ 9223372036854775807 → wpList Try.prog ops Q rest (a.put o.dst (.slice (some ⟨g, 0, none⟩) (n + 1) cap)) w') : wpList Try.prog ops Q (o :: rest) a w := by
  obtain ⟨i0, z, hi, hz0, hz1, hz2, hz3⟩ := T.info
  refine wpList_append_lies w hgd s x te ho B e i0 z sz i0.bytes T.und hi hz0 hz1 rfl hz3 T.pos v n cs hs hown ⟨b, 0, none⟩ 1 1 news hx (by omega) ?_ hone (by decide) (by unfold maxLen; omega) ?_ hB w.heap.size rfl ?_
  · intro j u hu
    have := h0 j u hu
    rw [show ((⟨b, 0, none⟩ : Addr).add j) = ⟨b, j, none⟩ from by simp [Addr.add]; omega]
    exact this
  · exact Nat.le_trans (Nat.mul_le_mul (by omega : n + 1 ≤ 1001) hz2) (by decide)
  · intro g cap w' h1 h2 h3 h4
    have hg := (World.ownsRow.lt h1 g rfl).1
    have hc : n + 1 ≤ cap ∧ cap ≤ maxLen := by
      rcases h1.2 with ⟨e, _⟩ | ⟨g', cap', cur, e, _, _, c1, c2, _⟩
      · cases e
      · cases e; exact ⟨c1, c2⟩
    exact h g cap w' h1 (below_of_grown h2 hB fun k hk => (World.ownsRow.lt hown k hk).1) h2 h3 hg h4 hc.1 hc.2

theorem flatMap_get {α : Type} [Inhabited α] {sz : Nat} (C : α → List Value) (hC : ∀ a, (C a).length = sz) : ∀ (l : List α) (i : Nat), i < l.length → ∀ j, j < sz → (l.flatMap C)[i * sz + j]? = (C (l[i]?.getD default))[j]?
  | x :: l, 0, _, j, hj => by
    simp only [List.flatMap_cons, Nat.zero_mul, Nat.zero_add]
    rw [List.getElem?_append_left (by rw [hC]; exact hj)]
    rfl
  | x :: l, i + 1, h, j, hj => by
    have ih := flatMap_get C hC l i (by simpa using h) j hj
    simp only [List.flatMap_cons]
    rw [List.getElem?_append_right (by rw [hC, Nat.add_mul]; omega), hC, show (i + 1) * sz + j - sz = i * sz + j by rw [Nat.add_mul]; omega, ih]
    simp

/-- An array of the call's own as a slice of structs. -/
theorem rowsAt_own {α : Type} [Inhabited α] {w : World} {B : Nat} {e : TypeId} {sz : Nat} {v : Value} {l : List α} (C : α → List Value) (hC : ∀ a, (C a).length = sz) (h : w.ownsRow B e sz v l.length (l.flatMap C)) :
    ∃ s : Sl α, v = .slice s.p s.n s.c ∧ s.xs = l ∧ s.xs.length = s.n ∧ RowsAt w s.p s.n s.c sz (fun i => C (s.xs[i]?.getD default)) := by
  rcases h.2 with ⟨rfl, hn⟩ | ⟨g, cap, cur, rfl, hb, hg, h1, h2, h3, h4⟩
  · exact ⟨⟨none, 0, 0, l⟩, rfl, rfl, hn, Nat.le_refl _, by dsimp only; omega, fun h => absurd rfl h⟩
  · refine ⟨⟨some ⟨g, 0, none⟩, l.length, cap, l⟩, rfl, rfl, rfl, h1, h2, fun hn => ⟨g, 0, rfl, (Array.getElem?_eq_some_iff.1 hg).1, fun i hi j u hu => ?_⟩⟩
    dsimp only at *
    have hj : j < sz := by
      have := (List.getElem?_eq_some_iff.1 hu).1
      rw [hC] at this
      exact this
    rw [Nat.zero_add, h.cellAt (i * sz + j) (Nat.lt_of_lt_of_le (Nat.add_lt_add_left hj _) (by rw [← Nat.succ_mul]; exact Nat.mul_le_mul_right _ hi)), flatMap_get C hC l i hi j hj]
    exact hu

/-- A block that no array of the call's own lies in, and what it holds. -/
def Free (w : World) (rows : List Row) (b : Nat) (o : Obj) : Prop := w.heap[b]? = some o ∧ ∀ (i : Nat) (r : Row), rows[i]? = some r → r.v.ownBlock ≠ some b
theorem Free.same {w W : World} {rows : List Row} {b : Nat} {o : Obj} (h : Free w rows b o) (hb : Below w.heap.size w W) : Free W rows b o :=
  ⟨(hb.block b (Array.getElem?_eq_some_iff.1 h.1).1).trans h.1, h.2⟩
theorem Free.set {w : World} {rows : List Row} {b : Nat} {o : Obj} (h : Free w rows b o) {p : Addr} (hp : b ≠ p.block) (u : Value) : Free (w.setCell p u) rows b o :=
  ⟨(Below.heap_setCell w p u b hp).trans h.1, h.2⟩
theorem Free.grow {w w' : World} {rows : List Row} {b : Nat} {o : Obj} (h : Free w rows b o) (i : Nat) {r r' : Row} (hi : rows[i]? = some r) {g : Nat} (hg : w.grownBy w' r.v.ownBlock) (hl : r.v.ownBlock = some g ∨ g = w.heap.size) (hv : r'.v.ownBlock = some g) : Free w' (rows.set i r') b o := by
  have hlt := (Array.getElem?_eq_some_iff.1 h.1).1
  refine ⟨(hg.block b hlt (fun e => h.2 i r hi e.symm)).trans h.1, fun j s hj => ?_⟩
  rw [List.getElem?_set] at hj
  by_cases e : i = j
  · rw [if_pos e] at hj
    split at hj
    · cases hj
      rw [hv]
      intro e2
      cases e2
      rcases hl with e1 | e1
      · exact h.2 i r hi e1
      · omega
    · cases hj
  · rw [if_neg e] at hj
    exact h.2 j s hj
theorem Heap.free {w W : World} {B : Nat} {rows : List Row} {tabs : List Tb} (h : Heap w B rows tabs) {b : Nat} (hb : w.heap.size ≤ b) {o : Obj} (ho : W.heap[b]? = some o) : Free W rows b o :=
  ⟨ho, fun i r hi e => by have := (World.ownsRow.lt (h.own i r hi) b e).2; omega⟩

/-- The same at a step of a region that draws its order. -/
theorem step_app_row {w : World} {ops : Array Oper} {o : Oper} {a : Act} {K : Act → World → Prop} {Q : Exit → Act → World → Prop} {E : Prop} {te e : TypeId} {sz : Nat} (T : RowTy te e sz) (hgd : o.guard = none) (s x : Operand)
    (ho : o.op = .call { callee := .builtin .append, args := #[s, x], argTypes := #[te, te] }) (B : Nat) (v : Value) (n : Nat) (cs : List Value) (hs : a.eval s = v) (hown : w.ownsRow B e sz v n cs)
    (b : Nat) (news : List Value) (hx : a.eval x = .slice (some ⟨b, 0, none⟩) 1 1) (hlen : news.length = sz) (hone : ∀ u ∈ news, u.oneCell' = true) (h0 : ∀ j u, news[j]? = some u → w.cell? ⟨b, j, none⟩ = some u) (hn : n ≤ 1000) (hB : B ≤ w.heap.size)
    (h : ∀ g cap w', w'.ownsRow B e sz (.slice (some ⟨g, 0, none⟩) (n + 1) cap) (n + 1) (cs ++ news) → Below B w w' → w.grownBy w' v.ownBlock → (v.ownBlock = some g ∨ g = w.heap.size) → B ≤ g → g < w'.heap.size → n + 1 ≤ cap → cap ≤ 9223372036854775807 → K (a.put o.dst (.slice (some ⟨g, 0, none⟩) (n + 1) cap)) w') :
    if Region.wanted o (yielded ops a.tmps) = true then Oper.wp Try.prog o a w K Q else E := by
  obtain ⟨i0, z, hi, hz0, hz1, hz2, hz3⟩ := T.info
  refine step_append_lies w hgd s x te ho B e i0 z sz i0.bytes T.und hi hz0 hz1 rfl hz3 T.pos v n cs hs hown ⟨b, 0, none⟩ 1 1 news hx (by omega) ?_ hone (by decide) (by unfold maxLen; omega) ?_ hB w.heap.size rfl ?_
  · intro j u hu
    have := h0 j u hu
    rw [show ((⟨b, 0, none⟩ : Addr).add j) = ⟨b, j, none⟩ from by simp [Addr.add]; omega]
    exact this
  · exact Nat.le_trans (Nat.mul_le_mul (by omega : n + 1 ≤ 1001) hz2) (by decide)
  · intro g cap w' h1 h2 h3 h4
    have hg := (World.ownsRow.lt h1 g rfl).1
    have hc : n + 1 ≤ cap ∧ cap ≤ maxLen := by
      rcases h1.2 with ⟨e, _⟩ | ⟨g', cap', cur, e, _, _, c1, c2, _⟩
      · cases e
      · cases e; exact ⟨c1, c2⟩
    exact h g cap w' h1 (below_of_grown h2 hB fun k hk => (World.ownsRow.lt hown k hk).1) h2 h3 hg h4 hc.1 hc.2

end Go.Proofs.Ytbjdgaeikihjbaa
