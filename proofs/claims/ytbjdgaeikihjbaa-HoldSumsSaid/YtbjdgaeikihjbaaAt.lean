/-
  The value of a table at a place: fix.at and fix.At, and CheckTable.
  Conditions: each theorem's own premises.
-/
import Derived.Test.YtbjdgaeikihjbaaPieces
namespace Go.Proofs.Ytbjdgaeikihjbaa
set_option linter.unusedSimpArgs false
set_option linter.unusedVariables false
open Go.RowKit Go.Shelf
attribute [local go_sem] Soft.upon Soft.BW.cell_if Soft.BW.frozen_if Soft.cell_alloc_if Soft.frozen_alloc_if Oper.semAt_some Soft.upon0

/-- A whole block, as it lies. -/
abbrev HasBlk (W : World) (B : Nat) (c : Array Value) (t : TypeId) : Prop := W.heap[B]? = some (.cells c t)
theorem HasBlk.cell {W : World} {B : Nat} {c : Array Value} {t : TypeId} (h : HasBlk W B c t) (i : Nat) : W.cell? ⟨B, i, none⟩ = c[i]? := by simp [World.cell?, show W.heap[B]? = _ from h]
theorem HasBlk.frozen {W : World} {B : Nat} {c : Array Value} {t : TypeId} (h : HasBlk W B c t) (i : Nat) : W.frozen? ⟨B, i, none⟩ = false := by simp [World.frozen?, show W.heap[B]? = _ from h]
theorem HasBlk.lt {W : World} {B : Nat} {c : Array Value} {t : TypeId} (h : HasBlk W B c t) : B < W.heap.size := (Array.getElem?_eq_some_iff.1 h).1
theorem HasBlk.below {W W' : World} {B : Nat} {c : Array Value} {t : TypeId} (h : HasBlk W B c t) (hb : Below W.heap.size W W') : HasBlk W' B c t := (hb.block B h.lt).trans h
theorem hasBlk_own (B : Nat) (c : Array Value) (t : TypeId) {β : Type} : Own (fun (_ : β) W => HasBlk W B c t) := fun s A X row hs hg hr => by
  refine (hg.block B (HasBlk.lt hs) (fun e => ?_)).trans hs
  obtain ⟨o, ho, hc⟩ := hr B e.symm
  rw [show A.heap[B]? = _ from hs] at ho
  cases ho
  cases hc
theorem HasBlk.set2 {W : World} {B : Nat} {x y : Value} {t : TypeId} (h : HasBlk W B #[x, y] t) (u v : Value) : HasBlk ((W.setCell ⟨B, 0, none⟩ u).setCell ⟨B, 1, none⟩ v) B #[u, v] t := by
  simp [HasBlk, World.setCell, Array.getElem?_modify, show W.heap[B]? = _ from h]
theorem HasBlk.set_other {W : World} {B : Nat} {c : Array Value} {t : TypeId} (h : HasBlk W B c t) {p : Addr} (hp : B ≠ p.block) (v : Value) : HasBlk (W.setCell p v) B c t := (Below.heap_setCell W p v B hp).trans h

/-- The values of a piece at a place. -/
def pcAt (p : Pt × Pt) (x : Int) : Rg := if p.1 = p.2 then ⟨p.1.lo, p.1.hi⟩ else ⟨segLo p.1 p.2 x, segHi p.1 p.2 x⟩
def pcHas (p : Pt × Pt) (x : Int) : Prop := p.1.x ≤ x ∧ x ≤ p.2.x
instance (p : Pt × Pt) (x : Int) : Decidable (pcHas p x) := inferInstanceAs (Decidable (_ ∧ _))

theorem piece_at_any (p : Pt × Pt) (x : Int) (w : World) (h : PieceAny p) (hx : pcHas p x) :
    Calls Try.prog 151 #[.agg #[.int .i64 p.1.x, .int .i64 p.1.lo, .int .i64 p.1.hi, .int .i64 p.2.x, .int .i64 p.2.lo, .int .i64 p.2.hi], .int .i64 x] w fun e w' =>
      e = .returned (.agg #[.int .i64 (pcAt p x).lo, .int .i64 (pcAt p x).hi]) ∧ Below w.heap.size w w' := by
  obtain ⟨a, b⟩ := p
  rcases h with h | ⟨h, h0, h1, h2, h3, h4⟩
  · have hne : a ≠ b := fun e => by have := h.lt; simp only [e] at this; omega
    unfold pcAt
    rw [if_neg hne]
    exact piece_at a b x w h hx.1 hx.2
  · dsimp only at *
    subst h
    have e : pcAt (a, a) x = ⟨a.lo, a.hi⟩ := if_pos rfl
    rw [e]
    go_enter Try.func151, Try.ntmps151
    go_wp2_with (first | (go_at_call 161; (with_reducible refine (piece_value_eq a _ _ _ _).mono ?_); rintro e w_ ⟨rfl, hb_⟩; obtain ⟨y1, rfl⟩ := Soft.BW.mk hb_; clear hb_) | (go_at_call 162; (with_reducible refine (fix_down _ _ _ (by omega) (by omega) (by omega)).mono ?_); rintro e w_ ⟨rfl, hw_⟩; subst w_) | (go_at_call 163; (with_reducible refine (fix_up _ _ _ (by omega) (by omega) (by omega)).mono ?_); rintro e w_ ⟨rfl, hw_⟩; subst w_))
    refine bodyPost_ret (v := .agg #[.int .i64 (a.lo / 1), .int .i64 (-(-a.hi / 1))]) (by simp [results, Try.results151, go_sem]) rfl ?_
    refine ⟨by simp, ?_⟩
    (repeat (first | with_reducible exact bel_refl _ | with_reducible refine bel_alloc ?_ _ | with_reducible refine bel_bw _ ?_ | with_reducible refine bel_drew ?_ | with_reducible refine bel_drewN _ ?_ | ((with_reducible refine bel_set ?_ ?_ _); rotate_left; focus (first | (simp; done) | omega | (simp; omega))) | refine bel_step ?_ (by with_reducible assumption)))

theorem keeps_of_below {W W' : World} (h : Below W.heap.size W W') (B : Nat) : KeepsFrom B W W' :=
  ⟨h.size, fun i o _ ho _ => (h.block i (Array.getElem?_eq_some_iff.1 ho).1).trans ho⟩

theorem not_or_of {p : Pc} {pre : List Pc} {x : Int} (hp : ∀ q ∈ pre, ¬pcHas q.1 x) (h : ¬pcHas p.1 x) : ∀ q ∈ pre ++ [p], ¬pcHas q.1 x := fun q hq => by
  rcases List.mem_append.1 hq with hq | hq
  · exact hp q hq
  · simp at hq; subst hq; exact h

set_option maxRecDepth 100000 in
set_option maxHeartbeats 4000000 in
theorem at_pieces (t : Tb) (x : Int) (w : World) (ht : t.At w) (hok : TabOk t.ps) (k : Nat) (hk : k < nPieces t.ps) (hno : ∀ j, j < k → ¬pcHas (pieceAt t.ps j) x) (hhas : pcHas (pieceAt t.ps k) x) :
    Calls Try.prog 126 #[.agg #[.slice t.p t.n t.c], .int .i64 x] w fun e w' => e = .returned (.agg #[.int .i64 (pcAt (pieceAt t.ps k) x).lo, .int .i64 (pcAt (pieceAt t.ps k) x).hi]) ∧ Below w.heap.size w w' := by
  have hT : ∀ f, Fence.wide.fn f := fun _ => trivial
  have hb : ∀ b o, t.p = some ⟨b, o, none⟩ → b < w.heap.size := fun b o e => by
    obtain ⟨h1, h2, h3, h4, h5⟩ := ht
    have := hok.pos
    obtain ⟨b', o', e', hlt, _⟩ := h5 (by omega)
    rw [e] at e'
    cases e'
    exact hlt
  refine (callsIn_wide (n := 6)).1 ?_
  refine callsIn_of_wp_marks Try.func126 rfl (hT _) ?_ rfl
  simp only [Try.ntmps126, List.size_toArray, List.length_cons, List.length_nil, Nat.reduceAdd, Nat.reduceSub, Array.replicate_succ, Array.replicate_zero, List.push_toArray, List.append_toArray, List.nil_append, List.cons_append]
  gi_wp2_with (gi_at_call 149; refine (pieces_in Fence.wide 5 (hT _) rfl _ _ _ _).mono ?_; rintro e w' ⟨rfl, rfl⟩)
  have h1' : HasBlk ((((w.alloc (.cells #[.slice t.p t.n t.c] 33)).alloc (.cells #[.int .i64 x] 3)).alloc (.cells #[.int .i64 0, .int .i64 0] 30)).alloc (.cells #[.slice t.p t.n t.c] 33)) (w.heap.size + 1) #[.int .i64 x] 3 := by
    have := (World.alloc_heap_new (w.alloc (.cells #[.slice t.p t.n t.c] 33)) (.cells #[.int .i64 x] 3))
    rw [World.size_alloc] at this
    exact ((HasBlk.below this ((Below.refl _ _).alloc (Nat.le_refl _) _)).below ((Below.refl _ _).alloc (Nat.le_refl _) _))
  have h2' : HasBlk ((((w.alloc (.cells #[.slice t.p t.n t.c] 33)).alloc (.cells #[.int .i64 x] 3)).alloc (.cells #[.int .i64 0, .int .i64 0] 30)).alloc (.cells #[.slice t.p t.n t.c] 33)) (w.heap.size + 1 + 1) #[.int .i64 0, .int .i64 0] 30 := by
    have := (World.alloc_heap_new ((w.alloc (.cells #[.slice t.p t.n t.c] 33)).alloc (.cells #[.int .i64 x] 3)) (.cells #[.int .i64 0, .int .i64 0] 30))
    simp only [World.size_alloc] at this
    exact HasBlk.below this ((Below.refl _ _).alloc (Nat.le_refl _) _)
  have h3' : HasBlk ((((w.alloc (.cells #[.slice t.p t.n t.c] 33)).alloc (.cells #[.int .i64 x] 3)).alloc (.cells #[.int .i64 0, .int .i64 0] 30)).alloc (.cells #[.slice t.p t.n t.c] 33)) (w.heap.size + 1 + 1 + 1) #[.slice t.p t.n t.c] 33 := by
    have := (World.alloc_heap_new (((w.alloc (.cells #[.slice t.p t.n t.c] 33)).alloc (.cells #[.int .i64 x] 3)).alloc (.cells #[.int .i64 0, .int .i64 0] 30)) (.cells #[.slice t.p t.n t.c] 33))
    simp only [World.size_alloc] at this
    exact this
  have hB0 : Below w.heap.size w ((((w.alloc (.cells #[.slice t.p t.n t.c] 33)).alloc (.cells #[.int .i64 x] 3)).alloc (.cells #[.int .i64 0, .int .i64 0] 30)).alloc (.cells #[.slice t.p t.n t.c] 33)) := by (repeat (first | with_reducible exact bel_refl _ | with_reducible refine bel_alloc ?_ _ | with_reducible refine bel_bw _ ?_ | with_reducible refine bel_drew ?_ | with_reducible refine bel_drewN _ ?_ | ((with_reducible refine bel_set ?_ ?_ _); rotate_left; focus (first | (simp; done) | omega | (simp; omega))) | refine bel_step ?_ (by with_reducible assumption)))
  have hsz : ((((w.alloc (.cells #[.slice t.p t.n t.c] 33)).alloc (.cells #[.int .i64 x] 3)).alloc (.cells #[.int .i64 0, .int .i64 0] 30)).alloc (.cells #[.slice t.p t.n t.c] 33)).heap.size = w.heap.size + 4 := by simp
  obtain ⟨W0, hW0⟩ : ∃ W0, (((w.alloc (.cells #[.slice t.p t.n t.c] 33)).alloc (.cells #[.int .i64 x] 3)).alloc (.cells #[.int .i64 0, .int .i64 0] 30)).alloc (.cells #[.slice t.p t.n t.c] 33) = W0 := ⟨_, rfl⟩
  rw [hW0] at h1' h2' h3' hB0 hsz ⊢
  clear hW0
  have ht0 := ht.same hB0
  refine wpIn_rangeFunc_ownH (F := Fence.wide) (n := 6) rfl (by decide) (gf := 160) (lb := #[.pointer (some ⟨w.heap.size + 1 + 1 + 1, 0, none⟩)]) rfl (hT _) (enters_of Try.func160 (by kernel_rfl) rfl)
    (pieces_stops Fence.wide 5 (hT _) rfl (by decide) (w.heap.size + 1 + 1 + 1) (w.heap.size + 4) t W0 ht0 hok (by omega) (by omega) (fun b o e => by have := hb b o e; omega) (by rw [h3'.cell]; rfl)) belowK_t (belowK_b (by omega)) (Below.refl _ _) (fun _ => rfl)
    (fun pre W => (((∀ p ∈ pre, ¬pcHas p.1 x) ∧ HasBlk W (w.heap.size + 1) #[.int .i64 x] 3) ∧ HasBlk W (w.heap.size + 1 + 1) #[.int .i64 0, .int .i64 0] 30) ∧ Below w.heap.size W0 W)
    (fun c pre W => (c = .ret ∧ ∃ ini last, pre = ini ++ [last] ∧ (∀ p ∈ ini, ¬pcHas p.1 x) ∧ pcHas last.1 x ∧ HasBlk W (w.heap.size + 1 + 1) #[.int .i64 (pcAt last.1 x).lo, .int .i64 (pcAt last.1 x).hi] 30) ∧ Below w.heap.size W0 W)
    (OwnFrom.and (OwnFrom.and (OwnFrom.and (ownFrom_pure _ _) (Own.from (hasBlk_own _ _ _) _)) (Own.from (hasBlk_own _ _ _) _)) (ownFrom_below (by omega) (by omega)))
    (fun c => OwnFrom.and (Own.from (fun s A B row hs hg hr => by obtain ⟨hc, ini, last, e1, e2, e3, e4⟩ := hs; exact ⟨hc, ini, last, e1, e2, e3, hasBlk_own _ _ _ s A B row e4 hg hr⟩) _) (ownFrom_below (by omega) (by omega)))
    ⟨⟨⟨by simp, h1'⟩, h2'⟩, Below.refl _ _⟩
    (fun p a' W => ∃ Bx, w.heap.size + 1 + 1 + 1 < Bx ∧ HasBlk W Bx #[.int .i64 p.1.1.x, .int .i64 p.1.1.lo, .int .i64 p.1.1.hi, .int .i64 p.1.2.x, .int .i64 p.1.2.lo, .int .i64 p.1.2.hi] 167 ∧ a' = { tmps := #[.agg #[.slice t.p t.n t.c], .int .i64 x, .pointer (some ⟨w.heap.size, 0, none⟩), .pointer (some ⟨w.heap.size + 1, 0, none⟩), .pointer (some ⟨w.heap.size + 1 + 1, 0, none⟩), .pointer (some ⟨Bx, 0, none⟩), .agg #[.slice t.p t.n t.c], .func (.func 160) #[] #[.pointer (some ⟨w.heap.size + 1 + 1 + 1, 0, none⟩)], .agg #[.int .i64 p.1.1.x, .int .i64 p.1.1.lo, .int .i64 p.1.1.hi, .int .i64 p.1.2.x, .int .i64 p.1.2.lo, .int .i64 p.1.2.hi], undef, undef, undef, undef, undef, undef, undef], defers := [] })
    (fun p a' _ X Z row hs hg hr => by obtain ⟨Bx, e1, e2, e3⟩ := hs; exact ⟨Bx, e1, hasBlk_own Bx _ _ () X Z row e2 hg (fun r e => (hr r e).2), e3⟩)
    ?assign ?body ?done ?stop
  case assign =>
    rintro l pre p W K ⟨⟨⟨hp, b1⟩, b2⟩, hB1⟩ hK
    have hsW := hB1.size
    simp only [encP]
    gi_wp2
    refine hK _ _ ((KeepsOthers.alloc _ _).from _) ((Below.refl _ W).alloc (by omega) _) ⟨⟨⟨hp, b1.below ((Below.refl _ _).alloc (Nat.le_refl _) _)⟩, b2.below ((Below.refl _ _).alloc (Nat.le_refl _) _)⟩, hB1.alloc (by omega) _⟩ ⟨W.heap.size, by omega, World.alloc_heap_new W _, rfl⟩
  case body =>
    rintro l pre p a' W hl ⟨r, hr⟩ ⟨⟨⟨hp, b1⟩, b2⟩, hB1⟩ ⟨Bx, hBx, bX, rfl⟩ hlt
    have hsW := hB1.size
    have c1 := b1.cell
    have cX := bX.cell
    have c2 := b2.cell
    have l1 := Soft.LtH.mk (b := w.heap.size + 1) (w := W) b1.lt
    have l2 := Soft.LtH.mk (b := w.heap.size + 1 + 1) (w := W) b2.lt
    have lX := Soft.LtH.mk (b := Bx) (w := W) bX.lt
    have f2 := b2.frozen
    by_cases hx : pcHas p.1 x
    · have HX := Lib.hid hx; clear hx
      gi_wp2_with (first | (gi_at_call 150; refine (CallsIn.inRound l (callsIn_wide.2 (piece_has p.1.1 p.1.2 x _ true (decide_eq_true HX.out).symm))).mono ?_; rintro e w_ ⟨rfl, hb_⟩; obtain ⟨y1, rfl⟩ := Soft.BW.mk hb_; clear hb_) | (gi_at_call 151; refine (CallsIn.inRound l (callsIn_wide.2 (piece_at_any p.1 x _ p.2 HX.out))).mono ?_; rintro e w_ ⟨rfl, hb_⟩; obtain ⟨y2, rfl⟩ := Soft.BW.mk hb_; clear hb_))
      have hby : Below W.heap.size W y2.w := y1.below.trans (y2.below.mono y1.below.size)
      exact ⟨(keeps_of_below hby _).trans (((KeepsOthers.setCell _ _ _).from _).trans ((KeepsOthers.setCell _ _ _).from _)),
        ⟨rfl, pre, p, rfl, hp, HX.out, (b2.below hby).set2 _ _⟩, ((hB1.trans (hby.mono (by omega))).setCell (p := ⟨w.heap.size + 1 + 1, 0, none⟩) (by simp; omega) _).setCell (p := ⟨w.heap.size + 1 + 1, 1, none⟩) (by simp; omega) _⟩
    · have HX := Lib.hid hx; clear hx
      gi_wp2_with (first | (gi_at_call 150; refine (CallsIn.inRound l (callsIn_wide.2 (piece_has p.1.1 p.1.2 x _ false (decide_eq_false HX.out).symm))).mono ?_; rintro e w_ ⟨rfl, hb_⟩; obtain ⟨y1, rfl⟩ := Soft.BW.mk hb_; clear hb_))
      have hby : Below W.heap.size W y1.w := y1.below
      exact ⟨keeps_of_below hby _, hby.mono (by omega), ⟨⟨not_or_of hp HX.out, b1.below hby⟩, b2.below hby⟩, hB1.trans (hby.mono (by omega))⟩
  case done =>
    rintro D ys W hD rfl ⟨⟨⟨hp, _⟩, _⟩, _⟩ _
    exfalso
    refine hp (pcOf t.ps k) (by simp only [upto, List.mem_map, List.mem_range]; exact ⟨k, hk, rfl⟩) ?_
    rw [pcOf_val hok hk]
    exact hhas
  case stop =>
    rintro D c pre W hD ⟨k', hk', rfl⟩ ⟨⟨rfl, ini, last, e1, e2, e3, hcr⟩, hB⟩ hK
    gi_wp2
    refine ⟨by simp, .inl ⟨_, _, rfl, run_takeDeferred hK, ?_⟩⟩
    obtain ⟨k'', rfl⟩ : ∃ k'', k' = k'' + 1 := by
      cases k' with
      | zero => simp [upto] at e1
      | succ k'' => exact ⟨k'', rfl⟩
    rw [upto_succ] at e1
    obtain ⟨rfl, e5⟩ := List.append_inj' e1 rfl
    obtain rfl : pcOf t.ps k'' = last := by simpa using e5
    rw [pcOf_val hok (by omega)] at e3 hcr
    obtain rfl : k = k'' := by
      rcases Nat.lt_trichotomy k k'' with h | h | h
      · exfalso
        refine e2 (pcOf t.ps k) (by simp only [upto, List.mem_map, List.mem_range]; exact ⟨k, h, rfl⟩) ?_
        rw [pcOf_val hok hk]
        exact hhas
      · exact h
      · exact absurd e3 (hno _ h)
    have q0 := cell_kept (hcr.cell 0) (grownBy_putObj' _ D (.deferred none)) (fun r e => by cases e; exact ⟨_, hK, rfl⟩)
    have q1 := cell_kept (hcr.cell 1) (grownBy_putObj' _ D (.deferred none)) (fun r e => by cases e; exact ⟨_, hK, rfl⟩)
    refine ⟨_, ?_, rfl, (hB0.trans hB).trans (belowK_b (w := w) (Nat.le_refl _) W D _ _ (by omega) hK rfl rfl)⟩
    simp [results, Try.f126, go_sem, q0, q1]


/-! ### CheckTable -/

instance (ps : List Pt) (k : Nat) : Decidable (ptOk ps k) := inferInstanceAs (Decidable (_ ∧ _ ∧ _ ∧ _ ∧ _ ∧ (_ ∨ _)))
theorem tabOk_iff (ps : List Pt) : TabOk ps ↔ 1 ≤ ps.length ∧ ps.length ≤ 40 ∧ ∀ k, k < ps.length → ptOk ps k := ⟨fun h => ⟨h.pos, h.le, h.all⟩, fun h => ⟨h.1, h.2.1, h.2.2⟩⟩
instance (ps : List Pt) : Decidable (TabOk ps) := decidable_of_iff _ (tabOk_iff ps).symm
/-- The error of a table. -/
def tabErr (ps : List Pt) : Int := if TabOk ps then 0 else 11


set_option maxRecDepth 100000 in
set_option maxHeartbeats 4000000 in
theorem fix_CheckTable (t : Tb) (w : World) (ht : t.At w) :
    Calls Try.prog 124 #[.agg #[.slice t.p t.n t.c]] w fun e w' => e = .returned (.int .i64 (tabErr t.ps)) ∧ Below w.heap.size w w' := by
  by_cases hn : 1 ≤ t.n ∧ t.n ≤ 40
  · obtain ⟨p, n, c, ps⟩ := t
    obtain ⟨h1, h2, h3, h4, h5⟩ := ht
    obtain ⟨b, o, rfl, hb, hc⟩ := h5 (by dsimp only at *; omega)
    dsimp only at *
    obtain ⟨n1, n2⟩ := hn
    have HBAD := Lib.hid (show ∀ k, k < n ∧ ¬ptOk ps k → tabErr ps = 11 from fun k ⟨hk, hp⟩ => if_neg (fun h => hp (h.all k (by omega))))
    have HGOOD := Lib.hid (show (∀ k, k < n → ptOk ps k) → tabErr ps = 0 from fun h => if_pos ⟨by omega, by omega, fun k hk => h k (by omega)⟩)
    have hA : Below w.heap.size w (w.alloc (.cells #[.slice (some ⟨b, o, none⟩) n c] 33)) := (Below.refl _ _).alloc (Nat.le_refl _) _
    have H1 := Lib.hid h1; clear h1 h5
    have HC := Lib.hid hc; clear hc
    generalize tabErr ps = te at *
    go_enter Try.func124, Try.ntmps124
    go_wp2_with (go_at_call 147; (with_reducible refine (fix_within_yes _ _ _ _ (by omega)).mono ?_); rintro e w_ ⟨rfl, hw_⟩; subst w_)
    go_loopw [13] (fun i wr => ∃ k : Nat, k ≤ n ∧ i = .int .i64 k ∧ (∀ j, j < k → ptOk ps j) ∧ Below (w.heap.size+1) (w.alloc (.cells #[.slice (some ⟨b, o, none⟩) n c] 33)) wr) (fun i _ => n - (intOf i).toNat)
    case atStart => exact ⟨0, by omega, rfl, fun j hj => by omega, Below.refl _ _⟩
    case round =>
      obtain ⟨k, hk, rfl, hall, hB⟩ := hrel
      have hbox : wr.cell? ⟨w.heap.size, 0, none⟩ = some (.slice (some ⟨b, o, none⟩) n c) := by
        rw [hB.cell (by simp)]; simp
      have hsz : w.heap.size < wr.heap.size := by have := hB.size; simp at this; omega
      have l0 := Soft.LtH.mk (b := w.heap.size) (w := wr) hsz
      have lb := Soft.LtH.mk (b := b) (w := wr) (by omega)
      have HALL := Lib.hid hall; clear hall
      have HBs := Lib.hid hB
      by_cases hlt : k < n
      · obtain ⟨hx, hl, hh⟩ := HC.out k hlt
        rw [← World.cell?_alloc_lt w (.cells #[.slice (some ⟨b, o, none⟩) n c] 33) _ (by simpa using hb), ← hB.cell (by simp; omega)] at hx hl hh
        have HB := Lib.hid hB; clear hB
        have HPREV := Lib.hid (show 0 < k → wr.cell? ⟨b, o + (k - 1) * 3, none⟩ = some (.int .i64 (pt ps (k - 1)).x) from fun h0 => by
          obtain ⟨hx', _, _⟩ := HC.out (k - 1) (by omega)
          rw [← World.cell?_alloc_lt w (.cells #[.slice (some ⟨b, o, none⟩) n c] 33) _ (by simpa using hb), ← HB.out.cell (by simp; omega)] at hx'
          exact hx')
        have HBD := Lib.hid (show ¬ptOk ps k → te = 11 from fun h => HBAD.out k ⟨hlt, h⟩)
        have HNX := Lib.hid (show ptOk ps k → ∀ j, j < k + 1 → ptOk ps j from fun h j hj => by
          by_cases e : j = k
          · rw [e]; exact h
          · exact HALL.out j (by omega))
        have i1 : (k : Int) + 1 ≤ 9223372036854775807 := by omega
        by_cases hk0 : k = 0
        · have e0 : ∀ i, ptOk ps i → True := fun _ _ => trivial
          clear e0
          rw [hk0] at hx hl hh HBD HNX
          simp only [Nat.zero_mul, Nat.add_zero] at hx hl hh
          have HBD := Lib.hid (show ¬(0 ≤ (pt ps 0).x ∧ (pt ps 0).x ≤ 1000000 ∧ (pt ps 0).lo ≤ (pt ps 0).hi ∧ -1000000000 ≤ (pt ps 0).lo ∧ (pt ps 0).hi ≤ 1000000000) → te = 11 from fun h => HBD.out (fun h' => h ⟨h'.1, h'.2.1, h'.2.2.1, h'.2.2.2.1, h'.2.2.2.2.1⟩))
          have HNX := Lib.hid (show (0 ≤ (pt ps 0).x ∧ (pt ps 0).x ≤ 1000000 ∧ (pt ps 0).lo ≤ (pt ps 0).hi ∧ -1000000000 ≤ (pt ps 0).lo ∧ (pt ps 0).hi ≤ 1000000000) → ∀ j, j < 0 + 1 → ptOk ps j from fun h => HNX.out ⟨h.1, h.2.1, h.2.2.1, h.2.2.2.1, h.2.2.2.2, .inl rfl⟩)
          subst hk0
          generalize pt ps 0 = q at *
          by_cases c1 : 0 ≤ (q).x ∧ (q).x ≤ 1000000
          · by_cases c2 : (q).hi < (q).lo
            · have d1 : decide ((q).hi < (q).lo) = true := decide_eq_true c2
              go_wp2_with fail
              go_quiet ((go_at_call 147; exact Calls.quiet_of_same (fix_within_yes _ _ _ _ (by omega))))
              go_wp2
              go_ret
              refine ⟨ret_int (HBD.out (by omega)).symm, ?_⟩
              exact (hA.trans (HB.out.mono (by omega))).trans (below_drewN ((Below.refl _ _).alloc (by omega) _) _)
            · have d1 : decide ((q).hi < (q).lo) = false := decide_eq_false c2
              by_cases c3 : (q).lo < -1000000000
              · have d2 : decide ((q).lo < -1000000000) = true := decide_eq_true c3
                go_wp2_with fail
                go_quiet ((go_at_call 147; exact Calls.quiet_of_same (fix_within_yes _ _ _ _ (by omega))))
                go_wp2
                go_ret
                refine ⟨ret_int (HBD.out (by omega)).symm, ?_⟩
                exact (hA.trans (HB.out.mono (by omega))).trans (below_drewN ((Below.refl _ _).alloc (by omega) _) _)
              · have d2 : decide ((q).lo < -1000000000) = false := decide_eq_false c3
                by_cases c4 : 1000000000 < (q).hi
                · have d3 : decide (1000000000 < (q).hi) = true := decide_eq_true c4
                  go_wp2_with fail
                  go_quiet ((go_at_call 147; exact Calls.quiet_of_same (fix_within_yes _ _ _ _ (by omega))))
                  go_wp2
                  go_ret
                  refine ⟨ret_int (HBD.out (by omega)).symm, ?_⟩
                  exact (hA.trans (HB.out.mono (by omega))).trans (below_drewN ((Below.refl _ _).alloc (by omega) _) _)
                · have d3 : decide (1000000000 < (q).hi) = false := decide_eq_false c4
                  go_wp2_with fail
                  go_quiet ((go_at_call 147; exact Calls.quiet_of_same (fix_within_yes _ _ _ _ (by omega))))
                  go_wp2
                  go_roundw
                  case rel => exact ⟨0 + 1, by omega, by simp, HNX.out (by omega), HB.out.trans (below_drewN ((Below.refl _ _).alloc (by omega) _) _)⟩
                  case measure => simp [intOf]; omega
          · have C1 := Lib.hid c1; clear c1
            have HBD := Lib.hid (HBD.out (fun h => C1.out ⟨h.1, h.2.1⟩))
            go_wp2_with fail
            go_quiet ((go_at_call 147; exact Calls.quiet_of_same (fix_within_no _ _ _ _ C1.out)))
            go_wp2
            go_ret
            refine ⟨ret_int HBD.out.symm, ?_⟩
            exact (hA.trans (HB.out.mono (by omega))).trans (below_drewN ((Below.refl _ _).alloc (by omega) _) _)
        · have hp := HPREV.out (by omega)
          have HBD := Lib.hid (show ¬(0 ≤ (pt ps k).x ∧ (pt ps k).x ≤ 1000000 ∧ (pt ps k).lo ≤ (pt ps k).hi ∧ -1000000000 ≤ (pt ps k).lo ∧ (pt ps k).hi ≤ 1000000000 ∧ (pt ps (k - 1)).x < (pt ps k).x) → te = 11 from fun h => HBD.out (fun h' => h ⟨h'.1, h'.2.1, h'.2.2.1, h'.2.2.2.1, h'.2.2.2.2.1, h'.2.2.2.2.2.resolve_left hk0⟩))
          have HNX := Lib.hid (show (0 ≤ (pt ps k).x ∧ (pt ps k).x ≤ 1000000 ∧ (pt ps k).lo ≤ (pt ps k).hi ∧ -1000000000 ≤ (pt ps k).lo ∧ (pt ps k).hi ≤ 1000000000 ∧ (pt ps (k - 1)).x < (pt ps k).x) → ∀ j, j < k + 1 → ptOk ps j from fun h => HNX.out ⟨h.1, h.2.1, h.2.2.1, h.2.2.2.1, h.2.2.2.2.1, .inr h.2.2.2.2.2⟩)
          generalize pt ps k = q at *
          generalize pt ps (k - 1) = r at *
          have j1 : (1 : Int) ≤ k := by omega
          have j2 : (k : Int) - 1 < n := by omega
          have j3 : ((k : Int) - 1).toNat = k - 1 := by omega
          have j4 : 0 < k := by omega
          have j5 : decide ((0 : Int) < (k : Int)) = true := decide_eq_true (by omega)
          have j6 : decide (0 < k) = true := decide_eq_true (by omega)
          by_cases c1 : 0 ≤ (q).x ∧ (q).x ≤ 1000000
          · by_cases c2 : (q).hi < (q).lo
            · have d1 : decide ((q).hi < (q).lo) = true := decide_eq_true c2
              go_wp2_with fail
              go_quiet ((go_at_call 147; exact Calls.quiet_of_same (fix_within_yes _ _ _ _ (by omega))))
              go_wp2
              go_ret
              refine ⟨ret_int (HBD.out (by omega)).symm, ?_⟩
              exact (hA.trans (HB.out.mono (by omega))).trans (below_drewN ((Below.refl _ _).alloc (by omega) _) _)
            · have d1 : decide ((q).hi < (q).lo) = false := decide_eq_false c2
              by_cases c3 : (q).lo < -1000000000
              · have d2 : decide ((q).lo < -1000000000) = true := decide_eq_true c3
                go_wp2_with fail
                go_quiet ((go_at_call 147; exact Calls.quiet_of_same (fix_within_yes _ _ _ _ (by omega))))
                go_wp2
                go_ret
                refine ⟨ret_int (HBD.out (by omega)).symm, ?_⟩
                exact (hA.trans (HB.out.mono (by omega))).trans (below_drewN ((Below.refl _ _).alloc (by omega) _) _)
              · have d2 : decide ((q).lo < -1000000000) = false := decide_eq_false c3
                by_cases c4 : 1000000000 < (q).hi
                · have d3 : decide (1000000000 < (q).hi) = true := decide_eq_true c4
                  go_wp2_with fail
                  go_quiet ((go_at_call 147; exact Calls.quiet_of_same (fix_within_yes _ _ _ _ (by omega))))
                  go_wp2
                  go_ret
                  refine ⟨ret_int (HBD.out (by omega)).symm, ?_⟩
                  exact (hA.trans (HB.out.mono (by omega))).trans (below_drewN ((Below.refl _ _).alloc (by omega) _) _)
                · have d3 : decide (1000000000 < (q).hi) = false := decide_eq_false c4
                  by_cases c5 : q.x ≤ r.x
                  · have d4 : decide (q.x ≤ r.x) = true := decide_eq_true c5
                    go_wp2_with fail
                    go_quiet ((go_at_call 147; exact Calls.quiet_of_same (fix_within_yes _ _ _ _ (by omega))))
                    go_wp2
                    go_ret
                    refine ⟨ret_int (HBD.out (by omega)).symm, ?_⟩
                    exact (hA.trans (HB.out.mono (by omega))).trans (below_drewN ((Below.refl _ _).alloc (by omega) _) _)
                  · have d4 : decide (q.x ≤ r.x) = false := decide_eq_false c5
                    go_wp2_with fail
                    go_quiet ((go_at_call 147; exact Calls.quiet_of_same (fix_within_yes _ _ _ _ (by omega))))
                    go_wp2
                    go_roundw
                    case rel => exact ⟨k + 1, by omega, by simp, HNX.out (by omega), HB.out.trans (below_drewN ((Below.refl _ _).alloc (by omega) _) _)⟩
                    case measure => simp [intOf]; omega
          · have C1 := Lib.hid c1; clear c1
            have HBD := Lib.hid (HBD.out (fun h => C1.out ⟨h.1, h.2.1⟩))
            go_wp2_with fail
            go_quiet ((go_at_call 147; exact Calls.quiet_of_same (fix_within_no _ _ _ _ C1.out)))
            go_wp2
            go_ret
            refine ⟨ret_int HBD.out.symm, ?_⟩
            exact (hA.trans (HB.out.mono (by omega))).trans (below_drewN ((Below.refl _ _).alloc (by omega) _) _)
      · obtain rfl : k = n := by omega
        have HB := Lib.hid hB; clear hB
        go_wp2_with fail
        go_ret
        refine ⟨ret_int (HGOOD.out HALL.out).symm, ?_⟩
        exact hA.trans (HB.out.mono (by omega))
  · have hbad : tabErr t.ps = 11 := if_neg (fun h => hn (by have := h.pos; have := h.le; have := ht.1; omega))
    have HT := Lib.hid hbad; clear hbad
    have HN := Lib.hid hn; clear hn
    generalize tabErr t.ps = te at *
    go_enter Try.func124, Try.ntmps124
    go_wp2_with (go_at_call 147; (with_reducible refine (fix_within_no _ _ _ _ (by have := HN.out; omega)).mono ?_); rintro e w_ ⟨rfl, hw_⟩; subst w_)
    go_ret
    refine ⟨ret_int HT.out.symm, ?_⟩
    (repeat (first | with_reducible exact bel_refl _ | with_reducible refine bel_alloc ?_ _ | with_reducible refine bel_bw _ ?_ | with_reducible refine bel_drew ?_ | with_reducible refine bel_drewN _ ?_ | ((with_reducible refine bel_set ?_ ?_ _); rotate_left; focus (first | (simp; done) | omega | (simp; omega))) | refine bel_step ?_ (by with_reducible assumption)))

end Go.Proofs.Ytbjdgaeikihjbaa
