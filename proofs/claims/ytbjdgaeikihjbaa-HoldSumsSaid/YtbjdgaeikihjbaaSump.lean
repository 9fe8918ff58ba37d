/-
  The loads of holds and of tanks add up to that of all; so do those of some holds and of the others: the plain law of HoldSums. And parts of slices.
  Conditions: each theorem's own premises.
-/
import Derived.Test.YtbjdgaeikihjbaaLodq
import Derived.Laws.AppendOwnNone
namespace Go.Proofs.Ytbjdgaeikihjbaa
set_option linter.unusedSimpArgs false
set_option linter.unusedVariables false
open Go.RowKit

/-- What valid compartments with numbers of their own weigh. -/
def hW (hs : List Ho) (fs : List Fi) (i : Nat) : List Wt := if (fiv fs i).state = 0 then [] else [wtE (hv hs i) (fiv fs i)]
def hWs (hs : List Ho) (fs : List Fi) : Nat → List Wt
  | 0 => []
  | k + 1 => hWs hs fs k ++ hW hs fs k
def hSh (hs : List Ho) (fs : List Fi) : Nat → Rg
  | 0 => ⟨0, 0⟩
  | k + 1 => addR (hSh hs fs k) (heelE (hv hs k) (fiv fs k))
def tWs (ts : List Tk) (ls : List Lv) : Nat → List Wt
  | 0 => []
  | k + 1 => tWs ts ls k ++ [balE (tv ts k) (lv ls k)]
def tSu (ts : List Tk) (ls : List Lv) : Nat → Rg
  | 0 => ⟨0, 0⟩
  | k + 1 => addR (tSu ts ls k) (srfE (tv ts k) (lv ls k))

theorem hRun_all {hs : List Ho} {fs : List Fi} : ∀ n, (∀ i, i < n → dupH hs i = false ∧ fillErr (hv hs i) (fiv fs i) = 0) → hRun hs fs n = (0, ⟨hWs hs fs n, ⟨0, 0⟩, hSh hs fs n⟩)
  | 0, _ => rfl
  | n + 1, h => by
    have ih := hRun_all n (fun i hi => h i (by omega))
    obtain ⟨a, b⟩ := h n (by omega)
    rw [hRun_next (by rw [ih]) a b, ih]
    show _ = (0, (⟨hWs hs fs n ++ hW hs fs n, ⟨0, 0⟩, addR (hSh hs fs n) (heelE (hv hs n) (fiv fs n))⟩ : Ld))
    unfold hW
    split
    · simp
    · rfl
theorem tRun_all {ts : List Tk} {ls : List Lv} {s : Ld} : ∀ n, (∀ i, i < n → dupT ts i = false ∧ levelErr (tv ts i) (lv ls i) = 0) → tRun ts ls (0, s) n = (0, ⟨s.ws ++ tWs ts ls n, addR s.sur (tSu ts ls n), s.shi⟩)
  | 0, _ => by
    show (0, s) = _
    simp [tWs, tSu, addR]
  | n + 1, h => by
    have ih := tRun_all (s := s) n (fun i hi => h i (by omega))
    obtain ⟨a, b⟩ := h n (by omega)
    rw [tRun_next (by rw [ih]) a b, ih]
    show (0, (⟨s.ws ++ tWs ts ls n ++ [balE (tv ts n) (lv ls n)], addR (addR s.sur (tSu ts ls n)) (srfE (tv ts n) (lv ls n)), s.shi⟩ : Ld)) = (0, ⟨s.ws ++ (tWs ts ls n ++ [balE (tv ts n) (lv ls n)]), addR s.sur (addR (tSu ts ls n) (srfE (tv ts n) (lv ls n))), s.shi⟩)
    rw [List.append_assoc]
    simp only [addR, Int.add_assoc]

/-- Compartments with numbers of their own, valid, as many of each kind. -/
structure Fine (hs : List Ho) (fs : List Fi) (ts : List Tk) (ls : List Lv) (n : Nat) : Prop where
  l1 : hs.length = n
  l2 : fs.length = n
  l3 : ts.length = n
  l4 : ls.length = n
  le : n ≤ 9
  h : ∀ i, i < n → (hv hs i).id = (i : Int) + 1 ∧ fillErr (hv hs i) (fiv fs i) = 0
  t : ∀ i, i < n → (tv ts i).id = (i : Int) + 1 ∧ levelErr (tv ts i) (lv ls i) = 0

theorem dupH_no {hs : List Ho} {i : Nat} (c : Int) (h : ∀ j, j ≤ i → (hv hs j).id = (j : Int) + c) : dupH hs i = false := by
  rw [Bool.eq_false_iff]
  intro e
  obtain ⟨k, hk, e⟩ := (dupH_iff _ _).1 e
  rw [h k (by omega), h i (by omega)] at e
  omega
theorem dupT_no {ts : List Tk} {i : Nat} (c : Int) (h : ∀ j, j ≤ i → (tv ts j).id = (j : Int) + c) : dupT ts i = false := by
  rw [Bool.eq_false_iff]
  intro e
  obtain ⟨k, hk, e⟩ := (dupT_iff _ _).1 e
  rw [h k (by omega), h i (by omega)] at e
  omega

theorem hv_take (hs : List Ho) (m i : Nat) (hi : i < m) : hv (hs.take m) i = hv hs i := by show (hs.take m)[i]?.getD default = hs[i]?.getD default; rw [List.getElem?_take, if_pos hi]
theorem fiv_take (fs : List Fi) (m i : Nat) (hi : i < m) : fiv (fs.take m) i = fiv fs i := by show (fs.take m)[i]?.getD default = fs[i]?.getD default; rw [List.getElem?_take, if_pos hi]
theorem hv_drop (hs : List Ho) (m i : Nat) : hv (hs.drop m) i = hv hs (m + i) := by show (hs.drop m)[i]?.getD default = hs[m + i]?.getD default; rw [List.getElem?_drop]
theorem fiv_drop (fs : List Fi) (m i : Nat) : fiv (fs.drop m) i = fiv fs (m + i) := by show (fs.drop m)[i]?.getD default = fs[m + i]?.getD default; rw [List.getElem?_drop]

theorem hWs_take (hs : List Ho) (fs : List Fi) (m : Nat) : ∀ j, j ≤ m → hWs (hs.take m) (fs.take m) j = hWs hs fs j ∧ hSh (hs.take m) (fs.take m) j = hSh hs fs j
  | 0, _ => ⟨rfl, rfl⟩
  | j + 1, h => by
    obtain ⟨a, b⟩ := hWs_take hs fs m j (by omega)
    unfold hWs hSh hW
    rw [a, b, hv_take _ _ _ (by omega), fiv_take _ _ _ (by omega)]
    exact ⟨rfl, rfl⟩
theorem hWs_drop (hs : List Ho) (fs : List Fi) (m : Nat) : ∀ j, hWs hs fs (m + j) = hWs hs fs m ++ hWs (hs.drop m) (fs.drop m) j ∧ hSh hs fs (m + j) = addR (hSh hs fs m) (hSh (hs.drop m) (fs.drop m) j)
  | 0 => ⟨by simp [hWs], by simp [hSh, addR]⟩
  | j + 1 => by
    obtain ⟨a, b⟩ := hWs_drop hs fs m j
    show hWs hs fs (m + j) ++ hW hs fs (m + j) = _ ∧ addR (hSh hs fs (m + j)) (heelE (hv hs (m + j)) (fiv fs (m + j))) = _
    rw [a, b]
    have e1 : hWs (hs.drop m) (fs.drop m) (j + 1) = hWs (hs.drop m) (fs.drop m) j ++ hW (hs.drop m) (fs.drop m) j := rfl
    have e2 : hSh (hs.drop m) (fs.drop m) (j + 1) = addR (hSh (hs.drop m) (fs.drop m) j) (heelE (hv (hs.drop m) j) (fiv (fs.drop m) j)) := rfl
    rw [e1, e2]
    unfold hW
    rw [hv_drop, fiv_drop, List.append_assoc]
    refine ⟨rfl, ?_⟩
    simp only [addR, Int.add_assoc]

/-- The loads of all, of the first ones, of the others, and of the tanks alone. -/
structure Sums (all a b c : Int × Ld) : Prop where
  e1 : all.1 = 0
  e2 : a.1 = 0
  e3 : b.1 = 0
  e4 : c.1 = 0
  ws : all.2.ws = a.2.ws ++ b.2.ws ++ c.2.ws
  shi : all.2.shi = ⟨a.2.shi.lo + b.2.shi.lo, a.2.shi.hi + b.2.shi.hi⟩
  sur : all.2.sur = c.2.sur
  c0 : c.2.shi = ⟨0, 0⟩
  a0 : a.2.sur = ⟨0, 0⟩
  sa : Small 9 a.2.shi
  sb : Small 9 b.2.shi
  la : a.2.ws.length ≤ 9
  lb : b.2.ws.length ≤ 9
  lc : c.2.ws.length ≤ 9

theorem sums_plain {hs : List Ho} {fs : List Fi} {ts : List Tk} {ls : List Lv} {n m : Nat} (F : Fine hs fs ts ls n) (hm : m ≤ n) :
    Sums (loadE hs fs ts ls) (loadE (hs.take m) (fs.take m) [] []) (loadE (hs.drop m) (fs.drop m) [] []) (loadE [] [] ts ls) := by
  obtain ⟨l1, l2, l3, l4, le, h, t⟩ := F
  have gh : ∀ i, i < n → dupH hs i = false ∧ fillErr (hv hs i) (fiv fs i) = 0 := fun i hi => ⟨dupH_no 1 (fun j hj => (h j (by omega)).1), (h i hi).2⟩
  have gt : ∀ i, i < n → dupT ts i = false ∧ levelErr (tv ts i) (lv ls i) = 0 := fun i hi => ⟨dupT_no 1 (fun j hj => (t j (by omega)).1), (t i hi).2⟩
  have ga : ∀ i, i < m → dupH (hs.take m) i = false ∧ fillErr (hv (hs.take m) i) (fiv (fs.take m) i) = 0 := fun i hi =>
    ⟨dupH_no 1 (fun j hj => by rw [hv_take _ _ _ (by omega)]; exact (h j (by omega)).1), by rw [hv_take _ _ _ hi, fiv_take _ _ _ hi]; exact (h i (by omega)).2⟩
  have gb : ∀ i, i < n - m → dupH (hs.drop m) i = false ∧ fillErr (hv (hs.drop m) i) (fiv (fs.drop m) i) = 0 := fun i hi =>
    ⟨dupH_no ((m : Int) + 1) (fun j hj => by rw [hv_drop, (h (m + j) (by omega)).1]; omega), by rw [hv_drop, fiv_drop]; exact (h (m + i) (by omega)).2⟩
  have ra := hRun_all m ga
  have rb := hRun_all (n - m) gb
  have rn := hRun_all n gh
  have sa := hRun_small (hs.take m) (fs.take m) m
  have sb := hRun_small (hs.drop m) (fs.drop m) (n - m)
  have na := hRun_len (hs.take m) (fs.take m) m
  have nb := hRun_len (hs.drop m) (fs.drop m) (n - m)
  have nc := tRun_len ts ls (0, ld0) n
  have E1 : loadE hs fs ts ls = (0, ⟨hWs hs fs n ++ tWs ts ls n, addR ⟨0, 0⟩ (tSu ts ls n), hSh hs fs n⟩) := by
    rw [loadE_all (by omega) (by omega) (by omega) (by omega), l1, l3, rn, tRun_all n gt]
  have E2 : loadE (hs.take m) (fs.take m) [] [] = (0, ⟨hWs (hs.take m) (fs.take m) m, ⟨0, 0⟩, hSh (hs.take m) (fs.take m) m⟩) := by
    rw [loadE_all (by rw [List.length_take]; omega) (by decide) (by rw [List.length_take, List.length_take]; omega) rfl, show (hs.take m).length = m by rw [List.length_take]; omega, ra]
    rfl
  have E3 : loadE (hs.drop m) (fs.drop m) [] [] = (0, ⟨hWs (hs.drop m) (fs.drop m) (n - m), ⟨0, 0⟩, hSh (hs.drop m) (fs.drop m) (n - m)⟩) := by
    rw [loadE_all (by rw [List.length_drop]; omega) (by decide) (by rw [List.length_drop, List.length_drop]; omega) rfl, show (hs.drop m).length = n - m by rw [List.length_drop]; omega, rb]
    rfl
  have E4 : loadE [] [] ts ls = (0, ⟨tWs ts ls n, addR ⟨0, 0⟩ (tSu ts ls n), ⟨0, 0⟩⟩) := by
    rw [loadE_all (by decide) (by omega) rfl (by omega), l3]
    show tRun ts ls (0, ld0) n = _
    rw [tRun_all n gt]
    rfl
  have E4' : tRun ts ls (0, ld0) n = (0, ⟨tWs ts ls n, addR ⟨0, 0⟩ (tSu ts ls n), ⟨0, 0⟩⟩) := by
    rw [tRun_all n gt]
    rfl
  rw [ra] at sa na
  rw [rb] at sb nb
  rw [E4'] at nc
  rw [E1, E2, E3, E4]
  obtain ⟨w1, w2⟩ := hWs_take hs fs m m (Nat.le_refl _)
  obtain ⟨w3, w4⟩ := hWs_drop hs fs m (n - m)
  rw [show m + (n - m) = n by omega] at w3 w4
  refine ⟨rfl, rfl, rfl, rfl, ?_, ?_, rfl, rfl, rfl, sa.2.mono (by omega), sb.2.mono (by omega), ?_, ?_, ?_⟩
  · show hWs hs fs n ++ tWs ts ls n = _
    rw [w3]
    simp only [w1]
  · show hSh hs fs n = _
    rw [w4]
    simp only [w2, addR]
  · exact Nat.le_trans na (by omega)
  · exact Nat.le_trans nb (by omega)
  · refine Nat.le_trans nc ?_
    show 0 + n ≤ 9
    omega

/-! ### Parts of slices -/

theorem RowsAt.take {w : World} {p : Option Addr} {n c sz : Nat} {cs : Nat → List Value} (h : RowsAt w p n c sz cs) {m : Nat} (hm : m ≤ n) : RowsAt w p m c sz cs := by
  obtain ⟨h1, h2, h3⟩ := h
  refine ⟨by omega, h2, fun hn => ?_⟩
  obtain ⟨b, o, e, hb, hc⟩ := h3 (by omega)
  exact ⟨b, o, e, hb, fun i hi => hc i (by omega)⟩
theorem RowsAt.drop {w : World} {b o n c sz : Nat} {cs : Nat → List Value} (h : RowsAt w (some ⟨b, o, none⟩) n c sz cs) {m : Nat} (hm : m ≤ n) : RowsAt w (some ⟨b, o + m * sz, none⟩) (n - m) (c - m) sz (fun i => cs (m + i)) := by
  obtain ⟨h1, h2, h3⟩ := h
  refine ⟨by omega, by omega, fun hn => ?_⟩
  obtain ⟨b', o', e, hb, hc⟩ := h3 (by omega)
  cases e
  refine ⟨b, o + m * sz, rfl, hb, fun i hi j v hv => ?_⟩
  have := hc (m + i) (by omega) j v hv
  rw [Nat.add_mul] at this
  rw [show o + m * sz + i * sz + j = o + (m * sz + i * sz) + j by omega]
  exact this

theorem HsAt.take {w : World} {s : Sl Ho} (h : HsAt w s) {m : Nat} (hm : m ≤ s.n) : HsAt w ⟨s.p, m, s.c, s.xs.take m⟩ := by
  refine ⟨by have := h.1; dsimp only; rw [List.length_take]; omega, ?_, fun i hi => ?_⟩
  · obtain ⟨h1, h2, h3⟩ := h.2.1.take hm
    refine ⟨h1, h2, fun hn => ?_⟩
    obtain ⟨b, o, e, hb, hc⟩ := h3 hn
    exact ⟨b, o, e, hb, fun i hi j v hv => hc i hi j v (by dsimp only at hv hi; rw [hv_take _ _ _ hi] at hv; exact hv)⟩
  · dsimp only at hi ⊢
    rw [hv_take _ _ _ hi]
    exact h.2.2 i (by omega)
theorem FsAt.take {w : World} {s : Sl Fi} (h : FsAt w s) {m : Nat} (hm : m ≤ s.n) : FsAt w ⟨s.p, m, s.c, s.xs.take m⟩ := by
  refine ⟨by have := h.1; dsimp only; rw [List.length_take]; omega, ?_⟩
  obtain ⟨h1, h2, h3⟩ := h.2.take hm
  refine ⟨h1, h2, fun hn => ?_⟩
  obtain ⟨b, o, e, hb, hc⟩ := h3 hn
  exact ⟨b, o, e, hb, fun i hi j v hv => hc i hi j v (by dsimp only at hv hi; rw [fiv_take _ _ _ hi] at hv; exact hv)⟩
theorem HsAt.drop {w : World} {b o n c : Nat} {xs : List Ho} (h : HsAt w ⟨some ⟨b, o, none⟩, n, c, xs⟩) {m : Nat} (hm : m ≤ n) : HsAt w ⟨some ⟨b, o + m * 14, none⟩, n - m, c - m, xs.drop m⟩ := by
  have h1 := h.1
  dsimp only at h1
  refine ⟨by dsimp only; rw [List.length_drop]; omega, ?_, fun i hi => ?_⟩
  · obtain ⟨k1, k2, k3⟩ := (show RowsAt w (some ⟨b, o, none⟩) n c 14 (fun i => hoC (hv xs i)) from h.2.1).drop hm
    refine ⟨k1, k2, fun hn => ?_⟩
    obtain ⟨b', o', e, hb, hc⟩ := k3 hn
    exact ⟨b', o', e, hb, fun i hi j v hv => hc i hi j v (by dsimp only at hv ⊢; rw [hv_drop] at hv; exact hv)⟩
  · dsimp only at hi ⊢
    rw [hv_drop]
    exact h.2.2 (m + i) (by dsimp only; omega)
theorem FsAt.drop {w : World} {b o n c : Nat} {xs : List Fi} (h : FsAt w ⟨some ⟨b, o, none⟩, n, c, xs⟩) {m : Nat} (hm : m ≤ n) : FsAt w ⟨some ⟨b, o + m * 6, none⟩, n - m, c - m, xs.drop m⟩ := by
  have h1 := h.1
  dsimp only at h1
  refine ⟨by dsimp only; rw [List.length_drop]; omega, ?_⟩
  obtain ⟨k1, k2, k3⟩ := (show RowsAt w (some ⟨b, o, none⟩) n c 6 (fun i => fiC (fiv xs i)) from h.2).drop hm
  refine ⟨k1, k2, fun hn => ?_⟩
  obtain ⟨b', o', e, hb, hc⟩ := k3 hn
  exact ⟨b', o', e, hb, fun i hi j v hv => hc i hi j v (by dsimp only at hv ⊢; rw [fiv_drop] at hv; exact hv)⟩

theorem HsAt.dropIf {w : World} {b o n c : Nat} {xs : List Ho} (h : HsAt w ⟨some ⟨b, o, none⟩, n, c, xs⟩) {m : Nat} (hm : m ≤ n) : HsAt w ⟨if c = m then some ⟨b, o, none⟩ else some ⟨b, o + m * 14, none⟩, n - m, c - m, xs.drop m⟩ := by
  by_cases e : c = m
  · rw [if_pos e]
    have h1 := h.1
    have h2 := h.2.1.1
    dsimp only at h1 h2
    refine ⟨by dsimp only; rw [List.length_drop]; omega, ⟨by dsimp only; omega, by dsimp only; omega, fun hn => absurd (by dsimp only; omega) hn⟩, fun i hi => absurd hi (by dsimp only; omega)⟩
  · rw [if_neg e]
    exact h.drop hm
theorem FsAt.dropIf {w : World} {b o n c : Nat} {xs : List Fi} (h : FsAt w ⟨some ⟨b, o, none⟩, n, c, xs⟩) {m : Nat} (hm : m ≤ n) : FsAt w ⟨if c = m then some ⟨b, o, none⟩ else some ⟨b, o + m * 6, none⟩, n - m, c - m, xs.drop m⟩ := by
  by_cases e : c = m
  · rw [if_pos e]
    have h1 := h.1
    have h2 := h.2.1
    dsimp only at h1 h2
    refine ⟨by dsimp only; rw [List.length_drop]; omega, by dsimp only; omega, by dsimp only; omega, fun hn => absurd (by dsimp only; omega) hn⟩
  · rw [if_neg e]
    exact h.drop hm

/-! ### Loads in blocks of their own; many weights appended -/

theorem WsAt.set {w : World} {s : Sl Wt} (h : WsAt w s) {a : Addr} (ha : s.n ≠ 0 → ∀ b o, s.p = some ⟨b, o, none⟩ → b ≠ a.block) (v : Value) : WsAt (w.setCell a v) s := by
  obtain ⟨h0, h1, h2, h3⟩ := h
  refine ⟨h0, h1, h2, fun hn => ?_⟩
  obtain ⟨b, o, e, hlt, hc⟩ := h3 hn
  have hne := ha hn b o e
  exact ⟨b, o, e, by simpa using hlt, fun i hi j u hu => (World.cell?_of_block (w := w) (a := ⟨b, o + i * 6 + j, none⟩) (Below.heap_setCell w a v b hne)).trans (hc i hi j u hu)⟩
/-- Weights do not lie in the block of a load. -/
theorem WsAt.notIn {w : World} {s : Sl Wt} (h : WsAt w s) {B : Nat} {x0 x1 x2 x3 x4 : Value} {t : TypeId} (hb : HasBlk w B #[x0, x1, x2, x3, x4] t) : s.n ≠ 0 → ∀ b o, s.p = some ⟨b, o, none⟩ → b ≠ B := fun hn b o e hbB => by
  obtain ⟨b', o', e', _, hc⟩ := h.2.2.2 hn
  rw [e] at e'
  cases e'
  subst hbB
  have := hc 0 (by omega) 5 _ rfl
  have h5 := hb.cell (o + 0 * 6 + 5)
  rw [this] at h5
  rw [Array.getElem?_eq_none (by simp <;> omega)] at h5
  cases h5

/-- A load in a block of its own. -/
structure LdAt (W : World) (K : Nat) (p : Option Addr) (c : Nat) (L : Ld) : Prop where
  lt : K < W.heap.size
  c0 : W.cell? ⟨K, 0, none⟩ = some (.slice p L.ws.length c)
  c1 : W.cell? ⟨K, 1, none⟩ = some (.int .i64 L.sur.lo)
  c2 : W.cell? ⟨K, 2, none⟩ = some (.int .i64 L.sur.hi)
  c3 : W.cell? ⟨K, 3, none⟩ = some (.int .i64 L.shi.lo)
  c4 : W.cell? ⟨K, 4, none⟩ = some (.int .i64 L.shi.hi)
  ws : WsAt W ⟨p, L.ws.length, c, L.ws⟩
  pn : p = none → c = 0
theorem LdAt.same {W W' : World} {K : Nat} {p : Option Addr} {c : Nat} {L : Ld} (h : LdAt W K p c L) (hb : Below W.heap.size W W') : LdAt W' K p c L :=
  ⟨Nat.lt_of_lt_of_le h.lt hb.size, (hb.cell (p := ⟨K, 0, none⟩) h.lt).trans h.c0, (hb.cell (p := ⟨K, 1, none⟩) h.lt).trans h.c1, (hb.cell (p := ⟨K, 2, none⟩) h.lt).trans h.c2, (hb.cell (p := ⟨K, 3, none⟩) h.lt).trans h.c3, (hb.cell (p := ⟨K, 4, none⟩) h.lt).trans h.c4, h.ws.same hb, h.pn⟩
theorem ldAt_new {W : World} {p : Option Addr} {c : Nat} {L : Ld} {t : TypeId} (h : WsAt W ⟨p, L.ws.length, c, L.ws⟩) (hp : p = none → c = 0) : LdAt (W.alloc (.cells #[.slice p L.ws.length c, .int .i64 L.sur.lo, .int .i64 L.sur.hi, .int .i64 L.shi.lo, .int .i64 L.shi.hi] t)) W.heap.size p c L := by
  have k := fun i => HasBlk.cell (Soft.heap_new W (.cells #[.slice p L.ws.length c, .int .i64 L.sur.lo, .int .i64 L.sur.hi, .int .i64 L.shi.lo, .int .i64 L.shi.hi] t)) i
  exact ⟨by simp, k 0, k 1, k 2, k 3, k 4, h.same ((Below.refl _ _).alloc (Nat.le_refl _) _), hp⟩
theorem ldAt_put {W : World} {K : Nat} {p : Option Addr} {c : Nat} {L : Ld} {x0 x1 x2 x3 x4 : Value} {t : TypeId} (hb : HasBlk W K #[x0, x1, x2, x3, x4] t) (h : WsAt W ⟨p, L.ws.length, c, L.ws⟩) (hp : p = none → c = 0) :
    LdAt (((((W.setCell ⟨K, 0, none⟩ (.slice p L.ws.length c)).setCell ⟨K, 1, none⟩ (.int .i64 L.sur.lo)).setCell ⟨K, 2, none⟩ (.int .i64 L.sur.hi)).setCell ⟨K, 3, none⟩ (.int .i64 L.shi.lo)).setCell ⟨K, 4, none⟩ (.int .i64 L.shi.hi)) K p c L := by
  have ne := h.notIn hb
  have k := ((((hb.put 0 (.slice p L.ws.length c)).put 1 (.int .i64 L.sur.lo)).put 2 (.int .i64 L.sur.hi)).put 3 (.int .i64 L.shi.lo)).put 4 (.int .i64 L.shi.hi)
  exact ⟨k.lt, (HasBlk.cell k 0).trans (by simp), (HasBlk.cell k 1).trans (by simp), (HasBlk.cell k 2).trans (by simp), (HasBlk.cell k 3).trans (by simp), (HasBlk.cell k 4).trans (by simp), ((((h.set ne _).set ne _).set ne _).set ne _).set ne _, hp⟩

theorem wts_one : ∀ (xs : List Wt) (u : Value), u ∈ wts xs → u.oneCell' = true
  | y :: ys, u, hu => by
    rcases List.mem_append.1 hu with hu | hu
    · simp [wtC] at hu
      rcases hu with rfl | rfl | rfl | rfl | rfl | rfl <;> rfl
    · exact wts_one ys u hu

/-- Many weights more. -/
theorem app_many {w : World} {ops : Array Oper} {rest : List Oper} {o : Oper} {a : Act} {Q : Exit → Act → World → Prop} (hgd : o.guard = none) (s x : Operand)
    (ho : o.op = .call { callee := .builtin .append, args := #[s, x], argTypes := #[102, 102] }) (B : Nat) (v : Value) (l : List Wt) (hs : a.eval s = v) (hown : OwnW w B v l)
    (p : Option Addr) (m c : Nat) (xs : List Wt) (hx : a.eval x = .slice p m c) (hw : WsAt w ⟨p, m, c, xs⟩) (hp : p = none → c = 0) (hn : l.length + m ≤ 1000) (hB : B ≤ w.heap.size)
    (h : ∀ v' w', OwnW w' B v' (l ++ xs) → Below B w w' → wpList Try.prog ops Q rest (a.put o.dst v') w') : wpList Try.prog ops Q (o :: rest) a w := by
  obtain ⟨i0, hi, hz0, hz1, hz2⟩ := infos info_wt
  have hm : xs.length = m := hw.1
  cases p with
  | none =>
    have h0 : m = 0 := by
      apply Classical.byContradiction
      intro hne
      obtain ⟨b, o, e, _⟩ := hw.2.2.2 hne
      cases e
    subst h0
    obtain rfl : xs = [] := List.eq_nil_of_length_eq_zero hm
    obtain rfl := hp rfl
    refine wpList_append_own_none hgd s x 102 ho B 56 i0 6 Try.underlying102 hi v l.length (wts l) hs hown hx ?_
    exact h v w (by rw [List.append_nil]; exact hown) (Below.refl _ _)
  | some ad =>
    refine wpList_append_own w hgd s x 102 ho B 56 i0 _ 6 48 Try.underlying102 hi hz0 hz1 hz2 rfl (by decide) v l.length (wts l) hs hown ad m c (wts xs) hx (by rw [wts_length, hm]) ?_ ?_ (by unfold maxLen; omega) (by omega) hB ?_
    · intro j u hu
      have hj : j < m * 6 := by
        have := (List.getElem?_eq_some_iff.1 hu).1
        rw [wts_length, hm] at this
        exact this
      obtain ⟨b, oo, e, _, hc⟩ := hw.2.2.2 (show m ≠ 0 by omega)
      cases e
      have e1 : j = j / 6 * 6 + j % 6 := by omega
      have hlt : j / 6 < m := by omega
      have h1 := wts_get xs (j / 6) (by omega) (j % 6) (by omega)
      rw [← e1, hu] at h1
      have h2 := hc (j / 6) hlt (j % 6) u h1.symm
      have ea : (⟨b, oo, none⟩ : Addr).add j = ⟨b, oo + j, none⟩ := by
        unfold Addr.add
        split
        · next h => subst h; rfl
        · rfl
      rw [ea, show oo + j = oo + j / 6 * 6 + j % 6 by omega]
      exact h2
    · exact fun u hu => wts_one xs u hu
    · intro v' w' h1 h2 _
      refine h v' w' ?_ (below_of_grown h2 hB fun k hk => (hown.lt k hk).1)
      unfold OwnW
      rw [List.length_append, wts_append, hm]
      exact h1

end Go.Proofs.Ytbjdgaeikihjbaa
