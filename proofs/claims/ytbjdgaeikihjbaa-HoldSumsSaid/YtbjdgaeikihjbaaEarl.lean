/-
  Plain facts of the worst place of a fill: the candidates, the greatest value, the first place that has it.
  hold: earliest and its closure; candidates and what it yields.
  Conditions: each theorem's own premises.
-/
import Derived.Test.YtbjdgaeikihjbaaMono
namespace Go.Proofs.Ytbjdgaeikihjbaa
set_option linter.unusedSimpArgs false
set_option linter.unusedVariables false
open Go.RowKit

/-- The upper value at a place. -/
abbrev hiE (ps : List Pt) (x : Int) : Int := (atE ps x).1.hi

def wStep (ps : List Pt) (s : Int × Int) (x : Int) : Int × Int := if s.2 < hiE ps x then (x, hiE ps x) else s
def wFold (ps : List Pt) (l : List Int) : Int × Int := l.foldl (wStep ps) (0, -1)
theorem wFold_snoc (ps : List Pt) (l : List Int) (x : Int) : wFold ps (l ++ [x]) = wStep ps (wFold ps l) x := by simp [wFold]

/-- The candidates: the ends of a range, and the points within it. -/
def candK (ps : List Pt) (r : Rg) : Nat → List Int
  | 0 => [r.lo]
  | k + 1 => if r.lo < (pt ps k).x ∧ (pt ps k).x < r.hi then candK ps r k ++ [(pt ps k).x] else candK ps r k
def candS (ps : List Pt) (r : Rg) : List Int := candK ps r ps.length ++ [r.hi]

/-- Where a straight piece that ends at a place begins. -/
def startK (ps : List Pt) (x from_ : Int) : Nat → Int
  | 0 => from_
  | k + 1 => if (pt ps k).x < x then max (startK ps x from_ k) (pt ps k).x else startK ps x from_ k
def startS (ps : List Pt) (from_ x : Int) : Int := startK ps x from_ ps.length

def earlS (ps : List Pt) (from_ x m : Int) : Int := searchS (fun y => decide (m ≤ hiE ps y)) (startS ps from_ x) x

/-- The worst place and its value. -/
def worS (ps : List Pt) (r : Rg) : Int × Int := (earlS ps r.lo (wFold ps (candS ps r)).1 (wFold ps (candS ps r)).2, (wFold ps (candS ps r)).2)

def FoldInv (ps : List Pt) (pre : List Int) (s : Int × Int) : Prop :=
  (pre = [] ∧ s = (0, -1)) ∨ ∃ l1 l2, pre = l1 ++ s.1 :: l2 ∧ hiE ps s.1 = s.2 ∧ (∀ x ∈ l1, hiE ps x < s.2) ∧ ∀ x ∈ l2, hiE ps x ≤ s.2

theorem foldInv_step {ps : List Pt} {pre : List Int} {s : Int × Int} (h : FoldInv ps pre s) {x : Int} (hx : 0 ≤ hiE ps x) : FoldInv ps (pre ++ [x]) (wStep ps s x) := by
  unfold wStep
  split
  · rename_i hlt
    right
    refine ⟨pre, [], rfl, rfl, fun y hy => ?_, fun y hy => by cases hy⟩
    rcases h with ⟨rfl, _⟩ | ⟨l1, l2, rfl, h1, h2, h3⟩
    · cases hy
    · dsimp only
      rcases List.mem_append.1 hy with hy | hy
      · have := h2 y hy; omega
      · rcases List.mem_cons.1 hy with rfl | hy
        · omega
        · have := h3 y hy; omega
  · rename_i hlt
    rcases h with ⟨rfl, rfl⟩ | ⟨l1, l2, rfl, h1, h2, h3⟩
    · exact absurd (show (-1 : Int) < hiE ps x by omega) hlt
    · right
      refine ⟨l1, l2 ++ [x], by simp, h1, h2, fun y hy => ?_⟩
      rcases List.mem_append.1 hy with hy | hy
      · exact h3 y hy
      · simp at hy; subst hy; omega

theorem foldInv_all {ps : List Pt} : ∀ (l pre : List Int) (s : Int × Int), FoldInv ps pre s → (∀ x ∈ l, 0 ≤ hiE ps x) → FoldInv ps (pre ++ l) (l.foldl (wStep ps) s)
  | [], pre, s, h, _ => by simpa using h
  | x :: l, pre, s, h, hx => by
    have := foldInv_all l (pre ++ [x]) (wStep ps s x) (foldInv_step h (hx x (by simp))) (fun y hy => hx y (by simp [hy]))
    simpa using this

/-- What the fold comes to. -/
theorem wFold_spec {ps : List Pt} {l : List Int} (hl : l ≠ []) (hx : ∀ x ∈ l, 0 ≤ hiE ps x) :
    ∃ l1 l2, l = l1 ++ (wFold ps l).1 :: l2 ∧ hiE ps (wFold ps l).1 = (wFold ps l).2 ∧ (∀ x ∈ l1, hiE ps x < (wFold ps l).2) ∧ ∀ x ∈ l2, hiE ps x ≤ (wFold ps l).2 := by
  have := foldInv_all l [] (0, -1) (.inl ⟨rfl, rfl⟩) hx
  rw [List.nil_append] at this
  rcases this with ⟨h, _⟩ | h
  · exact absurd h hl
  · exact h

theorem candK_in {ps : List Pt} {r : Rg} (hr : r.lo ≤ r.hi) : ∀ k x, x ∈ candK ps r k → r.lo ≤ x ∧ x ≤ r.hi
  | 0, x, h => by simp [candK] at h; omega
  | k + 1, x, h => by
    unfold candK at h
    split at h
    · rcases List.mem_append.1 h with h | h
      · exact candK_in hr k x h
      · simp at h; omega
    · exact candK_in hr k x h
theorem candS_in {ps : List Pt} {r : Rg} (hr : r.lo ≤ r.hi) {x : Int} (h : x ∈ candS ps r) : r.lo ≤ x ∧ x ≤ r.hi := by
  rcases List.mem_append.1 h with h | h
  · exact candK_in hr _ x h
  · simp at h; omega
theorem candK_mem {ps : List Pt} {r : Rg} : ∀ k j, j < k → r.lo < (pt ps j).x → (pt ps j).x < r.hi → (pt ps j).x ∈ candK ps r k
  | k + 1, j, hj, h1, h2 => by
    unfold candK
    by_cases e : j = k
    · subst e; rw [if_pos ⟨h1, h2⟩]; simp
    · have := candK_mem k j (by omega) h1 h2
      split
      · simp [this]
      · exact this
theorem candK_lo {ps : List Pt} {r : Rg} : ∀ k, r.lo ∈ candK ps r k
  | 0 => by simp [candK]
  | k + 1 => by
    unfold candK
    split
    · simp [candK_lo k]
    · exact candK_lo k

theorem candK_lt {ps : List Pt} (hok : TabOk ps) {r : Rg} : ∀ k m x, k ≤ m → m < ps.length → r.lo < (pt ps m).x → x ∈ candK ps r k → x < (pt ps m).x
  | 0, m, x, _, _, h1, h => by simp [candK] at h; omega
  | k + 1, m, x, hk, hm, h1, h => by
    unfold candK at h
    split at h
    · rcases List.mem_append.1 h with h | h
      · exact candK_lt hok k m x (by omega) hm h1 h
      · simp at h; subst h; exact hok.lt m k (by omega) hm
    · exact candK_lt hok k m x (by omega) hm h1 h

theorem candK_sorted {ps : List Pt} (hok : TabOk ps) {r : Rg} : ∀ k, k ≤ ps.length → (candK ps r k).Pairwise (· ≤ ·)
  | 0, _ => by simp [candK]
  | k + 1, hk => by
    unfold candK
    split
    · rename_i hc
      rw [List.pairwise_append]
      refine ⟨candK_sorted hok k (by omega), by simp, fun x hx y hy => ?_⟩
      simp at hy
      subst hy
      exact Int.le_of_lt (candK_lt hok k k x (Nat.le_refl _) (by omega) hc.1 hx)
    · exact candK_sorted hok k (by omega)
theorem candS_sorted {ps : List Pt} (hok : TabOk ps) {r : Rg} (hr : r.lo ≤ r.hi) : (candS ps r).Pairwise (· ≤ ·) := by
  unfold candS
  rw [List.pairwise_append]
  refine ⟨candK_sorted hok _ (Nat.le_refl _), by simp, fun x hx y hy => ?_⟩
  simp at hy
  subst hy
  exact (candK_in hr _ x hx).2

theorem startK_spec (ps : List Pt) (x from_ : Int) : ∀ k, from_ ≤ startK ps x from_ k ∧ (∀ j, j < k → (pt ps j).x < x → (pt ps j).x ≤ startK ps x from_ k) ∧
    (startK ps x from_ k = from_ ∨ ∃ j, j < k ∧ startK ps x from_ k = (pt ps j).x ∧ (pt ps j).x < x)
  | 0 => ⟨Int.le_refl _, fun j hj => by omega, .inl rfl⟩
  | k + 1 => by
    obtain ⟨a1, a2, a3⟩ := startK_spec ps x from_ k
    unfold startK
    split
    · rename_i hc
      refine ⟨by omega, fun j hj hjx => ?_, ?_⟩
      · by_cases e : j = k
        · subst e; omega
        · have := a2 j (by omega) hjx; omega
      · by_cases hle : (pt ps k).x ≤ startK ps x from_ k
        · rw [show max (startK ps x from_ k) (pt ps k).x = startK ps x from_ k by omega]
          rcases a3 with a3 | ⟨j, b1, b2, b3⟩
          · exact .inl a3
          · exact .inr ⟨j, by omega, b2, b3⟩
        · exact .inr ⟨k, by omega, by omega, hc⟩
    · rename_i hc
      refine ⟨a1, fun j hj hjx => ?_, ?_⟩
      · by_cases e : j = k
        · subst e; exact absurd hjx hc
        · exact a2 j (by omega) hjx
      · rcases a3 with a3 | ⟨j, b1, b2, b3⟩
        · exact .inl a3
        · exact .inr ⟨j, by omega, b2, b3⟩

theorem hiE_pos {ps : List Pt} (h : Tab2 ps) {x : Int} (h1 : firstX ps ≤ x) (h2 : x ≤ lastX ps) : 0 ≤ hiE ps x := by
  unfold hiE
  rw [atE_in h.ok h1 h2]
  have := atS_in h.ok h1 h2 0 1000000000 (fun k hk => by
    obtain ⟨_, _, b3, _, b5, _⟩ := h.ok.all k hk
    refine ⟨?_, b5⟩
    apply Classical.byContradiction
    intro hc
    exact h.pos ⟨k, hk, by omega⟩)
  have a := this.a
  have b := this.b
  omega

/-- From the piece's beginning on, whatever is as great as the worst stays so up to it. -/
theorem worst_mono {ps : List Pt} (h : Tab2 ps) {r : Rg} (hr : r.lo ≤ r.hi) (h1 : firstX ps ≤ r.lo) (h2 : r.hi ≤ lastX ps) {x m : Int} (hx : (wFold ps (candS ps r)).1 = x) (hm : (wFold ps (candS ps r)).2 = m) :
    (r.lo ≤ x ∧ x ≤ r.hi ∧ hiE ps x = m ∧ 0 ≤ m) ∧ r.lo ≤ startS ps r.lo x ∧ startS ps r.lo x ≤ x ∧ (∀ c ∈ candS ps r, hiE ps c ≤ m) ∧
      (∀ y z, startS ps r.lo x ≤ y → y ≤ z → z ≤ x → hiE ps y ≤ hiE ps z) ∧ (startS ps r.lo x ≠ r.lo ∨ r.lo < x → hiE ps (startS ps r.lo x) < m ∨ startS ps r.lo x = x) := by
  have hne : candS ps r ≠ [] := by unfold candS; simp
  have hin : ∀ c ∈ candS ps r, firstX ps ≤ c ∧ c ≤ lastX ps := fun c hc => by have := candS_in hr hc; omega
  obtain ⟨l1, l2, e1, e2, e3, e4⟩ := wFold_spec hne (fun c hc => hiE_pos h (hin c hc).1 (hin c hc).2)
  simp only [hx, hm] at e1 e2 e3 e4
  have hxin : x ∈ candS ps r := by rw [e1]; simp
  have hxr := candS_in hr hxin
  have hm0 : 0 ≤ m := by rw [← e2]; exact hiE_pos h (hin x hxin).1 (hin x hxin).2
  have hall : ∀ c ∈ candS ps r, hiE ps c ≤ m := fun c hc => by
    rw [e1] at hc
    rcases List.mem_append.1 hc with hc | hc
    · exact Int.le_of_lt (e3 c hc)
    · rcases List.mem_cons.1 hc with rfl | hc
      · omega
      · exact e4 c hc
  obtain ⟨s1, s2, s3⟩ := startK_spec ps x r.lo ps.length
  change r.lo ≤ startS ps r.lo x at s1
  change ∀ j, j < ps.length → _ → _ ≤ startS ps r.lo x at s2
  change startS ps r.lo x = _ ∨ ∃ j, _ ∧ startS ps r.lo x = _ ∧ _ at s3
  have hsx : startS ps r.lo x ≤ x := by
    rcases s3 with s3 | ⟨j, _, b2, b3⟩
    · omega
    · omega
  by_cases hlt : startS ps r.lo x < x
  · -- the beginning is a candidate ahead
    have hs_in : startS ps r.lo x ∈ candS ps r := by
      rcases s3 with s3 | ⟨j, b1, b2, b3⟩
      · rw [s3]; unfold candS; simp [candK_lo]
      · by_cases e : r.lo < (pt ps j).x
        · rw [b2]; unfold candS; simp [candK_mem ps.length j b1 e (by omega)]
        · have e5 : startS ps r.lo x = r.lo := by omega
          rw [e5]; unfold candS; simp [candK_lo]
    have hs_l1 : startS ps r.lo x ∈ l1 := by
      have hsort := candS_sorted h.ok (r := r) hr
      rw [e1] at hs_in hsort
      rcases List.mem_append.1 hs_in with hs | hs
      · exact hs
      · exfalso
        rw [List.pairwise_append] at hsort
        rcases List.mem_cons.1 hs with hs | hs
        · omega
        · have := (List.pairwise_cons.1 hsort.2.1).1 _ hs
          omega
    have hsm := e3 _ hs_l1
    -- one piece
    obtain ⟨k, k1, k2, k3⟩ : ∃ k, k + 1 < ps.length ∧ (pt ps k).x ≤ startS ps r.lo x ∧ x ≤ (pt ps (k + 1)).x := by
      obtain ⟨k, k1, k2, k3⟩ := piece_of h.ok h.two (show firstX ps ≤ x by omega) (show x ≤ lastX ps by omega)
      by_cases e : (pt ps k).x < x
      · exact ⟨k, k1, s2 k (by omega) e, k3⟩
      · have e0 : k ≠ 0 := fun e0 => by subst e0; have : (pt ps 0).x ≤ r.lo := h1; omega
        have := h.ok.lt k (k - 1) (by omega) (by omega)
        refine ⟨k - 1, by omega, s2 (k - 1) (by omega) (by omega), ?_⟩
        rw [show k - 1 + 1 = k by omega]; omega
    have hv : ∀ y, startS ps r.lo x ≤ y → y ≤ x → hiE ps y = segHi (pt ps k) (pt ps (k + 1)) y := fun y hy1 hy2 => by
      unfold hiE
      rw [atE_in h.ok (by omega) (by omega), atS_seg h.ok k1 (by omega) (by omega)]
    have hpx := h.ok.lt (k + 1) k (by omega) k1
    have hup : (pt ps k).hi ≤ (pt ps (k + 1)).hi := by
      apply Classical.byContradiction
      intro hc
      have := (segHi_step (pt ps k) (pt ps (k + 1)) (startS ps r.lo x) x hpx hsx).2 (by omega)
      rw [hv _ (Int.le_refl _) hsx] at hsm
      rw [hv x hsx (Int.le_refl _)] at e2
      omega
    refine ⟨⟨hxr.1, hxr.2, e2, hm0⟩, s1, hsx, hall, fun y z hy hyz hz => ?_, fun _ => .inl hsm⟩
    rw [hv y hy (by omega), hv z (by omega) hz]
    exact (segHi_step (pt ps k) (pt ps (k + 1)) y z hpx hyz).1 hup
  · have hse : startS ps r.lo x = x := by omega
    refine ⟨⟨hxr.1, hxr.2, e2, hm0⟩, s1, hsx, hall, fun y z hy hyz hz => ?_, fun _ => .inr hse⟩
    rw [hse] at hy
    rw [show y = z by omega]
    exact Int.le_refl _

end Go.Proofs.Ytbjdgaeikihjbaa

namespace Go.Proofs.Ytbjdgaeikihjbaa
set_option linter.unusedSimpArgs false
set_option linter.unusedVariables false
open Go.RowKit Go.Shelf
set_option maxRecDepth 100000
set_option maxHeartbeats 2000000
attribute [local go_sem] Instr.field asAgg Soft.upon Soft.BW.cell_if Soft.BW.frozen_if Soft.cell_alloc_if Soft.frozen_alloc_if

theorem HasBlk.lowAt {W W' : World} {B X : Nat} {c : Array Value} {t : TypeId} (h : HasBlk W X c t) (hb : Below B W W') (hX : X < B) : HasBlk W' X c t := (hb.block X hX).trans h

theorem earliest_test (t : Tb) (m : Int) (Bt Bm : Nat) (x : Int) (w : World) (ht : t.At w) (hT : HasBlk w Bt #[.slice (t).p (t).n (t).c] 33) (hM : HasBlk w Bm #[.int .i64 m] 3) (r : Bool) (hr : r = decide (m ≤ hiE t.ps x)) :
    Calls Try.prog 127 #[.int .i64 x, .pointer (some ⟨Bt, 0, none⟩), .pointer (some ⟨Bm, 0, none⟩)] w fun e w' => e = .returned (.bool r) ∧ Below w.heap.size w w' := by
  have c1 := hT.cell 0
  have c2 := hM.cell 0
  have l1 := Soft.LtH.mk (w := w) hT.lt
  have l2 := Soft.LtH.mk (w := w) hM.lt
  simp at c1 c2
  clear hT hM
  have HR := Lib.hid hr; clear hr
  go_enter Try.func127, Try.ntmps127
  go_wp2_with (go_at_call 86; (with_reducible refine (fix_At t x _ (by repeat (first | exact ht | refine Tb.At.alloc ?_ _ | refine Tb.At.bw ?_ _))).mono ?_); rintro e w_ ⟨rfl, hb_⟩; obtain ⟨y1, rfl⟩ := Soft.BW.mk hb_; clear hb_)
  go_ret
  refine ⟨ret_bool ?_, ?_⟩
  · rw [HR.out]
  · (repeat (first | with_reducible exact bel_refl _ | with_reducible refine bel_alloc ?_ _ | with_reducible refine bel_bw _ ?_ | with_reducible refine bel_drew ?_ | with_reducible refine bel_drewN _ ?_ | ((with_reducible refine bel_set ?_ ?_ _); rotate_left; focus (first | (simp; done) | omega | (simp; omega))) | refine bel_step ?_ (by with_reducible assumption)))

theorem hold_earliest (t : Tb) (from_ x m : Int) (w : World) (ht : t.At w) (hok : TabOk t.ps) (h1 : -1000000000 ≤ from_) (h2 : x ≤ 1000000000) (hs : startS t.ps from_ x ≤ x)
    (hmono : ∀ y z, startS t.ps from_ x ≤ y → y ≤ z → z ≤ x → hiE t.ps y ≤ hiE t.ps z) :
    Calls Try.prog 87 #[.agg #[.slice (t).p (t).n (t).c], .int .i64 from_, .int .i64 x, .int .i64 m] w fun e w' => e = .returned (.int .i64 (earlS t.ps from_ x m)) ∧ Below w.heap.size w w' := by
  have hsp : ∀ k, from_ ≤ startK t.ps x from_ k := fun k => (startK_spec t.ps x from_ k).1
  have hs0 : from_ ≤ startS t.ps from_ x := (startK_spec t.ps x from_ t.ps.length).1
  obtain ⟨r1, r2, r3, r4⟩ := searchS_spec (q := fun y => decide (m ≤ hiE t.ps y)) (a := startS t.ps from_ x) (b := x) (by omega) (fun y z hy hyz hz hq => by
    have := hmono y z hy hyz hz
    simp only [decide_eq_true_eq] at hq ⊢
    omega)
  have R3 := Lib.hid r3; have R4 := Lib.hid r4
  have HE := Lib.hid (show earlS t.ps from_ x m = searchS (fun y => decide (m ≤ hiE t.ps y)) (startS t.ps from_ x) x from rfl)
  clear r3 r4 hmono
  generalize searchS (fun y => decide (m ≤ hiE t.ps y)) (startS t.ps from_ x) x = res at *
  have HSP := Lib.hid hsp; clear hsp
  obtain ⟨p, n, c, ps⟩ := t
  have ht' := ht
  obtain ⟨e1, e2, e3, e4, e5⟩ := ht'
  dsimp only at *
  have hpos := hok.pos
  have hle := hok.le
  obtain ⟨b, o, rfl, hb, hc⟩ := e5 (by omega)
  have HC := Lib.hid hc
  have HOK := Lib.hid hok
  have HL := Lib.hid e1
  have HST := Lib.hid (show startK ps x from_ n = startS ps from_ x by unfold startS; rw [e1])
  have hn1 : 1 ≤ n := by omega
  have hn2 : n ≤ 40 := by omega
  clear e5 hc hok hpos hle e1
  go_enter Try.func87, Try.ntmps87
  go_wp2_with fail
  go_loopw [9, 11, 16] (fun st _ i wr => ∃ (k : Nat), st = .int .i64 (startK ps x from_ k) ∧ i = .int .i64 k ∧ k ≤ n ∧ Below (w.heap.size + 1 + 1) ((w.alloc (.cells #[.slice (some ⟨b, o, none⟩) n c] 33)).alloc (.cells #[.int .i64 m] 3)) wr) (fun _ _ i _ => n - (intOf i).toNat)
  case atStart => exact ⟨0, rfl, rfl, by omega, Below.refl _ _⟩
  case round =>
    obtain ⟨k, rfl, rfl, hk, hB⟩ := hrel
    have hsz := hB.size
    simp at hsz
    have lb := Soft.LtH.mk (b := b) (w := wr) (by omega)
    have hbel : Below w.heap.size w wr := (((Below.refl _ _).alloc (Nat.le_refl _) _).alloc (by simp) _).trans (hB.mono (by omega))
    have HB := Lib.hid hB
    have HBEL := Lib.hid hbel
    by_cases hlt : k < n
    · have c1 := (hbel.cell (p := ⟨b, o + k * 3, none⟩) hb).trans (HC.out k hlt).1
      have c2 := (hbel.cell (p := ⟨b, o + k * 3 + 1, none⟩) hb).trans (HC.out k hlt).2.1
      have c3 := (hbel.cell (p := ⟨b, o + k * 3 + 2, none⟩) hb).trans (HC.out k hlt).2.2
      have i1 : (k : Int) < n := by omega
      obtain ⟨q1, q2, _⟩ := HOK.out.all k (by have := HL.out; omega)
      by_cases hq : (pt ps k).x < x
      · have HN := Lib.hid (show startK ps x from_ (k + 1) = max (startK ps x from_ k) (pt ps k).x from if_pos hq)
        clear hB hbel
        generalize pt ps k = q at *
        generalize hst : startK ps x from_ k = st at *
        clear hst
        go_wp2_with fail
        all_goals
          go_roundw
          case rel => exact ⟨k + 1, by rw [HN.out]; congr 1; omega, by simp, by omega, HB.out.trans ((Below.refl _ _).alloc (by omega) _)⟩
          case measure => simp [intOf]; omega
      · have HN := Lib.hid (show startK ps x from_ (k + 1) = startK ps x from_ k from if_neg hq)
        clear hB hbel
        generalize pt ps k = q at *
        generalize hst : startK ps x from_ k = st at *
        clear hst
        go_wp2_with fail
        go_roundw
        case rel => exact ⟨k + 1, by rw [HN.out], by simp, by omega, HB.out.trans ((Below.refl _ _).alloc (by omega) _)⟩
        case measure => simp [intOf]; omega
    · obtain rfl : k = n := by omega
      have hT : HasBlk wr w.heap.size #[.slice (some ⟨b, o, none⟩) k c] 33 := HasBlk.lowAt (by simp only [HasBlk, Soft.heap_alloc_if, Soft.heap_new]) hB (by omega)
      have hM : HasBlk wr (w.heap.size + 1) #[.int .i64 m] 3 := HasBlk.lowAt (by simp only [HasBlk, Soft.heap_new1]) hB (by omega)
      have htr : Tb.At wr ⟨some ⟨b, o, none⟩, k, c, ps⟩ := ht.same hbel
      have HT := Lib.hid hT; have HM := Lib.hid hM; have HTR := Lib.hid htr
      have hst := HST.out
      clear hB hbel hT hM htr
      generalize startK ps x from_ k = st at *
      subst hst
      go_wp2_with (go_at_call 119; (with_reducible refine (search_worst ⟨w.heap.size, 0, none⟩ ⟨w.heap.size + 1, 0, none⟩ (fun y => decide (m ≤ hiE ps y)) _ x res _ (by omega) (by omega) (by omega) r1 r2 R3.out R4.out (fun y w' _ _ hb => earliest_test ⟨some ⟨b, o, none⟩, k, c, ps⟩ m w.heap.size (w.heap.size + 1) y w' (HTR.out.same hb) (HT.out.below hb) (HM.out.below hb) _ rfl)).mono ?_); rintro e w_ ⟨rfl, hb_⟩; obtain ⟨y1, rfl⟩ := Soft.BW.mk hb_; clear hb_)
      go_ret
      refine ⟨ret_int HE.out.symm, ?_⟩
      exact HBEL.out.trans (y1.below.mono HBEL.out.size)

end Go.Proofs.Ytbjdgaeikihjbaa
