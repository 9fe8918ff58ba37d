/-
  Plain facts of the worst place of a fill: the candidates, the greatest value, the first place that has it.
  Conditions: each theorem's own premises.
-/
import Derived.Test.YtbjdgaeikihjbaaMono
namespace Go.Proofs.Ytbjdgaeikihjbaa
set_option linter.unusedSimpArgs false
set_option linter.unusedVariables false
open Go.RowKit

/-- The upper value at a place. -/
abbrev hiE (ps : List Pt) (x : Int) : Int := (atE ps x).1.hi

def wStep (ps : List Pt) (s : Int × Int) (x : Int) : Int × Int := if s.2 < hiE ps x then (x, hiE ps x) else s
def wFold (ps : List Pt) (l : List Int) : Int × Int := l.foldl (wStep ps) (0, -1)
theorem wFold_snoc (ps : List Pt) (l : List Int) (x : Int) : wFold ps (l ++ [x]) = wStep ps (wFold ps l) x := by simp [wFold]

/-- The candidates: the ends of a range, and the points within it. -/
def candK (ps : List Pt) (r : Rg) : Nat → List Int
  | 0 => [r.lo]
  | k + 1 => if r.lo < (pt ps k).x ∧ (pt ps k).x < r.hi then candK ps r k ++ [(pt ps k).x] else candK ps r k
def candS (ps : List Pt) (r : Rg) : List Int := candK ps r ps.length ++ [r.hi]

/-- Where a straight piece that ends at a place begins. -/
def startK (ps : List Pt) (x from_ : Int) : Nat → Int
  | 0 => from_
  | k + 1 => if (pt ps k).x < x then max (startK ps x from_ k) (pt ps k).x else startK ps x from_ k
def startS (ps : List Pt) (from_ x : Int) : Int := startK ps x from_ ps.length

def earlS (ps : List Pt) (from_ x m : Int) : Int := searchS (fun y => decide (m ≤ hiE ps y)) (startS ps from_ x) x

/-- The worst place and its value. -/
def worS (ps : List Pt) (r : Rg) : Int × Int := (earlS ps r.lo (wFold ps (candS ps r)).1 (wFold ps (candS ps r)).2, (wFold ps (candS ps r)).2)

def FoldInv (ps : List Pt) (pre : List Int) (s : Int × Int) : Prop :=
  (pre = [] ∧ s = (0, -1)) ∨ ∃ l1 l2, pre = l1 ++ s.1 :: l2 ∧ hiE ps s.1 = s.2 ∧ (∀ x ∈ l1, hiE ps x < s.2) ∧ ∀ x ∈ l2, hiE ps x ≤ s.2

theorem foldInv_step {ps : List Pt} {pre : List Int} {s : Int × Int} (h : FoldInv ps pre s) {x : Int} (hx : 0 ≤ hiE ps x) : FoldInv ps (pre ++ [x]) (wStep ps s x) := by
  unfold wStep
  split
  · rename_i hlt
    right
    refine ⟨pre, [], rfl, rfl, fun y hy => ?_, fun y hy => by cases hy⟩
    rcases h with ⟨rfl, _⟩ | ⟨l1, l2, rfl, h1, h2, h3⟩
    · cases hy
    · dsimp only
      rcases List.mem_append.1 hy with hy | hy
      · have := h2 y hy; omega
      · rcases List.mem_cons.1 hy with rfl | hy
        · omega
        · have := h3 y hy; omega
  · rename_i hlt
    rcases h with ⟨rfl, rfl⟩ | ⟨l1, l2, rfl, h1, h2, h3⟩
    · exact absurd (show (-1 : Int) < hiE ps x by omega) hlt
    · right
      refine ⟨l1, l2 ++ [x], by simp, h1, h2, fun y hy => ?_⟩
      rcases List.mem_append.1 hy with hy | hy
      · exact h3 y hy
      · simp at hy; subst hy; omega

theorem foldInv_all {ps : List Pt} : ∀ (l pre : List Int) (s : Int × Int), FoldInv ps pre s → (∀ x ∈ l, 0 ≤ hiE ps x) → FoldInv ps (pre ++ l) (l.foldl (wStep ps) s)
  | [], pre, s, h, _ => by simpa using h
  | x :: l, pre, s, h, hx => by
    have := foldInv_all l (pre ++ [x]) (wStep ps s x) (foldInv_step h (hx x (by simp))) (fun y hy => hx y (by simp [hy]))
    simpa using this

/-- What the fold comes to. -/
theorem wFold_spec {ps : List Pt} {l : List Int} (hl : l ≠ []) (hx : ∀ x ∈ l, 0 ≤ hiE ps x) :
    ∃ l1 l2, l = l1 ++ (wFold ps l).1 :: l2 ∧ hiE ps (wFold ps l).1 = (wFold ps l).2 ∧ (∀ x ∈ l1, hiE ps x < (wFold ps l).2) ∧ ∀ x ∈ l2, hiE ps x ≤ (wFold ps l).2 := by
  have := foldInv_all l [] (0, -1) (.inl ⟨rfl, rfl⟩) hx
  rw [List.nil_append] at this
  rcases this with ⟨h, _⟩ | h
  · exact absurd h hl
  · exact h

theorem candK_in {ps : List Pt} {r : Rg} (hr : r.lo ≤ r.hi) : ∀ k x, x ∈ candK ps r k → r.lo ≤ x ∧ x ≤ r.hi
  | 0, x, h => by simp [candK] at h; omega
  | k + 1, x, h => by
    unfold candK at h
    split at h
    · rcases List.mem_append.1 h with h | h
      · exact candK_in hr k x h
      · simp at h; omega
    · exact candK_in hr k x h
theorem candS_in {ps : List Pt} {r : Rg} (hr : r.lo ≤ r.hi) {x : Int} (h : x ∈ candS ps r) : r.lo ≤ x ∧ x ≤ r.hi := by
  rcases List.mem_append.1 h with h | h
  · exact candK_in hr _ x h
  · simp at h; omega
theorem candK_mem {ps : List Pt} {r : Rg} : ∀ k j, j < k → r.lo < (pt ps j).x → (pt ps j).x < r.hi → (pt ps j).x ∈ candK ps r k
  | k + 1, j, hj, h1, h2 => by
    unfold candK
    by_cases e : j = k
    · subst e; rw [if_pos ⟨h1, h2⟩]; simp
    · have := candK_mem k j (by omega) h1 h2
      split
      · simp [this]
      · exact this
theorem candK_lo {ps : List Pt} {r : Rg} : ∀ k, r.lo ∈ candK ps r k
  | 0 => by simp [candK]
  | k + 1 => by
    unfold candK
    split
    · simp [candK_lo k]
    · exact candK_lo k

theorem candK_lt {ps : List Pt} (hok : TabOk ps) {r : Rg} : ∀ k m x, k ≤ m → m < ps.length → r.lo < (pt ps m).x → x ∈ candK ps r k → x < (pt ps m).x
  | 0, m, x, _, _, h1, h => by simp [candK] at h; omega
  | k + 1, m, x, hk, hm, h1, h => by
    unfold candK at h
    split at h
    · rcases List.mem_append.1 h with h | h
      · exact candK_lt hok k m x (by omega) hm h1 h
      · simp at h; subst h; exact hok.lt m k (by omega) hm
    · exact candK_lt hok k m x (by omega) hm h1 h

theorem candK_sorted {ps : List Pt} (hok : TabOk ps) {r : Rg} : ∀ k, k ≤ ps.length → (candK ps r k).Pairwise (· ≤ ·)
  | 0, _ => by simp [candK]
  | k + 1, hk => by
    unfold candK
    split
    · rename_i hc
      rw [List.pairwise_append]
      refine ⟨candK_sorted hok k (by omega), by simp, fun x hx y hy => ?_⟩
      simp at hy
      subst hy
      exact Int.le_of_lt (candK_lt hok k k x (Nat.le_refl _) (by omega) hc.1 hx)
    · exact candK_sorted hok k (by omega)
theorem candS_sorted {ps : List Pt} (hok : TabOk ps) {r : Rg} (hr : r.lo ≤ r.hi) : (candS ps r).Pairwise (· ≤ ·) := by
  unfold candS
  rw [List.pairwise_append]
  refine ⟨candK_sorted hok _ (Nat.le_refl _), by simp, fun x hx y hy => ?_⟩
  simp at hy
  subst hy
  exact (candK_in hr _ x hx).2

theorem startK_spec (ps : List Pt) (x from_ : Int) : ∀ k, from_ ≤ startK ps x from_ k ∧ (∀ j, j < k → (pt ps j).x < x → (pt ps j).x ≤ startK ps x from_ k) ∧
    (startK ps x from_ k = from_ ∨ ∃ j, j < k ∧ startK ps x from_ k = (pt ps j).x ∧ (pt ps j).x < x)
  | 0 => ⟨Int.le_refl _, fun j hj => by omega, .inl rfl⟩
  | k + 1 => by
    obtain ⟨a1, a2, a3⟩ := startK_spec ps x from_ k
    unfold startK
    split
    · rename_i hc
      refine ⟨by omega, fun j hj hjx => ?_, ?_⟩
      · by_cases e : j = k
        · subst e; omega
        · have := a2 j (by omega) hjx; omega
      · by_cases hle : (pt ps k).x ≤ startK ps x from_ k
        · rw [show max (startK ps x from_ k) (pt ps k).x = startK ps x from_ k by omega]
          rcases a3 with a3 | ⟨j, b1, b2, b3⟩
          · exact .inl a3
          · exact .inr ⟨j, by omega, b2, b3⟩
        · exact .inr ⟨k, by omega, by omega, hc⟩
    · rename_i hc
      refine ⟨a1, fun j hj hjx => ?_, ?_⟩
      · by_cases e : j = k
        · subst e; exact absurd hjx hc
        · exact a2 j (by omega) hjx
      · rcases a3 with a3 | ⟨j, b1, b2, b3⟩
        · exact .inl a3
        · exact .inr ⟨j, by omega, b2, b3⟩

theorem hiE_pos {ps : List Pt} (h : Tab2 ps) {x : Int} (h1 : firstX ps ≤ x) (h2 : x ≤ lastX ps) : 0 ≤ hiE ps x := by
  unfold hiE
  rw [atE_in h.ok h1 h2]
  have := atS_in h.ok h1 h2 0 1000000000 (fun k hk => by
    obtain ⟨_, _, b3, _, b5, _⟩ := h.ok.all k hk
    refine ⟨?_, b5⟩
    apply Classical.byContradiction
    intro hc
    exact h.pos ⟨k, hk, by omega⟩)
  have a := this.a
  have b := this.b
  omega

/-- From the piece's beginning on, whatever is as great as the worst stays so up to it. -/
theorem worst_mono {ps : List Pt} (h : Tab2 ps) {r : Rg} (hr : r.lo ≤ r.hi) (h1 : firstX ps ≤ r.lo) (h2 : r.hi ≤ lastX ps) {x m : Int} (hx : (wFold ps (candS ps r)).1 = x) (hm : (wFold ps (candS ps r)).2 = m) :
    (r.lo ≤ x ∧ x ≤ r.hi ∧ hiE ps x = m ∧ 0 ≤ m) ∧ r.lo ≤ startS ps r.lo x ∧ startS ps r.lo x ≤ x ∧ (∀ c ∈ candS ps r, hiE ps c ≤ m) ∧
      (∀ y z, startS ps r.lo x ≤ y → y ≤ z → z ≤ x → hiE ps y ≤ hiE ps z) ∧ (startS ps r.lo x ≠ r.lo ∨ r.lo < x → hiE ps (startS ps r.lo x) < m ∨ startS ps r.lo x = x) := by
  have hne : candS ps r ≠ [] := by unfold candS; simp
  have hin : ∀ c ∈ candS ps r, firstX ps ≤ c ∧ c ≤ lastX ps := fun c hc => by have := candS_in hr hc; omega
  obtain ⟨l1, l2, e1, e2, e3, e4⟩ := wFold_spec hne (fun c hc => hiE_pos h (hin c hc).1 (hin c hc).2)
  simp only [hx, hm] at e1 e2 e3 e4
  have hxin : x ∈ candS ps r := by rw [e1]; simp
  have hxr := candS_in hr hxin
  have hm0 : 0 ≤ m := by rw [← e2]; exact hiE_pos h (hin x hxin).1 (hin x hxin).2
  have hall : ∀ c ∈ candS ps r, hiE ps c ≤ m := fun c hc => by
    rw [e1] at hc
    rcases List.mem_append.1 hc with hc | hc
    · exact Int.le_of_lt (e3 c hc)
    · rcases List.mem_cons.1 hc with rfl | hc
      · omega
      · exact e4 c hc
  obtain ⟨s1, s2, s3⟩ := startK_spec ps x r.lo ps.length
  change r.lo ≤ startS ps r.lo x at s1
  change ∀ j, j < ps.length → _ → _ ≤ startS ps r.lo x at s2
  change startS ps r.lo x = _ ∨ ∃ j, _ ∧ startS ps r.lo x = _ ∧ _ at s3
  have hsx : startS ps r.lo x ≤ x := by
    rcases s3 with s3 | ⟨j, _, b2, b3⟩
    · omega
    · omega
  by_cases hlt : startS ps r.lo x < x
  · -- the beginning is a candidate ahead
    have hs_in : startS ps r.lo x ∈ candS ps r := by
      rcases s3 with s3 | ⟨j, b1, b2, b3⟩
      · rw [s3]; unfold candS; simp [candK_lo]
      · by_cases e : r.lo < (pt ps j).x
        · rw [b2]; unfold candS; simp [candK_mem ps.length j b1 e (by omega)]
        · have e5 : startS ps r.lo x = r.lo := by omega
          rw [e5]; unfold candS; simp [candK_lo]
    have hs_l1 : startS ps r.lo x ∈ l1 := by
      have hsort := candS_sorted h.ok (r := r) hr
      rw [e1] at hs_in hsort
      rcases List.mem_append.1 hs_in with hs | hs
      · exact hs
      · exfalso
        rw [List.pairwise_append] at hsort
        rcases List.mem_cons.1 hs with hs | hs
        · omega
        · have := (List.pairwise_cons.1 hsort.2.1).1 _ hs
          omega
    have hsm := e3 _ hs_l1
    -- one piece
    obtain ⟨k, k1, k2, k3⟩ : ∃ k, k + 1 < ps.length ∧ (pt ps k).x ≤ startS ps r.lo x ∧ x ≤ (pt ps (k + 1)).x := by
      obtain ⟨k, k1, k2, k3⟩ := piece_of h.ok h.two (show firstX ps ≤ x by omega) (show x ≤ lastX ps by omega)
      by_cases e : (pt ps k).x < x
      · exact ⟨k, k1, s2 k (by omega) e, k3⟩
      · have e0 : k ≠ 0 := fun e0 => by subst e0; have : (pt ps 0).x ≤ r.lo := h1; omega
        have := h.ok.lt k (k - 1) (by omega) (by omega)
        refine ⟨k - 1, by omega, s2 (k - 1) (by omega) (by omega), ?_⟩
        rw [show k - 1 + 1 = k by omega]; omega
    have hv : ∀ y, startS ps r.lo x ≤ y → y ≤ x → hiE ps y = segHi (pt ps k) (pt ps (k + 1)) y := fun y hy1 hy2 => by
      unfold hiE
      rw [atE_in h.ok (by omega) (by omega), atS_seg h.ok k1 (by omega) (by omega)]
    have hpx := h.ok.lt (k + 1) k (by omega) k1
    have hup : (pt ps k).hi ≤ (pt ps (k + 1)).hi := by
      apply Classical.byContradiction
      intro hc
      have := (segHi_step (pt ps k) (pt ps (k + 1)) (startS ps r.lo x) x hpx hsx).2 (by omega)
      rw [hv _ (Int.le_refl _) hsx] at hsm
      rw [hv x hsx (Int.le_refl _)] at e2
      omega
    refine ⟨⟨hxr.1, hxr.2, e2, hm0⟩, s1, hsx, hall, fun y z hy hyz hz => ?_, fun _ => .inl hsm⟩
    rw [hv y hy (by omega), hv z (by omega) hz]
    exact (segHi_step (pt ps k) (pt ps (k + 1)) y z hpx hyz).1 hup
  · have hse : startS ps r.lo x = x := by omega
    refine ⟨⟨hxr.1, hxr.2, e2, hm0⟩, s1, hsx, hall, fun y z hy hyz hz => ?_, fun _ => .inr hse⟩
    rw [hse] at hy
    rw [show y = z by omega]
    exact Int.le_refl _

end Go.Proofs.Ytbjdgaeikihjbaa
