/-
  TopBounds, plain: the load of the truth.
  Conditions: each theorem's own premises.
-/
import Derived.Test.YteagdcgmmdiakaaGreatP28
namespace Go.Proofs.YteagdcgmmdiakaaGreat
set_option linter.unusedSimpArgs false
set_option linter.unusedVariables false
open Go.RowKit
set_option maxHeartbeats 1000000
theorem weigh_le {v d : Rg} (h : 0 ≤ v.lo) (h1 : v.lo ≤ v.hi) (hd : 0 ≤ d.lo ∧ d.lo ≤ d.hi) : (weighS v d).lo ≤ (weighS v d).hi := by
  have a : v.lo * d.lo ≤ v.hi * d.hi := Int.mul_le_mul h1 hd.2 hd.1 (Int.le_trans h h1)
  unfold weighS
  dsimp only
  omega
/-- Ranges that are ranges. -/
def WtLe (x : Wt) : Prop := x.mass.lo ≤ x.mass.hi ∧ x.along.lo ≤ x.along.hi ∧ x.high.lo ≤ x.high.hi
theorem ho_le {h : Ho} {f : Fi} (ok : HoldOk h) (hf : FillIn h f) : WtLe (wtE h f) ∧ (heelE h f).lo ≤ (heelE h f).hi := by
  have e0 := fill_err ok hf
  have hd := fill_den hf
  unfold wtE heelE
  rw [if_pos e0, if_pos e0]
  exact ⟨⟨weigh_le (volS_in ok f).a (volS_in ok f).b hd, ok.along.2.1, (heightS_in ok f).b⟩, weigh_le (momS_in ok f).a (momS_in ok f).b hd⟩
theorem lv_le {t : Tk} {l : Lv} (ok : TankOk t) (hl : LevelIn t l) : WtLe (balE t l) ∧ (srfE t l).lo ≤ (srfE t l).hi := by
  have tb := ok.tabs
  have e0 : levelErr t l = 0 := levelErr_yes ok hl
  have hd : 0 ≤ l.den.lo ∧ l.den.lo ≤ l.den.hi := by have := hl.2.1; unfold isDen isPart at this; omega
  have hs := hl.2.2.1
  have hs2 : isPart l.snd (firstX t.sur.ps) (lastX t.sur.ps) := by have e := tb.2.1.2; rw [e.1, e.2]; exact hs
  have hs3 : isPart l.snd (firstX t.hei.ps) (lastX t.hei.ps) := by have e := tb.2.2.2; rw [e.1, e.2]; exact hs
  have vn := over_nn tb.1 hs
  have un := over_nn tb.2.1.1 hs2
  have gn := over_nn tb.2.2.1 hs3
  unfold balE srfE
  rw [if_pos e0, if_pos e0]
  refine ⟨⟨weigh_le vn.1 vn.2 hd, ok.along.2.1, gn.2⟩, ?_⟩
  unfold srfS
  split
  · exact Int.le_refl _
  · split
    · exact (weigh_nn un.1 un.2 hd).2
    · exact weigh_le un.1 un.2 hd
/-- A load within another one. -/
structure LdIn (s s' : Ld) : Prop where
  len : s'.ws.length = s.ws.length
  ws : ∀ k, k < s.ws.length → WtIn (wv s'.ws k) (wv s.ws k) ∧ WtLe (wv s'.ws k)
  sur : InS s'.sur s.sur ∧ s'.sur.lo ≤ s'.sur.hi
  shi : InS s'.shi s.shi ∧ s'.shi.lo ≤ s'.shi.hi
theorem ldIn_zero : LdIn ld0 ld0 := ⟨rfl, fun k hk => absurd hk (Nat.not_lt_zero _), ⟨inS_refl _, Int.le_refl _⟩, ⟨inS_refl _, Int.le_refl _⟩⟩
theorem wv_snocX (l : List Wt) (x : Wt) (k : Nat) : wv (l ++ [x]) k = if k < l.length then wv l k else if k = l.length then x else wv [] 0 := by
  unfold wv
  by_cases h : k < l.length
  · rw [if_pos h, List.getElem?_append_left h]
  · rw [if_neg h, List.getElem?_append_right (by omega)]
    by_cases e : k = l.length
    · rw [if_pos e, e]; simp
    · rw [if_neg e]
      obtain ⟨m, hm⟩ : ∃ m, k - l.length = m + 1 := ⟨k - l.length - 1, by omega⟩
      rw [hm]; simp
theorem snoc_in {l l' : List Wt} {x x' : Wt} (hl : l'.length = l.length) (h : ∀ k, k < l.length → WtIn (wv l' k) (wv l k) ∧ WtLe (wv l' k)) (hx : WtIn x' x ∧ WtLe x') : (l' ++ [x']).length = (l ++ [x]).length ∧ ∀ k, k < (l ++ [x]).length → WtIn (wv (l' ++ [x']) k) (wv (l ++ [x]) k) ∧ WtLe (wv (l' ++ [x']) k) := by
  refine ⟨by simp [hl], fun k hk => ?_⟩
  rw [wv_snocX, wv_snocX, hl]
  by_cases h1 : k < l.length
  · rw [if_pos h1, if_pos h1]; exact h k h1
  · have e : k = l.length := by simp at hk; omega
    rw [if_neg h1, if_neg h1, if_pos e, if_pos e]
    exact hx
theorem add_le {a b : Rg} (h : a.lo ≤ a.hi) (k : b.lo ≤ b.hi) : (addR a b).lo ≤ (addR a b).hi := by unfold addR; dsimp only; omega
theorem hRun_in {xs : List Int} {hs hs' : List Ho} {fs fs' : List Fi} {n : Nat} (hh : ∀ i, i < n → HoT xs (hv hs i) i (hv hs' i)) (hf : ∀ i, i < n → fiv fs' i = fiT xs (fiv fs i) i) : ∀ k, k ≤ n → (hRun hs fs k).1 = 0 → (hRun hs' fs' k).1 = 0 ∧ LdIn (hRun hs fs k).2 (hRun hs' fs' k).2
  | 0, _, _ => ⟨rfl, ldIn_zero⟩
  | k + 1, hk, h0 => by
    have hd : dupH hs' k = dupH hs k := by
      rw [Bool.eq_iff_iff]
      unfold dupH
      simp only [List.any_eq_true, List.mem_range, beq_iff_eq]
      constructor
      · rintro ⟨j, hj, e⟩
        exact ⟨j, hj, by rw [← (hh j (by omega)).id, ← (hh k (by omega)).id]; exact e⟩
      · rintro ⟨j, hj, e⟩
        exact ⟨j, hj, by rw [(hh j (by omega)).id, (hh k (by omega)).id]; exact e⟩
    have hr : hRun hs fs (k + 1) = hStep hs fs k (hRun hs fs k) := rfl
    have hr' : hRun hs' fs' (k + 1) = hStep hs' fs' k (hRun hs' fs' k) := rfl
    rw [hr] at h0 ⊢
    rw [hr']
    unfold hStep at h0
    by_cases c1 : (hRun hs fs k).1 ≠ 0
    · rw [if_pos c1] at h0; exact absurd h0 c1
    rw [if_neg c1] at h0
    by_cases c2 : dupH hs k = true
    · rw [if_pos c2] at h0; exact absurd h0 (by dsimp only; decide)
    rw [if_neg c2] at h0
    by_cases c3 : fillErr (hv hs k) (fiv fs k) ≠ 0
    · rw [if_pos c3] at h0; exact absurd h0 c3
    have z1 : (hRun hs fs k).1 = 0 := Decidable.not_not.1 c1
    have z3 : fillErr (hv hs k) (fiv fs k) = 0 := Decidable.not_not.1 c3
    obtain ⟨i1, i2⟩ := hRun_in hh hf k (by omega) z1
    obtain ⟨a, b⟩ := fill_ok z3
    have t := hh k (by omega)
    have a' := ho_ok a t
    have b' := fi_ok a b t
    have w := ho_wt a b t
    have l := ho_le a' b'
    rw [← hf k (by omega)] at b' w l
    have e' := fill_err a' b'
    have st : (fiv fs' k).state = (fiv fs k).state := by rw [hf k (by omega)]; rfl
    unfold hStep
    rw [if_neg c1, if_neg c2, if_neg c3, if_neg (by rw [i1]; decide), if_neg (by rw [hd]; exact c2), if_neg (by rw [e']; decide), st]
    refine ⟨rfl, ?_⟩
    by_cases s0 : (fiv fs k).state = 0
    · rw [if_pos s0, if_pos s0]
      exact ⟨i2.len, i2.ws, i2.sur, addR_in i2.shi.1 w.2, add_le i2.shi.2 l.2⟩
    · rw [if_neg s0, if_neg s0]
      obtain ⟨q1, q2⟩ := snoc_in i2.len i2.ws ⟨w.1, l.1⟩
      exact ⟨q1, q2, i2.sur, addR_in i2.shi.1 w.2, add_le i2.shi.2 l.2⟩
theorem tRun_in {xs : List Int} {ts ts' : List Tk} {ls ls' : List Lv} {n : Nat} {s s' : Int × Ld} (hh : ∀ i, i < n → TkT xs (tv ts i) i (tv ts' i)) (hf : ∀ i, i < n → lv ls' i = lvT xs (lv ls i) i) (hs : s.1 = 0 → s'.1 = 0 ∧ LdIn s.2 s'.2) : ∀ k, k ≤ n → (tRun ts ls s k).1 = 0 → (tRun ts' ls' s' k).1 = 0 ∧ LdIn (tRun ts ls s k).2 (tRun ts' ls' s' k).2
  | 0, _, h0 => hs h0
  | k + 1, hk, h0 => by
    have hd : dupT ts' k = dupT ts k := by
      rw [Bool.eq_iff_iff]
      unfold dupT
      simp only [List.any_eq_true, List.mem_range, beq_iff_eq]
      constructor
      · rintro ⟨j, hj, e⟩
        exact ⟨j, hj, by rw [← (hh j (by omega)).id, ← (hh k (by omega)).id]; exact e⟩
      · rintro ⟨j, hj, e⟩
        exact ⟨j, hj, by rw [(hh j (by omega)).id, (hh k (by omega)).id]; exact e⟩
    have hr : tRun ts ls s (k + 1) = tStep ts ls k (tRun ts ls s k) := rfl
    have hr' : tRun ts' ls' s' (k + 1) = tStep ts' ls' k (tRun ts' ls' s' k) := rfl
    rw [hr] at h0 ⊢
    rw [hr']
    unfold tStep at h0
    by_cases c1 : (tRun ts ls s k).1 ≠ 0
    · rw [if_pos c1] at h0; exact absurd h0 c1
    rw [if_neg c1] at h0
    by_cases c2 : dupT ts k = true
    · rw [if_pos c2] at h0; exact absurd h0 (by dsimp only; decide)
    rw [if_neg c2] at h0
    by_cases c3 : levelErr (tv ts k) (lv ls k) ≠ 0
    · rw [if_pos c3] at h0; exact absurd h0 c3
    have z1 : (tRun ts ls s k).1 = 0 := Decidable.not_not.1 c1
    have z3 : levelErr (tv ts k) (lv ls k) = 0 := Decidable.not_not.1 c3
    obtain ⟨i1, i2⟩ := tRun_in hh hf hs k (by omega) z1
    obtain ⟨a, b⟩ := level_ok z3
    have t := hh k (by omega)
    obtain ⟨a', b'⟩ := lv_ok a b t
    have w := lv_wt a b t
    have l := lv_le a' b'
    rw [← hf k (by omega)] at b' w l
    have e' := levelErr_yes a' b'
    unfold tStep
    rw [if_neg c1, if_neg c2, if_neg c3, if_neg (by rw [i1]; decide), if_neg (by rw [hd]; exact c2), if_neg (by rw [e']; decide)]
    refine ⟨rfl, ?_⟩
    obtain ⟨q1, q2⟩ := snoc_in i2.len i2.ws ⟨w.1, l.1⟩
    exact ⟨q1, q2, ⟨addR_in i2.sur.1 w.2, add_le i2.sur.2 l.2⟩, i2.shi⟩
theorem load_in {xs : List Int} {P P' : Pa} (ok : PartsOk P) (h : PaT xs P P') : (loadE P'.holds.xs P'.fills.xs P'.tanks.xs P'.levels.xs).1 = 0 ∧ LdIn (loadE P.holds.xs P.fills.xs P.tanks.xs P.levels.xs).2 (loadE P'.holds.xs P'.fills.xs P'.tanks.xs P'.levels.xs).2 := by
  have e := ok.load
  have n1 := h.nh
  have n2 := h.nf
  have n3 := h.nt
  have n4 := h.nl
  unfold loadE at e ⊢
  by_cases c1 : 9 < P.holds.xs.length ∨ 9 < P.tanks.xs.length
  · rw [if_pos c1] at e; exact absurd e (by dsimp only; decide)
  rw [if_neg c1] at e
  by_cases c2 : P.holds.xs.length ≠ P.fills.xs.length ∨ P.tanks.xs.length ≠ P.levels.xs.length
  · rw [if_pos c2] at e; exact absurd e (by dsimp only; decide)
  rw [if_neg c2] at e
  rw [if_neg c1, if_neg c2, if_neg (by omega), if_neg (by omega), n1, n3]
  exact tRun_in h.tanks h.levels (fun h0 => hRun_in h.holds h.fills _ (Nat.le_refl _) h0) _ (Nat.le_refl _) e
end Go.Proofs.YteagdcgmmdiakaaGreat
