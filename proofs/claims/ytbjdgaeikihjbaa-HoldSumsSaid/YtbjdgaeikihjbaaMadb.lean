/-
  The reference's maker of compartments out of numbers: xs.
  Conditions: each theorem's own premises.
-/
import Derived.Test.YtbjdgaeikihjbaaApp3
namespace Go.Proofs.Ytbjdgaeikihjbaa
set_option linter.unusedSimpArgs false
set_option linter.unusedVariables false
open Go.RowKit
set_option maxRecDepth 100000
set_option maxHeartbeats 4000000
attribute [local go_sem] Instr.field asAgg Soft.upon Soft.BW.cell_if Soft.BW.frozen_if Soft.cell_alloc_if Soft.frozen_alloc_if

/-- Places that rise, from 0 on, in steps of 40 at most. -/
structure XsOk (l : List Int) : Prop where
  lo : ∀ j, j < l.length → 0 ≤ iv l j ∧ iv l j ≤ 50 + 40 * (j : Int)
  up : ∀ j, j + 1 < l.length → iv l j < iv l (j + 1) ∧ iv l (j + 1) ≤ iv l j + 40

theorem iv_snoc (l : List Int) (x : Int) (j : Nat) : iv (l ++ [x]) j = if j = l.length then x else iv l j := by
  unfold iv
  by_cases h : j < l.length
  · rw [List.getElem?_append_left h, if_neg (by omega)]
  · rw [List.getElem?_append_right (by omega)]
    by_cases e : j = l.length
    · subst e; simp
    · rw [if_neg e, List.getElem?_eq_none (by simp; omega), List.getElem?_eq_none (by omega)]

theorem XsOk.one {x : Int} (h : 0 ≤ x ∧ x ≤ 50) : XsOk [x] := by
  refine ⟨fun j hj => ?_, fun j hj => ?_⟩
  · simp at hj; subst hj; simp [iv]; omega
  · simp at hj

theorem XsOk.snoc {l : List Int} {x : Int} (h : XsOk l) (hl : l ≠ []) (h1 : iv l (l.length - 1) < x) (h2 : x ≤ iv l (l.length - 1) + 40) : XsOk (l ++ [x]) := by
  have hpos : 0 < l.length := by cases l with | nil => exact absurd rfl hl | cons => simp
  refine ⟨fun j hj => ?_, fun j hj => ?_⟩
  · simp at hj
    rw [iv_snoc]
    split
    · have := h.lo (l.length - 1) (by omega); omega
    · exact h.lo j (by omega)
  · simp at hj
    rw [iv_snoc, iv_snoc, if_neg (by omega)]
    split
    · have e : j = l.length - 1 := by omega
      subst e; exact ⟨h1, h2⟩
    · exact h.up j (by omega)

theorem XsOk.i64 {l : List Int} (h : XsOk l) (hl : l.length ≤ 1000) (i : Nat) : I64 (iv l i) := by
  by_cases hi : i < l.length
  · have := h.lo i hi; exact ⟨by omega, by omega⟩
  · rw [show iv l i = 0 by simp [iv, List.getElem?_eq_none (show l.length ≤ i by omega)]]; exact ⟨by omega, by omega⟩

/-- The places that numbers describe. -/
def xK (first : Int) (steps : List Int) : Nat → Int
  | 0 => first % 50
  | k + 1 => xK first steps k + (1 + iv steps k % 40)
def xsK (first : Int) (steps : List Int) (k : Nat) : List Int := (List.range (k + 1)).map (xK first steps)
def xsS (r : Rw) : List Int :=
  if r.steps.xs.length = 0 then [r.first % 50, r.first % 50 + 10] else xsK r.first r.steps.xs (min r.steps.xs.length 7)
theorem xsK_succ (first : Int) (steps : List Int) (k : Nat) : xsK first steps (k + 1) = xsK first steps k ++ [xK first steps k + (1 + iv steps k % 40)] := by
  unfold xsK
  rw [List.range_succ, List.map_append]
  rfl
theorem xsK_zero (first : Int) (steps : List Int) : xsK first steps 0 = [first % 50] := rfl
theorem xsK_len (first : Int) (steps : List Int) (k : Nat) : (xsK first steps k).length = k + 1 := by simp [xsK]

/-- The rising list of places that the call has laid. -/
def XsPost (r : Rw) (w : World) (e : Ending) (w' : World) : Prop :=
  ∃ (g n c : Nat), e = .returned (.slice (some ⟨g, 0, none⟩) n c) ∧ w.heap.size ≤ g ∧ Is.At w' ⟨some ⟨g, 0, none⟩, n, c, xsS r⟩ ∧ XsOk (xsS r) ∧ 2 ≤ n ∧ n ≤ 8 ∧ Below w.heap.size w w'

/-- What a loop carries: the places so far, the last one. -/
structure XsRel (B : Nat) (l : List Int) (x : Int) (v : Value) (wr : World) : Prop where
  ok : XsOk l
  ne : l ≠ []
  last : x = iv l (l.length - 1)
  own : OwnI wr B v l

theorem XsRel.next {B : Nat} {l : List Int} {x y : Int} {v v' : Value} {wr w' : World} (h : XsRel B l x v wr) (h1 : x < y) (h2 : y ≤ x + 40) (ho : OwnI w' B v' (l ++ [y])) : XsRel B (l ++ [y]) y v' w' := by
  have hl := h.last
  subst hl
  exact ⟨h.ok.snoc h.ne h1 h2, by simp, by rw [iv_snoc, if_pos (by simp)], ho⟩

theorem R2_xs (r : Rw) (w : World) (hr : r.At w) :
    Calls Try.prog 109 #[.agg #[.int .i64 r.id, .int .i64 r.first, .slice r.steps.p r.steps.n r.steps.c, .slice r.vals.p r.vals.n r.vals.c]] w (XsPost r w) := by
  obtain ⟨id, first, ⟨p, n, c, xs⟩, vals⟩ := r
  obtain ⟨r1, r2, hs, hv⟩ := hr
  dsimp only at *
  obtain ⟨f1, f2⟩ := r2
  have HS0 := Lib.hid (show n = 0 → xsS ⟨id, first, ⟨p, n, c, xs⟩, vals⟩ = [first % 50, first % 50 + 10] from fun h => if_pos (hs.1.trans h))
  have HS1 := Lib.hid (show n ≠ 0 → xsS ⟨id, first, ⟨p, n, c, xs⟩, vals⟩ = xsK first xs (min n 7) from fun h => by
    have e := hs.1
    dsimp only at e
    unfold xsS
    dsimp only
    rw [e, if_neg h])
  have q1 := Int.emod_nonneg first (show (50 : Int) ≠ 0 by omega)
  have q2 := Int.emod_lt_of_pos first (show (0 : Int) < 50 by omega)
  obtain ⟨x0, hx0⟩ : ∃ x0, x0 = first % 50 := ⟨_, rfl⟩
  rw [← hx0] at q1 q2
  have HX := Lib.hid hx0; clear hx0
  have hown0 : XsRel (w.heap.size + 1) [x0] x0 (.slice (some ⟨w.heap.size + 1, 0, none⟩) 1 1) ((w.alloc (.cells #[.int .i64 id, .int .i64 first, .slice p n c, .slice vals.p vals.n vals.c] 24)).alloc (.cells #[.int .i64 x0] 3)) := by
    refine ⟨XsOk.one ⟨q1, by omega⟩, by simp, rfl, ?_⟩
    have := World.ownsRow_lit (base := w.heap.size + 1) (size := 1) (e := 3) (w.alloc (.cells #[.int .i64 id, .int .i64 first, .slice p n c, .slice vals.p vals.n vals.c] 24)) #[.int .i64 x0] 1 (by simp) (by decide) rfl
    simpa [OwnI] using this
  go_enter Try.func109, Try.ntmps109
  go_wp2_with (go_at_call 37; (with_reducible refine (R2_Mod _ _ x0 _ (by omega) (by omega) HX.out).mono ?_); rintro e w_ ⟨rfl, hw_⟩; subst w_)
  go_loopw [3, 4, 5] (fun x v i wr => ∃ (k : Nat) (l : List Int) (y : Int), x = .int .i64 y ∧ i = .int .i64 k ∧ k ≤ 7 ∧ k ≤ n ∧ l.length = k + 1 ∧ l = xsK first xs k ∧ XsRel (w.heap.size + 1) l y v wr ∧ Below (w.heap.size + 1) (w.alloc (.cells #[.int .i64 id, .int .i64 first, .slice p n c, .slice vals.p vals.n vals.c] 24)) wr) (fun _ _ i _ => 7 - (intOf i).toNat)
  case atStart => exact ⟨0, [x0], x0, rfl, rfl, by omega, by omega, rfl, by rw [HX.out]; rfl, hown0, (Below.refl _ _).alloc (by simp) _⟩
  case round =>
    obtain ⟨k, l, y, rfl, rfl, hk7, hkn, hlen, hlk, hrel, hB⟩ := hrel
    have HLK := Lib.hid hlk; clear hlk
    clear hown0 q1 q2
    have hsz := hB.size
    simp at hsz
    have b1 : wr.cell? ⟨w.heap.size, 2, none⟩ = some (.slice p n c) := by rw [hB.cell (by simp)]; simp
    have hys : 0 ≤ y ∧ y ≤ 50 + 40 * (k : Int) := by
      have := hrel.ok.lo (l.length - 1) (by omega)
      rw [← hrel.last] at this
      omega
    have l0 := Soft.LtH.mk (b := w.heap.size) (w := wr) (by omega)
    obtain ⟨g, cp, rfl, hg1, hg2, hg3, hg4⟩ := hrel.own.shape hrel.ne
    have HLEN := Lib.hid hlen; clear hlen
    by_cases hlt : k < n ∧ k < 7
    · obtain ⟨hk1, hk2⟩ := hlt
      have hs' := (hs.alloc (.cells #[.int .i64 id, .int .i64 first, .slice p n c, .slice vals.p vals.n vals.c] 24)).belowN (by simp) hB
      obtain ⟨e1, e2, e3, e4, e6, e5⟩ := hs'
      dsimp only at *
      obtain ⟨b, o, rfl, hb, hc⟩ := e5 (by omega)
      have c1 := hc k hk1
      clear hs
      have lb := Soft.LtH.mk (b := b) (w := wr) hb
      have HB := Lib.hid hB; clear hB hc e5 e1
      have z1 := Int.emod_nonneg (iv xs k) (show (40 : Int) ≠ 0 by omega)
      have z2 := Int.emod_lt_of_pos (iv xs k) (show (0 : Int) < 40 by omega)
      obtain ⟨z, hz⟩ : ∃ z, z = iv xs k % 40 := ⟨_, rfl⟩
      rw [← hz] at z1 z2
      have hyx : y = xK first xs k := by
        have := hrel.last
        rw [this, HLK.out, xsK_len]
        simp [xsK, iv]
      have HNX := Lib.hid (show xsK first xs (k + 1) = l ++ [y + (1 + z)] by rw [xsK_succ, ← HLK.out, hz, hyx])
      have HZ := Lib.hid hz; clear hz hyx
      generalize iv xs k = u at *
      go_wp2_with (first
        | (go_at_call 37; (with_reducible refine (R2_Mod _ _ z _ (by omega) (by omega) HZ.out).mono ?_); rintro e w_ ⟨rfl, hw_⟩; subst w_)
        | (at_builtin; go_loud (refine app_int rfl (.tmp 31) (.tmp 33) rfl (w.heap.size + 1) _ l rfl (hrel.own.alloc _) wr.heap.size (y + (1 + z)) rfl (by simp) (by have := HLEN.out; omega) (by simp; omega) ?_); intro v' w3 ho hb3))
      obtain ⟨g3, c3, rfl, _⟩ := ho.shape (by simp)
      go_roundw
      case rel => exact ⟨k + 1, l ++ [y + (1 + z)], y + (1 + z), rfl, by simp, by omega, by omega, by simp [HLEN.out], HNX.out.symm, hrel.next (by omega) (by omega) ho, HB.out.trans (((Below.refl _ _).alloc (by omega) _).trans hb3)⟩
      case measure => simp [intOf]; omega
    · have hex : ¬((k : Int) < n) ∨ ¬((k : Int) < 7) := by omega
      have HB := Lib.hid hB; clear hB hlt
      have hbel : Below w.heap.size w wr := (((Below.refl _ _).alloc (Nat.le_refl _) _).trans (HB.out.mono (by omega)))
      have HBEL := Lib.hid hbel; clear hbel
      by_cases h2 : l.length < 2
      · have hk0 : (k : Int) < 7 := by have := HLEN.out; omega
        have hkn' : ¬((k : Int) < n) := by omega
        have h2' : (l.length : Int) < 2 := by omega
        clear hex
        go_wp2_with (first
          | (at_builtin; go_loud (refine app_int rfl (.tmp 38) (.tmp 41) rfl (w.heap.size + 1) _ l rfl (hrel.own.alloc _) wr.heap.size (y + 10) rfl (by simp) (by have := HLEN.out; omega) (by simp; omega) ?_); intro v' w3 ho hb3))
        have hn := hrel.next (by omega) (by omega) ho
        obtain ⟨g3, c3, rfl, hg5, hg6, hg7, hg8⟩ := ho.shape (by simp)
        go_ret
        have hk00 : k = 0 := by have := HLEN.out; omega
        have hS : xsS ⟨id, first, ⟨p, n, c, xs⟩, vals⟩ = l ++ [y + 10] := by
          rw [HS0.out (by omega)]
          have e := HLK.out
          rw [hk00, xsK_zero] at e
          have e2 := hrel.last
          rw [e] at e2
          rw [e, e2]
          rfl
        refine ⟨g3, (l ++ [y + 10]).length, c3, rfl, by omega, by rw [hS]; exact ho.at (hn.ok.i64 (by simp; omega)) (by simp; omega) (by simp), by rw [hS]; exact hn.ok, ?_, ?_, HBEL.out.trans (((Below.refl _ _).alloc (by omega) _).trans (hb3.mono (by omega)))⟩
        · have := HLEN.out; simp; omega
        · have := HLEN.out; simp; omega
      · have h2' : ¬((l.length : Int) < 2) := by omega
        rcases hex with hex | hex
        all_goals
          go_wp2_with fail
          all_goals
            go_ret
            have := HLEN.out
            have hS : xsS ⟨id, first, ⟨p, n, c, xs⟩, vals⟩ = l := by
              rw [HS1.out (by omega), HLK.out]
              congr 1
              omega
            exact ⟨g, l.length, cp, rfl, by omega, by rw [hS]; exact hrel.own.at (hrel.ok.i64 (by omega)) (by omega) hrel.ne, by rw [hS]; exact hrel.ok, by omega, by omega, HBEL.out⟩

end Go.Proofs.Ytbjdgaeikihjbaa
