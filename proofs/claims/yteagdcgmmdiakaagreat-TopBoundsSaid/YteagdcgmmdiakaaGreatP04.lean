/-
  areTables, isMonotone, CheckHold and CheckTank.
  What a state means; fix.Over without its error; CheckFill.
  CheckFill.
  Plain facts of the values of a table: their bounds, and that the lower one is at most the upper one.
  Conditions: each theorem's own premises.
-/
import Derived.Test.YteagdcgmmdiakaaGreatP03
import Derived.Laws.EntriesVeiled
import Derived.Laws.Tables
namespace Go.Proofs.YteagdcgmmdiakaaGreat
set_option linter.unusedSimpArgs false
set_option linter.unusedVariables false
open Go.RowKit
attribute [local go_sem] Soft.upon Soft.BW.cell_if Soft.BW.frozen_if Soft.cell_alloc_if Soft.frozen_alloc_if

/-- A table with two points at least, and no number below 0. -/
structure Tab2 (ps : List Pt) : Prop where
  ok : TabOk ps
  two : 2 ≤ ps.length
  pos : ¬hasNeg ps
theorem tab2_iff (ps : List Pt) : Tab2 ps ↔ TabOk ps ∧ 2 ≤ ps.length ∧ ¬hasNeg ps := ⟨fun h => ⟨h.ok, h.two, h.pos⟩, fun h => ⟨h.1, h.2.1, h.2.2⟩⟩
instance (ps : List Pt) : Decidable (Tab2 ps) := decidable_of_iff _ (tab2_iff ps).symm
def sameEnds (ps qs : List Pt) : Prop := firstX ps = firstX qs ∧ lastX ps = lastX qs
instance (ps qs : List Pt) : Decidable (sameEnds ps qs) := inferInstanceAs (Decidable (_ ∧ _))
/-- The three tables of a compartment. -/
def tabs3 (a b c : List Pt) : Prop := Tab2 a ∧ (Tab2 b ∧ sameEnds b a) ∧ (Tab2 c ∧ sameEnds c a)
instance (a b c : List Pt) : Decidable (tabs3 a b c) := inferInstanceAs (Decidable (_ ∧ _ ∧ _))

def pick3 (a b c : Tb) (k : Nat) : Tb := if k = 0 then a else if k = 1 then b else c

set_option maxRecDepth 100000 in
set_option maxHeartbeats 4000000 in
theorem hold_areTables (a b c : Tb) (Bl : Nat) (w : World) (ha : a.At w) (hb : b.At w) (hc : c.At w) (hl : HasBlk w Bl #[.slice (a).p (a).n (a).c, .slice (b).p (b).n (b).c, .slice (c).p (c).n (c).c] 24) (v : Bool) (hv : v = decide (tabs3 a.ps b.ps c.ps)) :
    Calls Tryz.prog 78 #[.slice (some ⟨Bl, 0, none⟩) 3 3] w fun e w' => e = .returned (.bool v) ∧ Below w.heap.size w w' := by
  have HV := Lib.hid hv; clear hv
  have hT : ∀ k, k < 3 → (pick3 a b c k).At w ∧ w.cell? ⟨Bl, k, none⟩ = some (.slice (pick3 a b c k).p (pick3 a b c k).n (pick3 a b c k).c) := fun k hk => by
    have hcell := hl.cell
    match k, hk with
    | 0, _ => exact ⟨ha, hcell 0⟩
    | 1, _ => exact ⟨hb, hcell 1⟩
    | 2, _ => exact ⟨hc, hcell 2⟩
  have HT := Lib.hid hT; clear hT
  have hlt := hl.lt
  have HBAD := Lib.hid (show ∀ k, k < 3 → ¬(Tab2 (pick3 a b c k).ps ∧ sameEnds (pick3 a b c k).ps a.ps) → v = false from fun k hk h => by
    rw [HV.out]
    refine decide_eq_false (fun h' => h ?_)
    match k, hk with
    | 0, _ => exact ⟨h'.1, rfl, rfl⟩
    | 1, _ => exact h'.2.1
    | 2, _ => exact h'.2.2)
  have HGOOD := Lib.hid (show (∀ k, k < 3 → Tab2 (pick3 a b c k).ps ∧ sameEnds (pick3 a b c k).ps a.ps) → v = true from fun h => by
    rw [HV.out]
    exact decide_eq_true ⟨(h 0 (by omega)).1, h 1 (by omega), h 2 (by omega)⟩)
  have hT0 := HT.out 0 (by omega)
  clear hl HV
  have HA0 := Lib.hid ha
  clear ha hb hc
  go_enter Tryz.func78, Tryz.ntmps78
  go_wp2_with fail
  go_loopw [11] (fun i wr => ∃ k : Nat, k ≤ 3 ∧ i = .int .i64 k ∧ (∀ j, j < k → Tab2 (pick3 a b c j).ps ∧ sameEnds (pick3 a b c j).ps a.ps) ∧ Below w.heap.size w wr) (fun i _ => 3 - (intOf i).toNat)
  case atStart => exact ⟨0, by omega, rfl, fun j hj => by omega, Below.refl _ _⟩
  case round =>
    obtain ⟨k, hk, rfl, hall, hB⟩ := hrel
    have HALL := Lib.hid hall; clear hall
    by_cases hlt3 : k < 3
    · obtain ⟨hat, hck⟩ := HT.out k hlt3
      have hck' := (hB.cell (p := ⟨Bl, k, none⟩) hlt).trans hck
      have hc0' := (hB.cell (p := ⟨Bl, 0, none⟩) hlt).trans hT0.2
      have hatr := hat.same hB
      have ha0r := HA0.out.same hB
      have lBl := Soft.LtH.mk (b := Bl) (w := wr) (Nat.lt_of_lt_of_le hlt hB.size)
      have HB := Lib.hid hB; clear hB hck
      have hBAD := Lib.hid (HBAD.out k hlt3)
      have hNEXT := Lib.hid (show Tab2 (pick3 a b c k).ps ∧ sameEnds (pick3 a b c k).ps a.ps → ∀ j, j < k + 1 → Tab2 (pick3 a b c j).ps ∧ sameEnds (pick3 a b c j).ps a.ps from fun h j hj => by
        by_cases e : j = k
        · rw [e]; exact h
        · exact HALL.out j (by omega))
      have ha2 : k ≠ 0 → Tab2 a.ps := fun h => (HALL.out 0 (by omega)).1
      have hk0 : k = 0 → pick3 a b c k = a := fun h => by rw [h]; rfl
      have HK0 := Lib.hid hk0; clear hk0
      have HA2 := Lib.hid ha2; clear ha2
      generalize pick3 a b c k = t at *
      have e0 : pick3 a b c 0 = a := rfl
      rw [e0] at hc0'
      clear e0 hT0
      by_cases h1 : TabOk t.ps
      · have hte : tabErr t.ps = 0 := if_pos h1
        have H1 := Lib.hid h1; clear h1
        by_cases h2 : 2 ≤ t.n
        · by_cases h3 : hasNeg t.ps
          · have H3 := Lib.hid h3; clear h3
            have HVF := Lib.hid (hBAD.out (fun h => h.1.pos H3.out))
            go_wp2_with (first | (go_at_call 52; (with_reducible refine (fix_CheckTable t _ (by repeat (first | exact hatr | refine Tb.At.alloc ?_ _ | refine Tb.At.bw ?_ _))).mono ?_); rintro e w_ ⟨rfl, hb_⟩; obtain ⟨y1, rfl⟩ := Soft.BW.mk hb_; clear hb_) | (go_at_call 94; (with_reducible refine (containsNeg t _ (by repeat (first | exact hatr | refine Tb.At.alloc ?_ _ | refine Tb.At.bw ?_ _)) true (decide_eq_true H3.out).symm).mono ?_); rintro e w_ ⟨rfl, hb_⟩; obtain ⟨y2, rfl⟩ := Soft.BW.mk hb_; clear hb_))
            go_ret
            refine ⟨ret_bool HVF.out.symm, ?_⟩
            refine bel_step HB.out ?_
            (with_reducible repeat (first | exact blr _ | refine bla ?_ _ | refine blw _ ?_ | refine bld ?_ | refine bln _ ?_ | refine bls ?_ _ | refine blt ?_))
          · have H3 := Lib.hid h3; clear h3
            have htab : Tab2 t.ps := ⟨H1.out, by rw [hatr.1]; exact h2, H3.out⟩
            have hna : Tab2 a.ps := by
              by_cases hk0 : k = 0
              · rw [← HK0.out hk0]; exact htab
              · exact HA2.out hk0
            have HTAB := Lib.hid htab; clear htab
            have hn1 : 1 ≤ t.n := by omega
            have hn2 : 1 ≤ a.n := by rw [← ha0r.1]; exact hna.ok.pos
            clear hna
            by_cases h4 : firstX t.ps = firstX a.ps
            · have d4 : (firstX t.ps != firstX a.ps) = false := by rw [h4]; simp
              have H4 := Lib.hid h4; clear h4
              by_cases h5 : lastX t.ps = lastX a.ps
              · have d5 : (lastX t.ps != lastX a.ps) = false := by rw [h5]; simp
                have H5 := Lib.hid h5; clear h5
                have HN := Lib.hid (hNEXT.out ⟨HTAB.out, H4.out, H5.out⟩)
                go_wp2_with (first | (go_at_call 52; (with_reducible refine (fix_CheckTable t _ (by repeat (first | exact hatr | refine Tb.At.alloc ?_ _ | refine Tb.At.bw ?_ _))).mono ?_); rintro e w_ ⟨rfl, hb_⟩; obtain ⟨y1, rfl⟩ := Soft.BW.mk hb_; clear hb_) | (go_at_call 94; (with_reducible refine (containsNeg t _ (by repeat (first | exact hatr | refine Tb.At.alloc ?_ _ | refine Tb.At.bw ?_ _)) false (decide_eq_false H3.out).symm).mono ?_); rintro e w_ ⟨rfl, hb_⟩; obtain ⟨y2, rfl⟩ := Soft.BW.mk hb_; clear hb_) | (go_at_call 65; (with_reducible refine (hold_domain t _ (by repeat (first | exact hatr | refine Tb.At.alloc ?_ _ | refine Tb.At.bw ?_ _)) hn1).mono ?_); rintro e w_ ⟨rfl, hb_⟩; obtain ⟨y3, rfl⟩ := Soft.BW.mk hb_; clear hb_) | (go_at_call 65; (with_reducible refine (hold_domain a _ (by repeat (first | exact ha0r | refine Tb.At.alloc ?_ _ | refine Tb.At.bw ?_ _)) hn2).mono ?_); rintro e w_ ⟨rfl, hb_⟩; obtain ⟨y4, rfl⟩ := Soft.BW.mk hb_; clear hb_))
                go_roundw
                case rel =>
                  refine ⟨k + 1, by omega, by simp, HN.out, ?_⟩
                  refine bel_step HB.out ?_
                  (with_reducible repeat (first | exact blr _ | refine bla ?_ _ | refine blw _ ?_ | refine bld ?_ | refine bln _ ?_ | refine bls ?_ _ | refine blt ?_))
                case measure => simp [intOf]; omega
              · have d5 : (lastX t.ps != lastX a.ps) = true := bne_iff_ne.2 h5
                have HVF := Lib.hid (hBAD.out (fun h => h5 h.2.2))
                clear h5
                go_wp2_with (first | (go_at_call 52; (with_reducible refine (fix_CheckTable t _ (by repeat (first | exact hatr | refine Tb.At.alloc ?_ _ | refine Tb.At.bw ?_ _))).mono ?_); rintro e w_ ⟨rfl, hb_⟩; obtain ⟨y1, rfl⟩ := Soft.BW.mk hb_; clear hb_) | (go_at_call 94; (with_reducible refine (containsNeg t _ (by repeat (first | exact hatr | refine Tb.At.alloc ?_ _ | refine Tb.At.bw ?_ _)) false (decide_eq_false H3.out).symm).mono ?_); rintro e w_ ⟨rfl, hb_⟩; obtain ⟨y2, rfl⟩ := Soft.BW.mk hb_; clear hb_) | (go_at_call 65; (with_reducible refine (hold_domain t _ (by repeat (first | exact hatr | refine Tb.At.alloc ?_ _ | refine Tb.At.bw ?_ _)) hn1).mono ?_); rintro e w_ ⟨rfl, hb_⟩; obtain ⟨y3, rfl⟩ := Soft.BW.mk hb_; clear hb_) | (go_at_call 65; (with_reducible refine (hold_domain a _ (by repeat (first | exact ha0r | refine Tb.At.alloc ?_ _ | refine Tb.At.bw ?_ _)) hn2).mono ?_); rintro e w_ ⟨rfl, hb_⟩; obtain ⟨y4, rfl⟩ := Soft.BW.mk hb_; clear hb_))
                go_ret
                refine ⟨ret_bool HVF.out.symm, ?_⟩
                refine bel_step HB.out ?_
                (with_reducible repeat (first | exact blr _ | refine bla ?_ _ | refine blw _ ?_ | refine bld ?_ | refine bln _ ?_ | refine bls ?_ _ | refine blt ?_))
            · have d4 : (firstX t.ps != firstX a.ps) = true := bne_iff_ne.2 h4
              have HVF := Lib.hid (hBAD.out (fun h => h4 h.2.1))
              clear h4
              go_wp2_with (first | (go_at_call 52; (with_reducible refine (fix_CheckTable t _ (by repeat (first | exact hatr | refine Tb.At.alloc ?_ _ | refine Tb.At.bw ?_ _))).mono ?_); rintro e w_ ⟨rfl, hb_⟩; obtain ⟨y1, rfl⟩ := Soft.BW.mk hb_; clear hb_) | (go_at_call 94; (with_reducible refine (containsNeg t _ (by repeat (first | exact hatr | refine Tb.At.alloc ?_ _ | refine Tb.At.bw ?_ _)) false (decide_eq_false H3.out).symm).mono ?_); rintro e w_ ⟨rfl, hb_⟩; obtain ⟨y2, rfl⟩ := Soft.BW.mk hb_; clear hb_) | (go_at_call 65; (with_reducible refine (hold_domain t _ (by repeat (first | exact hatr | refine Tb.At.alloc ?_ _ | refine Tb.At.bw ?_ _)) hn1).mono ?_); rintro e w_ ⟨rfl, hb_⟩; obtain ⟨y3, rfl⟩ := Soft.BW.mk hb_; clear hb_) | (go_at_call 65; (with_reducible refine (hold_domain a _ (by repeat (first | exact ha0r | refine Tb.At.alloc ?_ _ | refine Tb.At.bw ?_ _)) hn2).mono ?_); rintro e w_ ⟨rfl, hb_⟩; obtain ⟨y4, rfl⟩ := Soft.BW.mk hb_; clear hb_))
              go_ret
              refine ⟨ret_bool HVF.out.symm, ?_⟩
              refine bel_step HB.out ?_
              (with_reducible repeat (first | exact blr _ | refine bla ?_ _ | refine blw _ ?_ | refine bld ?_ | refine bln _ ?_ | refine bls ?_ _ | refine blt ?_))
        · have HVF := Lib.hid (hBAD.out (fun h => h2 (by rw [← hatr.1]; exact h.1.two)))
          have h2' : (t.n : Int) < 2 := by omega
          go_wp2_with (go_at_call 52; (with_reducible refine (fix_CheckTable t _ (by repeat (first | exact hatr | refine Tb.At.alloc ?_ _ | refine Tb.At.bw ?_ _))).mono ?_); rintro e w_ ⟨rfl, hb_⟩; obtain ⟨y1, rfl⟩ := Soft.BW.mk hb_; clear hb_)
          go_ret
          refine ⟨ret_bool HVF.out.symm, ?_⟩
          refine bel_step HB.out ?_
          (with_reducible repeat (first | exact blr _ | refine bla ?_ _ | refine blw _ ?_ | refine bld ?_ | refine bln _ ?_ | refine bls ?_ _ | refine blt ?_))
      · have hte : tabErr t.ps = 11 := if_neg h1
        have HVF := Lib.hid (hBAD.out (fun h => h1 h.1.ok))
        clear h1
        go_wp2_with (go_at_call 52; (with_reducible refine (fix_CheckTable t _ (by repeat (first | exact hatr | refine Tb.At.alloc ?_ _ | refine Tb.At.bw ?_ _))).mono ?_); rintro e w_ ⟨rfl, hb_⟩; obtain ⟨y1, rfl⟩ := Soft.BW.mk hb_; clear hb_)
        go_ret
        refine ⟨ret_bool HVF.out.symm, ?_⟩
        refine bel_step HB.out ?_
        (with_reducible repeat (first | exact blr _ | refine bla ?_ _ | refine blw _ ?_ | refine bld ?_ | refine bln _ ?_ | refine bls ?_ _ | refine blt ?_))
    · obtain rfl : k = 3 := by omega
      have HB := Lib.hid hB; clear hB
      have HVT := Lib.hid (HGOOD.out HALL.out)
      go_wp2_with fail
      go_ret
      exact ⟨ret_bool HVT.out.symm, HB.out⟩


/-- Nothing goes against the sign. -/
def monoAt (ps : List Pt) (s : Int) (k : Nat) : Prop := 0 ≤ s * ((pt ps (k + 1)).lo - (pt ps k).lo) ∧ 0 ≤ s * ((pt ps (k + 1)).hi - (pt ps k).hi)
def mono (ps : List Pt) (s : Int) : Prop := ∀ k, k < ps.length - 1 → monoAt ps s k
instance (ps : List Pt) (s : Int) (k : Nat) : Decidable (monoAt ps s k) := inferInstanceAs (Decidable (_ ∧ _))
instance (ps : List Pt) (s : Int) : Decidable (mono ps s) := decidable_of_iff (∀ k, k < ps.length - 1 → monoAt ps s k) Iff.rfl

set_option maxRecDepth 100000 in
set_option maxHeartbeats 4000000 in
theorem hold_isMonotone (t : Tb) (s : Int) (hs : s = 1 ∨ s = -1) (w : World) (ht : t.At w) (h2 : Tab2 t.ps) (v : Bool) (hv : v = decide (mono t.ps s)) :
    Calls Tryz.prog 79 #[.agg #[.slice (t).p (t).n (t).c], .int .i64 s] w fun e w' => e = .returned (.bool v) ∧ Below w.heap.size w w' := by
  have HBAD := Lib.hid (show ∀ k, k < t.ps.length - 1 → ¬monoAt t.ps s k → v = false from fun k hk h => by rw [hv]; exact decide_eq_false (fun h' => h (h' k hk)))
  have HGOOD := Lib.hid (show (∀ k, k < t.ps.length - 1 → monoAt t.ps s k) → v = true from fun h => by rw [hv]; exact decide_eq_true h)
  clear hv
  obtain ⟨p, n, c, ps⟩ := t
  have ht' := ht
  obtain ⟨e1, e2, e3, e4, e5⟩ := ht'
  dsimp only at *
  obtain ⟨b, o, rfl, hbw, _⟩ := e5 (by have := h2.two; omega)
  have hn2 : 2 ≤ n := by have := h2.two; omega
  rw [e1] at HBAD HGOOD
  have HL := Lib.hid e1; clear e1 e5
  have HT2 := Lib.hid h2; clear h2
  have HS := Lib.hid hs; clear hs
  have hc1 : c ≠ 1 := by omega
  go_enter Tryz.func79, Tryz.ntmps79
  go_wp2_with fail
  go_loopw [12] (fun i wr => ∃ k : Nat, k ≤ n - 1 ∧ i = .int .i64 k ∧ (∀ j, j < k → monoAt ps s j) ∧ Below (w.heap.size + 1) (w.alloc (.cells #[.slice (some ⟨b, o, none⟩) n c] 24)) wr) (fun i _ => n - 1 - (intOf i).toNat)
  case atStart => exact ⟨0, by omega, rfl, fun j hj => by omega, Below.refl _ _⟩
  case round =>
    obtain ⟨k, hk, rfl, hall, hB⟩ := hrel
    have HALL := Lib.hid hall; clear hall
    have hbox : wr.cell? ⟨w.heap.size, 0, none⟩ = some (.slice (some ⟨b, o, none⟩) n c) := by
      rw [hB.cell (by simp)]; simp
    have hsz : w.heap.size < wr.heap.size := by have := hB.size; simp at this; omega
    have l0 := Soft.LtH.mk (b := w.heap.size) (w := wr) hsz
    have lb := Soft.LtH.mk (b := b) (w := wr) (by omega)
    by_cases hlt : k < n - 1
    · have htr : Tb.At wr ⟨some ⟨b, o, none⟩, n, c, ps⟩ := (ht.alloc (.cells #[.slice (some ⟨b, o, none⟩) n c] 24)).belowAt hB (fun b' o' e => by cases e; omega)
      obtain ⟨_, _, _, _, h5⟩ := htr
      obtain ⟨b', o', e, _, hc⟩ := h5 (by dsimp only; omega)
      cases e
      dsimp only at *
      obtain ⟨c1, c2, c3⟩ := hc k (by omega)
      obtain ⟨d1, d2, d3⟩ := hc (k + 1) (by omega)
      rw [show o + (k + 1) * 3 = o + 3 + k * 3 by omega] at d1 d2 d3
      clear hc h5
      have i1 : k < n := by omega
      have HB := Lib.hid hB; clear hB
      have hok1 := HT2.out.ok.all k (by have := HL.out; omega)
      have hok2 := HT2.out.ok.all (k + 1) (by have := HL.out; omega)
      have HBD := Lib.hid (HBAD.out k hlt)
      have HNX := Lib.hid (show monoAt ps s k → ∀ j, j < k + 1 → monoAt ps s j from fun h j hj => by
        by_cases e : j = k
        · rw [e]; exact h
        · exact HALL.out j (by omega))
      unfold monoAt at HBD HNX
      obtain ⟨_, _, p1, p2, p3, _⟩ := hok1
      obtain ⟨_, _, p4, p5, p6, _⟩ := hok2
      generalize pt ps (k + 1) = q at *
      generalize pt ps k = r at *
      rcases HS.out with hs | hs
      all_goals
        subst hs
        clear HS
        go_wp2_with fail
        all_goals first
          | (go_ret; refine ⟨ret_bool (HBD.out (by omega)).symm, ?_⟩; refine (bel_alloc (bel_refl w) _).trans ((HB.out.mono (by omega)).trans ?_); refine Below.alloc (Below.alloc (Below.refl _ _) (by omega) _) (by simp; omega) _)
          | (go_roundw; (case rel => exact ⟨k + 1, by omega, by simp, HNX.out (by omega), HB.out.trans (Below.alloc (Below.alloc (Below.refl _ _) (by omega) _) (by simp; omega) _)⟩); (case measure => simp [intOf]; omega))
    · obtain rfl : k = n - 1 := by omega
      have HB := Lib.hid hB; clear hB
      have HVT := Lib.hid (HGOOD.out HALL.out)
      go_wp2_with fail
      go_ret
      exact ⟨ret_bool HVT.out.symm, (bel_alloc (bel_refl w) _).trans (HB.out.mono (by omega))⟩


/-- A valid hold. -/
structure HoldOk (h : Ho) : Prop where
  id : 1 ≤ h.id ∧ h.id ≤ 9
  along : isPart h.along (-1000000) 1000000
  tabs : tabs3 h.vol.ps h.mom.ps h.hei.ps
  mv : mono h.vol.ps (-1)
  mh : mono h.hei.ps (-1)
  tri : isPart h.tri 0 1000000000
  unt : isPart h.unt 0 1000000000
  v0 : isPart h.v0 0 1000000000
  h0 : isPart h.h0 0 1000000000
theorem holdOk_iff (h : Ho) : HoldOk h ↔ (1 ≤ h.id ∧ h.id ≤ 9) ∧ isPart h.along (-1000000) 1000000 ∧ tabs3 h.vol.ps h.mom.ps h.hei.ps ∧ mono h.vol.ps (-1) ∧ mono h.hei.ps (-1) ∧ isPart h.tri 0 1000000000 ∧ isPart h.unt 0 1000000000 ∧ isPart h.v0 0 1000000000 ∧ isPart h.h0 0 1000000000 :=
  ⟨fun h => ⟨h.id, h.along, h.tabs, h.mv, h.mh, h.tri, h.unt, h.v0, h.h0⟩, fun ⟨a, b, c, d, e, f, g, i, j⟩ => ⟨a, b, c, d, e, f, g, i, j⟩⟩
instance (h : Ho) : Decidable (HoldOk h) := decidable_of_iff _ (holdOk_iff h).symm
def holdErr (h : Ho) : Int := if HoldOk h then 0 else 20

def pick4 (a b c d : Rg) (k : Nat) : Rg := if k = 0 then a else if k = 1 then b else if k = 2 then c else d


set_option maxRecDepth 100000 in
set_option maxHeartbeats 4000000 in
theorem hold_CheckHold (h : Ho) (w : World) (hh : h.At w) :
    Calls Tryz.prog 32 #[.agg #[.int .i64 (h).id, .int .i64 ((h).along).lo, .int .i64 ((h).along).hi, .slice ((h).vol).p ((h).vol).n ((h).vol).c, .slice ((h).mom).p ((h).mom).n ((h).mom).c, .slice ((h).hei).p ((h).hei).n ((h).hei).c, .int .i64 ((h).tri).lo, .int .i64 ((h).tri).hi, .int .i64 ((h).unt).lo, .int .i64 ((h).unt).hi, .int .i64 ((h).v0).lo, .int .i64 ((h).v0).hi, .int .i64 ((h).h0).lo, .int .i64 ((h).h0).hi]] w fun e w' => e = .returned (.int .i64 (holdErr h)) ∧ Below w.heap.size w w' := by
  obtain ⟨hv, hm, hz⟩ := hh
  by_cases c1 : 1 ≤ h.id ∧ h.id ≤ 9
  · by_cases c2 : isPart h.along (-1000000) 1000000
    · by_cases c3 : tabs3 h.vol.ps h.mom.ps h.hei.ps
      · by_cases c4 : mono h.vol.ps (-1)
        · by_cases c5 : mono h.hei.ps (-1)
          · have hT1 : Tab2 h.vol.ps := c3.1
            have hT3 : Tab2 h.hei.ps := c3.2.2.1
            have C1 := Lib.hid c1; have C2 := Lib.hid c2; have C3 := Lib.hid c3; have C4 := Lib.hid c4; have C5 := Lib.hid c5; clear c1 c2 c3 c4 c5
            go_enter Tryz.func32, Tryz.ntmps32
            go_wp2_with (first | (go_at_call 70; (with_reducible refine (hold_isWithin _ _ _ _ true (decide_eq_true C1.out).symm).mono ?_); rintro e w_ ⟨rfl, hw_⟩; subst w_) | (go_at_call 67; (with_reducible refine (hold_isPart h.along _ _ _ true (decide_eq_true C2.out).symm).mono ?_); rintro e w_ ⟨rfl, hb_⟩; obtain ⟨y1, rfl⟩ := Soft.BW.mk hb_; clear hb_) | (go_at_call 78; (with_reducible refine (hold_areTables h.vol h.mom h.hei _ _ (by repeat (first | exact hv | refine Tb.At.alloc ?_ _ | refine Tb.At.bw ?_ _)) (by repeat (first | exact hm | refine Tb.At.alloc ?_ _ | refine Tb.At.bw ?_ _)) (by repeat (first | exact hz | refine Tb.At.alloc ?_ _ | refine Tb.At.bw ?_ _)) (by simp only [HasBlk, Soft.BW.heap_if, Soft.heap_alloc_if, Soft.heap_new, Soft.heap_new1, Soft.heap_new2, Soft.heap_new3, Soft.heap_new4, Soft.heap_new5]) true (decide_eq_true C3.out).symm).mono ?_); rintro e w_ ⟨rfl, hb_⟩; obtain ⟨y2, rfl⟩ := Soft.BW.mk hb_; clear hb_) | (go_at_call 79; (with_reducible refine (hold_isMonotone h.vol (-1) (.inr rfl) _ (by repeat (first | exact hv | refine Tb.At.alloc ?_ _ | refine Tb.At.bw ?_ _)) hT1 true (decide_eq_true C4.out).symm).mono ?_); rintro e w_ ⟨rfl, hb_⟩; obtain ⟨y3, rfl⟩ := Soft.BW.mk hb_; clear hb_) | (go_at_call 79; (with_reducible refine (hold_isMonotone h.hei (-1) (.inr rfl) _ (by repeat (first | exact hz | refine Tb.At.alloc ?_ _ | refine Tb.At.bw ?_ _)) hT3 true (decide_eq_true C5.out).symm).mono ?_); rintro e w_ ⟨rfl, hb_⟩; obtain ⟨y4, rfl⟩ := Soft.BW.mk hb_; clear hb_))
            have hblk := Soft.heap_new y4.w (.cells #[.int .i64 (h.tri).lo, .int .i64 (h.tri).hi, .int .i64 (h.unt).lo, .int .i64 (h.unt).hi, .int .i64 (h.v0).lo, .int .i64 (h.v0).hi, .int .i64 (h.h0).lo, .int .i64 (h.h0).hi] 27)
            have hbel : Below w.heap.size w (y4.w.alloc (.cells #[.int .i64 (h.tri).lo, .int .i64 (h.tri).hi, .int .i64 (h.unt).lo, .int .i64 (h.unt).hi, .int .i64 (h.v0).lo, .int .i64 (h.v0).hi, .int .i64 (h.h0).lo, .int .i64 (h.h0).hi] 27)) := by (with_reducible repeat (first | exact blr _ | refine bla ?_ _ | refine blw _ ?_ | refine bld ?_ | refine bln _ ?_ | refine bls ?_ _ | refine blt ?_))
            generalize hW : y4.w.alloc (.cells #[.int .i64 (h.tri).lo, .int .i64 (h.tri).hi, .int .i64 (h.unt).lo, .int .i64 (h.unt).hi, .int .i64 (h.v0).lo, .int .i64 (h.v0).hi, .int .i64 (h.h0).lo, .int .i64 (h.h0).hi] 27) = W0 at *
            have hlt4 : y4.w.heap.size < W0.heap.size := (Array.getElem?_eq_some_iff.1 hblk).1
            clear hW
            generalize y4.w.heap.size = Bs at *
            have hcell := HasBlk.cell hblk
            have HCELL := Lib.hid (show ∀ k, k < 4 → W0.cell? ⟨Bs, k * 2, none⟩ = some (.int .i64 (pick4 h.tri h.unt h.v0 h.h0 k).lo) ∧ W0.cell? ⟨Bs, k * 2 + 1, none⟩ = some (.int .i64 (pick4 h.tri h.unt h.v0 h.h0 k).hi) from fun k hk => by
              match k, hk with
              | 0, _ => exact ⟨hcell 0, hcell 1⟩
              | 1, _ => exact ⟨hcell 2, hcell 3⟩
              | 2, _ => exact ⟨hcell 4, hcell 5⟩
              | 3, _ => exact ⟨hcell 6, hcell 7⟩)
            clear hcell hblk
            have HBAD := Lib.hid (show ∀ k, k < 4 → ¬isPart (pick4 h.tri h.unt h.v0 h.h0 k) 0 1000000000 → holdErr h = 20 from fun k hk hp => if_neg (fun hh => hp (by
              match k, hk with
              | 0, _ => exact hh.tri
              | 1, _ => exact hh.unt
              | 2, _ => exact hh.v0
              | 3, _ => exact hh.h0)))
            have HGOOD := Lib.hid (show (∀ k, k < 4 → isPart (pick4 h.tri h.unt h.v0 h.h0 k) 0 1000000000) → holdErr h = 0 from fun hp => if_pos ⟨C1.out, C2.out, C3.out, C4.out, C5.out, hp 0 (by omega), hp 1 (by omega), hp 2 (by omega), hp 3 (by omega)⟩)
            go_loopw [48] (fun i wr => ∃ k : Nat, k ≤ 4 ∧ i = .int .i64 k ∧ (∀ j, j < k → isPart (pick4 h.tri h.unt h.v0 h.h0 j) 0 1000000000) ∧ Below W0.heap.size W0 wr) (fun i _ => 4 - (intOf i).toNat)
            case atStart => exact ⟨0, by omega, rfl, fun j hj => by omega, Below.refl _ _⟩
            case round =>
              obtain ⟨k, hk, rfl, hall, hB⟩ := hrel
              have HALL := Lib.hid hall; clear hall
              by_cases hlt : k < 4
              · obtain ⟨e1, e2⟩ := HCELL.out k hlt
                rw [← hB.cell (p := ⟨Bs, _, none⟩) hlt4] at e1 e2
                have lBs := Soft.LtH.mk (b := Bs) (w := wr) (Nat.lt_of_lt_of_le hlt4 hB.size)
                have HB := Lib.hid hB; clear hB
                have HBD := Lib.hid (HBAD.out k hlt)
                have HNX := Lib.hid (show isPart (pick4 h.tri h.unt h.v0 h.h0 k) 0 1000000000 → ∀ j, j < k + 1 → isPart (pick4 h.tri h.unt h.v0 h.h0 j) 0 1000000000 from fun hp j hj => by
                  by_cases e : j = k
                  · rw [e]; exact hp
                  · exact HALL.out j (by omega))
                generalize pick4 h.tri h.unt h.v0 h.h0 k = r at *
                by_cases hp : isPart r 0 1000000000
                · have HP := Lib.hid hp; clear hp
                  go_wp2_with (go_at_call 67; (with_reducible refine (hold_isPart r _ _ _ true (decide_eq_true HP.out).symm).mono ?_); rintro e w_ ⟨rfl, hb_⟩; obtain ⟨z1, rfl⟩ := Soft.BW.mk hb_; clear hb_)
                  go_roundw
                  case rel =>
                    refine ⟨k + 1, by omega, by simp, HNX.out HP.out, HB.out.trans (Below.mono (B := wr.heap.size) ?_ HB.out.size)⟩
                    (with_reducible repeat (first | exact blr _ | refine bla ?_ _ | refine blw _ ?_ | refine bld ?_ | refine bln _ ?_ | refine bls ?_ _ | refine blt ?_))
                  case measure => simp [intOf]; omega
                · have HP := Lib.hid hp; clear hp
                  go_wp2_with (go_at_call 67; (with_reducible refine (hold_isPart r _ _ _ false (decide_eq_false HP.out).symm).mono ?_); rintro e w_ ⟨rfl, hb_⟩; obtain ⟨z1, rfl⟩ := Soft.BW.mk hb_; clear hb_)
                  go_ret
                  refine ⟨ret_int (HBD.out HP.out).symm, ?_⟩
                  refine bel_step (bel_step hbel HB.out) ?_
                  (with_reducible repeat (first | exact blr _ | refine bla ?_ _ | refine blw _ ?_ | refine bld ?_ | refine bln _ ?_ | refine bls ?_ _ | refine blt ?_))
              · obtain rfl : k = 4 := by omega
                have HB := Lib.hid hB; clear hB
                go_wp2_with fail
                go_ret
                exact ⟨ret_int (HGOOD.out HALL.out).symm, bel_step hbel HB.out⟩
          · have HE := Lib.hid (show holdErr h = 20 from if_neg (fun h => c5 h.mh))
            have hT1 : Tab2 h.vol.ps := c3.1
            have hT3 : Tab2 h.hei.ps := c3.2.2.1
            have C1 := Lib.hid c1; have C2 := Lib.hid c2; have C3 := Lib.hid c3; have C4 := Lib.hid c4; have C5 := Lib.hid c5; clear c1 c2 c3 c4 c5
            go_enter Tryz.func32, Tryz.ntmps32
            go_wp2_with (first | (go_at_call 70; (with_reducible refine (hold_isWithin _ _ _ _ true (decide_eq_true C1.out).symm).mono ?_); rintro e w_ ⟨rfl, hw_⟩; subst w_) | (go_at_call 67; (with_reducible refine (hold_isPart h.along _ _ _ true (decide_eq_true C2.out).symm).mono ?_); rintro e w_ ⟨rfl, hb_⟩; obtain ⟨y1, rfl⟩ := Soft.BW.mk hb_; clear hb_) | (go_at_call 78; (with_reducible refine (hold_areTables h.vol h.mom h.hei _ _ (by repeat (first | exact hv | refine Tb.At.alloc ?_ _ | refine Tb.At.bw ?_ _)) (by repeat (first | exact hm | refine Tb.At.alloc ?_ _ | refine Tb.At.bw ?_ _)) (by repeat (first | exact hz | refine Tb.At.alloc ?_ _ | refine Tb.At.bw ?_ _)) (by simp only [HasBlk, Soft.BW.heap_if, Soft.heap_alloc_if, Soft.heap_new, Soft.heap_new1, Soft.heap_new2, Soft.heap_new3, Soft.heap_new4, Soft.heap_new5]) true (decide_eq_true C3.out).symm).mono ?_); rintro e w_ ⟨rfl, hb_⟩; obtain ⟨y2, rfl⟩ := Soft.BW.mk hb_; clear hb_) | (go_at_call 79; (with_reducible refine (hold_isMonotone h.vol (-1) (.inr rfl) _ (by repeat (first | exact hv | refine Tb.At.alloc ?_ _ | refine Tb.At.bw ?_ _)) hT1 true (decide_eq_true C4.out).symm).mono ?_); rintro e w_ ⟨rfl, hb_⟩; obtain ⟨y3, rfl⟩ := Soft.BW.mk hb_; clear hb_) | (go_at_call 79; (with_reducible refine (hold_isMonotone h.hei (-1) (.inr rfl) _ (by repeat (first | exact hz | refine Tb.At.alloc ?_ _ | refine Tb.At.bw ?_ _)) hT3 false (decide_eq_false C5.out).symm).mono ?_); rintro e w_ ⟨rfl, hb_⟩; obtain ⟨y4, rfl⟩ := Soft.BW.mk hb_; clear hb_))
            go_ret
            refine ⟨ret_int HE.out.symm, ?_⟩
            (with_reducible repeat (first | exact blr _ | refine bla ?_ _ | refine blw _ ?_ | refine bld ?_ | refine bln _ ?_ | refine bls ?_ _ | refine blt ?_))
        · have HE := Lib.hid (show holdErr h = 20 from if_neg (fun h => c4 h.mv))
          have hT1 : Tab2 h.vol.ps := c3.1
          have hT3 : Tab2 h.hei.ps := c3.2.2.1
          have C1 := Lib.hid c1; have C2 := Lib.hid c2; have C3 := Lib.hid c3; have C4 := Lib.hid c4; clear c1 c2 c3 c4
          go_enter Tryz.func32, Tryz.ntmps32
          go_wp2_with (first | (go_at_call 70; (with_reducible refine (hold_isWithin _ _ _ _ true (decide_eq_true C1.out).symm).mono ?_); rintro e w_ ⟨rfl, hw_⟩; subst w_) | (go_at_call 67; (with_reducible refine (hold_isPart h.along _ _ _ true (decide_eq_true C2.out).symm).mono ?_); rintro e w_ ⟨rfl, hb_⟩; obtain ⟨y1, rfl⟩ := Soft.BW.mk hb_; clear hb_) | (go_at_call 78; (with_reducible refine (hold_areTables h.vol h.mom h.hei _ _ (by repeat (first | exact hv | refine Tb.At.alloc ?_ _ | refine Tb.At.bw ?_ _)) (by repeat (first | exact hm | refine Tb.At.alloc ?_ _ | refine Tb.At.bw ?_ _)) (by repeat (first | exact hz | refine Tb.At.alloc ?_ _ | refine Tb.At.bw ?_ _)) (by simp only [HasBlk, Soft.BW.heap_if, Soft.heap_alloc_if, Soft.heap_new, Soft.heap_new1, Soft.heap_new2, Soft.heap_new3, Soft.heap_new4, Soft.heap_new5]) true (decide_eq_true C3.out).symm).mono ?_); rintro e w_ ⟨rfl, hb_⟩; obtain ⟨y2, rfl⟩ := Soft.BW.mk hb_; clear hb_) | (go_at_call 79; (with_reducible refine (hold_isMonotone h.vol (-1) (.inr rfl) _ (by repeat (first | exact hv | refine Tb.At.alloc ?_ _ | refine Tb.At.bw ?_ _)) hT1 false (decide_eq_false C4.out).symm).mono ?_); rintro e w_ ⟨rfl, hb_⟩; obtain ⟨y3, rfl⟩ := Soft.BW.mk hb_; clear hb_))
          go_ret
          refine ⟨ret_int HE.out.symm, ?_⟩
          (with_reducible repeat (first | exact blr _ | refine bla ?_ _ | refine blw _ ?_ | refine bld ?_ | refine bln _ ?_ | refine bls ?_ _ | refine blt ?_))
      · have HE := Lib.hid (show holdErr h = 20 from if_neg (fun h => c3 h.tabs))
        have C1 := Lib.hid c1; have C2 := Lib.hid c2; have C3 := Lib.hid c3; clear c1 c2 c3
        go_enter Tryz.func32, Tryz.ntmps32
        go_wp2_with (first | (go_at_call 70; (with_reducible refine (hold_isWithin _ _ _ _ true (decide_eq_true C1.out).symm).mono ?_); rintro e w_ ⟨rfl, hw_⟩; subst w_) | (go_at_call 67; (with_reducible refine (hold_isPart h.along _ _ _ true (decide_eq_true C2.out).symm).mono ?_); rintro e w_ ⟨rfl, hb_⟩; obtain ⟨y1, rfl⟩ := Soft.BW.mk hb_; clear hb_) | (go_at_call 78; (with_reducible refine (hold_areTables h.vol h.mom h.hei _ _ (by repeat (first | exact hv | refine Tb.At.alloc ?_ _ | refine Tb.At.bw ?_ _)) (by repeat (first | exact hm | refine Tb.At.alloc ?_ _ | refine Tb.At.bw ?_ _)) (by repeat (first | exact hz | refine Tb.At.alloc ?_ _ | refine Tb.At.bw ?_ _)) (by simp only [HasBlk, Soft.BW.heap_if, Soft.heap_alloc_if, Soft.heap_new, Soft.heap_new1, Soft.heap_new2, Soft.heap_new3, Soft.heap_new4, Soft.heap_new5]) false (decide_eq_false C3.out).symm).mono ?_); rintro e w_ ⟨rfl, hb_⟩; obtain ⟨y2, rfl⟩ := Soft.BW.mk hb_; clear hb_))
        go_ret
        refine ⟨ret_int HE.out.symm, ?_⟩
        (with_reducible repeat (first | exact blr _ | refine bla ?_ _ | refine blw _ ?_ | refine bld ?_ | refine bln _ ?_ | refine bls ?_ _ | refine blt ?_))
    · have HE := Lib.hid (show holdErr h = 20 from if_neg (fun h => c2 h.along))
      have C1 := Lib.hid c1; have C2 := Lib.hid c2; clear c1 c2
      go_enter Tryz.func32, Tryz.ntmps32
      go_wp2_with (first | (go_at_call 70; (with_reducible refine (hold_isWithin _ _ _ _ true (decide_eq_true C1.out).symm).mono ?_); rintro e w_ ⟨rfl, hw_⟩; subst w_) | (go_at_call 67; (with_reducible refine (hold_isPart h.along _ _ _ false (decide_eq_false C2.out).symm).mono ?_); rintro e w_ ⟨rfl, hb_⟩; obtain ⟨y1, rfl⟩ := Soft.BW.mk hb_; clear hb_))
      go_ret
      refine ⟨ret_int HE.out.symm, ?_⟩
      (with_reducible repeat (first | exact blr _ | refine bla ?_ _ | refine blw _ ?_ | refine bld ?_ | refine bln _ ?_ | refine bls ?_ _ | refine blt ?_))
  · have HE := Lib.hid (show holdErr h = 20 from if_neg (fun h => c1 h.id))
    have C1 := Lib.hid c1; clear c1
    go_enter Tryz.func32, Tryz.ntmps32
    go_wp2_with (go_at_call 70; (with_reducible refine (hold_isWithin _ _ _ _ false (decide_eq_false C1.out).symm).mono ?_); rintro e w_ ⟨rfl, hw_⟩; subst w_)
    go_ret
    refine ⟨ret_int HE.out.symm, ?_⟩
    (with_reducible repeat (first | exact blr _ | refine bla ?_ _ | refine blw _ ?_ | refine bld ?_ | refine bln _ ?_ | refine bls ?_ _ | refine blt ?_))

end Go.Proofs.YteagdcgmmdiakaaGreat

namespace Go.Proofs.YteagdcgmmdiakaaGreat
set_option linter.unusedSimpArgs false
set_option linter.unusedVariables false
open Go.RowKit
attribute [local go_sem] Soft.upon Soft.BW.cell_if Soft.BW.frozen_if Soft.cell_alloc_if Soft.frozen_alloc_if

theorem setRow_alloc (w : World) (old cs : Array Value) (t : TypeId) : (w.alloc (.cells old t)).setRow w.heap.size cs = w.alloc (.cells cs t) := by
  unfold World.setRow World.alloc
  simp only [World.mk.injEq, and_true]
  apply Array.ext_getElem?
  intro i
  rw [Array.getElem?_modify, Array.getElem?_push, Array.getElem?_push]
  by_cases h : i = w.heap.size
  · subst h; simp
  · simp [h, Ne.symm h]


set_option maxHeartbeats 2000000 in
theorem hold_states (w : World) :
    Calls Tryz.prog 69 #[] w fun e w' => e = .returned (.agg #[.bool true, .bool false, .bool false, .func (.func 134) #[] #[], .bool true, .bool true, .bool false, .func (.func 135) #[] #[], .bool true, .bool true, .bool false, .func (.func 136) #[] #[], .bool true, .bool false, .bool true, .func (.func 137) #[] #[], .bool true, .bool false, .bool true, .func (.func 134) #[] #[], .bool true, .bool false, .bool true, .func (.func 134) #[] #[]]) ∧ Below w.heap.size w w' := by
  go_enter Tryz.func69, Tryz.ntmps69
  go_wp2_with (refine wpList_store_row rfl _ _ _ rfl _ _ rfl rfl _ _ (Soft.heap_new _ _) (by kernel_rfl) rfl (by kernel_rfl) ?_; rw [setRow_alloc])
  exact bodyPost_ret (results_cell_row rfl _ _ _ _ _ _ (.array 6 90) rfl (Soft.heap_new _ _) (by kernel_rfl) rfl (by kernel_rfl)) rfl ⟨rfl, bel_alloc (bel_refl _) _⟩


/-- What a state means: known, filled, free; and its moment's function. -/
def stIs (n : Int) (k fl fr : Bool) (m : Value) : Prop :=
  (n = 0 ∧ k = true ∧ fl = false ∧ fr = false ∧ m = .func (.func 134) #[] #[]) ∨ (n = 1 ∧ k = true ∧ fl = true ∧ fr = false ∧ m = .func (.func 135) #[] #[]) ∨
  (n = 2 ∧ k = true ∧ fl = true ∧ fr = false ∧ m = .func (.func 136) #[] #[]) ∨ (n = 3 ∧ k = true ∧ fl = false ∧ fr = true ∧ m = .func (.func 137) #[] #[]) ∨
  (n = 4 ∧ k = true ∧ fl = false ∧ fr = true ∧ m = .func (.func 134) #[] #[]) ∨ (n = 5 ∧ k = true ∧ fl = false ∧ fr = true ∧ m = .func (.func 134) #[] #[]) ∨
  (¬(0 ≤ n ∧ n ≤ 5) ∧ k = false ∧ fl = false ∧ fr = false ∧ m = .nilFunc)


set_option maxHeartbeats 20000000 in
theorem hold_stateOf (n : Int) (k fl fr : Bool) (m : Value) (w : World) (h : stIs n k fl fr m) :
    Calls Tryz.prog 26 #[.int .i64 n] w fun e w' => e = .returned (.agg #[.bool k, .bool fl, .bool fr, m]) ∧ Below w.heap.size w w' := by
  rcases h with ⟨rfl, rfl, rfl, rfl, rfl⟩ | ⟨rfl, rfl, rfl, rfl, rfl⟩ | ⟨rfl, rfl, rfl, rfl, rfl⟩ | ⟨rfl, rfl, rfl, rfl, rfl⟩ | ⟨rfl, rfl, rfl, rfl, rfl⟩ | ⟨rfl, rfl, rfl, rfl, rfl⟩ | ⟨hn, rfl, rfl, rfl, rfl⟩
  · go_enter Tryz.func26, Tryz.ntmps26
    go_wp2_with (first | (go_at_call 69; (with_reducible refine (hold_states _).mono ?_); rintro e w_ ⟨rfl, hb_⟩; obtain ⟨y1, rfl⟩ := Soft.BW.mk hb_; clear hb_) | (go_at_call 70; (with_reducible refine (hold_isWithin _ _ _ _ true (by simp)).mono ?_); rintro e w_ ⟨rfl, hw_⟩; subst w_) | (refine wpList_store_row rfl 133 _ _ rfl _ _ rfl rfl _ _ (Soft.heap_new _ _) (by kernel_rfl) rfl (by kernel_rfl) ?_; rw [setRow_alloc]))
    refine bodyPost_ret (v := .agg #[.bool true, .bool false, .bool false, .func (.func 134) #[] #[]]) (by simp [results, Tryz.results26, go_sem]) rfl ?_
    refine ⟨rfl, ?_⟩
    (with_reducible repeat (first | exact blr _ | refine bla ?_ _ | refine blw _ ?_ | refine bld ?_ | refine bln _ ?_ | refine bls ?_ _ | refine blt ?_))
  · go_enter Tryz.func26, Tryz.ntmps26
    go_wp2_with (first | (go_at_call 69; (with_reducible refine (hold_states _).mono ?_); rintro e w_ ⟨rfl, hb_⟩; obtain ⟨y1, rfl⟩ := Soft.BW.mk hb_; clear hb_) | (go_at_call 70; (with_reducible refine (hold_isWithin _ _ _ _ true (by simp)).mono ?_); rintro e w_ ⟨rfl, hw_⟩; subst w_) | (refine wpList_store_row rfl 133 _ _ rfl _ _ rfl rfl _ _ (Soft.heap_new _ _) (by kernel_rfl) rfl (by kernel_rfl) ?_; rw [setRow_alloc]))
    refine bodyPost_ret (v := .agg #[.bool true, .bool true, .bool false, .func (.func 135) #[] #[]]) (by simp [results, Tryz.results26, go_sem]) rfl ?_
    refine ⟨rfl, ?_⟩
    (with_reducible repeat (first | exact blr _ | refine bla ?_ _ | refine blw _ ?_ | refine bld ?_ | refine bln _ ?_ | refine bls ?_ _ | refine blt ?_))
  · go_enter Tryz.func26, Tryz.ntmps26
    go_wp2_with (first | (go_at_call 69; (with_reducible refine (hold_states _).mono ?_); rintro e w_ ⟨rfl, hb_⟩; obtain ⟨y1, rfl⟩ := Soft.BW.mk hb_; clear hb_) | (go_at_call 70; (with_reducible refine (hold_isWithin _ _ _ _ true (by simp)).mono ?_); rintro e w_ ⟨rfl, hw_⟩; subst w_) | (refine wpList_store_row rfl 133 _ _ rfl _ _ rfl rfl _ _ (Soft.heap_new _ _) (by kernel_rfl) rfl (by kernel_rfl) ?_; rw [setRow_alloc]))
    refine bodyPost_ret (v := .agg #[.bool true, .bool true, .bool false, .func (.func 136) #[] #[]]) (by simp [results, Tryz.results26, go_sem]) rfl ?_
    refine ⟨rfl, ?_⟩
    (with_reducible repeat (first | exact blr _ | refine bla ?_ _ | refine blw _ ?_ | refine bld ?_ | refine bln _ ?_ | refine bls ?_ _ | refine blt ?_))
  · go_enter Tryz.func26, Tryz.ntmps26
    go_wp2_with (first | (go_at_call 69; (with_reducible refine (hold_states _).mono ?_); rintro e w_ ⟨rfl, hb_⟩; obtain ⟨y1, rfl⟩ := Soft.BW.mk hb_; clear hb_) | (go_at_call 70; (with_reducible refine (hold_isWithin _ _ _ _ true (by simp)).mono ?_); rintro e w_ ⟨rfl, hw_⟩; subst w_) | (refine wpList_store_row rfl 133 _ _ rfl _ _ rfl rfl _ _ (Soft.heap_new _ _) (by kernel_rfl) rfl (by kernel_rfl) ?_; rw [setRow_alloc]))
    refine bodyPost_ret (v := .agg #[.bool true, .bool false, .bool true, .func (.func 137) #[] #[]]) (by simp [results, Tryz.results26, go_sem]) rfl ?_
    refine ⟨rfl, ?_⟩
    (with_reducible repeat (first | exact blr _ | refine bla ?_ _ | refine blw _ ?_ | refine bld ?_ | refine bln _ ?_ | refine bls ?_ _ | refine blt ?_))
  · go_enter Tryz.func26, Tryz.ntmps26
    go_wp2_with (first | (go_at_call 69; (with_reducible refine (hold_states _).mono ?_); rintro e w_ ⟨rfl, hb_⟩; obtain ⟨y1, rfl⟩ := Soft.BW.mk hb_; clear hb_) | (go_at_call 70; (with_reducible refine (hold_isWithin _ _ _ _ true (by simp)).mono ?_); rintro e w_ ⟨rfl, hw_⟩; subst w_) | (refine wpList_store_row rfl 133 _ _ rfl _ _ rfl rfl _ _ (Soft.heap_new _ _) (by kernel_rfl) rfl (by kernel_rfl) ?_; rw [setRow_alloc]))
    refine bodyPost_ret (v := .agg #[.bool true, .bool false, .bool true, .func (.func 134) #[] #[]]) (by simp [results, Tryz.results26, go_sem]) rfl ?_
    refine ⟨rfl, ?_⟩
    (with_reducible repeat (first | exact blr _ | refine bla ?_ _ | refine blw _ ?_ | refine bld ?_ | refine bln _ ?_ | refine bls ?_ _ | refine blt ?_))
  · go_enter Tryz.func26, Tryz.ntmps26
    go_wp2_with (first | (go_at_call 69; (with_reducible refine (hold_states _).mono ?_); rintro e w_ ⟨rfl, hb_⟩; obtain ⟨y1, rfl⟩ := Soft.BW.mk hb_; clear hb_) | (go_at_call 70; (with_reducible refine (hold_isWithin _ _ _ _ true (by simp)).mono ?_); rintro e w_ ⟨rfl, hw_⟩; subst w_) | (refine wpList_store_row rfl 133 _ _ rfl _ _ rfl rfl _ _ (Soft.heap_new _ _) (by kernel_rfl) rfl (by kernel_rfl) ?_; rw [setRow_alloc]))
    refine bodyPost_ret (v := .agg #[.bool true, .bool false, .bool true, .func (.func 134) #[] #[]]) (by simp [results, Tryz.results26, go_sem]) rfl ?_
    refine ⟨rfl, ?_⟩
    (with_reducible repeat (first | exact blr _ | refine bla ?_ _ | refine blw _ ?_ | refine bld ?_ | refine bln _ ?_ | refine bls ?_ _ | refine blt ?_))
  · have HN := Lib.hid hn; clear hn
    go_enter Tryz.func26, Tryz.ntmps26
    go_wp2_with (first | (go_at_call 69; (with_reducible refine (hold_states _).mono ?_); rintro e w_ ⟨rfl, hb_⟩; obtain ⟨y1, rfl⟩ := Soft.BW.mk hb_; clear hb_) | (go_at_call 70; (with_reducible refine (hold_isWithin _ _ _ _ false (decide_eq_false HN.out).symm).mono ?_); rintro e w_ ⟨rfl, hw_⟩; subst w_) | (refine wpList_store_row rfl 133 _ _ rfl _ _ rfl rfl _ _ (Soft.heap_new _ _) (by kernel_rfl) rfl (by kernel_rfl) ?_; rw [setRow_alloc]))
    refine bodyPost_ret (v := .agg #[.bool false, .bool false, .bool false, .nilFunc]) (by simp [results, Tryz.results26, go_sem]) rfl ?_
    refine ⟨rfl, ?_⟩
    (with_reducible repeat (first | exact blr _ | refine bla ?_ _ | refine blw _ ?_ | refine bld ?_ | refine bln _ ?_ | refine bls ?_ _ | refine blt ?_))

theorem hold_over (t : Tb) (r : Rg) (w : World) (ht : t.At w) :
    Calls Tryz.prog 85 #[.agg #[.slice (t).p (t).n (t).c], .agg #[.int .i64 (r).lo, .int .i64 (r).hi]] w fun e w' => e = .returned (.agg #[.int .i64 ((overE t.ps r).1).lo, .int .i64 ((overE t.ps r).1).hi]) ∧ Below w.heap.size w w' := by
  go_enter Tryz.func85, Tryz.ntmps85
  go_wp2_with (go_at_call 141; (with_reducible refine (fix_Over t r _ (by repeat (first | exact ht | refine Tb.At.alloc ?_ _ | refine Tb.At.bw ?_ _))).mono ?_); rintro e w_ ⟨rfl, hb_⟩; obtain ⟨y1, rfl⟩ := Soft.BW.mk hb_; clear hb_)
  refine bodyPost_ret (v := .agg #[.int .i64 ((overE t.ps r).1).lo, .int .i64 ((overE t.ps r).1).hi]) (by simp [results, Tryz.results85, go_sem]) rfl ?_
  refine ⟨rfl, ?_⟩
  (with_reducible repeat (first | exact blr _ | refine bla ?_ _ | refine blw _ ?_ | refine bld ?_ | refine bln _ ?_ | refine bls ?_ _ | refine blt ?_))

end Go.Proofs.YteagdcgmmdiakaaGreat

namespace Go.Proofs.YteagdcgmmdiakaaGreat
set_option linter.unusedSimpArgs false
set_option linter.unusedVariables false
open Go.RowKit
attribute [local go_sem] Soft.upon Soft.BW.cell_if Soft.BW.frozen_if Soft.cell_alloc_if Soft.frozen_alloc_if

/-- What a valid fill of a hold is. -/
def FillIn (h : Ho) (f : Fi) : Prop := f.hold = h.id ∧ ((f.state = 0 ∧ f.ull = ⟨0, 0⟩ ∧ f.den = ⟨0, 0⟩) ∨ ((f.state = 1 ∨ f.state = 2) ∧ f.ull = ⟨0, 0⟩ ∧ isDen f.den) ∨ ((3 ≤ f.state ∧ f.state ≤ 5) ∧ isPart f.ull (firstX h.vol.ps) (lastX h.vol.ps) ∧ isDen f.den))
instance (h : Ho) (f : Fi) : Decidable (FillIn h f) := inferInstanceAs (Decidable (_ ∧ _))
def fillErr (h : Ho) (f : Fi) : Int := if HoldOk h then (if FillIn h f then 0 else 22) else 20

theorem st_class (n : Int) : (n = 0 ∧ ∃ m : FuncId, stIs n true false false (.func (.func m) #[] #[])) ∨ ((n = 1 ∨ n = 2) ∧ ∃ m : FuncId, stIs n true true false (.func (.func m) #[] #[])) ∨ ((3 ≤ n ∧ n ≤ 5) ∧ ∃ m : FuncId, stIs n true false true (.func (.func m) #[] #[])) ∨ (¬(0 ≤ n ∧ n ≤ 5) ∧ stIs n false false false .nilFunc) := by
  by_cases h0 : n = 0
  · subst h0; exact .inl ⟨rfl, _, .inl ⟨rfl, rfl, rfl, rfl, rfl⟩⟩
  by_cases h1 : n = 1
  · subst h1; exact .inr (.inl ⟨.inl rfl, _, .inr (.inl ⟨rfl, rfl, rfl, rfl, rfl⟩)⟩)
  by_cases h2 : n = 2
  · subst h2; exact .inr (.inl ⟨.inr rfl, _, .inr (.inr (.inl ⟨rfl, rfl, rfl, rfl, rfl⟩))⟩)
  by_cases h3 : n = 3
  · subst h3; exact .inr (.inr (.inl ⟨by omega, _, .inr (.inr (.inr (.inl ⟨rfl, rfl, rfl, rfl, rfl⟩)))⟩))
  by_cases h4 : n = 4
  · subst h4; exact .inr (.inr (.inl ⟨by omega, _, .inr (.inr (.inr (.inr (.inl ⟨rfl, rfl, rfl, rfl, rfl⟩))))⟩))
  by_cases h5 : n = 5
  · subst h5; exact .inr (.inr (.inl ⟨by omega, _, .inr (.inr (.inr (.inr (.inr (.inl ⟨rfl, rfl, rfl, rfl, rfl⟩)))))⟩))
  · exact .inr (.inr (.inr ⟨by omega, .inr (.inr (.inr (.inr (.inr (.inr ⟨by omega, rfl, rfl, rfl, rfl⟩)))))⟩))

theorem rg_iff (a : Rg) (x y : Int) : a = ⟨x, y⟩ ↔ a.lo = x ∧ a.hi = y := by
  cases a; simp
theorem fillErr_val (h : Ho) (f : Fi) (h0 : HoldOk h) (e : Int)
    (hp : (e = 0 ∧ (f.hold = h.id ∧ ((f.state = 0 ∧ (f.ull.lo = 0 ∧ f.ull.hi = 0) ∧ (f.den.lo = 0 ∧ f.den.hi = 0)) ∨ ((f.state = 1 ∨ f.state = 2) ∧ (f.ull.lo = 0 ∧ f.ull.hi = 0) ∧ isPart f.den 100 2000) ∨ ((3 ≤ f.state ∧ f.state ≤ 5) ∧ isPart f.ull (firstX h.vol.ps) (lastX h.vol.ps) ∧ isPart f.den 100 2000)))) ∨
      (e = 22 ∧ ¬(f.hold = h.id ∧ ((f.state = 0 ∧ (f.ull.lo = 0 ∧ f.ull.hi = 0) ∧ (f.den.lo = 0 ∧ f.den.hi = 0)) ∨ ((f.state = 1 ∨ f.state = 2) ∧ (f.ull.lo = 0 ∧ f.ull.hi = 0) ∧ isPart f.den 100 2000) ∨ ((3 ≤ f.state ∧ f.state ≤ 5) ∧ isPart f.ull (firstX h.vol.ps) (lastX h.vol.ps) ∧ isPart f.den 100 2000))))) : e = fillErr h f := by
  unfold fillErr
  rw [if_pos h0]
  rw [← rg_iff, ← rg_iff] at hp
  rcases hp with ⟨rfl, hp⟩ | ⟨rfl, hp⟩
  · exact (if_pos hp).symm
  · exact (if_neg hp).symm


set_option maxRecDepth 100000 in
set_option maxHeartbeats 8000000 in
theorem hold_CheckFill (h : Ho) (f : Fi) (w : World) (hh : h.At w) :
    Calls Tryz.prog 24 #[.agg #[.int .i64 (h).id, .int .i64 ((h).along).lo, .int .i64 ((h).along).hi, .slice ((h).vol).p ((h).vol).n ((h).vol).c, .slice ((h).mom).p ((h).mom).n ((h).mom).c, .slice ((h).hei).p ((h).hei).n ((h).hei).c, .int .i64 ((h).tri).lo, .int .i64 ((h).tri).hi, .int .i64 ((h).unt).lo, .int .i64 ((h).unt).hi, .int .i64 ((h).v0).lo, .int .i64 ((h).v0).hi, .int .i64 ((h).h0).lo, .int .i64 ((h).h0).hi], .agg #[.int .i64 (f).hold, .int .i64 (f).state, .int .i64 ((f).ull).lo, .int .i64 ((f).ull).hi, .int .i64 ((f).den).lo, .int .i64 ((f).den).hi]] w fun e w' => e = .returned (.int .i64 (fillErr h f)) ∧ Below w.heap.size w w' := by
  by_cases h0 : HoldOk h
  · have hE : holdErr h = 0 := if_pos h0
    have hv := hh.1
    have hn : 1 ≤ h.vol.n := by rw [← hv.1]; exact h0.tabs.1.ok.pos
    have H0 := Lib.hid h0; clear h0
    rcases st_class f.state with ⟨hc, m, hst⟩ | ⟨hc, m, hst⟩ | ⟨hc, m, hst⟩ | ⟨hc, hst⟩
    · have HST := Lib.hid hst; clear hst
      have d2 : (f.state == 0) = true := by rw [hc]; rfl
      have HC := Lib.hid hc; clear hc
      go_enter Tryz.func24, Tryz.ntmps24
      go_wp2_with (first | (go_at_call 32; (with_reducible refine (hold_CheckHold h _ (by with_reducible repeat (first | exact hh | refine Ho.At.alloc ?_ _ | refine Ho.At.bw ?_ _ | refine Tk.At.alloc ?_ _ | refine Tk.At.bw ?_ _))).mono ?_); rintro e w_ ⟨rfl, hb_⟩; obtain ⟨y1, rfl⟩ := Soft.BW.mk hb_; clear hb_) | (go_at_call 26; (with_reducible refine (hold_stateOf f.state _ _ _ _ _ HST.out).mono ?_); rintro e w_ ⟨rfl, hb_⟩; obtain ⟨y2, rfl⟩ := Soft.BW.mk hb_; clear hb_) | (go_at_call 65; (with_reducible refine (hold_domain h.vol _ (by repeat (first | exact hv | refine Tb.At.alloc ?_ _ | refine Tb.At.bw ?_ _)) hn).mono ?_); rintro e w_ ⟨rfl, hb_⟩; obtain ⟨y3, rfl⟩ := Soft.BW.mk hb_; clear hb_))
      all_goals
      go_ret
      refine ⟨ret_int (fillErr_val h f H0.out _ ?_), ?_⟩
      rotate_left
      (with_reducible repeat (first | exact blr _ | refine bla ?_ _ | refine blw _ ?_ | refine bld ?_ | refine bln _ ?_ | refine bls ?_ _ | refine blt ?_))
      have hc_ := HC.out
      (try simp only [Bool.not_eq_true', Bool.not_eq_false', decide_eq_true_eq, decide_eq_false_iff_not, true_and, and_true] at *)
      simp only [isDen, isPart] at *
      omega
    · have HST := Lib.hid hst; clear hst
      have d2 : (f.state == 0) = false := by rcases hc with h | h <;> rw [h] <;> rfl
      have HC := Lib.hid hc; clear hc
      go_enter Tryz.func24, Tryz.ntmps24
      go_wp2_with (first | (go_at_call 32; (with_reducible refine (hold_CheckHold h _ (by with_reducible repeat (first | exact hh | refine Ho.At.alloc ?_ _ | refine Ho.At.bw ?_ _ | refine Tk.At.alloc ?_ _ | refine Tk.At.bw ?_ _))).mono ?_); rintro e w_ ⟨rfl, hb_⟩; obtain ⟨y1, rfl⟩ := Soft.BW.mk hb_; clear hb_) | (go_at_call 26; (with_reducible refine (hold_stateOf f.state _ _ _ _ _ HST.out).mono ?_); rintro e w_ ⟨rfl, hb_⟩; obtain ⟨y2, rfl⟩ := Soft.BW.mk hb_; clear hb_) | (go_at_call 65; (with_reducible refine (hold_domain h.vol _ (by repeat (first | exact hv | refine Tb.At.alloc ?_ _ | refine Tb.At.bw ?_ _)) hn).mono ?_); rintro e w_ ⟨rfl, hb_⟩; obtain ⟨y3, rfl⟩ := Soft.BW.mk hb_; clear hb_) | (go_at_call 66; (with_reducible refine (hold_isDensity f.den _ _ rfl).mono ?_); rintro e w_ ⟨rfl, hb_⟩; obtain ⟨y4, rfl⟩ := Soft.BW.mk hb_; clear hb_))
      all_goals
      go_ret
      refine ⟨ret_int (fillErr_val h f H0.out _ ?_), ?_⟩
      rotate_left
      (with_reducible repeat (first | exact blr _ | refine bla ?_ _ | refine blw _ ?_ | refine bld ?_ | refine bln _ ?_ | refine bls ?_ _ | refine blt ?_))
      have hc_ := HC.out
      (try simp only [Bool.not_eq_true', Bool.not_eq_false', decide_eq_true_eq, decide_eq_false_iff_not, true_and, and_true] at *)
      simp only [isDen, isPart] at *
      omega
    · have HST := Lib.hid hst; clear hst
      have d2 : (f.state == 0) = false := by
        apply beq_false_of_ne; omega
      have HC := Lib.hid hc; clear hc
      go_enter Tryz.func24, Tryz.ntmps24
      go_wp2_with (first | (go_at_call 32; (with_reducible refine (hold_CheckHold h _ (by with_reducible repeat (first | exact hh | refine Ho.At.alloc ?_ _ | refine Ho.At.bw ?_ _ | refine Tk.At.alloc ?_ _ | refine Tk.At.bw ?_ _))).mono ?_); rintro e w_ ⟨rfl, hb_⟩; obtain ⟨y1, rfl⟩ := Soft.BW.mk hb_; clear hb_) | (go_at_call 26; (with_reducible refine (hold_stateOf f.state _ _ _ _ _ HST.out).mono ?_); rintro e w_ ⟨rfl, hb_⟩; obtain ⟨y2, rfl⟩ := Soft.BW.mk hb_; clear hb_) | (go_at_call 65; (with_reducible refine (hold_domain h.vol _ (by repeat (first | exact hv | refine Tb.At.alloc ?_ _ | refine Tb.At.bw ?_ _)) hn).mono ?_); rintro e w_ ⟨rfl, hb_⟩; obtain ⟨y3, rfl⟩ := Soft.BW.mk hb_; clear hb_) | (go_at_call 66; (with_reducible refine (hold_isDensity f.den _ _ rfl).mono ?_); rintro e w_ ⟨rfl, hb_⟩; obtain ⟨y4, rfl⟩ := Soft.BW.mk hb_; clear hb_) | (go_at_call 67; (with_reducible refine (hold_isPart f.ull _ _ _ _ rfl).mono ?_); rintro e w_ ⟨rfl, hb_⟩; obtain ⟨y5, rfl⟩ := Soft.BW.mk hb_; clear hb_))
      all_goals
      go_ret
      refine ⟨ret_int (fillErr_val h f H0.out _ ?_), ?_⟩
      rotate_left
      (with_reducible repeat (first | exact blr _ | refine bla ?_ _ | refine blw _ ?_ | refine bld ?_ | refine bln _ ?_ | refine bls ?_ _ | refine blt ?_))
      have hc_ := HC.out
      (try simp only [Bool.not_eq_true', Bool.not_eq_false', decide_eq_true_eq, decide_eq_false_iff_not, true_and, and_true] at *)
      simp only [isDen, isPart] at *
      omega
    · have HST := Lib.hid hst; clear hst
      have HC := Lib.hid hc; clear hc
      go_enter Tryz.func24, Tryz.ntmps24
      go_wp2_with (first | (go_at_call 32; (with_reducible refine (hold_CheckHold h _ (by with_reducible repeat (first | exact hh | refine Ho.At.alloc ?_ _ | refine Ho.At.bw ?_ _ | refine Tk.At.alloc ?_ _ | refine Tk.At.bw ?_ _))).mono ?_); rintro e w_ ⟨rfl, hb_⟩; obtain ⟨y1, rfl⟩ := Soft.BW.mk hb_; clear hb_) | (go_at_call 26; (with_reducible refine (hold_stateOf f.state _ _ _ _ _ HST.out).mono ?_); rintro e w_ ⟨rfl, hb_⟩; obtain ⟨y2, rfl⟩ := Soft.BW.mk hb_; clear hb_) | (go_at_call 65; (with_reducible refine (hold_domain h.vol _ (by repeat (first | exact hv | refine Tb.At.alloc ?_ _ | refine Tb.At.bw ?_ _)) hn).mono ?_); rintro e w_ ⟨rfl, hb_⟩; obtain ⟨y3, rfl⟩ := Soft.BW.mk hb_; clear hb_))
      all_goals
      go_ret
      refine ⟨ret_int (fillErr_val h f H0.out _ ?_), ?_⟩
      rotate_left
      (with_reducible repeat (first | exact blr _ | refine bla ?_ _ | refine blw _ ?_ | refine bld ?_ | refine bln _ ?_ | refine bls ?_ _ | refine blt ?_))
      have hc_ := HC.out
      (try simp only [Bool.not_eq_true', Bool.not_eq_false', decide_eq_true_eq, decide_eq_false_iff_not, true_and, and_true] at *)
      simp only [isDen, isPart] at *
      omega
  · have hE : holdErr h = 20 := if_neg h0
    have hE' : fillErr h f = 20 := if_neg h0
    have HE := Lib.hid hE'; clear h0 hE'
    go_enter Tryz.func24, Tryz.ntmps24
    go_wp2_with (go_at_call 32; (with_reducible refine (hold_CheckHold h _ (by with_reducible repeat (first | exact hh | refine Ho.At.alloc ?_ _ | refine Ho.At.bw ?_ _ | refine Tk.At.alloc ?_ _ | refine Tk.At.bw ?_ _))).mono ?_); rintro e w_ ⟨rfl, hb_⟩; obtain ⟨y1, rfl⟩ := Soft.BW.mk hb_; clear hb_)
    go_ret
    refine ⟨ret_int HE.out.symm, ?_⟩
    (with_reducible repeat (first | exact blr _ | refine bla ?_ _ | refine blw _ ?_ | refine bld ?_ | refine bln _ ?_ | refine bls ?_ _ | refine blt ?_))

end Go.Proofs.YteagdcgmmdiakaaGreat

namespace Go.Proofs.YteagdcgmmdiakaaGreat
set_option linter.unusedSimpArgs false
set_option linter.unusedVariables false
open Go.RowKit

/-- A range's numbers lie within bounds. -/
structure RgIn (r : Rg) (L U : Int) : Prop where
  a : L ≤ r.lo
  b : r.lo ≤ r.hi
  c : r.hi ≤ U

/-- The number at a place of a line between two points, times their distance. -/
def lin (a b : Pt) (y z x : Int) : Int := y * (b.x - x) + z * (x - a.x)
theorem lin_mono (a b : Pt) (y z y' z' x : Int) (h1 : a.x ≤ x) (h2 : x ≤ b.x) (hy : y ≤ y') (hz : z ≤ z') : lin a b y z x ≤ lin a b y' z' x := by
  unfold lin
  have a1 := Int.mul_le_mul_of_nonneg_right hy (show 0 ≤ b.x - x by omega)
  have a2 := Int.mul_le_mul_of_nonneg_right hz (show 0 ≤ x - a.x by omega)
  omega
theorem lin_same (a b : Pt) (y x : Int) : lin a b y y x = y * (b.x - a.x) := by
  unfold lin
  rw [← Int.mul_add]
  congr 1
  omega
theorem segLo_le (a b : Pt) (x : Int) (h : a.x < b.x) : segLo a b x * (b.x - a.x) ≤ lin a b a.lo b.lo x := Int.ediv_mul_le _ (by omega)
theorem segHi_ge (a b : Pt) (x : Int) (h : a.x < b.x) : lin a b a.hi b.hi x ≤ segHi a b x * (b.x - a.x) := by
  have h := Int.ediv_mul_le (-(a.hi * (b.x - x) + b.hi * (x - a.x))) (show b.x - a.x ≠ 0 by omega)
  unfold segHi lin
  rw [Int.neg_mul]
  omega
theorem segLo_ge (a b : Pt) (x : Int) (L : Int) (h : a.x < b.x) (hl : L * (b.x - a.x) ≤ lin a b a.lo b.lo x) : L ≤ segLo a b x := Int.le_ediv_of_mul_le (by omega) hl
theorem segHi_le (a b : Pt) (x : Int) (U : Int) (h : a.x < b.x) (hl : lin a b a.hi b.hi x ≤ U * (b.x - a.x)) : segHi a b x ≤ U := by
  have h := Int.le_ediv_of_mul_le (c := b.x - a.x) (a := -U) (b := -(lin a b a.hi b.hi x)) (by omega) (by rw [Int.neg_mul]; omega)
  unfold segHi
  unfold lin at h
  omega
theorem le_of_mul {p q d : Int} (hd : 0 < d) (h : p * d ≤ q * d) : p ≤ q := Int.le_of_mul_le_mul_right h hd

theorem seg_in (a b : Pt) (x L U : Int) (hp : PieceOk a b) (h1 : a.x ≤ x) (h2 : x ≤ b.x) (la : L ≤ a.lo) (lb : L ≤ b.lo) (ua : a.hi ≤ U) (ub : b.hi ≤ U) : RgIn ⟨segLo a b x, segHi a b x⟩ L U := by
  have hlt := hp.lt
  refine ⟨segLo_ge a b x L hlt ?_, ?_, segHi_le a b x U hlt ?_⟩
  · rw [← lin_same a b L x]; exact lin_mono a b _ _ _ _ x h1 h2 la lb
  · refine le_of_mul (d := b.x - a.x) (by omega) ?_
    exact Int.le_trans (segLo_le a b x hlt) (Int.le_trans (lin_mono a b _ _ _ _ x h1 h2 hp.ale hp.ble) (segHi_ge a b x hlt))
  · rw [← lin_same a b U x]; exact lin_mono a b _ _ _ _ x h1 h2 ua ub

theorem atS_in {ps : List Pt} (hok : TabOk ps) {x : Int} (h1 : firstX ps ≤ x) (h2 : x ≤ lastX ps) (L U : Int) (hL : ∀ k, k < ps.length → L ≤ (pt ps k).lo ∧ (pt ps k).hi ≤ U) : RgIn (atS ps x) L U := by
  obtain ⟨a1, _, a3⟩ := kOf_spec hok h1 h2
  have hany := hok.any a1
  have hpos := hok.pos
  unfold atS pcAt
  generalize hk : kOf ps x = k at *
  by_cases hl : ps.length = 1
  · have hp : pieceAt ps k = (pt ps 0, pt ps 0) := if_pos hl
    rw [hp, if_pos rfl]
    obtain ⟨b1, b2⟩ := hL 0 (by omega)
    obtain ⟨_, _, b3, _⟩ := hok.all 0 (by omega)
    exact ⟨b1, b3, b2⟩
  · have hp : pieceAt ps k = (pt ps k, pt ps (k + 1)) := if_neg hl
    have hk2 : k + 1 < ps.length := by unfold nPieces at a1; rw [if_neg hl] at a1; omega
    have hok' := hok.piece hk2
    rw [hp] at a3 ⊢
    have hne : ¬(pt ps k = pt ps (k + 1)) := fun e => by have := hok'.lt; rw [e] at this; omega
    dsimp only
    rw [if_neg hne]
    obtain ⟨b1, b2⟩ := hL k (by omega)
    obtain ⟨c1, c2⟩ := hL (k + 1) hk2
    exact seg_in _ _ x L U hok' a3.1 a3.2 b1 c1 b2 c2

theorem gTake_in {g r : Rg} {L U : Int} (hg : RgIn g L U) (hr : RgIn r L U) : RgIn (gTake (some g) r) L U := by
  obtain ⟨a1, a2, a3⟩ := hg
  obtain ⟨b1, b2, b3⟩ := hr
  refine ⟨?_, ?_, ?_⟩ <;> (simp only [gTake, gAdd]; omega)
theorem gTake0_in {r : Rg} {L U : Int} (hr : RgIn r L U) : RgIn (gTake none r) L U := by
  obtain ⟨b1, b2, b3⟩ := hr
  refine ⟨?_, ?_, ?_⟩ <;> (simp only [gTake, gAdd]; omega)

theorem overS_in {ps : List Pt} (hok : TabOk ps) {r : Rg} (h1 : firstX ps ≤ r.lo) (h2 : r.lo ≤ r.hi) (h3 : r.hi ≤ lastX ps) (L U : Int) (hL : ∀ k, k < ps.length → L ≤ (pt ps k).lo ∧ (pt ps k).hi ≤ U) : RgIn (overS ps r) L U := by
  have key : ∀ k, k ≤ ps.length → RgIn (overG ps r k) L U := by
    intro k
    induction k with
    | zero =>
      intro _
      exact gTake_in (gTake0_in (atS_in hok h1 (by omega) L U hL)) (atS_in hok (by omega) h3 L U hL)
    | succ k ih =>
      intro hk
      rw [overG_succ ps r k (by omega)]
      unfold overStep
      by_cases hc : r.lo ≤ (pt ps k).x ∧ (pt ps k).x ≤ r.hi
      · rw [if_pos hc]
        exact gTake_in (ih (by omega)) (atS_in hok (by omega) (by omega) L U hL)
      · rw [if_neg hc]; exact ih (by omega)
  exact key _ (Nat.le_refl _)

theorem overE_in {ps : List Pt} {r : Rg} (L U : Int) (h0 : L ≤ 0) (h1 : 0 ≤ U) (hL : TabOk ps → ∀ k, k < ps.length → L ≤ (pt ps k).lo ∧ (pt ps k).hi ≤ U) : RgIn (overE ps r).1 L U := by
  unfold overE
  by_cases hok : TabOk ps
  · rw [if_pos hok]
    rcases rangeErr_cases r with ⟨e, h2, _⟩ | ⟨e, _⟩
    · rw [if_pos e]
      by_cases hin : firstX ps ≤ r.lo ∧ r.hi ≤ lastX ps
      · rw [if_pos hin]; exact overS_in hok hin.1 h2 hin.2 L U (hL hok)
      · rw [if_neg hin]; exact ⟨h0, Int.le_refl _, h1⟩
    · rw [if_neg (by omega)]; exact ⟨h0, Int.le_refl _, h1⟩
  · rw [if_neg hok]; exact ⟨h0, Int.le_refl _, h1⟩

/-- The values of any table, and those of a table without numbers below 0. -/
theorem overE_any (ps : List Pt) (r : Rg) : RgIn (overE ps r).1 (-1000000000) 1000000000 :=
  overE_in _ _ (by omega) (by omega) (fun hok k hk => by obtain ⟨_, _, _, a, b, _⟩ := hok.all k hk; exact ⟨a, b⟩)
theorem overE_pos {ps : List Pt} (h : Tab2 ps) (r : Rg) : RgIn (overE ps r).1 0 1000000000 :=
  overE_in _ _ (by omega) (by omega) (fun hok k hk => by
    obtain ⟨_, _, _, a, b, _⟩ := hok.all k hk
    refine ⟨?_, b⟩
    have := h.pos
    unfold hasNeg at this
    apply Classical.byContradiction
    intro hc
    exact this ⟨k, hk, by omega⟩)
end Go.Proofs.YteagdcgmmdiakaaGreat
