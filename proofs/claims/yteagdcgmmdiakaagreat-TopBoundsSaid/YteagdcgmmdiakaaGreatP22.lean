/-
  cond: listed.
  Twice an area, plain: the sums stay small, so that nothing wraps.
  fix: Area.
  cond: Heel, checkMost, area.
  cond: lists of facts.
  Conditions: each theorem's own premises.
-/
import Derived.Test.YteagdcgmmdiakaaGreatP19
import Derived.Test.YteagdcgmmdiakaaGreatP09
import Derived.Test.YteagdcgmmdiakaaGreatP18
import Derived.WalkMore
import Derived.Test.YteagdcgmmdiakaaGreatP14
import Derived.Test.YteagdcgmmdiakaaGreatP03
import Derived.Test.YteagdcgmmdiakaaGreatP21
namespace Go.Proofs.YteagdcgmmdiakaaGreat
set_option linter.unusedSimpArgs false
set_option linter.unusedVariables false
open Go.RowKit
set_option maxRecDepth 100000
set_option maxHeartbeats 8000000
attribute [local go_sem] Instr.field asAgg Soft.upon Soft.upon0 Soft.stepC Soft.BW.cell_if Soft.BW.frozen_if Soft.cell_alloc_if Soft.frozen_alloc_if
attribute [local irreducible] Soft.wpSoft Soft.wpMix

/-- The first place at which something is so. -/
def firstP (P : Int → Bool) (lo : Int) (n : Nat) : Option Int := (upto (fun k => lo + (k : Int)) n).find? P
theorem firstP_succ (P : Int → Bool) (lo : Int) (n : Nat) : firstP P lo (n + 1) = (firstP P lo n).or (if P (lo + n) then some (lo + n) else none) := by
  unfold firstP
  rw [upto_succ, List.find?_append]
  congr 1
  simp [List.find?]
  cases P (lo + n) <;> rfl
theorem firstP_keep {P : Int → Bool} {lo : Int} {k : Nat} {v : Int} (h : firstP P lo k = some v) : ∀ n, k ≤ n → firstP P lo n = some v
  | 0, hn => by obtain rfl : k = 0 := by omega
                exact h
  | n + 1, hn => by
    by_cases e : k = n + 1
    · rw [← e]; exact h
    · rw [firstP_succ, firstP_keep h n (by omega)]; rfl
def loB (m : List Pt) (x : Int) : Bool := decide (0 ≤ (atE m x).1.lo)
def hiB (m : List Pt) (x : Int) : Bool := decide (0 ≤ (atE m x).1.hi)
/-- The heel. -/
def lstE (lo hi : Int) (m : List Pt) : Rg × Int :=
  match firstP (loB m) lo (hi - lo + 1).toNat with
  | none => (⟨0, 0⟩, 3)
  | some b => (⟨(firstP (hiB m) lo (hi - lo + 1).toNat).getD 0, b⟩, 0)

theorem lst_hit {lo hi : Int} {m : List Pt} {k : Nat} (h0 : firstP (loB m) lo k = none) (h1 : loB m (lo + k) = true) (hk : lo + k ≤ hi) :
    lstE lo hi m = (⟨(firstP (hiB m) lo k).getD (lo + k), lo + k⟩, 0) := by
  have a : firstP (loB m) lo (k + 1) = some (lo + k) := by rw [firstP_succ, h0, h1]; rfl
  have h2 : hiB m (lo + k) = true := by
    unfold loB at h1
    unfold hiB
    rw [decide_eq_true_eq] at h1 ⊢
    have := (atE_vals m (lo + k)).2.1
    omega
  have b : firstP (hiB m) lo (k + 1) = some ((firstP (hiB m) lo k).getD (lo + k)) := by
    rw [firstP_succ, h2]
    cases firstP (hiB m) lo k <;> rfl
  unfold lstE
  rw [firstP_keep a _ (by omega), firstP_keep b _ (by omega)]
  rfl
theorem lst_none {lo hi : Int} {m : List Pt} {k : Nat} (h0 : firstP (loB m) lo k = none) (h1 : loB m (lo + k) = false) (hk : lo + k = hi) : lstE lo hi m = (⟨0, 0⟩, 3) := by
  have a : firstP (loB m) lo (k + 1) = none := by rw [firstP_succ, h0, h1]; rfl
  have e : (hi - lo + 1).toNat = k + 1 := by omega
  unfold lstE
  rw [e, a]

theorem cond_listed (S : Sh) (t : Tb) (w : World) (hS : S.At w) (ht : t.At w) (ok : ShipOk S) :
    Calls Tryz.prog 144 #[.agg #[.int .i64 (S).len, .slice ((S).dra).p ((S).dra).n ((S).dra).c, .slice ((S).hei).p ((S).hei).n ((S).hei).c, .slice ((S).cen).p ((S).cen).n ((S).cen).c, .slice ((S).tri).p ((S).tri).n ((S).tri).c, .slice ((S).flo).p ((S).flo).n ((S).flo).c, .slice ((S).cross).p ((S).cross).n ((S).cross).c, .slice ((S).sin).p ((S).sin).n ((S).sin).c, .slice ((S).shi).p ((S).shi).n ((S).shi).c, .int .i64 (((S).light).mass).lo, .int .i64 (((S).light).mass).hi, .int .i64 (((S).light).along).lo, .int .i64 (((S).light).along).hi, .int .i64 (((S).light).high).lo, .int .i64 (((S).light).high).hi], .agg #[.slice (t).p (t).n (t).c]] w fun e w' => e = .returned (.tuple #[.agg #[.int .i64 ((lstE (angLo S) (angHi S) t.ps).1).lo, .int .i64 ((lstE (angLo S) (angHi S) t.ps).1).hi], .int .i64 (lstE (angLo S) (angHi S) t.ps).2]) ∧ Below w.heap.size w w' := by
  have hn : S.cross.xs.length = S.cross.n := hS.cross.1
  have h12 : S.cross.n ≤ 12 := by have := ok.n.2; omega
  have hup := upr_ok (S := S) ok.sin.1 ok.shi.1 (fun j hj => (ok.cross j hj).2.1)
  have CA := Lib.hid (fun W (hb : Below w.heap.size w W) => cond_angles S W (hS.same hb) h12 hup)
  have CT := Lib.hid (fun W (hb : Below w.heap.size w W) x => cond_at t x W (ht.same hb))
  have hang := ok.ang
  have ha := aLo_in (l := uprT S) (n := 2 + S.cross.xs.length) hup _ (Nat.le_refl _)
  have hb := aHi_in (l := uprT S) (n := 2 + S.cross.xs.length) hup _ (Nat.le_refl _)
  change 0 ≤ angLo S ∧ angLo S ≤ 1000000 at ha
  change 0 ≤ angHi S ∧ angHi S ≤ 900 at hb
  obtain ⟨ha1, ha2⟩ := ha
  obtain ⟨hb1, hb2⟩ := hb
  clear hS ht ok hup hn
  generalize angLo S = lo at *
  generalize angHi S = hi at *
  obtain ⟨v0, v1, v2, v3, v4, v5, v6, v7, v8, v9, v10, v11, v12, v13, v14, HS0, E1, E2, E3, E4, E5, E6, E7, E8, E9⟩ := ship_letters S
  rw [HS0.out] at CA ⊢
  generalize hD : lstE lo hi t.ps = D at *
  have HD := Lib.hid hD
  clear hD
  generalize Value.slice t.p t.n t.c = vt at *
  generalize hps : t.ps = ps at *
  clear hps
  go_enter Tryz.func144, Tryz.ntmps144
  go_wp2_with fail
  go_step3
  go_wp2_with ((go_at_call 43; (with_reducible refine (CA.out _ (by (with_reducible repeat (first | exact blr _ | refine bla ?_ _ | refine blw _ ?_ | refine bld ?_ | refine bln _ ?_ | refine bls ?_ _ | refine blt ?_)))).mono ?_); rintro e w_ ⟨rfl, hb_⟩; obtain ⟨y1, rfl⟩ := Soft.BW.mk hb_; clear hb_))
  go_step3
  go_wp2_with fail
  have b0 : HasBlk (y1.w.alloc (.cells #[.int .i64 0, .int .i64 0] 27)) y1.w.heap.size #[.int .i64 0, .int .i64 0] 27 := Soft.heap_new _ _
  have b1 : HasBlk (y1.w.alloc (.cells #[.int .i64 0, .int .i64 0] 27)) (w.heap.size + 1 + 1) #[.int .i64 0, .int .i64 0] 27 := (by simp only [HasBlk, Soft.BW.heap_if, Soft.heap_alloc_if, Soft.heap_new, Soft.heap_new1, Soft.heap_new2, Soft.heap_new3, Soft.heap_new4, Soft.heap_new5])
  have b2 : HasBlk (y1.w.alloc (.cells #[.int .i64 0, .int .i64 0] 27)) (w.heap.size + 1) #[vt] 24 := (by simp only [HasBlk, Soft.BW.heap_if, Soft.heap_alloc_if, Soft.heap_new, Soft.heap_new1, Soft.heap_new2, Soft.heap_new3, Soft.heap_new4, Soft.heap_new5])
  have hbl : Below w.heap.size w (y1.w.alloc (.cells #[.int .i64 0, .int .i64 0] 27)) := by (with_reducible repeat (first | exact blr _ | refine bla ?_ _ | refine blw _ ?_ | refine bld ?_ | refine bln _ ?_ | refine bls ?_ _ | refine blt ?_))
  have hne : w.heap.size + 1 + 1 < y1.w.heap.size := by have := y1.below.size; simp at this; omega
  clear CA
  generalize y1.w.heap.size = B8 at *
  go_loopw [9, 10] (fun f i wr => ∃ k : Nat, f = .bool (firstP (hiB ps) lo k).isSome ∧ i = .int .i64 (lo + k) ∧ lo + k ≤ hi ∧ firstP (loB ps) lo k = none ∧ HasBlk wr B8 #[.int .i64 ((firstP (hiB ps) lo k).getD 0), .int .i64 0] 27 ∧ HasBlk wr (w.heap.size + 1 + 1) #[.int .i64 0, .int .i64 0] 27 ∧ HasBlk wr (w.heap.size + 1) #[vt] 24 ∧ Below w.heap.size w wr) (fun _ i _ => (hi + 1 - intOf i).toNat)
  case atStart => exact ⟨0, rfl, by simp, by omega, rfl, b0, b1, b2, hbl⟩
  case round =>
    obtain ⟨k, rfl, rfl, hk, hno, c0, c1, c2, hb⟩ := hrel
    clear b0 b1 b2 hbl
    have HIT := Lib.hid (fun h => (lst_hit (hi := hi) hno h hk))
    have NON := Lib.hid (fun h e => (lst_none (hi := hi) hno h e))
    have HNX := Lib.hid (show loB ps (lo + k) = false → firstP (loB ps) lo (k + 1) = none from fun h => by rw [firstP_succ, hno, h]; rfl)
    have HNH := Lib.hid (firstP_succ (hiB ps) lo k)
    have CA := Lib.hid (fun W (hW : Below wr.heap.size wr W) => CT.out W (bel_step hb hW) (lo + k))
    have HLO := Lib.hid (show loB ps (lo + k) = decide (0 ≤ (atE ps (lo + k)).1.lo) from rfl)
    have HHI := Lib.hid (show hiB ps (lo + k) = decide (0 ≤ (atE ps (lo + k)).1.hi) from rfl)
    rw [HD.out] at HIT NON
    have HB := Lib.hid hb
    have K0 := Lib.hid c0; have K1 := Lib.hid c1; have K2 := Lib.hid c2
    have q0 := c0.cell 0
    have q1 := c0.cell 1
    have z0 := c0.frozen 0
    have z1 := c0.frozen 1
    have r0 := c1.cell 0
    have r1 := c1.cell 1
    have y0 := c1.frozen 0
    have y1_ := c1.frozen 1
    have s0 := c2.cell 0
    simp at q0 q1 r0 r1 s0
    have l0 := Soft.LtH.mk (b := B8) (w := wr) c0.lt
    have l1 := Soft.LtH.mk (b := w.heap.size + 1 + 1) (w := wr) c1.lt
    have l2 := Soft.LtH.mk (b := w.heap.size + 1) (w := wr) c2.lt
    clear hno c0 c1 c2 hb
    have HGD := Lib.hid (show (firstP (hiB ps) lo k).getD (lo + k) = if (firstP (hiB ps) lo k).isSome then (firstP (hiB ps) lo k).getD 0 else lo + k from by cases firstP (hiB ps) lo k <;> rfl)
    have HNS := Lib.hid (show (firstP (hiB ps) lo (k + 1)).isSome = ((firstP (hiB ps) lo k).isSome || hiB ps (lo + k)) from by
      rw [HNH.out]; cases firstP (hiB ps) lo k <;> cases hiB ps (lo + k) <;> rfl)
    have HNG := Lib.hid (show (firstP (hiB ps) lo (k + 1)).getD 0 = (if (firstP (hiB ps) lo k).isSome then (firstP (hiB ps) lo k).getD 0 else if hiB ps (lo + k) then lo + k else 0) from by
      rw [HNH.out]; cases firstP (hiB ps) lo k <;> cases hiB ps (lo + k) <;> rfl)
    rw [HGD.out] at HIT
    clear HNH HGD
    have HNO : (firstP (hiB ps) lo k).isSome = false → (firstP (hiB ps) lo k).getD 0 = 0 := by cases firstP (hiB ps) lo k <;> simp
    have HNZ := Lib.hid HNO
    clear HNO
    generalize (atE ps (lo + k)).1 = r at *
    generalize (firstP (hiB ps) lo k).getD 0 = fo at *
    have kN : ∀ f o, (firstP (hiB ps) lo (k + 1)).isSome = f → (firstP (hiB ps) lo (k + 1)).getD 0 = o → ¬ lo + (k : Int) = hi → firstP (loB ps) lo (k + 1) = none → True := fun _ _ _ _ _ _ => trivial
    clear kN
    by_cases h0 : 0 ≤ r.lo
    · have HR := Lib.hid (HIT.out (by rw [HLO.out]; exact decide_eq_true h0))
      by_cases hf : (firstP (hiB ps) lo k).isSome = true
      · rw [if_pos hf] at HR
        clear HIT NON HNX HNS HNG HNZ
        go_wp2_with ((go_at_call 51; (with_reducible refine (CA.out _ (by (with_reducible repeat (first | exact blr _ | refine bla ?_ _ | refine blw _ ?_ | refine bld ?_ | refine bln _ ?_ | refine bls ?_ _ | refine blt ?_)))).mono ?_); rintro e w_ ⟨rfl, hb_⟩; obtain ⟨y2, rfl⟩ := Soft.BW.mk hb_; clear hb_))
        try rw [Exit.noGoto_ret]
        refine bodyPost_ret (v := .tuple #[.agg #[.int .i64 fo, .int .i64 (lo + k)], .int .i64 0]) (by simp [results, Tryz.results144, go_sem, r0, r1, y0, y1_, q0, q1, z0, z1]) rfl ?_
        refine ⟨by rw [HR.out], ?_⟩
        have hb := HB.out
        (with_reducible repeat (first | exact blr _ | refine bla ?_ _ | refine blw _ ?_ | refine bld ?_ | refine bln _ ?_ | refine bls ?_ _ | refine blt ?_))
      · rw [if_neg hf] at HR
        clear HIT NON HNX HNS HNG HNZ
        have hf : (firstP (hiB ps) lo k).isSome = false := by rw [← Bool.not_eq_true]; exact hf
        go_wp2_with ((go_at_call 51; (with_reducible refine (CA.out _ (by (with_reducible repeat (first | exact blr _ | refine bla ?_ _ | refine blw _ ?_ | refine bld ?_ | refine bln _ ?_ | refine bls ?_ _ | refine blt ?_)))).mono ?_); rintro e w_ ⟨rfl, hb_⟩; obtain ⟨y2, rfl⟩ := Soft.BW.mk hb_; clear hb_))
        try rw [Exit.noGoto_ret]
        refine bodyPost_ret (v := .tuple #[.agg #[.int .i64 (lo + k), .int .i64 (lo + k)], .int .i64 0]) (by simp [results, Tryz.results144, go_sem, r0, r1, y0, y1_, q0, q1, z0, z1]) rfl ?_
        refine ⟨by rw [HR.out], ?_⟩
        have hb := HB.out
        (with_reducible repeat (first | exact blr _ | refine bla ?_ _ | refine blw _ ?_ | refine bld ?_ | refine bln _ ?_ | refine bls ?_ _ | refine blt ?_))
    · have hlf : loB ps (lo + k) = false := by rw [HLO.out]; exact decide_eq_false h0
      have HR := Lib.hid (NON.out hlf)
      have HN1 := Lib.hid (HNX.out hlf)
      clear HIT NON HNX hlf
      by_cases hx : lo + (k : Int) = hi
      · have HR := Lib.hid (HR.out hx)
        have dx : (lo + (k : Int) == hi) = true := by rw [hx]; simp
        clear HN1 hx HNS HNG HNZ
        by_cases h1 : 0 ≤ r.hi
        · by_cases hf : (firstP (hiB ps) lo k).isSome = true
          · go_wp2_with ((go_at_call 51; (with_reducible refine (CA.out _ (by (with_reducible repeat (first | exact blr _ | refine bla ?_ _ | refine blw _ ?_ | refine bld ?_ | refine bln _ ?_ | refine bls ?_ _ | refine blt ?_)))).mono ?_); rintro e w_ ⟨rfl, hb_⟩; obtain ⟨y2, rfl⟩ := Soft.BW.mk hb_; clear hb_))
            try rw [Exit.noGoto_ret]
            refine bodyPost_ret (v := .tuple #[.agg #[.int .i64 0, .int .i64 0], .int .i64 3]) (by simp [results, Tryz.results144, go_sem, r0, r1, y0, y1_, q0, q1, z0, z1]) rfl ?_
            refine ⟨by rw [HR.out], ?_⟩
            have hb := HB.out
            (with_reducible repeat (first | exact blr _ | refine bla ?_ _ | refine blw _ ?_ | refine bld ?_ | refine bln _ ?_ | refine bls ?_ _ | refine blt ?_))
          · have hf : (firstP (hiB ps) lo k).isSome = false := by rw [← Bool.not_eq_true]; exact hf
            go_wp2_with ((go_at_call 51; (with_reducible refine (CA.out _ (by (with_reducible repeat (first | exact blr _ | refine bla ?_ _ | refine blw _ ?_ | refine bld ?_ | refine bln _ ?_ | refine bls ?_ _ | refine blt ?_)))).mono ?_); rintro e w_ ⟨rfl, hb_⟩; obtain ⟨y2, rfl⟩ := Soft.BW.mk hb_; clear hb_))
            try rw [Exit.noGoto_ret]
            refine bodyPost_ret (v := .tuple #[.agg #[.int .i64 0, .int .i64 0], .int .i64 3]) (by simp [results, Tryz.results144, go_sem, r0, r1, y0, y1_, q0, q1, z0, z1]) rfl ?_
            refine ⟨by rw [HR.out], ?_⟩
            have hb := HB.out
            (with_reducible repeat (first | exact blr _ | refine bla ?_ _ | refine blw _ ?_ | refine bld ?_ | refine bln _ ?_ | refine bls ?_ _ | refine blt ?_))
        · go_wp2_with ((go_at_call 51; (with_reducible refine (CA.out _ (by (with_reducible repeat (first | exact blr _ | refine bla ?_ _ | refine blw _ ?_ | refine bld ?_ | refine bln _ ?_ | refine bls ?_ _ | refine blt ?_)))).mono ?_); rintro e w_ ⟨rfl, hb_⟩; obtain ⟨y2, rfl⟩ := Soft.BW.mk hb_; clear hb_))
          try rw [Exit.noGoto_ret]
          refine bodyPost_ret (v := .tuple #[.agg #[.int .i64 0, .int .i64 0], .int .i64 3]) (by simp [results, Tryz.results144, go_sem, r0, r1, y0, y1_, q0, q1, z0, z1]) rfl ?_
          refine ⟨by rw [HR.out], ?_⟩
          have hb := HB.out
          (with_reducible repeat (first | exact blr _ | refine bla ?_ _ | refine blw _ ?_ | refine bld ?_ | refine bln _ ?_ | refine bls ?_ _ | refine blt ?_))
      · have dx : (lo + (k : Int) == hi) = false := beq_eq_false_iff_ne.2 hx
        clear HR
        by_cases h1 : 0 ≤ r.hi
        · have hhf : hiB ps (lo + k) = true := by rw [HHI.out]; exact decide_eq_true h1
          rw [hhf] at HNS HNG
          clear hhf
          by_cases hf : (firstP (hiB ps) lo k).isSome = true
          · rw [hf] at HNS HNG
            go_wp2_with ((go_at_call 51; (with_reducible refine (CA.out _ (by (with_reducible repeat (first | exact blr _ | refine bla ?_ _ | refine blw _ ?_ | refine bld ?_ | refine bln _ ?_ | refine bls ?_ _ | refine blt ?_)))).mono ?_); rintro e w_ ⟨rfl, hb_⟩; obtain ⟨y2, rfl⟩ := Soft.BW.mk hb_; clear hb_))
            go_roundw
            case rel =>
              have hW : Below wr.heap.size wr (y2.w.alloc (.cells #[.int .i64 r.lo, .int .i64 r.hi] 27)) := by (with_reducible repeat (first | exact blr _ | refine bla ?_ _ | refine blw _ ?_ | refine bld ?_ | refine bln _ ?_ | refine bls ?_ _ | refine blt ?_))
              have hg : (firstP (hiB ps) lo (k + 1)).getD 0 = fo := by rw [HNG.out]; simp
              refine ⟨k + 1, by rw [HNS.out]; rfl, by congr 1; omega, by omega, HN1.out, ?_, K1.out.below hW, K2.out.below hW, bel_step HB.out hW⟩
              rw [hg]
              exact K0.out.below hW
            case measure => simp [intOf]; omega
          · have hf : (firstP (hiB ps) lo k).isSome = false := by rw [← Bool.not_eq_true]; exact hf
            rw [hf] at HNS HNG
            go_wp2_with ((go_at_call 51; (with_reducible refine (CA.out _ (by (with_reducible repeat (first | exact blr _ | refine bla ?_ _ | refine blw _ ?_ | refine bld ?_ | refine bln _ ?_ | refine bls ?_ _ | refine blt ?_)))).mono ?_); rintro e w_ ⟨rfl, hb_⟩; obtain ⟨y2, rfl⟩ := Soft.BW.mk hb_; clear hb_))
            go_roundw
            case rel =>
              have hW : Below wr.heap.size wr (y2.w.alloc (.cells #[.int .i64 r.lo, .int .i64 r.hi] 27)) := by (with_reducible repeat (first | exact blr _ | refine bla ?_ _ | refine blw _ ?_ | refine bld ?_ | refine bln _ ?_ | refine bls ?_ _ | refine blt ?_))
              have hg : (firstP (hiB ps) lo (k + 1)).getD 0 = lo + k := by rw [HNG.out]; simp
              refine ⟨k + 1, by rw [HNS.out]; rfl, by congr 1; omega, by omega, HN1.out, ?_, (K1.out.below hW).set_other (by dsimp only; omega) _, (K2.out.below hW).set_other (by dsimp only; omega) _, (bel_step HB.out hW).setCell (p := ⟨B8, 0, none⟩) (by dsimp only; omega) _⟩
              rw [hg]
              exact (K0.out.below hW).put 0 _
            case measure => simp [intOf]; omega
        · have hhf : hiB ps (lo + k) = false := by rw [HHI.out]; exact decide_eq_false h1
          rw [hhf] at HNS HNG
          clear hhf
          go_wp2_with ((go_at_call 51; (with_reducible refine (CA.out _ (by (with_reducible repeat (first | exact blr _ | refine bla ?_ _ | refine blw _ ?_ | refine bld ?_ | refine bln _ ?_ | refine bls ?_ _ | refine blt ?_)))).mono ?_); rintro e w_ ⟨rfl, hb_⟩; obtain ⟨y2, rfl⟩ := Soft.BW.mk hb_; clear hb_))
          go_roundw
          case rel =>
            have hW : Below wr.heap.size wr (y2.w.alloc (.cells #[.int .i64 r.lo, .int .i64 r.hi] 27)) := by (with_reducible repeat (first | exact blr _ | refine bla ?_ _ | refine blw _ ?_ | refine bld ?_ | refine bln _ ?_ | refine bls ?_ _ | refine blt ?_))
            have hg : (firstP (hiB ps) lo (k + 1)).getD 0 = fo := by
              rw [HNG.out]
              split
              · rfl
              · rename_i h
                exact (HNZ.out (by rw [← Bool.not_eq_true]; exact h)).symm
            refine ⟨k + 1, by rw [HNS.out, Bool.or_false], by congr 1; omega, by omega, HN1.out, ?_, K1.out.below hW, K2.out.below hW, bel_step HB.out hW⟩
            rw [hg]
            exact K0.out.below hW
          case measure => simp [intOf]; omega

end Go.Proofs.YteagdcgmmdiakaaGreat

namespace Go.Proofs.YteagdcgmmdiakaaGreat
set_option linter.unusedSimpArgs false
set_option linter.unusedVariables false
open Go.RowKit

theorem wrap64_id {n : Int} (h : -9223372036854775808 ≤ n ∧ n ≤ 9223372036854775807) : wrap64 n = n := by unfold wrap64; omega

/-- The same without wrapping. -/
def smAddX (s : Sm) (n d : Int) : Sm := if 0 < n - n / d * d then ⟨s.whole + n / d, s.num * d + (n - n / d * d) * s.den, s.den * d⟩ else ⟨s.whole + n / d, s.num, s.den⟩
def twNX (sel : Pt → Int) (p : Pt × Pt) (fr to : Int) : Sm → Sm := fun s =>
  smAddX ⟨s.whole + (2 * sel p.1 * (to - fr) + (sel p.2 - sel p.1) / (p.2.x - p.1.x) * ((to - fr) * (fr + to - 2 * p.1.x))), s.num, s.den⟩ (((sel p.2 - sel p.1) - (sel p.2 - sel p.1) / (p.2.x - p.1.x) * (p.2.x - p.1.x)) * ((to - fr) * (fr + to - 2 * p.1.x))) (p.2.x - p.1.x)
def twStepX (sel : Pt → Int) (a b : Int) (s : Sm) (p : Pt × Pt) : Sm :=
  if min p.2.x b ≤ max p.1.x a then s else twNX sel p (max p.1.x a) (min p.2.x b) s
def twX (sel : Pt → Int) (a b : Int) (l : List (Pt × Pt)) : Sm := l.foldl (twStepX sel a b) ⟨0, 0, 1⟩
theorem twX_snoc (sel : Pt → Int) (a b : Int) (l : List (Pt × Pt)) (p : Pt × Pt) : twX sel a b (l ++ [p]) = twStepX sel a b (twX sel a b l) p := by simp [twX]

/-- How great the sum is behind pieces up to the place x. -/
structure SmInv (a b x : Int) (k : Int) (s : Sm) : Prop where
  w1 : -(k * 8000000000000000) ≤ s.whole
  w2 : s.whole ≤ k * 8000000000000000
  d1 : 1 ≤ s.den
  n0 : 0 ≤ s.num
  i0 : x ≤ a → x ≤ b → s.den ≤ 1 ∧ s.num ≤ 0
  i1 : x ≤ a ∨ x ≤ b → s.den ≤ 1000000 ∧ s.num ≤ s.den
  i2 : s.den ≤ 1000000000000 ∧ s.num ≤ 2 * s.den

theorem twStep_step {sel : Pt → Int} (hb : ∀ p : Pt, -1000000000 ≤ p.lo → p.lo ≤ p.hi → p.hi ≤ 1000000000 → -1000000000 ≤ sel p ∧ sel p ≤ 1000000000) {a b : Int} {p q : Pt} (h : PieceOk p q) {k : Int} (hk : 0 ≤ k ∧ k ≤ 40) {s : Sm} (hs : SmInv a b p.x k s) :
    twStep sel a b s (p, q) = twStepX sel a b s (p, q) ∧ SmInv a b q.x (k + 1) (twStepX sel a b s (p, q)) := by
  obtain ⟨o1, o2, o3, o4, o5, o6, o7, o8, o9⟩ := h
  obtain ⟨w1, w2, d1, n0, i0, i1, i2⟩ := hs
  unfold twStep twStepX
  dsimp only
  have q1 : p.x ≤ max p.x a := by omega
  have q2 : min q.x b ≤ q.x := by omega
  have q3 : a ≤ max p.x a := by omega
  have q4 : min q.x b ≤ b := by omega
  by_cases hsk : min q.x b ≤ max p.x a
  · rw [if_pos hsk, if_pos hsk]
    exact ⟨rfl, by omega, by omega, d1, n0, fun x y => i0 (by omega) (by omega), fun x => i1 (by omega), i2⟩
  · rw [if_neg hsk, if_neg hsk]
    have q5 : max p.x a ≠ p.x → max p.x a = a := by omega
    have q6 : min q.x b ≠ q.x → min q.x b = b := by omega
    generalize hfr : max p.x a = fr at *
    generalize hto : min q.x b = to at *
    have y12 := hb p o4 o5 o6
    have z12 := hb q o7 o8 o9
    unfold twN twNX
    dsimp only
    generalize sel p = y at *
    generalize sel q = z at *
    have full : fr = p.x → to = q.x → ∀ r : Int, r * ((to - fr) * (fr + to - 2 * p.x)) - r * ((to - fr) * (fr + to - 2 * p.x)) / (q.x - p.x) * (q.x - p.x) = 0 := fun e1 e2 r => by
      rw [e1, e2, show p.x + q.x - 2 * p.x = q.x - p.x by omega, ← Int.mul_assoc, Int.mul_ediv_cancel _ (show q.x - p.x ≠ 0 by omega)]
      omega
    obtain ⟨⟨k1, k2⟩, ⟨t1, t2⟩, ⟨v1, v2⟩, ⟨u1, u2⟩, ⟨g1, g2⟩, r1, r2⟩ := tw_bounds o1 o2 o3 y12 z12 q1 (by omega) q2
    generalize hK : (to - fr) * (fr + to - 2 * p.x) = K at *
    generalize 2 * y * (to - fr) = yt at *
    generalize (z - y) / (q.x - p.x) * K = qk at *
    have full := full
    generalize hrr : (z - y - (z - y) / (q.x - p.x) * (q.x - p.x)) = r at *
    generalize hd : q.x - p.x = d at *
    have hd1 : 1 ≤ d ∧ d ≤ 1000000 := by omega
    have e1 : wrap64 (s.whole + (yt + qk)) = s.whole + (yt + qk) := wrap64_id (by omega)
    have hfull := full
    have m0 := Int.emod_nonneg (r * K) (show d ≠ 0 by omega)
    have m1 := Int.emod_lt_of_pos (r * K) (show 0 < d by omega)
    have m2 := Int.mul_ediv_add_emod (r * K) d
    rw [Int.mul_comm] at m2
    have m3 : 0 ≤ r * K / d := Int.ediv_nonneg r1 (by omega)
    have m4 : r * K / d ≤ 1000000000000 := by
      have a1 : r * K ≤ d * K := Int.mul_le_mul_of_nonneg_right (by omega) k1
      have a2 := Int.ediv_le_ediv (show 0 < d by omega) a1
      rw [Int.mul_ediv_cancel_left _ (show d ≠ 0 by omega)] at a2
      omega
    have hrest := hfull
    unfold smAdd smAddX
    dsimp only
    rw [e1]
    have e2 : wrap64 (s.whole + (yt + qk) + r * K / d) = s.whole + (yt + qk) + r * K / d := wrap64_id (by omega)
    rw [e2]
    by_cases hr : 0 < r * K - r * K / d * d
    · rw [if_pos hr, if_pos hr]
      have notfull : ¬(fr = p.x ∧ to = q.x) := fun ⟨e1, e2⟩ => by have := hfull e1 e2 r; omega
      generalize hm : r * K - r * K / d * d = m at *
      have hmd : m ≤ d := by omega
      -- the bounds behind the step
      have p1 : s.num * d ≤ 2000000000000 * 1000000 := Int.mul_le_mul (by omega) (by omega) (by omega) (by omega)
      have p2 : 0 ≤ s.num * d := Int.mul_nonneg n0 (by omega)
      have p3 : m * s.den ≤ 1000000 * 1000000000000 := Int.mul_le_mul (by omega) (by omega) (by omega) (by omega)
      have p4 : 0 ≤ m * s.den := Int.mul_nonneg (by omega) (by omega)
      have p5 : s.den * d ≤ 1000000000000 * 1000000 := Int.mul_le_mul (by omega) (by omega) (by omega) (by omega)
      have p6 : 1 * 1 ≤ s.den * d := Int.mul_le_mul d1 hd1.1 (by omega) (by omega)
      have p7 : m * s.den ≤ d * s.den := Int.mul_le_mul_of_nonneg_right hmd (by omega)
      rw [Int.mul_comm d] at p7
      refine ⟨by rw [wrap64_id (n := s.num * d) (by omega), wrap64_id (n := m * s.den) (by omega), wrap64_id (n := s.den * d) (by omega), wrap64_id (by omega)], ?_⟩
      by_cases ha : p.x ≤ a
      · obtain ⟨j1, j2⟩ := i0 ha (by omega)
        have b1 : s.den * d ≤ 1 * 1000000 := Int.mul_le_mul j1 (by omega) (by omega) (by omega)
        have b2 : s.num * d ≤ 0 * d := Int.mul_le_mul_of_nonneg_right j2 (by omega)
        exact ⟨by dsimp only; omega, by dsimp only; omega, by dsimp only; omega, by dsimp only; omega, fun x y => by omega, fun _ => ⟨by dsimp only; omega, by dsimp only; omega⟩, by dsimp only; omega, by dsimp only; omega⟩
      · obtain ⟨j1, j2⟩ := i1 (.inr (by omega))
        have b1 : s.den * d ≤ 1000000 * 1000000 := Int.mul_le_mul j1 (by omega) (by omega) (by omega)
        have b2 : s.num * d ≤ s.den * d := Int.mul_le_mul_of_nonneg_right j2 (by omega)
        have hbx : b < q.x := by omega
        exact ⟨by dsimp only; omega, by dsimp only; omega, by dsimp only; omega, by dsimp only; omega, fun x y => by omega, fun x => by omega, by dsimp only; omega, by dsimp only; omega⟩
    · rw [if_neg hr, if_neg hr]
      exact ⟨rfl, by dsimp only; omega, by dsimp only; omega, d1, n0, fun x y => i0 (by omega) (by omega), fun x => i1 (by omega), i2⟩

/-- All pieces of a valid table. -/
theorem twX_all {sel : Pt → Int} (hb : ∀ p : Pt, -1000000000 ≤ p.lo → p.lo ≤ p.hi → p.hi ≤ 1000000000 → -1000000000 ≤ sel p ∧ sel p ≤ 1000000000) (a b : Int) {ps : List Pt} (h : TabOk ps) (h2 : 2 ≤ ps.length) : ∀ k : Nat, k + 1 ≤ ps.length →
    twS sel a b (upto (fun j => (pt ps j, pt ps (j + 1))) k) = twX sel a b (upto (fun j => (pt ps j, pt ps (j + 1))) k) ∧ SmInv a b (pt ps k).x k (twX sel a b (upto (fun j => (pt ps j, pt ps (j + 1))) k))
  | 0, _ => ⟨rfl, by show -(((0 : Nat) : Int) * 8000000000000000) ≤ 0; omega, by show (0 : Int) ≤ ((0 : Nat) : Int) * 8000000000000000; omega, Int.le_refl _, Int.le_refl _, fun _ _ => ⟨Int.le_refl _, Int.le_refl _⟩, fun _ => ⟨by show (1 : Int) ≤ 1000000; decide, by show (0 : Int) ≤ 1; decide⟩, by show (1 : Int) ≤ 1000000000000; decide, by show (0 : Int) ≤ 2 * 1; decide⟩
  | k + 1, hk => by
    obtain ⟨e, hi⟩ := twX_all hb a b h h2 k (by omega)
    have hle := h.le
    have hp := h.piece (k := k) (by omega)
    obtain ⟨e2, hi2⟩ := twStep_step hb hp (a := a) (b := b) (k := (k : Int)) (by omega) hi
    rw [upto_succ, twS_snoc, twX_snoc, e, e2]
    refine ⟨rfl, ?_⟩
    have : ((k + 1 : Nat) : Int) = (k : Int) + 1 := by omega
    rw [this]
    exact hi2

/-- Twice the area of a line of a table. -/
def areaX (sel : Pt → Int) (ps : List Pt) (a b : Int) : Sm := if ps.length = 1 then ⟨0, 0, 1⟩ else twX sel a b (upto (fun j => (pt ps j, pt ps (j + 1))) (ps.length - 1))
theorem pcs_map {ps : List Pt} (h : TabOk ps) (h2 : 2 ≤ ps.length) : (upto (pcOf ps) (nPieces ps)).map (·.1) = upto (fun j => (pt ps j, pt ps (j + 1))) (ps.length - 1) := by
  have hn : nPieces ps = ps.length - 1 := if_neg (by omega)
  unfold upto
  rw [List.map_map, hn]
  refine List.map_congr_left fun j hj => ?_
  have hj' : j < nPieces ps := by rw [hn]; exact List.mem_range.1 hj
  show (pcOf ps j).1 = _
  rw [pcOf_val h hj']
  exact if_neg (by omega)
theorem area_all {sel : Pt → Int} (hb : ∀ p : Pt, -1000000000 ≤ p.lo → p.lo ≤ p.hi → p.hi ≤ 1000000000 → -1000000000 ≤ sel p ∧ sel p ≤ 1000000000) {a b : Int} {ps : List Pt} (h : TabOk ps) : 
    twS sel a b ((upto (pcOf ps) (nPieces ps)).map (·.1)) = areaX sel ps a b ∧ (-400000000000000000 ≤ (areaX sel ps a b).whole ∧ (areaX sel ps a b).whole ≤ 400000000000000000) ∧ (1 ≤ (areaX sel ps a b).den ∧ (areaX sel ps a b).den ≤ 1000000000000) ∧ 0 ≤ (areaX sel ps a b).num ∧ (areaX sel ps a b).num ≤ 2 * (areaX sel ps a b).den := by
  by_cases h1 : ps.length = 1
  · have hn : nPieces ps = 1 := if_pos h1
    have e : (upto (pcOf ps) (nPieces ps)).map (·.1) = [(pt ps 0, pt ps 0)] := by
      rw [hn]
      show [(pcOf ps 0).1] = _
      rw [pcOf_val h (by omega)]
      unfold pieceAt
      rw [if_pos h1]
    have e2 : areaX sel ps a b = ⟨0, 0, 1⟩ := if_pos h1
    rw [e, e2]
    refine ⟨?_, by decide⟩
    show twStep sel a b ⟨0, 0, 1⟩ (pt ps 0, pt ps 0) = _
    unfold twStep
    rw [if_pos (by dsimp only; omega)]
  · have hp := h.pos
    have h2 : 2 ≤ ps.length := by omega
    have e2 : areaX sel ps a b = twX sel a b (upto (fun j => (pt ps j, pt ps (j + 1))) (ps.length - 1)) := if_neg h1
    obtain ⟨e, w1, w2, d1, n0, i0, i1, i2⟩ := twX_all hb a b h h2 (ps.length - 1) (by omega)
    have hle := h.le
    rw [pcs_map h h2, e2, e]
    exact ⟨rfl, ⟨by omega, by omega⟩, ⟨d1, i2.1⟩, n0, i2.2⟩

end Go.Proofs.YteagdcgmmdiakaaGreat

namespace Go.Proofs.YteagdcgmmdiakaaGreat
set_option linter.unusedSimpArgs false
set_option linter.unusedVariables false
open Go.RowKit Go.Shelf
set_option maxRecDepth 100000
set_option maxHeartbeats 4000000
attribute [local go_sem] Instr.field asAgg Soft.upon Soft.upon0 Soft.stepC Soft.BW.cell_if Soft.BW.frozen_if Soft.cell_alloc_if Soft.frozen_alloc_if
attribute [local irreducible] Soft.wpSoft Soft.wpMix

theorem cf_enter2 {P : Program} {f : FuncId} {fn : Func} {c : Code} (hf : P.funcs[f]? = some fn) (hname : (fn.name == "runtime.NumGoroutine") = false) (hb : fn.body = some c) (args : Array Value) (w : World) :
    Sem.run P (callFunc f args) w = .ok (.enter f args) w := by
  have h1 : fn.name ≠ "runtime.NumGoroutine" := by simpa using hname
  simp [callFunc, hf, h1, hb]
theorem area_fn1 : LineFn 56 Pt.lo where
  enter := cf_enter2 Tryz.func56 (by kernel_rfl) rfl
  call := fun p W => by
    go_enter Tryz.func56, Tryz.ntmps56
    go_wp2
    go_ret
    refine ⟨rfl, ?_⟩
    (with_reducible repeat (first | exact blr _ | refine bla ?_ _ | refine blw _ ?_ | refine bld ?_ | refine bln _ ?_ | refine bls ?_ _ | refine blt ?_))
  bd := fun p h1 h2 h3 => ⟨by omega, by omega⟩
theorem area_fn2 : LineFn 57 Pt.hi where
  enter := cf_enter2 Tryz.func57 (by kernel_rfl) rfl
  call := fun p W => by
    go_enter Tryz.func57, Tryz.ntmps57
    go_wp2
    go_ret
    refine ⟨rfl, ?_⟩
    (with_reducible repeat (first | exact blr _ | refine bla ?_ _ | refine blw _ ?_ | refine bld ?_ | refine bln _ ?_ | refine bls ?_ _ | refine blt ?_))
  bd := fun p h1 h2 h3 => ⟨by omega, by omega⟩

def areaLo (ps : List Pt) (a b : Int) : Int := (areaX Pt.lo ps a b).whole + (areaX Pt.lo ps a b).num / (areaX Pt.lo ps a b).den
def areaHi (ps : List Pt) (a b : Int) : Int := (areaX Pt.hi ps a b).whole + -(-(areaX Pt.hi ps a b).num / (areaX Pt.hi ps a b).den)
/-- What Area hands back. -/
def areaE (ps : List Pt) (a b : Int) : (Int × Int) × Int :=
  if TabOk ps then if a ≤ b ∧ firstX ps ≤ a ∧ b ≤ lastX ps then ((areaLo ps a b, areaHi ps a b), 0) else ((0, 0), 4) else ((0, 0), 11)

theorem fix_Area (t : Tb) (a b : Int) (w : World) (ht : t.At w) :
    Calls Tryz.prog 19 #[.agg #[.slice (t).p (t).n (t).c], .int .i64 a, .int .i64 b] w fun e w' => e = .returned (.tuple #[.int .i64 (areaE t.ps a b).1.1, .int .i64 (areaE t.ps a b).1.2, .int .i64 (areaE t.ps a b).2]) ∧ Below w.heap.size w w' := by
  have HT := Lib.hid ht
  by_cases hok : TabOk t.ps
  · have hte : tabErr t.ps = 0 := if_pos hok
    have hn : 1 ≤ t.n := by rw [← ht.1]; exact hok.pos
    by_cases hab : a ≤ b
    · have CI := Lib.hid (fun W hW v hv => fix_isIn t ⟨a, b⟩ W hW hn v hv)
      by_cases hin : firstX t.ps ≤ a ∧ b ≤ lastX t.ps
      · have E : areaE t.ps a b = ((areaLo t.ps a b, areaHi t.ps a b), 0) := by unfold areaE; rw [if_pos hok, if_pos ⟨hab, hin⟩]
        have HIN := Lib.hid (show true = decide ((pt t.ps 0).x ≤ a ∧ b ≤ (pt t.ps (t.n - 1)).x) by rw [eq_comm, decide_eq_true_eq, isIn_len ht]; exact hin)
        have C1 := Lib.hid (fun W hW => fix_twice t a b _ _ area_fn1 W hW hok)
        have C2 := Lib.hid (fun W hW => fix_twice t a b _ _ area_fn2 W hW hok)
        obtain ⟨e1, ⟨a1, a2⟩, ⟨a3, a4⟩, a5, a6⟩ := area_all area_fn1.bd (a := a) (b := b) hok
        obtain ⟨e2, ⟨b1, b2⟩, ⟨b3, b4⟩, b5, b6⟩ := area_all area_fn2.bd (a := a) (b := b) hok
        rw [e1] at C1
        rw [e2] at C2
        have hv1 : areaLo t.ps a b = (areaX Pt.lo t.ps a b).whole + (areaX Pt.lo t.ps a b).num / (areaX Pt.lo t.ps a b).den := rfl
        have hv2 : areaHi t.ps a b = (areaX Pt.hi t.ps a b).whole + -(-(areaX Pt.hi t.ps a b).num / (areaX Pt.hi t.ps a b).den) := rfl
        rw [E]
        dsimp only
        rw [hv1, hv2]
        clear E hv1 hv2 e1 e2 hin ht hok hn
        generalize areaX Pt.lo t.ps a b = s at *
        generalize areaX Pt.hi t.ps a b = m at *
        obtain ⟨sw, sn, sd⟩ := s
        obtain ⟨mw, mn, md⟩ := m
        unfold smC at C1 C2
        dsimp only at *
        have CD := Lib.hid (fun W => fix_down sn sd W (by omega) (by omega) a3)
        have CU := Lib.hid (fun W => fix_up mn md W (by omega) (by omega) b3)
        have n1 := Int.ediv_nonneg a5 (show 0 ≤ sd by omega)
        have n2 : sn / sd ≤ sn := Int.ediv_le_self _ a5
        have n3 : -(-mn / md) ≤ 2 ∧ 0 ≤ -(-mn / md) := by
          have k1 := Int.ediv_le_ediv (show 0 < md by omega) (show md * (-2) ≤ -mn by omega)
          rw [Int.mul_ediv_cancel_left _ (show md ≠ 0 by omega)] at k1
          have k2 := Int.ediv_le_ediv (show 0 < md by omega) (show -mn ≤ 0 by omega)
          rw [Int.zero_ediv] at k2
          omega
        obtain ⟨n31, n32⟩ := n3
        generalize sn / sd = q1 at *
        generalize -(-mn / md) = q2 at *
        go_enter Tryz.func19, Tryz.ntmps19
        go_wp2_with (first | (go_at_call 52; (with_reducible refine (fix_CheckTable t _ (HT.out.same (by (with_reducible repeat (first | exact blr _ | refine bla ?_ _ | refine blw _ ?_ | refine bld ?_ | refine bln _ ?_ | refine bls ?_ _ | refine blt ?_))))).mono ?_); rintro e w_ ⟨rfl, hb_⟩; obtain ⟨y1, rfl⟩ := Soft.BW.mk hb_; clear hb_) | (go_at_call 53; (with_reducible refine (CI.out _ (HT.out.same (by (with_reducible repeat (first | exact blr _ | refine bla ?_ _ | refine blw _ ?_ | refine bld ?_ | refine bln _ ?_ | refine bls ?_ _ | refine blt ?_)))) true HIN.out).mono ?_); rintro e w_ ⟨rfl, hb_⟩; obtain ⟨y2, rfl⟩ := Soft.BW.mk hb_; clear hb_) | (go_at_call 55; first | ((with_reducible refine (C1.out _ (HT.out.same (by (with_reducible repeat (first | exact blr _ | refine bla ?_ _ | refine blw _ ?_ | refine bld ?_ | refine bln _ ?_ | refine bls ?_ _ | refine blt ?_))))).mono ?_); rintro e w_ ⟨rfl, hb_⟩; obtain ⟨y3, rfl⟩ := Soft.BW.mk hb_; clear hb_) | ((with_reducible refine (C2.out _ (HT.out.same (by (with_reducible repeat (first | exact blr _ | refine bla ?_ _ | refine blw _ ?_ | refine bld ?_ | refine bln _ ?_ | refine bls ?_ _ | refine blt ?_))))).mono ?_); rintro e w_ ⟨rfl, hb_⟩; obtain ⟨y4, rfl⟩ := Soft.BW.mk hb_; clear hb_)))
        (refine Soft.region0 [0, 1, 2, 3, 4, 5, 6, 7, 8, 9, 10, 11, 12, 13, 14, 15, 16, 17, 18] [] (by kernel_rfl) (by kernel_rfl) (by kernel_rfl) (by kernel_rfl) ?_; change Soft.wpSoft _ _ _ _ _ [_, _, _, _, _, _, _, _, _, _, _, _, _, _, _, _, _, _, _] _; (repeat (refine Soft.soft_step (fun K hK => ?_); go_simp; (try go_bits); first | (refine hK _ ?_; clear hK K) | (apply Exists.intro; refine ⟨fun x => ?_, hK _ ?_⟩; (first | (go_at_call 58; exact Calls.bel (CD.out _)) | (go_at_call 59; exact Calls.bel (CU.out _))); clear hK K))); refine Soft.soft_nil ?_; intro xw; change wpList _ _ _ [] _ _)
        go_wp2_with fail
        refine bodyPost_ret (v := .tuple #[.int .i64 (sw + q1), .int .i64 (mw + q2), .int .i64 0]) (by simp [results, Tryz.results19, go_sem]) rfl ?_
        refine ⟨rfl, ?_⟩
        (with_reducible repeat (first | exact blr _ | refine bla ?_ _ | refine blw _ ?_ | refine bld ?_ | refine bln _ ?_ | refine bls ?_ _ | refine blt ?_))
      · have E : areaE t.ps a b = ((0, 0), 4) := by unfold areaE; rw [if_pos hok, if_neg (fun h => hin h.2)]
        have HIN := Lib.hid (show false = decide ((pt t.ps 0).x ≤ a ∧ b ≤ (pt t.ps (t.n - 1)).x) by rw [eq_comm, decide_eq_false_iff_not, isIn_len ht]; exact hin)
        rw [E]
        clear E hin ht hok hn
        go_enter Tryz.func19, Tryz.ntmps19
        go_wp2_with (first | (go_at_call 52; (with_reducible refine (fix_CheckTable t _ (HT.out.same (by (with_reducible repeat (first | exact blr _ | refine bla ?_ _ | refine blw _ ?_ | refine bld ?_ | refine bln _ ?_ | refine bls ?_ _ | refine blt ?_))))).mono ?_); rintro e w_ ⟨rfl, hb_⟩; obtain ⟨y1, rfl⟩ := Soft.BW.mk hb_; clear hb_) | (go_at_call 53; (with_reducible refine (CI.out _ (HT.out.same (by (with_reducible repeat (first | exact blr _ | refine bla ?_ _ | refine blw _ ?_ | refine bld ?_ | refine bln _ ?_ | refine bls ?_ _ | refine blt ?_)))) false HIN.out).mono ?_); rintro e w_ ⟨rfl, hb_⟩; obtain ⟨y2, rfl⟩ := Soft.BW.mk hb_; clear hb_))
        refine bodyPost_ret (v := .tuple #[.int .i64 0, .int .i64 0, .int .i64 4]) (by simp [results, Tryz.results19, go_sem]) rfl ?_
        refine ⟨rfl, ?_⟩
        (with_reducible repeat (first | exact blr _ | refine bla ?_ _ | refine blw _ ?_ | refine bld ?_ | refine bln _ ?_ | refine bls ?_ _ | refine blt ?_))
    · have E : areaE t.ps a b = ((0, 0), 4) := by unfold areaE; rw [if_pos hok, if_neg (fun h => hab h.1)]
      rw [E]
      have hab' : b < a := by omega
      clear E ht hok hn hab
      go_enter Tryz.func19, Tryz.ntmps19
      go_wp2_with (first | (go_at_call 52; (with_reducible refine (fix_CheckTable t _ (HT.out.same (by (with_reducible repeat (first | exact blr _ | refine bla ?_ _ | refine blw _ ?_ | refine bld ?_ | refine bln _ ?_ | refine bls ?_ _ | refine blt ?_))))).mono ?_); rintro e w_ ⟨rfl, hb_⟩; obtain ⟨y1, rfl⟩ := Soft.BW.mk hb_; clear hb_))
      refine bodyPost_ret (v := .tuple #[.int .i64 0, .int .i64 0, .int .i64 4]) (by simp [results, Tryz.results19, go_sem]) rfl ?_
      refine ⟨rfl, ?_⟩
      (with_reducible repeat (first | exact blr _ | refine bla ?_ _ | refine blw _ ?_ | refine bld ?_ | refine bln _ ?_ | refine bls ?_ _ | refine blt ?_))
  · have hte : tabErr t.ps = 11 := if_neg hok
    have E : areaE t.ps a b = ((0, 0), 11) := by unfold areaE; rw [if_neg hok]
    rw [E]
    clear E ht hok
    go_enter Tryz.func19, Tryz.ntmps19
    go_wp2_with (first | (go_at_call 52; (with_reducible refine (fix_CheckTable t _ (HT.out.same (by (with_reducible repeat (first | exact blr _ | refine bla ?_ _ | refine blw _ ?_ | refine bld ?_ | refine bln _ ?_ | refine bls ?_ _ | refine blt ?_))))).mono ?_); rintro e w_ ⟨rfl, hb_⟩; obtain ⟨y1, rfl⟩ := Soft.BW.mk hb_; clear hb_))
    refine bodyPost_ret (v := .tuple #[.int .i64 0, .int .i64 0, .int .i64 11]) (by simp [results, Tryz.results19, go_sem]) rfl ?_
    refine ⟨rfl, ?_⟩
    (with_reducible repeat (first | exact blr _ | refine bla ?_ _ | refine blw _ ?_ | refine bld ?_ | refine bln _ ?_ | refine bls ?_ _ | refine blt ?_))

end Go.Proofs.YteagdcgmmdiakaaGreat

namespace Go.Proofs.YteagdcgmmdiakaaGreat
set_option linter.unusedSimpArgs false
set_option linter.unusedVariables false
open Go.RowKit
set_option maxRecDepth 100000
set_option maxHeartbeats 8000000
attribute [local go_sem] Instr.field asAgg Soft.upon Soft.upon0 Soft.stepC Soft.BW.cell_if Soft.BW.frozen_if Soft.cell_alloc_if Soft.frozen_alloc_if
attribute [local irreducible] Soft.wpSoft Soft.wpMix

/-- The heel, and its error. -/
noncomputable def cheelE (S : Sh) (L : La) (V : Wt) : Rg × Int :=
  if (mgnE S L V).2 = 0 then lstE (angLo S) (angHi S) (mgnE S L V).1 else (⟨0, 0⟩, (mgnE S L V).2)
/-- The area, and its error. -/
noncomputable def aeE (S : Sh) (L : La) (V : Wt) (most : Int) : Rg × Int :=
  if (mgnE S L V).2 = 0 then
    if min (angHi S) most < angLo S then (⟨0, 0⟩, 3)
    else (⟨(areaE (mgnE S L V).1 (angLo S) (min (angHi S) most)).1.1, (areaE (mgnE S L V).1 (angLo S) (min (angHi S) most)).1.2⟩, (areaE (mgnE S L V).1 (angLo S) (min (angHi S) most)).2)
  else (⟨0, 0⟩, (mgnE S L V).2)

theorem cond_Heel (S : Sh) (L : La) (V : Wt) (w : World) (h : Afl S L V w) :
    Calls Tryz.prog 105 #[.agg #[.int .i64 (S).len, .slice ((S).dra).p ((S).dra).n ((S).dra).c, .slice ((S).hei).p ((S).hei).n ((S).hei).c, .slice ((S).cen).p ((S).cen).n ((S).cen).c, .slice ((S).tri).p ((S).tri).n ((S).tri).c, .slice ((S).flo).p ((S).flo).n ((S).flo).c, .slice ((S).cross).p ((S).cross).n ((S).cross).c, .slice ((S).sin).p ((S).sin).n ((S).sin).c, .slice ((S).shi).p ((S).shi).n ((S).shi).c, .int .i64 (((S).light).mass).lo, .int .i64 (((S).light).mass).hi, .int .i64 (((S).light).along).lo, .int .i64 (((S).light).along).hi, .int .i64 (((S).light).high).lo, .int .i64 (((S).light).high).hi], .agg #[.slice ((L).ws).p ((L).ws).n ((L).ws).c, .int .i64 ((L).sur).lo, .int .i64 ((L).sur).hi, .int .i64 ((L).shi).lo, .int .i64 ((L).shi).hi]] w fun e w' => e = .returned (.tuple #[.agg #[.int .i64 ((cheelE S L V).1).lo, .int .i64 ((cheelE S L V).1).hi], .int .i64 (cheelE S L V).2]) ∧ Below w.heap.size w w' := by
  have CM := Lib.hid (fun W (hb : Below w.heap.size w W) => cond_Margin S L V W (h.same hb))
  have CL := Lib.hid (fun W (hb : Below w.heap.size w W) t (ht : t.At W) => cond_listed S t W (h.s.same hb) ht h.ok)
  have HM := Lib.hid (show cheelE S L V = if (mgnE S L V).2 = 0 then lstE (angLo S) (angHi S) (mgnE S L V).1 else (⟨0, 0⟩, (mgnE S L V).2) from rfl)
  obtain ⟨v0, v1, v2, v3, v4, v5, v6, v7, v8, v9, v10, v11, v12, v13, v14, HS0, E1, E2, E3, E4, E5, E6, E7, E8, E9⟩ := ship_letters S
  obtain ⟨x0, x1, x2, x3, x4, HL0, F0, F1, F2⟩ := load_letters L
  rw [HS0.out, HL0.out] at CM ⊢
  rw [HS0.out] at CL
  clear h
  generalize cheelE S L V = D at *
  generalize mgnE S L V = R at *
  obtain ⟨rp, re⟩ := R
  dsimp only at HM
  by_cases h0 : re = 0
  · subst h0
    have HD := Lib.hid (HM.out.trans (if_pos rfl))
    clear HM
    go_enter Tryz.func105, Tryz.ntmps105
    go_wp2_with (first | (go_at_call 17; refine (CM.out _ (by (with_reducible repeat (first | exact blr _ | refine bla ?_ _ | refine blw _ ?_ | refine bld ?_ | refine bln _ ?_ | refine bls ?_ _ | refine blt ?_)))).mono ?_; rintro e w_ ⟨a, rfl, ha, hap, hb_⟩; obtain ⟨y1, rfl⟩ := Soft.BW.mk hb_; clear hb_; have HA := Lib.hid ha; have HAP := Lib.hid hap; clear ha hap) | (go_at_call 144; (with_reducible refine (CL.out _ (by (with_reducible repeat (first | exact blr _ | refine bla ?_ _ | refine blw _ ?_ | refine bld ?_ | refine bln _ ?_ | refine bls ?_ _ | refine blt ?_))) a (HA.out.same (by (with_reducible repeat (first | exact blr _ | refine bla ?_ _ | refine blw _ ?_ | refine bld ?_ | refine bln _ ?_ | refine bls ?_ _ | refine blt ?_))))).mono ?_); rintro e w_ ⟨rfl, hb_⟩; obtain ⟨y2, rfl⟩ := Soft.BW.mk hb_; clear hb_))
    refine bodyPost_ret (v := .tuple #[.agg #[.int .i64 ((lstE (angLo S) (angHi S) a.ps).1).lo, .int .i64 ((lstE (angLo S) (angHi S) a.ps).1).hi], .int .i64 (lstE (angLo S) (angHi S) a.ps).2]) (by simp [results, Tryz.results105, go_sem]) rfl ?_
    rw [HAP.out, HD.out]
    refine ⟨rfl, ?_⟩
    (with_reducible repeat (first | exact blr _ | refine bla ?_ _ | refine blw _ ?_ | refine bld ?_ | refine bln _ ?_ | refine bls ?_ _ | refine blt ?_))
  · have HD := Lib.hid (HM.out.trans (if_neg h0))
    have dR : (re != 0) = true := bne_iff_ne.2 h0
    clear HM h0
    go_enter Tryz.func105, Tryz.ntmps105
    go_wp2_with (first | (go_at_call 17; refine (CM.out _ (by (with_reducible repeat (first | exact blr _ | refine bla ?_ _ | refine blw _ ?_ | refine bld ?_ | refine bln _ ?_ | refine bls ?_ _ | refine blt ?_)))).mono ?_; rintro e w_ ⟨a, rfl, ha, hap, hb_⟩; obtain ⟨y1, rfl⟩ := Soft.BW.mk hb_; clear hb_; have HA := Lib.hid ha; have HAP := Lib.hid hap; clear ha hap))
    refine bodyPost_ret (v := .tuple #[.agg #[.int .i64 0, .int .i64 0], .int .i64 re]) (by simp [results, Tryz.results105, go_sem]) rfl ?_
    refine ⟨by rw [HD.out], ?_⟩
    (with_reducible repeat (first | exact blr _ | refine bla ?_ _ | refine blw _ ?_ | refine bld ?_ | refine bln _ ?_ | refine bls ?_ _ | refine blt ?_))

/-- What the facts ask first. -/
noncomputable def moErr (L : La) (most : Int) : Int := if ldErr L = 0 then if 0 ≤ most ∧ most ≤ 900 then 0 else 1 else ldErr L
theorem cond_checkMost (S : Sh) (L : La) (most : Int) (w : World) (hS : S.At w) (hL : L.At w) (ok : ShipOk S) :
    Calls Tryz.prog 97 #[.agg #[.int .i64 (S).len, .slice ((S).dra).p ((S).dra).n ((S).dra).c, .slice ((S).hei).p ((S).hei).n ((S).hei).c, .slice ((S).cen).p ((S).cen).n ((S).cen).c, .slice ((S).tri).p ((S).tri).n ((S).tri).c, .slice ((S).flo).p ((S).flo).n ((S).flo).c, .slice ((S).cross).p ((S).cross).n ((S).cross).c, .slice ((S).sin).p ((S).sin).n ((S).sin).c, .slice ((S).shi).p ((S).shi).n ((S).shi).c, .int .i64 (((S).light).mass).lo, .int .i64 (((S).light).mass).hi, .int .i64 (((S).light).along).lo, .int .i64 (((S).light).along).hi, .int .i64 (((S).light).high).lo, .int .i64 (((S).light).high).hi], .agg #[.slice ((L).ws).p ((L).ws).n ((L).ws).c, .int .i64 ((L).sur).lo, .int .i64 ((L).sur).hi, .int .i64 ((L).shi).lo, .int .i64 ((L).shi).hi], .int .i64 most] w fun e w' => e = .returned (.int .i64 (moErr L most)) ∧ Below w.heap.size w w' := by
  have CK := Lib.hid (fun W (hb : Below w.heap.size w W) => cond_check S L W (hS.same hb) (hL.same hb) ok)
  have HM := Lib.hid (show moErr L most = if ldErr L = 0 then if 0 ≤ most ∧ most ≤ 900 then 0 else 1 else ldErr L from rfl)
  obtain ⟨v0, v1, v2, v3, v4, v5, v6, v7, v8, v9, v10, v11, v12, v13, v14, HS0, E1, E2, E3, E4, E5, E6, E7, E8, E9⟩ := ship_letters S
  obtain ⟨x0, x1, x2, x3, x4, HL0, F0, F1, F2⟩ := load_letters L
  rw [HS0.out, HL0.out] at CK ⊢
  clear hS hL ok
  generalize moErr L most = D at *
  generalize ldErr L = R at *
  by_cases h0 : R = 0
  · subst h0
    by_cases h1 : 0 ≤ most ∧ most ≤ 900
    · have HD := Lib.hid (HM.out.trans ((if_pos rfl).trans (if_pos h1)))
      have HIN := Lib.hid (decide_eq_true h1).symm
      clear HM h1
      go_enter Tryz.func97, Tryz.ntmps97
      go_wp2_with (first | (go_at_call 111; (with_reducible refine (CK.out _ (by (with_reducible repeat (first | exact blr _ | refine bla ?_ _ | refine blw _ ?_ | refine bld ?_ | refine bln _ ?_ | refine bls ?_ _ | refine blt ?_)))).mono ?_); rintro e w_ ⟨rfl, hb_⟩; obtain ⟨y1, rfl⟩ := Soft.BW.mk hb_; clear hb_) | (go_at_call 39; (with_reducible refine (cond_isWithin most 0 900 _ true HIN.out).mono ?_); rintro e w_ ⟨rfl, hw_⟩; subst w_))
      go_ret
      refine ⟨ret_int HD.out.symm, ?_⟩
      (with_reducible repeat (first | exact blr _ | refine bla ?_ _ | refine blw _ ?_ | refine bld ?_ | refine bln _ ?_ | refine bls ?_ _ | refine blt ?_))
    · have HD := Lib.hid (HM.out.trans ((if_pos rfl).trans (if_neg h1)))
      have HIN := Lib.hid (decide_eq_false h1).symm
      clear HM h1
      go_enter Tryz.func97, Tryz.ntmps97
      go_wp2_with (first | (go_at_call 111; (with_reducible refine (CK.out _ (by (with_reducible repeat (first | exact blr _ | refine bla ?_ _ | refine blw _ ?_ | refine bld ?_ | refine bln _ ?_ | refine bls ?_ _ | refine blt ?_)))).mono ?_); rintro e w_ ⟨rfl, hb_⟩; obtain ⟨y1, rfl⟩ := Soft.BW.mk hb_; clear hb_) | (go_at_call 39; (with_reducible refine (cond_isWithin most 0 900 _ false HIN.out).mono ?_); rintro e w_ ⟨rfl, hw_⟩; subst w_))
      go_ret
      refine ⟨ret_int HD.out.symm, ?_⟩
      (with_reducible repeat (first | exact blr _ | refine bla ?_ _ | refine blw _ ?_ | refine bld ?_ | refine bln _ ?_ | refine bls ?_ _ | refine blt ?_))
  · have HD := Lib.hid (HM.out.trans (if_neg h0))
    have dR : (R != 0) = true := bne_iff_ne.2 h0
    clear HM h0
    go_enter Tryz.func97, Tryz.ntmps97
    go_wp2_with (first | (go_at_call 111; (with_reducible refine (CK.out _ (by (with_reducible repeat (first | exact blr _ | refine bla ?_ _ | refine blw _ ?_ | refine bld ?_ | refine bln _ ?_ | refine bls ?_ _ | refine blt ?_)))).mono ?_); rintro e w_ ⟨rfl, hb_⟩; obtain ⟨y1, rfl⟩ := Soft.BW.mk hb_; clear hb_))
    go_ret
    refine ⟨ret_int HD.out.symm, ?_⟩
    (with_reducible repeat (first | exact blr _ | refine bla ?_ _ | refine blw _ ?_ | refine bld ?_ | refine bln _ ?_ | refine bls ?_ _ | refine blt ?_))

theorem cond_area (S : Sh) (L : La) (V : Wt) (most : Int) (w : World) (h : Afl S L V w) :
    Calls Tryz.prog 110 #[.agg #[.int .i64 (S).len, .slice ((S).dra).p ((S).dra).n ((S).dra).c, .slice ((S).hei).p ((S).hei).n ((S).hei).c, .slice ((S).cen).p ((S).cen).n ((S).cen).c, .slice ((S).tri).p ((S).tri).n ((S).tri).c, .slice ((S).flo).p ((S).flo).n ((S).flo).c, .slice ((S).cross).p ((S).cross).n ((S).cross).c, .slice ((S).sin).p ((S).sin).n ((S).sin).c, .slice ((S).shi).p ((S).shi).n ((S).shi).c, .int .i64 (((S).light).mass).lo, .int .i64 (((S).light).mass).hi, .int .i64 (((S).light).along).lo, .int .i64 (((S).light).along).hi, .int .i64 (((S).light).high).lo, .int .i64 (((S).light).high).hi], .agg #[.slice ((L).ws).p ((L).ws).n ((L).ws).c, .int .i64 ((L).sur).lo, .int .i64 ((L).sur).hi, .int .i64 ((L).shi).lo, .int .i64 ((L).shi).hi], .int .i64 most] w fun e w' => e = .returned (.tuple #[.agg #[.int .i64 ((aeE S L V most).1).lo, .int .i64 ((aeE S L V most).1).hi], .int .i64 (aeE S L V most).2]) ∧ Below w.heap.size w w' := by
  have hn : S.cross.xs.length = S.cross.n := h.s.cross.1
  have h12 : S.cross.n ≤ 12 := by have := h.ok.n.2; omega
  have hup := upr_ok (S := S) h.ok.sin.1 h.ok.shi.1 (fun j hj => (h.ok.cross j hj).2.1)
  have CA := Lib.hid (fun W (hb : Below w.heap.size w W) => cond_angles S W (h.s.same hb) h12 hup)
  have CM := Lib.hid (fun W (hb : Below w.heap.size w W) => cond_Margin S L V W (h.same hb))
  have CF := Lib.hid (fun W (t : Tb) a b (ht : t.At W) => fix_Area t a b W ht)
  have HM := Lib.hid (show aeE S L V most = if (mgnE S L V).2 = 0 then
    if min (angHi S) most < angLo S then (⟨0, 0⟩, 3)
    else (⟨(areaE (mgnE S L V).1 (angLo S) (min (angHi S) most)).1.1, (areaE (mgnE S L V).1 (angLo S) (min (angHi S) most)).1.2⟩, (areaE (mgnE S L V).1 (angLo S) (min (angHi S) most)).2)
    else (⟨0, 0⟩, (mgnE S L V).2) from rfl)
  obtain ⟨v0, v1, v2, v3, v4, v5, v6, v7, v8, v9, v10, v11, v12, v13, v14, HS0, E1, E2, E3, E4, E5, E6, E7, E8, E9⟩ := ship_letters S
  obtain ⟨x0, x1, x2, x3, x4, HL0, F0, F1, F2⟩ := load_letters L
  rw [HS0.out, HL0.out] at CM ⊢
  rw [HS0.out] at CA
  clear h hn h12 hup
  generalize aeE S L V most = D at *
  generalize mgnE S L V = R at *
  generalize angLo S = lo at *
  generalize angHi S = hi at *
  obtain ⟨rp, re⟩ := R
  dsimp only at HM
  by_cases h0 : re = 0
  · subst h0
    by_cases h1 : min hi most < lo
    · have HD := Lib.hid (HM.out.trans ((if_pos rfl).trans (if_pos h1)))
      clear HM
      go_enter Tryz.func110, Tryz.ntmps110
      go_wp2_with (first | (go_at_call 17; refine (CM.out _ (by (with_reducible repeat (first | exact blr _ | refine bla ?_ _ | refine blw _ ?_ | refine bld ?_ | refine bln _ ?_ | refine bls ?_ _ | refine blt ?_)))).mono ?_; rintro e w_ ⟨a, rfl, ha, hap, hb_⟩; obtain ⟨y1, rfl⟩ := Soft.BW.mk hb_; clear hb_; have HA := Lib.hid ha; have HAP := Lib.hid hap; clear ha hap) | (go_at_call 43; (with_reducible refine (CA.out _ (by (with_reducible repeat (first | exact blr _ | refine bla ?_ _ | refine blw _ ?_ | refine bld ?_ | refine bln _ ?_ | refine bls ?_ _ | refine blt ?_)))).mono ?_); rintro e w_ ⟨rfl, hb_⟩; obtain ⟨y2, rfl⟩ := Soft.BW.mk hb_; clear hb_))
      refine bodyPost_ret (v := .tuple #[.agg #[.int .i64 0, .int .i64 0], .int .i64 3]) (by simp [results, Tryz.results110, go_sem]) rfl ?_
      refine ⟨by rw [HD.out], ?_⟩
      (with_reducible repeat (first | exact blr _ | refine bla ?_ _ | refine blw _ ?_ | refine bld ?_ | refine bln _ ?_ | refine bls ?_ _ | refine blt ?_))
    · have HD := Lib.hid (HM.out.trans ((if_pos rfl).trans (if_neg h1)))
      clear HM
      go_enter Tryz.func110, Tryz.ntmps110
      go_wp2_with (first | (go_at_call 17; refine (CM.out _ (by (with_reducible repeat (first | exact blr _ | refine bla ?_ _ | refine blw _ ?_ | refine bld ?_ | refine bln _ ?_ | refine bls ?_ _ | refine blt ?_)))).mono ?_; rintro e w_ ⟨a, rfl, ha, hap, hb_⟩; obtain ⟨y1, rfl⟩ := Soft.BW.mk hb_; clear hb_; have HA := Lib.hid ha; have HAP := Lib.hid hap; clear ha hap) | (go_at_call 43; (with_reducible refine (CA.out _ (by (with_reducible repeat (first | exact blr _ | refine bla ?_ _ | refine blw _ ?_ | refine bld ?_ | refine bln _ ?_ | refine bls ?_ _ | refine blt ?_)))).mono ?_); rintro e w_ ⟨rfl, hb_⟩; obtain ⟨y2, rfl⟩ := Soft.BW.mk hb_; clear hb_) | (go_at_call 19; (with_reducible refine (CF.out _ a _ _ (HA.out.same (by (with_reducible repeat (first | exact blr _ | refine bla ?_ _ | refine blw _ ?_ | refine bld ?_ | refine bln _ ?_ | refine bls ?_ _ | refine blt ?_))))).mono ?_); rintro e w_ ⟨rfl, hb_⟩; obtain ⟨y3, rfl⟩ := Soft.BW.mk hb_; clear hb_))
      refine bodyPost_ret (v := .tuple #[.agg #[.int .i64 (areaE a.ps lo (min hi most)).1.1, .int .i64 (areaE a.ps lo (min hi most)).1.2], .int .i64 (areaE a.ps lo (min hi most)).2]) (by simp [results, Tryz.results110, go_sem]) rfl ?_
      rw [HAP.out, HD.out]
      refine ⟨rfl, ?_⟩
      (with_reducible repeat (first | exact blr _ | refine bla ?_ _ | refine blw _ ?_ | refine bld ?_ | refine bln _ ?_ | refine bls ?_ _ | refine blt ?_))
  · have HD := Lib.hid (HM.out.trans (if_neg h0))
    have dR : (re != 0) = true := bne_iff_ne.2 h0
    clear HM h0
    go_enter Tryz.func110, Tryz.ntmps110
    go_wp2_with (first | (go_at_call 17; refine (CM.out _ (by (with_reducible repeat (first | exact blr _ | refine bla ?_ _ | refine blw _ ?_ | refine bld ?_ | refine bln _ ?_ | refine bls ?_ _ | refine blt ?_)))).mono ?_; rintro e w_ ⟨a, rfl, ha, hap, hb_⟩; obtain ⟨y1, rfl⟩ := Soft.BW.mk hb_; clear hb_; have HA := Lib.hid ha; have HAP := Lib.hid hap; clear ha hap))
    refine bodyPost_ret (v := .tuple #[.agg #[.int .i64 0, .int .i64 0], .int .i64 re]) (by simp [results, Tryz.results110, go_sem]) rfl ?_
    refine ⟨by rw [HD.out], ?_⟩
    (with_reducible repeat (first | exact blr _ | refine bla ?_ _ | refine blw _ ?_ | refine bld ?_ | refine bln _ ?_ | refine bls ?_ _ | refine blt ?_))

end Go.Proofs.YteagdcgmmdiakaaGreat

namespace Go.Proofs.YteagdcgmmdiakaaGreat
set_option linter.unusedSimpArgs false
set_option linter.unusedVariables false
open Go.RowKit
set_option maxRecDepth 100000
set_option maxHeartbeats 4000000

/-- A fact. -/
structure Ft where
  nm : ByteArray
  val : Rg
def ftC (f : Ft) : List Value := [.string f.nm, .int .i64 f.val.lo, .int .i64 f.val.hi]
def fv (l : List Ft) (i : Nat) : Ft := l.getD i ⟨ByteArray.empty, ⟨0, 0⟩⟩
def fts : List Ft → List Value
  | [] => []
  | x :: l => ftC x ++ fts l
theorem fts_append (a b : List Ft) : fts (a ++ b) = fts a ++ fts b := by
  induction a with
  | nil => rfl
  | cons x l ih => simp [fts, ih]
theorem fts_get : ∀ (l : List Ft) (i : Nat), i < l.length → ∀ j, j < 3 → (fts l)[i * 3 + j]? = (ftC (fv l i))[j]?
  | x :: l, 0, _, j, hj => by
    simp only [fts, Nat.zero_mul, Nat.zero_add]
    rw [List.getElem?_append_left (by simpa [ftC] using hj)]
    rfl
  | x :: l, i + 1, h, j, hj => by
    have ih := fts_get l i (by simpa using h) j hj
    simp only [fts]
    rw [List.getElem?_append_right (by simp [ftC]; omega)]
    rw [show (i + 1) * 3 + j - (ftC x).length = i * 3 + j by simp [ftC]; omega, ih]
    simp [fv]

def OwnF (w : World) (B : Nat) (v : Value) (l : List Ft) : Prop := w.ownsRow B 114 3 v l.length (fts l)
theorem info_ft : (Tryz.prog.info? 114).map (fun i => (i.zero, i.size, i.bytes)) = some (some (.agg #[.string ByteArray.empty, .int .i64 0, .int .i64 0]), 3, 32) := by kernel_rfl

theorem app_ft {w : World} {ops : Array Oper} {rest : List Oper} {o : Oper} {a : Act} {Q : Exit → Act → World → Prop} (hgd : o.guard = none) (s x : Operand)
    (ho : o.op = .call { callee := .builtin .append, args := #[s, x], argTypes := #[62, 62] }) (B : Nat) (v : Value) (l : List Ft) (hs : a.eval s = v) (hown : OwnF w B v l)
    (b : Nat) (y : Ft) (hx : a.eval x = .slice (some ⟨b, 0, none⟩) 1 1) (h0 : w.cell? ⟨b, 0, none⟩ = some (.string y.nm)) (h1 : w.cell? ⟨b, 1, none⟩ = some (.int .i64 y.val.lo)) (h2 : w.cell? ⟨b, 2, none⟩ = some (.int .i64 y.val.hi)) (hn : l.length ≤ 1000) (hB : B ≤ w.heap.size)
    (h : ∀ v' w', OwnF w' B v' (l ++ [y]) → Below B w w' → w.grownBy w' v.ownBlock → wpList Tryz.prog ops Q rest (a.put o.dst v') w') : wpList Tryz.prog ops Q (o :: rest) a w := by
  obtain ⟨i0, hi, hz0, hz1, hz2⟩ := infos info_ft
  refine wpList_append_own w hgd s x 62 ho B 114 i0 _ 3 32 Tryz.underlying62 hi hz0 hz1 hz2 rfl (by decide) v l.length (fts l) hs hown ⟨b, 0, none⟩ 1 1 (ftC y) hx rfl ?_ (fun u hu => by simp [ftC] at hu; rcases hu with rfl | rfl | rfl <;> rfl) (by unfold maxLen; omega) (by omega) hB ?_
  · intro j u hu
    match j, hu with
    | 0, hu => cases hu; exact h0
    | 1, hu => cases hu; exact h1
    | 2, hu => cases hu; exact h2
  · intro v' w' h1 h2 _
    refine h v' w' ?_ (below_of_grown h2 hB fun k hk => (hown.lt k hk).1) h2
    unfold OwnF
    rw [List.length_append, fts_append]
    simpa [fts] using h1
theorem OwnF.bel {w w' : World} {B B' : Nat} {v : Value} {l : List Ft} (h : OwnF w B v l) (hb : Below B' w w') (hv : ∀ k, v.ownBlock = some k → k < B') : OwnF w' B v l := by
  refine ⟨h.1, ?_⟩
  rcases h.2 with hn | ⟨g, cap, cur, rfl, hb', hgg, rest⟩
  · exact .inl hn
  · exact .inr ⟨g, cap, cur, rfl, hb', (hb.block g (hv g rfl)).trans hgg, rest⟩
theorem OwnF.same {w w' : World} {B : Nat} {v : Value} {l : List Ft} (h : OwnF w B v l) (hb : Below w.heap.size w w') : OwnF w' B v l := h.bel hb fun k hk => (World.ownsRow.lt h k hk).2
theorem OwnF.set {w : World} {B : Nat} {v : Value} {l : List Ft} (h : OwnF w B v l) {p : Addr} (hp : p.block < B) (u : Value) : OwnF (w.setCell p u) B v l := by
  refine ⟨h.1, ?_⟩
  rcases h.2 with hn | ⟨g, cap, cur, rfl, hb', hgg, rest⟩
  · exact .inl hn
  · exact .inr ⟨g, cap, cur, rfl, hb', (Below.heap_setCell w p u g (by omega)).trans hgg, rest⟩

theorem OwnF.shape {w : World} {B : Nat} {v : Value} {l : List Ft} (h : OwnF w B v l) (hn : l ≠ []) : ∃ g c, v = .slice (some ⟨g, 0, none⟩) l.length c ∧ B ≤ g ∧ g < w.heap.size ∧ l.length ≤ c ∧ c ≤ 9223372036854775807 := by
  rcases h.2 with ⟨_, h'⟩ | ⟨g, c, cur, h', hb, hg, h1, h2, _⟩
  · exact absurd (List.eq_nil_of_length_eq_zero h') hn
  · exact ⟨g, c, h', hb, (Array.getElem?_eq_some_iff.1 hg).1, h1, h2⟩

/-- A list of facts as it lies. -/
structure Fs where
  p : Option Addr
  n : Nat
  c : Nat
  xs : List Ft
def Fs.At (w : World) (s : Fs) : Prop :=
  s.xs.length = s.n ∧ s.n ≤ s.c ∧ s.c ≤ 9223372036854775807 ∧ (s.n ≠ 0 → ∃ b o, s.p = some ⟨b, o, none⟩ ∧ b < w.heap.size ∧ ∀ i, i < s.n → w.cell? ⟨b, o + i * 3, none⟩ = some (.string (fv s.xs i).nm) ∧ w.cell? ⟨b, o + i * 3 + 1, none⟩ = some (.int .i64 (fv s.xs i).val.lo) ∧ w.cell? ⟨b, o + i * 3 + 2, none⟩ = some (.int .i64 (fv s.xs i).val.hi))
theorem Fs.At.same {w w' : World} {s : Fs} (h : s.At w) (hb : Below w.heap.size w w') : s.At w' := by
  obtain ⟨h1, h2, h3, h4⟩ := h
  refine ⟨h1, h2, h3, fun hn => ?_⟩
  obtain ⟨b, o, e, hlt, hc⟩ := h4 hn
  refine ⟨b, o, e, by have := hb.size; omega, fun i hi => ?_⟩
  have k : ∀ j, w'.cell? ⟨b, j, none⟩ = w.cell? ⟨b, j, none⟩ := fun j => Below.cell hb (p := ⟨b, j, none⟩) hlt
  rw [k, k, k]
  exact hc i hi
theorem OwnF.fs {w : World} {B : Nat} {v : Value} {l : List Ft} (h : OwnF w B v l) : ∃ q : Fs, v = .slice q.p q.n q.c ∧ q.At w ∧ q.xs = l := by
  have h' : w.ownsRow B 114 3 v l.length (fts l) := h
  rcases h.2 with ⟨rfl, h0⟩ | ⟨g, c, cur, rfl, hb, hg, h1, h2, _⟩
  · exact ⟨⟨none, 0, 0, l⟩, rfl, ⟨h0, Nat.le_refl _, by dsimp only; omega, fun h => absurd rfl h⟩, rfl⟩
  · refine ⟨⟨some ⟨g, 0, none⟩, l.length, c, l⟩, rfl, ⟨rfl, h1, h2, fun _ => ⟨g, 0, rfl, (Array.getElem?_eq_some_iff.1 hg).1, fun i hi => ?_⟩⟩, rfl⟩
    dsimp only at hi ⊢
    have a0 := fts_get l i hi 0 (by decide)
    have a1 := fts_get l i hi 1 (by decide)
    have a2 := fts_get l i hi 2 (by decide)
    rw [Nat.zero_add, h'.cellAt (i * 3) (by omega), h'.cellAt (i * 3 + 1) (by omega), h'.cellAt (i * 3 + 2) (by omega)]
    exact ⟨a0, a1, a2⟩

/-- Told, or not. -/
def fctE (nm : ByteArray) (E : Rg × Int) : List Ft := if E.2 = 0 then [⟨nm, E.1⟩] else []

end Go.Proofs.YteagdcgmmdiakaaGreat
