/-
  cond: centre.
  cond: Sum.
  Conditions: each theorem's own premises.
-/
import Derived.Test.YteagdcgmmdiakaaGreatP15
namespace Go.Proofs.YteagdcgmmdiakaaGreat
set_option linter.unusedSimpArgs false
set_option linter.unusedVariables false
open Go.RowKit Go.Shelf
set_option maxRecDepth 100000
set_option maxHeartbeats 8000000
attribute [local go_sem] Oper.semAt_some Instr.field asAgg Soft.upon Soft.upon0 Soft.stepC Soft.BW.cell_if Soft.BW.frozen_if Soft.cell_alloc_if Soft.frozen_alloc_if
attribute [local irreducible] Soft.wpSoft Soft.wpMix

/-- The least of the quotients so far, rounded down; the greatest one, rounded up. -/
def cLoStep (s : Bool × Int) (p : Int × Int) : Bool × Int := if s.1 = true ∨ p.2 / p.1 < s.2 then (false, p.2 / p.1) else s
def cHiStep (s : Bool × Int) (p : Int × Int) : Bool × Int := if s.1 = true ∨ s.2 < -(-p.2 / p.1) then (false, -(-p.2 / p.1)) else s
def cLo (l : List (Int × Int)) : Bool × Int := l.foldl cLoStep (true, 0)
def cHi (l : List (Int × Int)) : Bool × Int := l.foldl cHiStep (true, 0)
theorem cLo_snoc (l : List (Int × Int)) (p : Int × Int) : cLo (l ++ [p]) = cLoStep (cLo l) p := by simp [cLo]
theorem cHi_snoc (l : List (Int × Int)) (p : Int × Int) : cHi (l ++ [p]) = cHiStep (cHi l) p := by simp [cHi]
/-- What centre hands back. -/
def CentrePost (sel : Wt → Rg) (xs : List Wt) (w : World) (e : Ending) (w' : World) : Prop :=
  ∃ l1 l2 : List Wt, l1.Perm xs ∧ (∀ i j, i < j → j < l1.length → (sel (wv l1 i)).lo ≤ (sel (wv l1 j)).lo) ∧ l2.Perm xs ∧ (∀ i j, i < j → j < l2.length → (sel (wv l2 j)).hi ≤ (sel (wv l2 i)).hi) ∧
    e = .returned (.agg #[.int .i64 (cLo ((upto (mixP l1 (fun x => (sel x).lo)) (xs.length + 1)))).2, .int .i64 (cHi ((upto (mixP l2 (fun x => (sel x).hi)) (xs.length + 1)))).2]) ∧ Below w.heap.size w w'

theorem cond_up (a b : Int) (w : World) (h1 : -9223372036854775807 ≤ a) (h2 : a ≤ 9223372036854775807) (hb : 1 ≤ b) :
    Calls Tryz.prog 115 #[.int .i64 a, .int .i64 b] w fun e w' => e = .returned (.int .i64 (-(-a / b))) ∧ w' = w := by
  have CD := Lib.hid (fun W => cond_down (-a) b W (by omega) (by omega) hb)
  have hd : -9223372036854775807 ≤ -a / b ∧ -a / b ≤ 9223372036854775807 := by
    constructor
    · refine Int.le_ediv_of_mul_le (by omega) ?_
      have : (9223372036854775807 : Int) * 1 ≤ 9223372036854775807 * b := Int.mul_le_mul_of_nonneg_left hb (by decide)
      omega
    · by_cases h : 0 ≤ -a
      · have := Int.ediv_le_self b h
        omega
      · have := Int.ediv_neg_of_neg_of_pos (a := -a) (b := b) (by omega) (by omega)
        omega
  obtain ⟨d1, d2⟩ := hd
  generalize -a / b = q at *
  go_enter Tryz.func115, Tryz.ntmps115
  go_wp2_with (go_at_call 114; refine (CD.out _).mono ?_; rintro e w_ ⟨rfl, hw_⟩; subst w_)
  go_ret
  exact ⟨rfl, rfl⟩

theorem ownFrom_obj {β : Type} {B D : Nat} {o : Obj} (h : D < B) : OwnFrom B (fun (_ : β) W => W.heap[D]? = some o) := fun _ W W' row hs hg hr =>
  (hg.block D (Array.getElem?_eq_some_iff.1 hs).1 (fun e => by have := (hr D e.symm).1; omega)).trans hs

theorem mx_map {l : List Wt} {pl : Wt → Int} (h : WtsOk l pl) : ∀ k, k ≤ l.length + 1 → (upto (mxOf l pl) k).map (·.1) = upto (mixP l pl) k
  | 0, _ => rfl
  | k + 1, hk => by rw [upto_succ, upto_succ, List.map_append, mx_map h k (by omega)]; simp [mxOf_val (h.mxOk (k := k) (by omega))]

theorem cond_centre {g : FuncId} {sel : Wt → Rg} (hg : SelFn g sel) (b off n cap : Nat) (xs : List Wt) (hsel : ∀ x ∈ xs, I32x (sel x)) (w : World) (hs : WsAt w ⟨some ⟨b, off, none⟩, n, cap, xs⟩) (hn : 1 ≤ n) (hok1 : ∀ l : List Wt, l.Perm xs → WtsOk l (fun x => (sel x).lo)) (hok2 : ∀ l : List Wt, l.Perm xs → WtsOk l (fun x => (sel x).hi)) :
    Calls Tryz.prog 62 #[.slice (some ⟨b, off, none⟩) n cap, .func (.func g) #[] #[]] w (CentrePost sel xs w) := by
  have hT : ∀ f, Fence.wide.fn f := fun _ => trivial
  have hxs : xs.length = n := hs.1
  have hn41 : n ≤ 41 := by have := (hok1 xs (List.Perm.refl _)).n; omega
  have hbw : b < w.heap.size := by
    obtain ⟨b', o', e, hb, _⟩ := hs.2.2.2 (by dsimp only; omega)
    cases e
    exact hb
  refine (callsIn_wide (n := 6)).1 ?_
  refine callsIn_of_wp_marks Tryz.func62 rfl (hT _) ?_ rfl
  simp only [Tryz.ntmps62, List.size_toArray, List.length_cons, List.length_nil, Nat.reduceAdd, Nat.reduceSub, Array.replicate_succ, Array.replicate_zero, List.push_toArray, List.append_toArray, List.nil_append, List.cons_append]
  have HS := Lib.hid hs
  clear hs
  gi_wp2_with fail
  simp only [Nat.add_assoc, Nat.reduceAdd]
  have g0 : HasBlk ((((((w.alloc (.cells #[.func (.func g) #[] #[]] 128)).alloc (.cells #[.int .i64 0, .int .i64 0] 27)).alloc (.cells #[.func (.func 127) #[] #[.pointer (some ⟨w.heap.size, 0, none⟩)]] 171)).alloc (.cells #[.func (.func 128) #[] #[.pointer (some ⟨w.heap.size, 0, none⟩)]] 171)).alloc (.cells #[.int .i64 0, .int .i64 0] 27)).alloc (.cells #[.bool true] 4)) w.heap.size #[.func (.func g) #[] #[]] 128 := by simp only [HasBlk, Soft.heap_alloc_if, Soft.heap_new]
  have g1 : HasBlk ((((((w.alloc (.cells #[.func (.func g) #[] #[]] 128)).alloc (.cells #[.int .i64 0, .int .i64 0] 27)).alloc (.cells #[.func (.func 127) #[] #[.pointer (some ⟨w.heap.size, 0, none⟩)]] 171)).alloc (.cells #[.func (.func 128) #[] #[.pointer (some ⟨w.heap.size, 0, none⟩)]] 171)).alloc (.cells #[.int .i64 0, .int .i64 0] 27)).alloc (.cells #[.bool true] 4)) (w.heap.size + 1) #[.int .i64 0, .int .i64 0] 27 := by simp only [HasBlk, Soft.heap_alloc_if, Soft.heap_new1]
  have g2 : HasBlk ((((((w.alloc (.cells #[.func (.func g) #[] #[]] 128)).alloc (.cells #[.int .i64 0, .int .i64 0] 27)).alloc (.cells #[.func (.func 127) #[] #[.pointer (some ⟨w.heap.size, 0, none⟩)]] 171)).alloc (.cells #[.func (.func 128) #[] #[.pointer (some ⟨w.heap.size, 0, none⟩)]] 171)).alloc (.cells #[.int .i64 0, .int .i64 0] 27)).alloc (.cells #[.bool true] 4)) (w.heap.size + 2) #[.func (.func 127) #[] #[.pointer (some ⟨w.heap.size, 0, none⟩)]] 171 := by simp only [HasBlk, Soft.heap_alloc_if, Soft.heap_new2]
  have g3 : HasBlk ((((((w.alloc (.cells #[.func (.func g) #[] #[]] 128)).alloc (.cells #[.int .i64 0, .int .i64 0] 27)).alloc (.cells #[.func (.func 127) #[] #[.pointer (some ⟨w.heap.size, 0, none⟩)]] 171)).alloc (.cells #[.func (.func 128) #[] #[.pointer (some ⟨w.heap.size, 0, none⟩)]] 171)).alloc (.cells #[.int .i64 0, .int .i64 0] 27)).alloc (.cells #[.bool true] 4)) (w.heap.size + 3) #[.func (.func 128) #[] #[.pointer (some ⟨w.heap.size, 0, none⟩)]] 171 := by simp only [HasBlk, Soft.heap_alloc_if, Soft.heap_new3]
  have g4 : HasBlk ((((((w.alloc (.cells #[.func (.func g) #[] #[]] 128)).alloc (.cells #[.int .i64 0, .int .i64 0] 27)).alloc (.cells #[.func (.func 127) #[] #[.pointer (some ⟨w.heap.size, 0, none⟩)]] 171)).alloc (.cells #[.func (.func 128) #[] #[.pointer (some ⟨w.heap.size, 0, none⟩)]] 171)).alloc (.cells #[.int .i64 0, .int .i64 0] 27)).alloc (.cells #[.bool true] 4)) (w.heap.size + 4) #[.int .i64 (cLo (([] : List Mx).map (·.1))).2, .int .i64 0] 27 := by simp only [HasBlk, Soft.heap_alloc_if, Soft.heap_new4]; rfl
  have g5 : HasBlk ((((((w.alloc (.cells #[.func (.func g) #[] #[]] 128)).alloc (.cells #[.int .i64 0, .int .i64 0] 27)).alloc (.cells #[.func (.func 127) #[] #[.pointer (some ⟨w.heap.size, 0, none⟩)]] 171)).alloc (.cells #[.func (.func 128) #[] #[.pointer (some ⟨w.heap.size, 0, none⟩)]] 171)).alloc (.cells #[.int .i64 0, .int .i64 0] 27)).alloc (.cells #[.bool true] 4)) (w.heap.size + 5) #[.bool (cLo (([] : List Mx).map (·.1))).1] 4 := by simp only [HasBlk, Soft.heap_new5]; rfl
  have hB0 : Below w.heap.size w ((((((w.alloc (.cells #[.func (.func g) #[] #[]] 128)).alloc (.cells #[.int .i64 0, .int .i64 0] 27)).alloc (.cells #[.func (.func 127) #[] #[.pointer (some ⟨w.heap.size, 0, none⟩)]] 171)).alloc (.cells #[.func (.func 128) #[] #[.pointer (some ⟨w.heap.size, 0, none⟩)]] 171)).alloc (.cells #[.int .i64 0, .int .i64 0] 27)).alloc (.cells #[.bool true] 4)) := by (with_reducible repeat (first | exact blr _ | refine bla ?_ _ | refine blw _ ?_ | refine bld ?_ | refine bln _ ?_ | refine bls ?_ _ | refine blt ?_))
  have hsz : ((((((w.alloc (.cells #[.func (.func g) #[] #[]] 128)).alloc (.cells #[.int .i64 0, .int .i64 0] 27)).alloc (.cells #[.func (.func 127) #[] #[.pointer (some ⟨w.heap.size, 0, none⟩)]] 171)).alloc (.cells #[.func (.func 128) #[] #[.pointer (some ⟨w.heap.size, 0, none⟩)]] 171)).alloc (.cells #[.int .i64 0, .int .i64 0] 27)).alloc (.cells #[.bool true] 4)).heap.size = w.heap.size + 6 := by simp
  obtain ⟨W6, hW6⟩ : ∃ W6, (((((w.alloc (.cells #[.func (.func g) #[] #[]] 128)).alloc (.cells #[.int .i64 0, .int .i64 0] 27)).alloc (.cells #[.func (.func 127) #[] #[.pointer (some ⟨w.heap.size, 0, none⟩)]] 171)).alloc (.cells #[.func (.func 128) #[] #[.pointer (some ⟨w.heap.size, 0, none⟩)]] 171)).alloc (.cells #[.int .i64 0, .int .i64 0] 27)).alloc (.cells #[.bool true] 4) = W6 := ⟨_, rfl⟩
  rw [hW6] at g0 g1 g2 g3 g4 g5 hB0 hsz ⊢
  clear hW6
  have G0 := Lib.hid g0; have G1 := Lib.hid g1; have G2 := Lib.hid g2; have G3 := Lib.hid g3; have G4 := Lib.hid g4; have G5 := Lib.hid g5; have HB0 := Lib.hid hB0
  have HSZ := Lib.hid hsz
  clear g0 g1 g2 g3 g4 g5 hB0 hsz
  have CSF := Lib.hid (fun (W' : World) (hb_ : Below W6.heap.size W6 W') (hx : HasBlk W' W6.heap.size #[.slice (some ⟨b, off, none⟩) n cap] 56) => slices_SortedFunc3 hg (w.heap.size + 2) w.heap.size W6.heap.size b off n cap xs hsel (by have := HSZ.out; omega) hn W' ((HasBlk.below G2.out hb_).cell 0) ((HasBlk.below G0.out hb_).cell 0) ((HS.out.same HB0.out).same hb_) (by have := hb_.size; have := HSZ.out; omega) hx.lt (hx.cell 0))
  have CSX := Lib.hid (CSF.out (W6.alloc (.cells #[.slice (some ⟨b, off, none⟩) n cap] 56)).drew (((Below.refl _ _).alloc (Nat.le_refl _) _).drew) (show (W6.alloc (.cells #[.slice (some ⟨b, off, none⟩) n cap] 56)).heap[W6.heap.size]? = some (.cells #[.slice (some ⟨b, off, none⟩) n cap] 56) from Soft.heap_new W6 _))
  have c1b := HasBlk.cell G2.out 0
  simp at c1b
  have lt1b := Soft.LtH.mk (b := w.heap.size + 2) (w := W6) (by have := HSZ.out; omega)
  clear CSF
  refine wpIn_wide.2 ?_
  ((refine Soft.region_mix [(true, 0), (true, 2), (true, 4), (false, 1), (false, 3), (false, 5)] [] (by kernel_rfl) (by kernel_rfl) (by kernel_rfl) (by kernel_rfl) ?_; change Soft.wpMix _ _ _ _ [(true, _), (true, _), (true, _), (false, _), (false, _), (false, _)] _ _); (refine Soft.mix_q (fun K hK => ?_); go_simp; (try go_bits); first | (refine hK _ ?_; clear hK K) | (apply Exists.intro; refine ⟨fun x => ?_, hK _ ?_⟩; fail)); (refine Soft.mix_q (fun K hK => ?_); go_simp; (try go_bits); first | (refine hK _ ?_; clear hK K) | (apply Exists.intro; refine ⟨fun x => ?_, hK _ ?_⟩; fail)); (refine Soft.mix_q (fun K hK => ?_); go_simp; (try go_bits); first | (refine hK _ ?_; clear hK K) | (apply Exists.intro; refine ⟨fun x => ?_, hK _ ?_⟩; fail)); (refine Soft.mix_c (fun K hK => ?_); go_simp; (try go_bits); ((go_at_call 131; (with_reducible refine (slices_Values _ _ _ _).mono ?_); rintro e w_ ⟨rfl, rfl⟩; refine ⟨_, rfl, (by first | ((with_reducible repeat (first | exact blr _ | refine bla ?_ _ | refine blw _ ?_ | refine bld ?_ | refine bln _ ?_ | refine bls ?_ _ | refine blt ?_)); done) | exact (Below.refl W6.heap.size W6.drew).alloc (Nat.le_refl _) (.cells #[.slice (some ⟨b, off, none⟩) n cap] 56)), hK _ _ ?_⟩)); clear hK K); (refine Soft.mix_c (fun K hK => ?_); go_simp; (try go_bits); ((go_at_call 130; (with_reducible refine CSX.out.mono ?_); rintro e w_ ⟨blk1, cp1, l1, rfl, p1, p2, p3, p4, p5, hb_⟩; obtain ⟨y1, rfl⟩ := Soft.BW.mk hb_; clear hb_; have P11 := Lib.hid p1; have P21 := Lib.hid p2; have P31 := Lib.hid p3; have P41 := Lib.hid p4; have P51 := Lib.hid p5; clear p1 p2 p3 p4 p5; refine ⟨_, rfl, (by first | with_reducible exact Soft.BW.below y1 | simpa using Soft.BW.below y1), hK _ _ ?_⟩)); clear hK K); (refine Soft.mix_c (fun K hK => ?_); go_simp; (try go_bits); ((go_at_call 129; (with_reducible refine (cond_mixes _ _ _ _ _ _).mono ?_); rintro e w_ ⟨rfl, rfl⟩; refine ⟨_, rfl, (by (with_reducible repeat (first | exact blr _ | refine bla ?_ _ | refine blw _ ?_ | refine bld ?_ | refine bln _ ?_ | refine bls ?_ _ | refine blt ?_))), hK _ _ ?_⟩)); clear hK K); (refine Soft.mix_nil ?_; intro hbx; change wpList _ _ _ [] _ _))
  go_wp2_with fail
  gi_wp2_with fail
  have hvs : ((y1.w.alloc (.cells #[.slice (some ⟨blk1, 0, none⟩) n cp1] 56)).alloc (.cells #[.func (.func 127) #[] #[.pointer (some ⟨w.heap.size, 0, none⟩)]] 171)).heap.size = y1.w.heap.size + 2 := by simp
  have v0 : HasBlk ((y1.w.alloc (.cells #[.slice (some ⟨blk1, 0, none⟩) n cp1] 56)).alloc (.cells #[.func (.func 127) #[] #[.pointer (some ⟨w.heap.size, 0, none⟩)]] 171)) y1.w.heap.size #[.slice (some ⟨blk1, 0, none⟩) n cp1] 56 := by simp only [HasBlk, Soft.heap_alloc_if, Soft.heap_new]
  have v1 : HasBlk ((y1.w.alloc (.cells #[.slice (some ⟨blk1, 0, none⟩) n cp1] 56)).alloc (.cells #[.func (.func 127) #[] #[.pointer (some ⟨w.heap.size, 0, none⟩)]] 171)) (y1.w.heap.size + 1) #[.func (.func 127) #[] #[.pointer (some ⟨w.heap.size, 0, none⟩)]] 171 := by simp only [HasBlk, Soft.heap_new1]
  have hV5 : Below y1.w.heap.size y1.w ((y1.w.alloc (.cells #[.slice (some ⟨blk1, 0, none⟩) n cp1] 56)).alloc (.cells #[.func (.func 127) #[] #[.pointer (some ⟨w.heap.size, 0, none⟩)]] 171)) := by (with_reducible repeat (first | exact blr _ | refine bla ?_ _ | refine blw _ ?_ | refine bld ?_ | refine bln _ ?_ | refine bls ?_ _ | refine blt ?_))
  have vW := P31.out.same hV5
  have vB : Below W6.heap.size W6 ((y1.w.alloc (.cells #[.slice (some ⟨blk1, 0, none⟩) n cp1] 56)).alloc (.cells #[.func (.func 127) #[] #[.pointer (some ⟨w.heap.size, 0, none⟩)]] 171)) := (((((Below.refl W6.heap.size W6).alloc (Nat.le_refl _) (.cells #[.slice (some ⟨b, off, none⟩) n cap] 56)).drew).trans (y1.below.mono (by simp))).trans (hV5.mono (by have := y1.below.size; simp at this; omega)))
  have hb1 := P41.out
  have hb2 := P51.out
  simp at hb1
  obtain ⟨V1, hV⟩ : ∃ V, ((y1.w.alloc (.cells #[.slice (some ⟨blk1, 0, none⟩) n cp1] 56)).alloc (.cells #[.func (.func 127) #[] #[.pointer (some ⟨w.heap.size, 0, none⟩)]] 171)) = V := ⟨_, rfl⟩
  rw [hV] at hvs v0 v1 vB vW ⊢
  clear hV hV5 P31 P41 P51 CSX
  generalize y1.w.heap.size = S1 at *
  obtain ⟨Z1, hZ1⟩ : ∃ Z, W6.heap.size = Z := ⟨_, rfl⟩
  have hZ4 := Lib.hid hZ1
  rw [hZ1]
  have hkl : ∀ k ∈ [w.heap.size + 4, w.heap.size + 5], k < V1.heap.size ∧ k ≠ blk1 ∧ k ≠ S1 ∧ k ≠ S1 + 1 ∧ k ≠ w.heap.size := by intro k hk; simp at hk; have := HSZ.out; omega
  refine wpIn_rangeFunc_ownH (F := Fence.wide) (n := 6) rfl (by decide) (gf := 150) (lb := #[.pointer (some ⟨S1, 0, none⟩), .pointer (some ⟨S1 + 1, 0, none⟩)]) rfl (hT _) (enters_of Tryz.func150 (by kernel_rfl) rfl)
    (mixes_stops1 hg 5 (by decide) [w.heap.size + 4, w.heap.size + 5] S1 (S1 + 1) w.heap.size blk1 0 n cp1 l1 (hok1 l1 P11.out) V1 (v0.cell 0) (v1.cell 0) ((G0.out.below vB).cell 0) hkl vW) keptC_t keptC_b (Below.refl _ _) (fun _ => rfl)
    (fun pre W => (((HasBlk W (w.heap.size + 5) #[.bool (cLo (pre.map (·.1))).1] 4 ∧ HasBlk W (w.heap.size + 4) #[.int .i64 (cLo (pre.map (·.1))).2, .int .i64 0] 27) ∧ HasBlk W (w.heap.size + 1) #[.int .i64 0, .int .i64 0] 27) ∧ (HasBlk W w.heap.size #[.func (.func g) #[] #[]] 128 ∧ HasBlk W (w.heap.size + 3) #[.func (.func 128) #[] #[.pointer (some ⟨w.heap.size, 0, none⟩)]] 171)) ∧ Below w.heap.size w W)
    (fun c pre W => False)
    (OwnFrom.and (OwnFrom.and (OwnFrom.and (OwnFrom.and (Own.from (fun s A B row hs hg hr => hasBlk_own (w.heap.size + 5) #[.bool (cLo (s.map (·.1))).1] 4 s A B row hs hg hr) _) (Own.from (fun s A B row hs hg hr => hasBlk_own (w.heap.size + 4) #[.int .i64 (cLo (s.map (·.1))).2, .int .i64 0] 27 s A B row hs hg hr) _)) (Own.from (hasBlk_own _ _ _) _)) (OwnFrom.and (Own.from (hasBlk_own _ _ _) _) (Own.from (hasBlk_own _ _ _) _))) (ownFrom_below (Nat.le_refl _) (by have := HSZ.out; omega)))
    (fun c => fun _ _ _ _ hs _ _ => hs)
    ⟨⟨⟨⟨G5.out.below vB, G4.out.below vB⟩, G1.out.below vB⟩, ⟨G0.out.below vB, G3.out.below vB⟩⟩, HB0.out.trans (vB.mono (by have := HSZ.out; omega))⟩
    (fun p a' W => a' = { tmps := #[.slice (some ⟨b, off, none⟩) n cap, .func (.func g) #[] #[], undef, .pointer (some ⟨w.heap.size, 0, none⟩), .pointer (some ⟨w.heap.size + 1, 0, none⟩), .pointer (some ⟨w.heap.size + 2, 0, none⟩), .pointer (some ⟨w.heap.size + 3, 0, none⟩), .pointer (some ⟨w.heap.size + 4, 0, none⟩), .pointer (some ⟨w.heap.size + 5, 0, none⟩), .int .i64 p.1.1, .int .i64 p.1.2, undef, undef, undef, undef, .func (.func 127) #[] #[.pointer (some ⟨w.heap.size, 0, none⟩)], .func (.func 128) #[] #[.pointer (some ⟨w.heap.size, 0, none⟩)], .slice (some ⟨b, off, none⟩) n cap, .func (.func 153) #[] #[.pointer (some ⟨Z1, 0, none⟩)], .func (.func 132) #[] #[.pointer (some ⟨w.heap.size + 2, 0, none⟩)], .slice (some ⟨blk1, 0, none⟩) n cp1, .func (.func 127) #[] #[.pointer (some ⟨w.heap.size, 0, none⟩)], .func (.func 150) #[] #[.pointer (some ⟨S1, 0, none⟩), .pointer (some ⟨S1 + 1, 0, none⟩)], .int .i64 p.1.1, .int .i64 p.1.2, undef, undef, undef, undef, undef, undef, undef, undef, undef, undef, undef, undef, undef, undef, undef, undef, undef, undef, undef, undef, undef, undef, undef, undef, undef, undef, undef, undef, undef, undef, undef, undef, undef], defers := [] })
    (fun p a' _ X Z row hs hg hr => hs)
    ?assign1 ?body1 ?done1 ?stop1
  case assign1 =>
    rintro l pre p W K hI hK
    simp only [encM]
    gi_wp2
    exact hK _ _ (KeepsFrom.refl _ _) (KeptC.refl _ _) hI rfl
  case stop1 =>
    rintro D c pre W hD _ hx _
    exact hx.elim
  case body1 =>
    rintro l pre p a' W hl ⟨r, hr⟩ ⟨⟨⟨⟨b5, b4⟩, b1⟩, e0, e3⟩, hB1⟩ rfl hlt
    have hsW := hB1.size
    have HNX := Lib.hid (show cLo ((pre ++ [p]).map (·.1)) = cLoStep (cLo (pre.map (·.1))) p.1 by rw [List.map_append]; exact cLo_snoc _ _)
    obtain ⟨⟨mass, mom⟩, hp⟩ := p
    obtain ⟨p1, p2, p3, p4⟩ := hp
    have c5 := b5.cell 0
    have c4 := b4.cell 0
    simp at c5 c4
    generalize cLo (pre.map (·.1)) = s at *
    obtain ⟨sf, sl⟩ := s
    dsimp only at *
    have l4 := Soft.LtH.mk (b := w.heap.size + 4) (w := W) b4.lt
    have l5 := Soft.LtH.mk (b := w.heap.size + 5) (w := W) b5.lt
    have CD := Lib.hid (fun W' => cond_down mom mass W' (by omega) (by omega) (by omega))
    unfold cLoStep at HNX
    dsimp only at HNX
    generalize mom / mass = q at *
    have fz5 := b5.frozen 0
    have fz4 := b4.frozen 0
    have HNX := HNX.out
    have NW := Lib.hid (⟨b5, b4, b1, e0, e3, hB1⟩ : _ ∧ _ ∧ _ ∧ _ ∧ _ ∧ _)
    clear b5 b4 b1 e0 e3 hB1 hr v0 v1 vB vW hkl
    cases sf with
    | true =>
      rw [if_pos (.inl rfl)] at HNX
      have HNX := Lib.hid HNX
      gi_wp2_with (gi_at_call 114; refine (CallsIn.inRound l (callsIn_wide.2 (CD.out _))).mono ?_; rintro e w_ ⟨rfl, hw_⟩; subst w_)
      obtain ⟨b5, b4, b1, e0, e3, hB1⟩ := NW.out
      have k1 : KeptC [w.heap.size + 4, w.heap.size + 5] W ((W.setCell ⟨w.heap.size + 4, 0, none⟩ (.int .i64 q)).setCell ⟨w.heap.size + 5, 0, none⟩ (.bool false)) := (KeptC.set (by simp) _).trans (KeptC.set (by simp) _)
      have x5 : HasBlk ((W.setCell ⟨w.heap.size + 4, 0, none⟩ (.int .i64 q)).setCell ⟨w.heap.size + 5, 0, none⟩ (.bool false)) (w.heap.size + 5) #[.bool false] 4 := ((KeptC.set (ex := [w.heap.size + 4]) (by simp) _).blk b5 (by simp)).put 0 _
      have x4 := (KeptC.set (ex := [w.heap.size + 5]) (p := ⟨w.heap.size + 5, 0, none⟩) (by simp) (.bool false)).blk (b4.put 0 (.int .i64 q)) (by simp)
      exact ⟨((KeepsOthers.setCell _ _ _).trans (KeepsOthers.setCell _ _ _)).from _, k1, ⟨⟨⟨by rw [HNX.out]; exact x5, by rw [HNX.out]; exact x4⟩, k1.blk b1 (by simp)⟩, ⟨k1.blk e0 (by simp), k1.blk e3 (by simp)⟩⟩, (hB1.setCell (p := ⟨w.heap.size + 4, 0, none⟩) (by dsimp only; omega) _).setCell (p := ⟨w.heap.size + 5, 0, none⟩) (by dsimp only; omega) _⟩
    | false =>
      by_cases ht : q < sl
      · rw [if_pos (.inr ht)] at HNX
        have HNX := Lib.hid HNX
        gi_wp2_with (gi_at_call 114; refine (CallsIn.inRound l (callsIn_wide.2 (CD.out _))).mono ?_; rintro e w_ ⟨rfl, hw_⟩; subst w_)
        obtain ⟨b5, b4, b1, e0, e3, hB1⟩ := NW.out
        have k1 : KeptC [w.heap.size + 4, w.heap.size + 5] W ((W.setCell ⟨w.heap.size + 4, 0, none⟩ (.int .i64 q)).setCell ⟨w.heap.size + 5, 0, none⟩ (.bool false)) := (KeptC.set (by simp) _).trans (KeptC.set (by simp) _)
        have x5 : HasBlk ((W.setCell ⟨w.heap.size + 4, 0, none⟩ (.int .i64 q)).setCell ⟨w.heap.size + 5, 0, none⟩ (.bool false)) (w.heap.size + 5) #[.bool false] 4 := ((KeptC.set (ex := [w.heap.size + 4]) (by simp) _).blk b5 (by simp)).put 0 _
        have x4 := (KeptC.set (ex := [w.heap.size + 5]) (p := ⟨w.heap.size + 5, 0, none⟩) (by simp) (.bool false)).blk (b4.put 0 (.int .i64 q)) (by simp)
        exact ⟨((KeepsOthers.setCell _ _ _).trans (KeepsOthers.setCell _ _ _)).from _, k1, ⟨⟨⟨by rw [HNX.out]; exact x5, by rw [HNX.out]; exact x4⟩, k1.blk b1 (by simp)⟩, ⟨k1.blk e0 (by simp), k1.blk e3 (by simp)⟩⟩, (hB1.setCell (p := ⟨w.heap.size + 4, 0, none⟩) (by dsimp only; omega) _).setCell (p := ⟨w.heap.size + 5, 0, none⟩) (by dsimp only; omega) _⟩
      · rw [if_neg (by simp [ht])] at HNX
        have HNX := Lib.hid HNX
        gi_wp2_with (gi_at_call 114; refine (CallsIn.inRound l (callsIn_wide.2 (CD.out _))).mono ?_; rintro e w_ ⟨rfl, hw_⟩; subst w_)
        obtain ⟨b5, b4, b1, e0, e3, hB1⟩ := NW.out
        exact ⟨KeepsFrom.refl _ _, KeptC.refl _ _, ⟨⟨⟨by rw [HNX.out]; exact b5, by rw [HNX.out]; exact b4⟩, b1⟩, e0, e3⟩, hB1⟩
  rintro D1 ys W hD1 rfl ⟨⟨⟨⟨b5, b4⟩, b1⟩, e0, e3⟩, hB1⟩ hK1
  obtain ⟨lo1, hlo1⟩ : ∃ lo, (cLo ((upto (mxOf l1 (fun x => (sel x).lo)) (n + 1)).map (·.1))).2 = lo := ⟨_, rfl⟩
  rw [hlo1] at b4
  have HLO1 := Lib.hid hlo1
  clear hlo1
  have c5 := b5.cell 0
  have f5 := b5.frozen 0
  simp at c5
  have l5 := Soft.LtH.mk (b := w.heap.size + 5) (w := W) b5.lt
  have kx := KeptC.set (ex := [w.heap.size + 5]) (w := W) (p := ⟨w.heap.size + 5, 0, none⟩) (by simp) (.bool true)
  have F0 := Lib.hid (kx.blk e0 (by simp)); have F1 := Lib.hid (kx.blk b1 (by simp)); have F3 := Lib.hid (kx.blk e3 (by simp))
  have F4 := Lib.hid (show HasBlk _ (w.heap.size + 4) #[.int .i64 lo1, .int .i64 (cHi (([] : List Mx).map (·.1))).2] 27 from kx.blk b4 (by simp))
  have F5 := Lib.hid (show HasBlk _ (w.heap.size + 5) #[.bool (cHi (([] : List Mx).map (·.1))).1] 4 from b5.put 0 (.bool true))
  have FB0 := Lib.hid (hB1.setCell (p := ⟨w.heap.size + 5, 0, none⟩) (by dsimp only; omega) (.bool true))
  have hD16 : w.heap.size + 6 ≤ D1 := by have := HSZ.out; omega
  have FK1 := Lib.hid ((Below.heap_setCell W ⟨w.heap.size + 5, 0, none⟩ (.bool true) D1 (by dsimp only; omega)).trans hK1)
  have hD1W := (Array.getElem?_eq_some_iff.1 hK1).1
  have HSF := Lib.hid (show w.heap.size + 6 ≤ (W.setCell ⟨w.heap.size + 5, 0, none⟩ (.bool true)).heap.size ∧ D1 < (W.setCell ⟨w.heap.size + 5, 0, none⟩ (.bool true)).heap.size ∧ w.heap.size + 6 ≤ D1 by simp; omega)
  clear kx b5 b4 b1 e0 e3 hB1 hK1 v0 v1 vB vW hkl hD1 hD16 hD1W hvs hb1 hb2 c1b lt1b
  gi_wp2_with fail
  have HL5 := Lib.hid l5
  clear c5 f5 l5 HL5
  generalize W.setCell ⟨w.heap.size + 5, 0, none⟩ (.bool true) = V6 at *
  have CSF := Lib.hid (fun (W' : World) (hb_ : Below V6.heap.size V6 W') (hx : HasBlk W' V6.heap.size #[.slice (some ⟨b, off, none⟩) n cap] 56) => slices_SortedFunc4 hg (w.heap.size + 3) w.heap.size V6.heap.size b off n cap xs hsel (by have := HSF.out; omega) hn W' ((HasBlk.below F3.out hb_).cell 0) ((HasBlk.below F0.out hb_).cell 0) ((HS.out.same FB0.out).same hb_) (by have := hb_.size; have := HSF.out; omega) hx.lt (hx.cell 0))
  have CSX := Lib.hid (CSF.out (V6.alloc (.cells #[.slice (some ⟨b, off, none⟩) n cap] 56)).drew (((Below.refl _ _).alloc (Nat.le_refl _) _).drew) (show (V6.alloc (.cells #[.slice (some ⟨b, off, none⟩) n cap] 56)).heap[V6.heap.size]? = some (.cells #[.slice (some ⟨b, off, none⟩) n cap] 56) from Soft.heap_new V6 _))
  have c2b := HasBlk.cell F3.out 0
  simp at c2b
  have lt2b := Soft.LtH.mk (b := w.heap.size + 3) (w := V6) (by have := HSF.out; omega)
  clear CSF
  refine wpIn_wide.2 ?_
  ((refine Soft.region_mix [(true, 0), (true, 2), (true, 4), (false, 1), (false, 3), (false, 5)] [] (by kernel_rfl) (by kernel_rfl) (by kernel_rfl) (by kernel_rfl) ?_; change Soft.wpMix _ _ _ _ [(true, _), (true, _), (true, _), (false, _), (false, _), (false, _)] _ _); (refine Soft.mix_q (fun K hK => ?_); go_simp; (try go_bits); first | (refine hK _ ?_; clear hK K) | (apply Exists.intro; refine ⟨fun x => ?_, hK _ ?_⟩; fail)); (refine Soft.mix_q (fun K hK => ?_); go_simp; (try go_bits); first | (refine hK _ ?_; clear hK K) | (apply Exists.intro; refine ⟨fun x => ?_, hK _ ?_⟩; fail)); (refine Soft.mix_q (fun K hK => ?_); go_simp; (try go_bits); first | (refine hK _ ?_; clear hK K) | (apply Exists.intro; refine ⟨fun x => ?_, hK _ ?_⟩; fail)); (refine Soft.mix_c (fun K hK => ?_); go_simp; (try go_bits); ((go_at_call 131; (with_reducible refine (slices_Values _ _ _ _).mono ?_); rintro e w_ ⟨rfl, rfl⟩; refine ⟨_, rfl, (by first | ((with_reducible repeat (first | exact blr _ | refine bla ?_ _ | refine blw _ ?_ | refine bld ?_ | refine bln _ ?_ | refine bls ?_ _ | refine blt ?_)); done) | exact (Below.refl V6.heap.size V6.drew).alloc (Nat.le_refl _) (.cells #[.slice (some ⟨b, off, none⟩) n cap] 56)), hK _ _ ?_⟩)); clear hK K); (refine Soft.mix_c (fun K hK => ?_); go_simp; (try go_bits); ((go_at_call 130; (with_reducible refine CSX.out.mono ?_); rintro e w_ ⟨blk2, cp2, l2, rfl, p1, p2, p3, p4, p5, hb_⟩; obtain ⟨y2, rfl⟩ := Soft.BW.mk hb_; clear hb_; have P12 := Lib.hid p1; have P22 := Lib.hid p2; have P32 := Lib.hid p3; have P42 := Lib.hid p4; have P52 := Lib.hid p5; clear p1 p2 p3 p4 p5; refine ⟨_, rfl, (by first | with_reducible exact Soft.BW.below y2 | simpa using Soft.BW.below y2), hK _ _ ?_⟩)); clear hK K); (refine Soft.mix_c (fun K hK => ?_); go_simp; (try go_bits); ((go_at_call 129; (with_reducible refine (cond_mixes _ _ _ _ _ _).mono ?_); rintro e w_ ⟨rfl, rfl⟩; refine ⟨_, rfl, (by (with_reducible repeat (first | exact blr _ | refine bla ?_ _ | refine blw _ ?_ | refine bld ?_ | refine bln _ ?_ | refine bls ?_ _ | refine blt ?_))), hK _ _ ?_⟩)); clear hK K); (refine Soft.mix_nil ?_; intro hbx; change wpList _ _ _ [] _ _))
  go_wp2_with fail
  gi_wp2_with fail
  have hvs : ((y2.w.alloc (.cells #[.slice (some ⟨blk2, 0, none⟩) n cp2] 56)).alloc (.cells #[.func (.func 128) #[] #[.pointer (some ⟨w.heap.size, 0, none⟩)]] 171)).heap.size = y2.w.heap.size + 2 := by simp
  have v0 : HasBlk ((y2.w.alloc (.cells #[.slice (some ⟨blk2, 0, none⟩) n cp2] 56)).alloc (.cells #[.func (.func 128) #[] #[.pointer (some ⟨w.heap.size, 0, none⟩)]] 171)) y2.w.heap.size #[.slice (some ⟨blk2, 0, none⟩) n cp2] 56 := by simp only [HasBlk, Soft.heap_alloc_if, Soft.heap_new]
  have v1 : HasBlk ((y2.w.alloc (.cells #[.slice (some ⟨blk2, 0, none⟩) n cp2] 56)).alloc (.cells #[.func (.func 128) #[] #[.pointer (some ⟨w.heap.size, 0, none⟩)]] 171)) (y2.w.heap.size + 1) #[.func (.func 128) #[] #[.pointer (some ⟨w.heap.size, 0, none⟩)]] 171 := by simp only [HasBlk, Soft.heap_new1]
  have hV5 : Below y2.w.heap.size y2.w ((y2.w.alloc (.cells #[.slice (some ⟨blk2, 0, none⟩) n cp2] 56)).alloc (.cells #[.func (.func 128) #[] #[.pointer (some ⟨w.heap.size, 0, none⟩)]] 171)) := by (with_reducible repeat (first | exact blr _ | refine bla ?_ _ | refine blw _ ?_ | refine bld ?_ | refine bln _ ?_ | refine bls ?_ _ | refine blt ?_))
  have vW := P32.out.same hV5
  have vB : Below V6.heap.size V6 ((y2.w.alloc (.cells #[.slice (some ⟨blk2, 0, none⟩) n cp2] 56)).alloc (.cells #[.func (.func 128) #[] #[.pointer (some ⟨w.heap.size, 0, none⟩)]] 171)) := (((((Below.refl V6.heap.size V6).alloc (Nat.le_refl _) (.cells #[.slice (some ⟨b, off, none⟩) n cap] 56)).drew).trans (y2.below.mono (by simp))).trans (hV5.mono (by have := y2.below.size; simp at this; omega)))
  have hb1 := P42.out
  have hb2 := P52.out
  simp at hb1
  obtain ⟨V2, hV⟩ : ∃ V, ((y2.w.alloc (.cells #[.slice (some ⟨blk2, 0, none⟩) n cp2] 56)).alloc (.cells #[.func (.func 128) #[] #[.pointer (some ⟨w.heap.size, 0, none⟩)]] 171)) = V := ⟨_, rfl⟩
  rw [hV] at hvs v0 v1 vB vW ⊢
  clear hV hV5 P32 P42 P52 CSX
  generalize y2.w.heap.size = S2 at *
  obtain ⟨Z2, hZ2⟩ : ∃ Z, V6.heap.size = Z := ⟨_, rfl⟩
  have hZ4 := Lib.hid hZ2
  rw [hZ2]
  have hkl : ∀ k ∈ [w.heap.size + 4, w.heap.size + 5], k < V2.heap.size ∧ k ≠ blk2 ∧ k ≠ S2 ∧ k ≠ S2 + 1 ∧ k ≠ w.heap.size := by intro k hk; simp at hk; have := HSF.out; omega
  refine wpIn_rangeFunc_ownH (F := Fence.wide) (n := 6) rfl (by decide) (gf := 150) (lb := #[.pointer (some ⟨S2, 0, none⟩), .pointer (some ⟨S2 + 1, 0, none⟩)]) rfl (hT _) (enters_of Tryz.func150 (by kernel_rfl) rfl)
    (mixes_stops2 hg 5 (by decide) [w.heap.size + 4, w.heap.size + 5] S2 (S2 + 1) w.heap.size blk2 0 n cp2 l2 (hok2 l2 P12.out) V2 (v0.cell 0) (v1.cell 0) ((F0.out.below vB).cell 0) hkl vW) keptC_t keptC_b (Below.refl _ _) (fun _ => rfl)
    (fun pre W => (((HasBlk W (w.heap.size + 5) #[.bool (cHi (pre.map (·.1))).1] 4 ∧ HasBlk W (w.heap.size + 4) #[.int .i64 lo1, .int .i64 (cHi (pre.map (·.1))).2] 27) ∧ HasBlk W (w.heap.size + 1) #[.int .i64 0, .int .i64 0] 27) ∧ (HasBlk W w.heap.size #[.func (.func g) #[] #[]] 128 ∧ W.heap[D1]? = some (.deferred (some [])))) ∧ Below w.heap.size w W)
    (fun c pre W => False)
    (OwnFrom.and (OwnFrom.and (OwnFrom.and (OwnFrom.and (Own.from (fun s A B row hs hg hr => hasBlk_own (w.heap.size + 5) #[.bool (cHi (s.map (·.1))).1] 4 s A B row hs hg hr) _) (Own.from (fun s A B row hs hg hr => hasBlk_own (w.heap.size + 4) #[.int .i64 lo1, .int .i64 (cHi (s.map (·.1))).2] 27 s A B row hs hg hr) _)) (Own.from (hasBlk_own _ _ _) _)) (OwnFrom.and (Own.from (hasBlk_own _ _ _) _) (ownFrom_obj (by have := HSF.out; omega)))) (ownFrom_below (Nat.le_refl _) (by have := HSF.out; omega)))
    (fun c => fun _ _ _ _ hs _ _ => hs)
    ⟨⟨⟨⟨F5.out.below vB, F4.out.below vB⟩, F1.out.below vB⟩, ⟨F0.out.below vB, (vB.block D1 HSF.out.2.1).trans FK1.out⟩⟩, FB0.out.trans (vB.mono (by have := HSF.out; omega))⟩
    (fun p a' W => a' = { tmps := #[.slice (some ⟨b, off, none⟩) n cap, .func (.func g) #[] #[], undef, .pointer (some ⟨w.heap.size, 0, none⟩), .pointer (some ⟨w.heap.size + 1, 0, none⟩), .pointer (some ⟨w.heap.size + 2, 0, none⟩), .pointer (some ⟨w.heap.size + 3, 0, none⟩), .pointer (some ⟨w.heap.size + 4, 0, none⟩), .pointer (some ⟨w.heap.size + 5, 0, none⟩), undef, undef, undef, .int .i64 p.1.1, .int .i64 p.1.2, undef, .func (.func 127) #[] #[.pointer (some ⟨w.heap.size, 0, none⟩)], .func (.func 128) #[] #[.pointer (some ⟨w.heap.size, 0, none⟩)], .slice (some ⟨b, off, none⟩) n cap, .func (.func 153) #[] #[.pointer (some ⟨Z1, 0, none⟩)], .func (.func 132) #[] #[.pointer (some ⟨w.heap.size + 2, 0, none⟩)], .slice (some ⟨blk1, 0, none⟩) n cp1, .func (.func 127) #[] #[.pointer (some ⟨w.heap.size, 0, none⟩)], .func (.func 150) #[] #[.pointer (some ⟨S1, 0, none⟩), .pointer (some ⟨S1 + 1, 0, none⟩)], undef, undef, undef, undef, undef, undef, undef, undef, undef, undef, undef, undef, undef, undef, .slice (some ⟨b, off, none⟩) n cap, .func (.func 153) #[] #[.pointer (some ⟨Z2, 0, none⟩)], .func (.func 133) #[] #[.pointer (some ⟨w.heap.size + 3, 0, none⟩)], .slice (some ⟨blk2, 0, none⟩) n cp2, .func (.func 128) #[] #[.pointer (some ⟨w.heap.size, 0, none⟩)], .func (.func 150) #[] #[.pointer (some ⟨S2, 0, none⟩), .pointer (some ⟨S2 + 1, 0, none⟩)], .int .i64 p.1.1, .int .i64 p.1.2, undef, undef, undef, undef, undef, undef, undef, undef, undef, undef, undef, undef, undef], defers := [] })
    (fun p a' _ X Z row hs hg hr => hs)
    ?assign2 ?body2 ?done2 ?stop2
  case assign2 =>
    rintro l pre p W K hI hK
    simp only [encM]
    gi_wp2
    exact hK _ _ (KeepsFrom.refl _ _) (KeptC.refl _ _) hI rfl
  case stop2 =>
    rintro D c pre W hD _ hx _
    exact hx.elim
  case body2 =>
    rintro l pre p a' W hl ⟨r, hr⟩ ⟨⟨⟨⟨b5, b4⟩, b1⟩, e0, e3⟩, hB1⟩ rfl hlt
    have hsW := hB1.size
    have HNX := Lib.hid (show cHi ((pre ++ [p]).map (·.1)) = cHiStep (cHi (pre.map (·.1))) p.1 by rw [List.map_append]; exact cHi_snoc _ _)
    obtain ⟨⟨mass, mom⟩, hp⟩ := p
    obtain ⟨p1, p2, p3, p4⟩ := hp
    have c5 := b5.cell 0
    have c4 := b4.cell 1
    simp at c5 c4
    generalize cHi (pre.map (·.1)) = s at *
    obtain ⟨sf, sl⟩ := s
    dsimp only at *
    have l4 := Soft.LtH.mk (b := w.heap.size + 4) (w := W) b4.lt
    have l5 := Soft.LtH.mk (b := w.heap.size + 5) (w := W) b5.lt
    have CD := Lib.hid (fun W' => cond_up mom mass W' (by omega) (by omega) (by omega))
    unfold cHiStep at HNX
    dsimp only at HNX
    generalize -(-mom / mass) = q at *
    have fz5 := b5.frozen 0
    have fz4 := b4.frozen 1
    have HNX := HNX.out
    have NW := Lib.hid (⟨b5, b4, b1, e0, e3, hB1⟩ : _ ∧ _ ∧ _ ∧ _ ∧ _ ∧ _)
    clear b5 b4 b1 e0 e3 hB1 hr v0 v1 vB vW hkl
    cases sf with
    | true =>
      rw [if_pos (.inl rfl)] at HNX
      have HNX := Lib.hid HNX
      gi_wp2_with (gi_at_call 115; refine (CallsIn.inRound l (callsIn_wide.2 (CD.out _))).mono ?_; rintro e w_ ⟨rfl, hw_⟩; subst w_)
      obtain ⟨b5, b4, b1, e0, e3, hB1⟩ := NW.out
      have k1 : KeptC [w.heap.size + 4, w.heap.size + 5] W ((W.setCell ⟨w.heap.size + 4, 1, none⟩ (.int .i64 q)).setCell ⟨w.heap.size + 5, 0, none⟩ (.bool false)) := (KeptC.set (by simp) _).trans (KeptC.set (by simp) _)
      have x5 : HasBlk ((W.setCell ⟨w.heap.size + 4, 1, none⟩ (.int .i64 q)).setCell ⟨w.heap.size + 5, 0, none⟩ (.bool false)) (w.heap.size + 5) #[.bool false] 4 := ((KeptC.set (ex := [w.heap.size + 4]) (by simp) _).blk b5 (by simp)).put 0 _
      have x4 := (KeptC.set (ex := [w.heap.size + 5]) (p := ⟨w.heap.size + 5, 0, none⟩) (by simp) (.bool false)).blk (b4.put 1 (.int .i64 q)) (by simp)
      have k2 := (Below.heap_setCell (W.setCell ⟨w.heap.size + 4, 1, none⟩ (.int .i64 q)) ⟨w.heap.size + 5, 0, none⟩ (.bool false) D1 (by have := HSF.out; dsimp only; omega)).trans ((Below.heap_setCell W ⟨w.heap.size + 4, 1, none⟩ (.int .i64 q) D1 (by have := HSF.out; dsimp only; omega)).trans e3); exact ⟨((KeepsOthers.setCell _ _ _).trans (KeepsOthers.setCell _ _ _)).from _, k1, ⟨⟨⟨by rw [HNX.out]; exact x5, by rw [HNX.out]; exact x4⟩, k1.blk b1 (by simp)⟩, ⟨k1.blk e0 (by simp), k2⟩⟩, (hB1.setCell (p := ⟨w.heap.size + 4, 1, none⟩) (by dsimp only; omega) _).setCell (p := ⟨w.heap.size + 5, 0, none⟩) (by dsimp only; omega) _⟩
    | false =>
      by_cases ht : sl < q
      · rw [if_pos (.inr ht)] at HNX
        have HNX := Lib.hid HNX
        gi_wp2_with (gi_at_call 115; refine (CallsIn.inRound l (callsIn_wide.2 (CD.out _))).mono ?_; rintro e w_ ⟨rfl, hw_⟩; subst w_)
        obtain ⟨b5, b4, b1, e0, e3, hB1⟩ := NW.out
        have k1 : KeptC [w.heap.size + 4, w.heap.size + 5] W ((W.setCell ⟨w.heap.size + 4, 1, none⟩ (.int .i64 q)).setCell ⟨w.heap.size + 5, 0, none⟩ (.bool false)) := (KeptC.set (by simp) _).trans (KeptC.set (by simp) _)
        have x5 : HasBlk ((W.setCell ⟨w.heap.size + 4, 1, none⟩ (.int .i64 q)).setCell ⟨w.heap.size + 5, 0, none⟩ (.bool false)) (w.heap.size + 5) #[.bool false] 4 := ((KeptC.set (ex := [w.heap.size + 4]) (by simp) _).blk b5 (by simp)).put 0 _
        have x4 := (KeptC.set (ex := [w.heap.size + 5]) (p := ⟨w.heap.size + 5, 0, none⟩) (by simp) (.bool false)).blk (b4.put 1 (.int .i64 q)) (by simp)
        have k2 := (Below.heap_setCell (W.setCell ⟨w.heap.size + 4, 1, none⟩ (.int .i64 q)) ⟨w.heap.size + 5, 0, none⟩ (.bool false) D1 (by have := HSF.out; dsimp only; omega)).trans ((Below.heap_setCell W ⟨w.heap.size + 4, 1, none⟩ (.int .i64 q) D1 (by have := HSF.out; dsimp only; omega)).trans e3); exact ⟨((KeepsOthers.setCell _ _ _).trans (KeepsOthers.setCell _ _ _)).from _, k1, ⟨⟨⟨by rw [HNX.out]; exact x5, by rw [HNX.out]; exact x4⟩, k1.blk b1 (by simp)⟩, ⟨k1.blk e0 (by simp), k2⟩⟩, (hB1.setCell (p := ⟨w.heap.size + 4, 1, none⟩) (by dsimp only; omega) _).setCell (p := ⟨w.heap.size + 5, 0, none⟩) (by dsimp only; omega) _⟩
      · rw [if_neg (by simp [ht])] at HNX
        have HNX := Lib.hid HNX
        gi_wp2_with (gi_at_call 115; refine (CallsIn.inRound l (callsIn_wide.2 (CD.out _))).mono ?_; rintro e w_ ⟨rfl, hw_⟩; subst w_)
        obtain ⟨b5, b4, b1, e0, e3, hB1⟩ := NW.out
        exact ⟨KeepsFrom.refl _ _, KeptC.refl _ _, ⟨⟨⟨by rw [HNX.out]; exact b5, by rw [HNX.out]; exact b4⟩, b1⟩, e0, e3⟩, hB1⟩
  rintro D2 ys W hD2 rfl ⟨⟨⟨⟨b5, b4⟩, b1⟩, e0, hK1⟩, hB1⟩ hK2
  obtain ⟨hi1, hhi1⟩ : ∃ hi, (cHi ((upto (mxOf l2 (fun x => (sel x).hi)) (n + 1)).map (·.1))).2 = hi := ⟨_, rfl⟩
  rw [hhi1] at b4
  have HHI1 := Lib.hid hhi1
  clear hhi1
  have d0 := b4.cell 0
  have d1 := b4.cell 1
  have q0 := b1.cell 0
  have q1 := b1.cell 1
  have f0 := b1.frozen 0
  have f1 := b1.frozen 1
  simp at d0 d1 q0 q1
  have l4 := Soft.LtH.mk (b := w.heap.size + 4) (w := W) b4.lt
  have l1_ := Soft.LtH.mk (b := w.heap.size + 1) (w := W) b1.lt
  have hD12 : D1 < D2 := by have := HSF.out; have := vB.size; omega
  have hD16 := HSF.out.2.2
  have fin := (b1.put 0 (.int .i64 lo1)).put 1 (.int .i64 hi1)
  have hfb : Below w.heap.size w ((W.setCell ⟨w.heap.size + 1, 0, none⟩ (.int .i64 lo1)).setCell ⟨w.heap.size + 1, 1, none⟩ (.int .i64 hi1)) :=
    (hB1.setCell (p := ⟨w.heap.size + 1, 0, none⟩) (by dsimp only; omega) _).setCell (p := ⟨w.heap.size + 1, 1, none⟩) (by dsimp only; omega) _
  have hk1 := (Below.heap_setCell (W.setCell ⟨w.heap.size + 1, 0, none⟩ (.int .i64 lo1)) ⟨w.heap.size + 1, 1, none⟩ (.int .i64 hi1) D1 (by dsimp only; omega)).trans ((Below.heap_setCell W ⟨w.heap.size + 1, 0, none⟩ (.int .i64 lo1) D1 (by dsimp only; omega)).trans hK1)
  have hk2 := (Below.heap_setCell (W.setCell ⟨w.heap.size + 1, 0, none⟩ (.int .i64 lo1)) ⟨w.heap.size + 1, 1, none⟩ (.int .i64 hi1) D2 (by dsimp only; omega)).trans ((Below.heap_setCell W ⟨w.heap.size + 1, 0, none⟩ (.int .i64 lo1) D2 (by dsimp only; omega)).trans hK2)
  have FIN := Lib.hid fin; have HFB := Lib.hid hfb; have KK1 := Lib.hid hk1; have KK2 := Lib.hid hk2
  have HD := Lib.hid (show w.heap.size + 6 ≤ D1 ∧ D1 < D2 from ⟨hD16, hD12⟩)
  clear fin hfb hk1 hk2 b5 b4 b1 e0 hB1 hK1 hK2 v0 v1 vB vW hkl hD2 hD12 hD16 hvs hb1 hb2 c2b lt2b
  gi_wp2
  have fin := FIN.out; have hfb := HFB.out; have hk1 := KK1.out; have hk2 := KK2.out
  obtain ⟨hd1, hd2⟩ := HD.out
  clear FIN HFB KK1 KK2
  generalize (W.setCell ⟨w.heap.size + 1, 0, none⟩ (.int .i64 lo1)).setCell ⟨w.heap.size + 1, 1, none⟩ (.int .i64 hi1) = Wf at *
  have hk3 : (Wf.putObj D2 (.deferred none)).heap[D1]? = some (.deferred (some [])) := (World.putObj_heap_other (by omega)).trans hk1
  have r0 := cell_kept (cell_kept (fin.cell 0) (grownBy_putObj' _ D2 (.deferred none)) (fun r e => by cases e; exact ⟨_, hk2, rfl⟩)) (grownBy_putObj' _ D1 (.deferred none)) (fun r e => by cases e; exact ⟨_, hk3, rfl⟩)
  have r1 := cell_kept (cell_kept (fin.cell 1) (grownBy_putObj' _ D2 (.deferred none)) (fun r e => by cases e; exact ⟨_, hk2, rfl⟩)) (grownBy_putObj' _ D1 (.deferred none)) (fun r e => by cases e; exact ⟨_, hk3, rfl⟩)
  have hfin := (hfb.trans (belowK_b (w := w) (Nat.le_refl _) Wf D2 _ (.deferred none) (by omega) hk2 rfl rfl)).trans (belowK_b (w := w) (Nat.le_refl _) (Wf.putObj D2 (.deferred none)) D1 _ (.deferred none) (by omega) hk3 rfl rfl)
  refine ⟨by simp, .inl ⟨_, _, rfl, run_takeDeferred hk2, ?_⟩⟩
  refine ⟨by simp, .inl ⟨_, _, rfl, run_takeDeferred hk3, ?_⟩⟩
  refine ⟨.agg #[.int .i64 lo1, .int .i64 hi1], ?_, l1, l2, P11.out, P21.out, P12.out, P22.out, ?_, hfin⟩
  · simp [results, Tryz.f62, go_sem, r0, r1]
  · rw [← HLO1.out, ← HHI1.out, mx_map (hok1 l1 P11.out) _ (by rw [P11.out.length_eq]; omega), mx_map (hok2 l2 P12.out) _ (by rw [P12.out.length_eq]; omega), hxs]

end Go.Proofs.YteagdcgmmdiakaaGreat

namespace Go.Proofs.YteagdcgmmdiakaaGreat
set_option linter.unusedSimpArgs false
set_option linter.unusedVariables false
open Go.RowKit Go.Shelf
set_option maxRecDepth 100000
set_option maxHeartbeats 8000000
attribute [local go_sem] Oper.semAt_some Instr.field asAgg Soft.upon Soft.upon0 Soft.stepC Soft.BW.cell_if Soft.BW.frozen_if Soft.cell_alloc_if Soft.frozen_alloc_if
attribute [local irreducible] Soft.wpSoft Soft.wpMix

/-- The masses of the first weights together. -/
def mSum (xs : List Wt) : Nat → Rg
  | 0 => ⟨0, 0⟩
  | k + 1 => addR (mSum xs k) (wv xs k).mass
theorem mSum_in {xs : List Wt} : ∀ k, k ≤ 41 → (∀ j, j < k → isWt (wv xs j)) → 0 ≤ (mSum xs k).lo ∧ (mSum xs k).lo ≤ (mSum xs k).hi ∧ (mSum xs k).hi ≤ k * 1000000000
  | 0, _, _ => ⟨Int.le_refl _, Int.le_refl _, Int.le_refl _⟩
  | k + 1, hk, h => by
    obtain ⟨a, b, c⟩ := mSum_in k (by omega) (fun j hj => h j (by omega))
    obtain ⟨⟨w1, w2, w3⟩, _, _⟩ := h k (by omega)
    unfold mSum addR
    dsimp only
    omega
theorem mSum_pos {xs : List Wt} : ∀ k, (∀ j, j < k → isWt (wv xs j)) → (mSum xs k).lo ≠ 0 → ∃ j, j < k ∧ 1 ≤ (wv xs j).mass.lo
  | 0, _, h => absurd rfl h
  | k + 1, hw, h => by
    obtain ⟨⟨w1, w2, w3⟩, _, _⟩ := hw k (by omega)
    by_cases e : (mSum xs k).lo = 0
    · refine ⟨k, by omega, ?_⟩
      unfold mSum addR at h
      dsimp only at h
      omega
    · obtain ⟨j, hj, h1⟩ := mSum_pos k (fun j hj => hw j (by omega)) e
      exact ⟨j, by omega, h1⟩
theorem wv_mem {l : List Wt} {k : Nat} (h : k < l.length) : wv l k ∈ l := by
  simp [wv, List.getElem?_eq_getElem h]
theorem mem_wv {l : List Wt} {x : Wt} (h : x ∈ l) : ∃ k, k < l.length ∧ wv l k = x := by
  obtain ⟨k, hk, e⟩ := List.getElem_of_mem h
  exact ⟨k, hk, by simp [wv, List.getElem?_eq_getElem hk, e]⟩

/-- Valid weights, one of them with a mass. -/
structure AllWt (xs : List Wt) : Prop where
  n : xs.length ≤ 41
  w : ∀ k, k < xs.length → isWt (wv xs k)
  pos : (mSum xs xs.length).lo ≠ 0
theorem AllWt.mem {xs : List Wt} (h : AllWt xs) (x : Wt) (hx : x ∈ xs) : isWt x := by
  obtain ⟨k, hk, rfl⟩ := mem_wv hx
  exact h.w k hk
theorem AllWt.ok {xs l : List Wt} (h : AllWt xs) (hp : l.Perm xs) (pl : Wt → Int) (hpl : ∀ x, isWt x → -1000000 ≤ pl x ∧ pl x ≤ 1000000) : WtsOk l pl where
  n := by rw [hp.length_eq]; exact h.n
  w := fun k hk => h.mem _ (hp.subset (wv_mem hk))
  pl := fun k hk => hpl _ (h.mem _ (hp.subset (wv_mem hk)))
  pos := by
    obtain ⟨j, hj, h1⟩ := mSum_pos _ h.w h.pos
    obtain ⟨k, hk, e⟩ := mem_wv (hp.symm.subset (wv_mem hj))
    exact ⟨k, hk, by rw [e]; exact h1⟩

/-- What a centre is: the least of the quotients along one order of the weights, the greatest along another. -/
def CentreIs (sel : Wt → Rg) (xs : List Wt) (r : Rg) : Prop :=
  ∃ l1 l2 : List Wt, l1.Perm xs ∧ (∀ i j, i < j → j < l1.length → (sel (wv l1 i)).lo ≤ (sel (wv l1 j)).lo) ∧ l2.Perm xs ∧ (∀ i j, i < j → j < l2.length → (sel (wv l2 j)).hi ≤ (sel (wv l2 i)).hi) ∧
    r = ⟨(cLo ((upto (mixP l1 (fun x => (sel x).lo)) (xs.length + 1)))).2, (cHi ((upto (mixP l2 (fun x => (sel x).hi)) (xs.length + 1)))).2⟩
theorem sum_centre1 {xs : List Wt} (h : AllWt xs) (b off n cap : Nat) (hn : 1 ≤ n) (w : World) (hs : WsAt w ⟨some ⟨b, off, none⟩, n, cap, xs⟩) :
    Calls Tryz.prog 62 #[.slice (some ⟨b, off, none⟩) n cap, .func (.func 63) #[] #[]] w fun e w' => (∃ r, CentreIs Wt.along xs r ∧ e = .returned (.agg #[.int .i64 (r).lo, .int .i64 (r).hi])) ∧ Below w.heap.size w w' := by
  have hb : ∀ x : Wt, isWt x → -1000000 ≤ x.along.lo ∧ x.along.lo ≤ x.along.hi ∧ x.along.hi ≤ 1000000 := fun x hx => by
    obtain ⟨_, ⟨a1, a2, a3⟩, ⟨b1, b2, b3⟩⟩ := hx
    omega
  refine (cond_centre sum_fn1 b off n cap xs (fun x hx => ?_) w hs hn (fun l hp => h.ok hp _ fun x hx => ?_) (fun l hp => h.ok hp _ fun x hx => ?_)).mono ?_
  · have := hb x (h.mem x hx)
    unfold I32x
    omega
  · have := hb x hx
    omega
  · have := hb x hx
    omega
  · rintro e w' ⟨l1, l2, p1, p2, p3, p4, rfl, hB⟩
    exact ⟨⟨_, ⟨l1, l2, p1, p2, p3, p4, rfl⟩, rfl⟩, hB⟩
theorem sum_centre2 {xs : List Wt} (h : AllWt xs) (b off n cap : Nat) (hn : 1 ≤ n) (w : World) (hs : WsAt w ⟨some ⟨b, off, none⟩, n, cap, xs⟩) :
    Calls Tryz.prog 62 #[.slice (some ⟨b, off, none⟩) n cap, .func (.func 64) #[] #[]] w fun e w' => (∃ r, CentreIs Wt.high xs r ∧ e = .returned (.agg #[.int .i64 (r).lo, .int .i64 (r).hi])) ∧ Below w.heap.size w w' := by
  have hb : ∀ x : Wt, isWt x → -1000000 ≤ x.high.lo ∧ x.high.lo ≤ x.high.hi ∧ x.high.hi ≤ 1000000 := fun x hx => by
    obtain ⟨_, ⟨a1, a2, a3⟩, ⟨b1, b2, b3⟩⟩ := hx
    omega
  refine (cond_centre sum_fn2 b off n cap xs (fun x hx => ?_) w hs hn (fun l hp => h.ok hp _ fun x hx => ?_) (fun l hp => h.ok hp _ fun x hx => ?_)).mono ?_
  · have := hb x (h.mem x hx)
    unfold I32x
    omega
  · have := hb x hx
    omega
  · have := hb x hx
    omega
  · rintro e w' ⟨l1, l2, p1, p2, p3, p4, rfl, hB⟩
    exact ⟨⟨_, ⟨l1, l2, p1, p2, p3, p4, rfl⟩, rfl⟩, hB⟩

def zWt : Wt := ⟨⟨0, 0⟩, ⟨0, 0⟩, ⟨0, 0⟩⟩
/-- What Sum hands back. -/
def SumIs (xs : List Wt) (v : Wt) (c : Int) : Prop :=
  (41 < xs.length ∧ v = zWt ∧ c = 2) ∨
  (xs.length ≤ 41 ∧ (∃ k, k < xs.length ∧ ¬isWt (wv xs k)) ∧ v = zWt ∧ c = 31) ∨
  (xs.length ≤ 41 ∧ (∀ k, k < xs.length → isWt (wv xs k)) ∧ (mSum xs xs.length).lo = 0 ∧ v = zWt ∧ c = 3) ∨
  (AllWt xs ∧ c = 0 ∧ v.mass = mSum xs xs.length ∧ CentreIs Wt.along xs v.along ∧ CentreIs Wt.high xs v.high)
def SumPost (xs : List Wt) (w : World) (e : Ending) (w' : World) : Prop :=
  (∃ v c, SumIs xs v c ∧ e = .returned (.tuple #[.agg #[.int .i64 ((v).mass).lo, .int .i64 ((v).mass).hi, .int .i64 ((v).along).lo, .int .i64 ((v).along).hi, .int .i64 ((v).high).lo, .int .i64 ((v).high).hi], .int .i64 c])) ∧ Below w.heap.size w w'

/-- The result is stored: its cells, and the world. -/
theorem six_put {w W : World} {B : Nat} (v : Array Value) (hv : v.size = 6) (h : HasBlk W B v 29) (hB : Below w.heap.size w W) (hle : w.heap.size ≤ B) (a b c d e f : Value) :
    HasBlk ((((((W.setCell ⟨B, 0, none⟩ a).setCell ⟨B, 1, none⟩ b).setCell ⟨B, 2, none⟩ c).setCell ⟨B, 3, none⟩ d).setCell ⟨B, 4, none⟩ e).setCell ⟨B, 5, none⟩ f) B #[a, b, c, d, e, f] 29 ∧
    Below w.heap.size w ((((((W.setCell ⟨B, 0, none⟩ a).setCell ⟨B, 1, none⟩ b).setCell ⟨B, 2, none⟩ c).setCell ⟨B, 3, none⟩ d).setCell ⟨B, 4, none⟩ e).setCell ⟨B, 5, none⟩ f) := by
  refine ⟨?_, (((((hB.setCell (p := ⟨B, 0, none⟩) hle _).setCell (p := ⟨B, 1, none⟩) hle _).setCell (p := ⟨B, 2, none⟩) hle _).setCell (p := ⟨B, 3, none⟩) hle _).setCell (p := ⟨B, 4, none⟩) hle _).setCell (p := ⟨B, 5, none⟩) hle _⟩
  have := ((((((h.put 0 a).put 1 b).put 2 c).put 3 d).put 4 e).put 5 f)
  obtain ⟨l⟩ := v
  match l, hv with
  | [x0, x1, x2, x3, x4, x5], _ => exact this

theorem cond_Sum1 (b off n cap : Nat) (xs : List Wt) (hn : 1 ≤ n) (w : World) (hs : WsAt w ⟨some ⟨b, off, none⟩, n, cap, xs⟩) :
    Calls Tryz.prog 20 #[.slice (some ⟨b, off, none⟩) n cap] w (SumPost xs w) := by
  have hxs : xs.length = n := hs.1
  have hcap : n ≤ cap ∧ cap ≤ 9223372036854775807 := ⟨hs.2.1, hs.2.2.1⟩
  have HS := Lib.hid hs
  have HX := Lib.hid hxs
  clear hs
  go_enter Tryz.func20, Tryz.ntmps20
  by_cases h41 : 41 < n
  · have H41 := Lib.hid h41
    go_wp2
    refine bodyPost_ret (v := .tuple #[.agg #[.int .i64 0, .int .i64 0, .int .i64 0, .int .i64 0, .int .i64 0, .int .i64 0], .int .i64 2]) (by simp [results, Tryz.results20, go_sem]) rfl ?_
    exact ⟨⟨zWt, 2, .inl ⟨by omega, rfl, rfl⟩, rfl⟩, by (with_reducible repeat (first | exact blr _ | refine bla ?_ _ | refine blw _ ?_ | refine bld ?_ | refine bln _ ?_ | refine bls ?_ _ | refine blt ?_))⟩
  · go_wp2_with fail
    have H41 := Lib.hid h41
    have g0 : HasBlk ((w.alloc (.cells #[.int .i64 0, .int .i64 0, .int .i64 0, .int .i64 0, .int .i64 0, .int .i64 0] 29)).alloc (.cells #[.int .i64 0, .int .i64 0] 27)) w.heap.size #[.int .i64 0, .int .i64 0, .int .i64 0, .int .i64 0, .int .i64 0, .int .i64 0] 29 := by simp only [HasBlk, Soft.heap_alloc_if, Soft.heap_new]
    have g1 : HasBlk ((w.alloc (.cells #[.int .i64 0, .int .i64 0, .int .i64 0, .int .i64 0, .int .i64 0, .int .i64 0] 29)).alloc (.cells #[.int .i64 0, .int .i64 0] 27)) (w.heap.size + 1) #[.int .i64 (mSum xs 0).lo, .int .i64 (mSum xs 0).hi] 27 := by simp only [HasBlk, Soft.heap_new1]; rfl
    have hB0 : Below w.heap.size w ((w.alloc (.cells #[.int .i64 0, .int .i64 0, .int .i64 0, .int .i64 0, .int .i64 0, .int .i64 0] 29)).alloc (.cells #[.int .i64 0, .int .i64 0] 27)) := by (with_reducible repeat (first | exact blr _ | refine bla ?_ _ | refine blw _ ?_ | refine bld ?_ | refine bln _ ?_ | refine bls ?_ _ | refine blt ?_))
    generalize (w.alloc (.cells #[.int .i64 0, .int .i64 0, .int .i64 0, .int .i64 0, .int .i64 0, .int .i64 0] 29)).alloc (.cells #[.int .i64 0, .int .i64 0] 27) = W0 at *
    go_loopw [14] (fun i wr => ∃ k : Nat, k ≤ n ∧ i = .int .i64 k ∧ (∀ j, j < k → isWt (wv xs j)) ∧ HasBlk wr w.heap.size #[.int .i64 0, .int .i64 0, .int .i64 0, .int .i64 0, .int .i64 0, .int .i64 0] 29 ∧ HasBlk wr (w.heap.size + 1) #[.int .i64 (mSum xs k).lo, .int .i64 (mSum xs k).hi] 27 ∧ Below w.heap.size w wr) (fun i _ => n - (intOf i).toNat)
    case atStart => exact ⟨0, Nat.zero_le _, rfl, fun j hj => absurd hj (Nat.not_lt_zero j), g0, g1, hB0⟩
    case round =>
      obtain ⟨k, hk, rfl, hall, b0, b1, hB⟩ := hrel
      have hm := mSum_in k (by omega) hall
      have HALL := Lib.hid hall
      have q0 := b0.cell 0
      have q1 := b0.cell 1
      have q2 := b0.cell 2
      have q3 := b0.cell 3
      have q4 := b0.cell 4
      have q5 := b0.cell 5
      have m0 := b1.cell 0
      have m1 := b1.cell 1
      have z0 := b0.frozen 0
      have z1 := b0.frozen 1
      have z2 := b0.frozen 2
      have z3 := b0.frozen 3
      have z4 := b0.frozen 4
      have z5 := b0.frozen 5
      have n0 := b1.frozen 0
      have n1 := b1.frozen 1
      simp at q0 q1 q2 q3 q4 q5 m0 m1
      have l0 := Soft.LtH.mk (b := w.heap.size) (w := wr) b0.lt
      have l1 := Soft.LtH.mk (b := w.heap.size + 1) (w := wr) b1.lt
      have B0 := Lib.hid b0; have B1 := Lib.hid b1
      clear b0 b1 hall
      by_cases hlt : k < n
      · obtain ⟨b', o', e, hb, hcs⟩ := (HS.out.same hB).cells (by dsimp only; omega)
        cases e
        obtain ⟨c0, c1, c2, c3, c4, c5⟩ := hcs k hlt
        dsimp only at c0 c1 c2 c3 c4 c5
        have lb := Soft.LtH.mk (b := b) (w := wr) hb
        have HB := Lib.hid hB
        clear hcs hB
        by_cases hw : isWt (wv xs k)
        · have HNX := Lib.hid (show mSum xs (k + 1) = addR (mSum xs k) (wv xs k).mass from rfl)
          obtain ⟨w1, w2, w3⟩ := hw.1
          have HW := Lib.hid hw
          have CW := Lib.hid (fun W => cond_CheckWeight (wv xs k) W)
          rw [if_pos hw] at CW
          have CP := Lib.hid (fun W => cond_plus (mSum xs k) (wv xs k).mass W (by omega) (by omega) (by omega) (by omega))
          clear hw
          generalize mSum xs k = s at *
          generalize hq : wv xs k = q at *
          have HQ := Lib.hid hq; clear hq
          go_wp2_with (first | (go_at_call 60; (with_reducible refine (CW.out _).mono ?_); rintro e w_ ⟨rfl, hb_⟩; obtain ⟨y1, rfl⟩ := Soft.BW.mk hb_; clear hb_) | (go_at_call 61; (with_reducible refine (CP.out _).mono ?_); rintro e w_ ⟨rfl, hb_⟩; obtain ⟨y2, rfl⟩ := Soft.BW.mk hb_; clear hb_))
          have hbl : Below wr.heap.size wr y2.w := by (with_reducible repeat (first | exact blr _ | refine bla ?_ _ | refine blw _ ?_ | refine bld ?_ | refine bln _ ?_ | refine bls ?_ _ | refine blt ?_))
          go_roundw
          case rel =>
            refine ⟨k + 1, by omega, by simp, fun j hj => ?_, HasBlk.set_other (HasBlk.set_other (B0.out.below hbl) (by dsimp only; omega) _) (by dsimp only; omega) _, ?_, ((HB.out.trans (hbl.mono HB.out.size)).setCell (p := ⟨w.heap.size + 1, 0, none⟩) (by dsimp only; omega) _).setCell (p := ⟨w.heap.size + 1, 1, none⟩) (by dsimp only; omega) _⟩
            · by_cases e : j = k
              · subst e; rw [HQ.out]; exact HW.out
              · exact HALL.out j (by omega)
            · rw [HNX.out]
              exact ((B1.out.below hbl).put 0 _).put 1 _
          case measure => simp [intOf]; omega
        · have HW := Lib.hid hw
          have CW := Lib.hid (fun W => cond_CheckWeight (wv xs k) W)
          rw [if_neg hw] at CW
          clear hw
          go_wp2_with (first | (go_at_call 60; (with_reducible refine (CW.out _).mono ?_); rintro e w_ ⟨rfl, hb_⟩; obtain ⟨y1, rfl⟩ := Soft.BW.mk hb_; clear hb_))
          have hB := HB.out.trans ((show Below wr.heap.size wr y1.w by (with_reducible repeat (first | exact blr _ | refine bla ?_ _ | refine blw _ ?_ | refine bld ?_ | refine bln _ ?_ | refine bls ?_ _ | refine blt ?_))).mono HB.out.size)
          have b0 := B0.out.below (show Below wr.heap.size wr y1.w by (with_reducible repeat (first | exact blr _ | refine bla ?_ _ | refine blw _ ?_ | refine bld ?_ | refine bln _ ?_ | refine bls ?_ _ | refine blt ?_)))
          clear q0 q1 q2 q3 q4 q5
          obtain ⟨fin, hbf⟩ := six_put _ rfl b0 hB (Nat.le_refl w.heap.size) (.int .i64 0) (.int .i64 0) (.int .i64 0) (.int .i64 0) (.int .i64 0) (.int .i64 0)
          have FIN := Lib.hid fin; have HBF := Lib.hid hbf
          clear fin hbf
          generalize (((((((y1.w).setCell ⟨w.heap.size, 0, none⟩ (.int .i64 0)).setCell ⟨w.heap.size, 1, none⟩ (.int .i64 0)).setCell ⟨w.heap.size, 2, none⟩ (.int .i64 0)).setCell ⟨w.heap.size, 3, none⟩ (.int .i64 0)).setCell ⟨w.heap.size, 4, none⟩ (.int .i64 0)).setCell ⟨w.heap.size, 5, none⟩ (.int .i64 0)) = Wf at *
          have d0 := FIN.out.cell 0
          have d1 := FIN.out.cell 1
          have d2 := FIN.out.cell 2
          have d3 := FIN.out.cell 3
          have d4 := FIN.out.cell 4
          have d5 := FIN.out.cell 5
          simp at d0 d1 d2 d3 d4 d5
          go_wp2_with fail
          refine bodyPost_ret (v := .tuple #[.agg #[.int .i64 0, .int .i64 0, .int .i64 0, .int .i64 0, .int .i64 0, .int .i64 0], .int .i64 31]) (by simp [results, Tryz.f20, go_sem, d0, d1, d2, d3, d4, d5]) rfl ?_
          exact ⟨⟨zWt, 31, .inr (.inl ⟨by omega, ⟨k, by omega, HW.out⟩, rfl, rfl⟩), rfl⟩, HBF.out⟩
      · obtain rfl : k = n := by omega
        have HB := Lib.hid hB
        clear hB
        by_cases hz : (mSum xs k).lo = 0
        · have HZ := Lib.hid hz
          generalize hs2 : mSum xs k = s at *
          have HZ2 := Lib.hid hs2
          clear hs2
          go_wp2_with fail
          have hB := HB.out
          have b0 := B0.out
          clear q0 q1 q2 q3 q4 q5
          obtain ⟨fin, hbf⟩ := six_put _ rfl b0 hB (Nat.le_refl w.heap.size) (.int .i64 0) (.int .i64 0) (.int .i64 0) (.int .i64 0) (.int .i64 0) (.int .i64 0)
          have FIN := Lib.hid fin; have HBF := Lib.hid hbf
          clear fin hbf
          generalize (((((((wr).setCell ⟨w.heap.size, 0, none⟩ (.int .i64 0)).setCell ⟨w.heap.size, 1, none⟩ (.int .i64 0)).setCell ⟨w.heap.size, 2, none⟩ (.int .i64 0)).setCell ⟨w.heap.size, 3, none⟩ (.int .i64 0)).setCell ⟨w.heap.size, 4, none⟩ (.int .i64 0)).setCell ⟨w.heap.size, 5, none⟩ (.int .i64 0)) = Wf at *
          have d0 := FIN.out.cell 0
          have d1 := FIN.out.cell 1
          have d2 := FIN.out.cell 2
          have d3 := FIN.out.cell 3
          have d4 := FIN.out.cell 4
          have d5 := FIN.out.cell 5
          simp at d0 d1 d2 d3 d4 d5
          go_wp2_with fail
          refine bodyPost_ret (v := .tuple #[.agg #[.int .i64 0, .int .i64 0, .int .i64 0, .int .i64 0, .int .i64 0, .int .i64 0], .int .i64 3]) (by simp [results, Tryz.f20, go_sem, d0, d1, d2, d3, d4, d5]) rfl ?_
          exact ⟨⟨zWt, 3, .inr (.inr (.inl ⟨by omega, fun j hj => HALL.out j (by have := HX.out; omega), by rw [HX.out, HZ2.out]; exact HZ.out, rfl, rfl⟩)), rfl⟩, HBF.out⟩
        · have hall : AllWt xs := ⟨by omega, fun j hj => HALL.out j (by have := HX.out; omega), by rw [HX.out]; exact hz⟩
          have C1 := Lib.hid (fun W hW => sum_centre1 hall b off k cap hn W hW)
          have C2 := Lib.hid (fun W hW => sum_centre2 hall b off k cap hn W hW)
          have HA := Lib.hid hall
          have HSW := Lib.hid (HS.out.same HB.out)
          clear hall
          generalize hs2 : mSum xs k = s at *
          have HZ2 := Lib.hid hs2
          clear hs2
          go_wp2_with fail
          ((refine Soft.region_mix [(true, 0), (true, 1), (true, 3), (false, 2), (false, 4), (true, 5)] [6, 7] (by kernel_rfl) (by kernel_rfl) (by kernel_rfl) (by kernel_rfl) ?_; change Soft.wpMix _ _ _ _ [(true, _), (true, _), (true, _), (false, _), (false, _), (true, _)] _ _); (refine Soft.mix_q (fun K hK => ?_); go_simp; (try go_bits); first | (refine hK _ ?_; clear hK K) | (apply Exists.intro; refine ⟨fun x => ?_, hK _ ?_⟩; fail)); (refine Soft.mix_q (fun K hK => ?_); go_simp; (try go_bits); first | (refine hK _ ?_; clear hK K) | (apply Exists.intro; refine ⟨fun x => ?_, hK _ ?_⟩; fail)); (refine Soft.mix_q (fun K hK => ?_); go_simp; (try go_bits); first | (refine hK _ ?_; clear hK K) | (apply Exists.intro; refine ⟨fun x => ?_, hK _ ?_⟩; fail)); (refine Soft.mix_c (fun K hK => ?_); go_simp; (try go_bits); ((go_at_call 62; (with_reducible refine (C1.out _ (HSW.out.same (by (with_reducible repeat (first | exact blr _ | refine bla ?_ _ | refine blw _ ?_ | refine bld ?_ | refine bln _ ?_ | refine bls ?_ _ | refine blt ?_))))).mono ?_); rintro e w_ ⟨⟨r1, hr1, rfl⟩, hb_⟩; obtain ⟨y1, rfl⟩ := Soft.BW.mk hb_; clear hb_; have R1 := Lib.hid hr1; clear hr1; refine ⟨_, rfl, (by first | with_reducible exact Soft.BW.below y1 | simpa using Soft.BW.below y1), hK _ _ ?_⟩)); clear hK K); (refine Soft.mix_c (fun K hK => ?_); go_simp; (try go_bits); ((go_at_call 62; (with_reducible refine (C2.out _ (HSW.out.same (by (with_reducible repeat (first | exact blr _ | refine bla ?_ _ | refine blw _ ?_ | refine bld ?_ | refine bln _ ?_ | refine bls ?_ _ | refine blt ?_))))).mono ?_); rintro e w_ ⟨⟨r2, hr2, rfl⟩, hb_⟩; obtain ⟨y2, rfl⟩ := Soft.BW.mk hb_; clear hb_; have R2 := Lib.hid hr2; clear hr2; refine ⟨_, rfl, (by first | with_reducible exact Soft.BW.below y2 | simpa using Soft.BW.below y2), hK _ _ ?_⟩)); clear hK K); (refine Soft.mix_q (fun K hK => ?_); go_simp; (try go_bits); first | (refine hK _ ?_; clear hK K) | (apply Exists.intro; refine ⟨fun x => ?_, hK _ ?_⟩; fail)); (refine Soft.mix_nil ?_; intro hbx; change wpList _ _ _ [_, _] _ _))
          go_wp2_with fail
          have hbl : Below wr.heap.size wr y2.w := by (with_reducible repeat (first | exact blr _ | refine bla ?_ _ | refine blw _ ?_ | refine bld ?_ | refine bln _ ?_ | refine bls ?_ _ | refine blt ?_))
          have hB := HB.out.trans (hbl.mono HB.out.size)
          have b0 := B0.out.below hbl
          clear q0 q1 q2 q3 q4 q5
          obtain ⟨fin, hbf⟩ := six_put _ rfl b0 hB (Nat.le_refl w.heap.size) (.int .i64 s.lo) (.int .i64 s.hi) (.int .i64 r1.lo) (.int .i64 r1.hi) (.int .i64 r2.lo) (.int .i64 r2.hi)
          have FIN := Lib.hid fin; have HBF := Lib.hid hbf
          clear fin hbf
          generalize (((((((y2.w).setCell ⟨w.heap.size, 0, none⟩ (.int .i64 s.lo)).setCell ⟨w.heap.size, 1, none⟩ (.int .i64 s.hi)).setCell ⟨w.heap.size, 2, none⟩ (.int .i64 r1.lo)).setCell ⟨w.heap.size, 3, none⟩ (.int .i64 r1.hi)).setCell ⟨w.heap.size, 4, none⟩ (.int .i64 r2.lo)).setCell ⟨w.heap.size, 5, none⟩ (.int .i64 r2.hi)) = Wf at *
          have d0 := FIN.out.cell 0
          have d1 := FIN.out.cell 1
          have d2 := FIN.out.cell 2
          have d3 := FIN.out.cell 3
          have d4 := FIN.out.cell 4
          have d5 := FIN.out.cell 5
          simp at d0 d1 d2 d3 d4 d5
          go_wp2_with fail
          refine bodyPost_ret (v := .tuple #[.agg #[.int .i64 s.lo, .int .i64 s.hi, .int .i64 r1.lo, .int .i64 r1.hi, .int .i64 r2.lo, .int .i64 r2.hi], .int .i64 0]) (by simp [results, Tryz.f20, go_sem, d0, d1, d2, d3, d4, d5]) rfl ?_
          exact ⟨⟨⟨s, r1, r2⟩, 0, .inr (.inr (.inr ⟨HA.out, rfl, by rw [HX.out]; exact HZ2.out.symm, R1.out, R2.out⟩)), rfl⟩, HBF.out⟩

end Go.Proofs.YteagdcgmmdiakaaGreat
