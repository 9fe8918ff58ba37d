/-
  fix: sum.add, twice, Area.
  cond: weights in order.
  Conditions: each theorem's own premises.
-/
import Derived.Test.YteagdcgmmdiakaaGreatP13
import Derived.Test.YteagdcgmmdiakaaGreatP03
namespace Go.Proofs.YteagdcgmmdiakaaGreat
set_option linter.unusedSimpArgs false
set_option linter.unusedVariables false
open Go.RowKit Go.Shelf
set_option maxRecDepth 100000
set_option maxHeartbeats 4000000
attribute [local go_sem] Oper.semAt_some Instr.field asAgg Soft.upon Soft.upon0 Soft.stepC Soft.BW.cell_if Soft.BW.frozen_if Soft.cell_alloc_if Soft.frozen_alloc_if
attribute [local irreducible] Soft.wpSoft Soft.wpMix

/-- One block has turned; all else lies as it lay. -/
structure ButG (g : Nat) (w w' : World) : Prop where
  os : w'.os = w.os
  tape : w'.tape = w.tape
  output : w'.output = w.output
  size : w.heap.size ≤ w'.heap.size
  block : ∀ k, k < w.heap.size → k ≠ g → w'.heap[k]? = w.heap[k]?
theorem ButG.of_below {g : Nat} {w w' : World} (h : Below w.heap.size w w') : ButG g w w' := ⟨h.os, h.tape, h.output, h.size, fun k hk _ => h.block k hk⟩
theorem ButG.trans {g : Nat} {a b c : World} (h : ButG g a b) (k : ButG g b c) : ButG g a c :=
  ⟨k.os.trans h.os, k.tape.trans h.tape, k.output.trans h.output, Nat.le_trans h.size k.size, fun i hi hg => (k.block i (Nat.lt_of_lt_of_le hi h.size) hg).trans (h.block i hi hg)⟩
theorem ButG.set {g : Nat} {w w' : World} (h : ButG g w w') {p : Addr} (hp : p.block = g) (v : Value) : ButG g w (w'.setCell p v) :=
  ⟨h.os, h.tape, h.output, by simpa using h.size, fun k hk hg => (Below.heap_setCell w' p v k (by rw [hp]; exact hg)).trans (h.block k hk hg)⟩
theorem ButG.drew {g : Nat} {w w' : World} (h : ButG g w w') : ButG g w w'.drew := ⟨h.os, h.tape, h.output, h.size, h.block⟩
theorem ButG.below {g B : Nat} {w w' : World} (h : ButG g w w') (hg : B ≤ g) (hB : B ≤ w.heap.size) : Below B w w' := ⟨h.os, h.tape, h.output, h.size, fun k hk => h.block k (by omega) (by omega)⟩
theorem ButG.kept {g : Nat} {w w' : World} {l : List Nat} (h : ButG g w w') (hl : ∀ k ∈ l, k ≠ g ∧ k < w.heap.size) : KeptL l w w' := ⟨h.size, fun k hk => h.block k (hl k hk).2 (hl k hk).1⟩
theorem ButG.keeps {g B : Nat} {w w' : World} (h : ButG g w w') {c : Array Value} {t : TypeId} (hg : HasBlk w g c t) : KeepsFrom B w w' :=
  ⟨h.size, fun k o _ hk ho => (h.block k (Array.getElem?_eq_some_iff.1 hk).1 (fun e => by
    subst e
    rw [show w.heap[k]? = _ from hg] at hk
    cases hk
    cases ho)).trans hk⟩

theorem ButG.blk {g k : Nat} {w w' : World} {c : Array Value} {t : TypeId} (h : ButG g w w') (hk : HasBlk w k c t) (hne : k ≠ g) : HasBlk w' k c t := (h.block k hk.lt hne).trans hk

/-- A sum: a whole number and a fraction. -/
structure Sm where
  whole : Int
  num : Int
  den : Int

theorem wrap64_I64 (n : Int) : I64 (wrap64 n) := by unfold wrap64; constructor <;> omega
/-- What add makes, as the machine reckons. -/
def smAdd (s : Sm) (n d : Int) : Sm :=
  if 0 < n - n / d * d then ⟨wrap64 (s.whole + n / d), wrap64 (wrap64 (s.num * d) + wrap64 ((n - n / d * d) * s.den)), wrap64 (s.den * d)⟩ else ⟨wrap64 (s.whole + n / d), s.num, s.den⟩
def SmIn (s : Sm) : Prop := I64 s.whole ∧ I64 s.num ∧ I64 s.den
theorem smAdd_in {s : Sm} (h : SmIn s) (n d : Int) : SmIn (smAdd s n d) := by
  unfold smAdd
  split
  · exact ⟨wrap64_I64 _, wrap64_I64 _, wrap64_I64 _⟩
  · exact ⟨wrap64_I64 _, h.2⟩
def smC (s : Sm) : Array Value := #[.int .i64 s.whole, .int .i64 s.num, .int .i64 s.den]

theorem sum_add (g : Nat) (s : Sm) (n d : Int) (w : World) (hg : HasBlk w g (smC s) 122) (hn : -4000000000000000000 ≤ n ∧ n ≤ 4000000000000000000) (hd : 1 ≤ d ∧ d ≤ 1000000) (hs : SmIn s) :
    Calls Tryz.prog 126 #[.pointer (some ⟨g, 0, none⟩), .int .i64 n, .int .i64 d] w fun e w' => e = .returned (.tuple #[]) ∧ HasBlk w' g (smC (smAdd s n d)) 122 ∧ ButG g w w' := by
  obtain ⟨x, y, z⟩ := s
  unfold smAdd smC SmIn at *
  dsimp only at *
  obtain ⟨⟨x1, x2⟩, ⟨y1, y2⟩, z1, z2⟩ := hs
  obtain ⟨n1, n2⟩ := hn
  obtain ⟨d1, d2⟩ := hd
  have c0 := hg.cell 0
  have c1 := hg.cell 1
  have c2 := hg.cell 2
  have f0 := hg.frozen 0
  have f1 := hg.frozen 1
  have f2 := hg.frozen 2
  simp at c0 c1 c2
  have lg := Soft.LtH.mk (b := g) (w := w) hg.lt
  have HG := Lib.hid hg; clear hg
  have r0 : n - n / d * d = n % d := by have := Int.mul_ediv_add_emod n d; rw [Int.mul_comm] at this; omega
  have r1 := Int.emod_nonneg n (show d ≠ 0 by omega)
  have r2 := Int.emod_lt_of_pos n (show 0 < d by omega)
  have CD := Lib.hid (fun W => fix_down n d W (by omega) (by omega) d1)
  generalize n / d = q at *
  have r3 : -5000000000000000000 ≤ q * d ∧ q * d ≤ 5000000000000000000 := by omega
  obtain ⟨r31, r32⟩ := r3
  generalize hqd : q * d = p at *
  by_cases hr : 0 < n - p
  · have HR := Lib.hid hr
    rw [if_pos hr]
    generalize hrr : n - p = r at *
    have DR := Lib.hid (show decide (0 < r) = true from decide_eq_true hr)
    go_enter Tryz.func126, Tryz.ntmps126
    go_wp2_with fail
    (refine Soft.region0 [0, 1, 2, 3, 4, 5, 6, 7, 8, 9] [10] (by kernel_rfl) (by kernel_rfl) (by kernel_rfl) (by kernel_rfl) ?_; change Soft.wpSoft _ _ _ _ _ [_, _, _, _, _, _, _, _, _, _] _; (repeat (refine Soft.soft_step (fun K hK => ?_); go_simp; (try go_bits); first | (refine hK _ ?_; clear hK K) | (apply Exists.intro; refine ⟨fun x => ?_, hK _ ?_⟩; ((go_at_call 58; exact Calls.bel (CD.out _))); clear hK K))); refine Soft.soft_nil ?_; intro xw; change wpList _ _ _ [_] _ _)
    go_wp2_with (go_at_call 58; (with_reducible refine (CD.out _).mono ?_); rintro e w_ ⟨rfl, hw_⟩; subst w_)
    go_region
    go_end0
    rw [r0]
    exact ⟨rfl, (((HG.out.below xw.below).put 0 _).put 1 _).put 2 _, ((((ButG.of_below xw.below).set (p := ⟨g, 0, none⟩) rfl _).set (p := ⟨g, 1, none⟩) rfl _).set (p := ⟨g, 2, none⟩) rfl _).drew⟩
  · rw [if_neg hr]
    have hr' : n - p = 0 := by omega
    go_enter Tryz.func126, Tryz.ntmps126
    go_wp2_with fail
    (refine Soft.region0 [0, 1, 2, 3, 4, 5, 6, 7, 8, 9] [10] (by kernel_rfl) (by kernel_rfl) (by kernel_rfl) (by kernel_rfl) ?_; change Soft.wpSoft _ _ _ _ _ [_, _, _, _, _, _, _, _, _, _] _; (repeat (refine Soft.soft_step (fun K hK => ?_); go_simp; (try go_bits); first | (refine hK _ ?_; clear hK K) | (apply Exists.intro; refine ⟨fun x => ?_, hK _ ?_⟩; ((go_at_call 58; exact Calls.bel (CD.out _))); clear hK K))); refine Soft.soft_nil ?_; intro xw; change wpList _ _ _ [_] _ _)
    go_wp2_with (go_at_call 58; (with_reducible refine (CD.out _).mono ?_); rintro e w_ ⟨rfl, hw_⟩; subst w_)
    go_end0
    exact ⟨rfl, (HG.out.below xw.below).put 0 _, (ButG.of_below xw.below).set (p := ⟨g, 0, none⟩) rfl _⟩


/-- The points' end of a piece, and what a piece comes to. -/
def twN (sel : Pt → Int) (p : Pt × Pt) (fr to : Int) : Sm → Sm := fun s =>
  smAdd ⟨wrap64 (s.whole + (2 * sel p.1 * (to - fr) + (sel p.2 - sel p.1) / (p.2.x - p.1.x) * ((to - fr) * (fr + to - 2 * p.1.x)))), s.num, s.den⟩ (((sel p.2 - sel p.1) - (sel p.2 - sel p.1) / (p.2.x - p.1.x) * (p.2.x - p.1.x)) * ((to - fr) * (fr + to - 2 * p.1.x))) (p.2.x - p.1.x)
def twStep (sel : Pt → Int) (a b : Int) (s : Sm) (p : Pt × Pt) : Sm :=
  if min p.2.x b ≤ max p.1.x a then s else twN sel p (max p.1.x a) (min p.2.x b) s
def twS (sel : Pt → Int) (a b : Int) (l : List (Pt × Pt)) : Sm := l.foldl (twStep sel a b) ⟨0, 0, 1⟩
theorem twStep_in {sel : Pt → Int} {a b : Int} {s : Sm} (h : SmIn s) (p : Pt × Pt) : SmIn (twStep sel a b s p) := by
  unfold twStep
  split
  · exact h
  · exact smAdd_in (s := ⟨_, s.num, s.den⟩) ⟨wrap64_I64 _, h.2⟩ _ _
theorem twS_snoc (sel : Pt → Int) (a b : Int) (l : List (Pt × Pt)) (p : Pt × Pt) : twS sel a b (l ++ [p]) = twStep sel a b (twS sel a b l) p := by simp [twS]
theorem twS_in (sel : Pt → Int) (a b : Int) (l : List (Pt × Pt)) : SmIn (twS sel a b l) := by
  unfold twS
  have : ∀ s, SmIn s → SmIn (l.foldl (twStep sel a b) s) := by
    induction l with
    | nil => intro s h; exact h
    | cons x l ih => intro s h; exact ih _ (twStep_in h x)
  exact this _ ⟨⟨by decide, by decide⟩, ⟨by decide, by decide⟩, by decide, by decide⟩

/-- The numbers that a piece comes to are small. -/
theorem tw_bounds {x1 x2 y z fr to : Int} (h0 : 0 ≤ x1) (h1 : x2 ≤ 1000000) (hlt : x1 < x2) (hy : -1000000000 ≤ y ∧ y ≤ 1000000000) (hz : -1000000000 ≤ z ∧ z ≤ 1000000000) (f1 : x1 ≤ fr) (f2 : fr < to) (f3 : to ≤ x2) :
    (0 ≤ (to - fr) * (fr + to - 2 * x1) ∧ (to - fr) * (fr + to - 2 * x1) ≤ 1000000000000) ∧ (-2000000000000000 ≤ 2 * y * (to - fr) ∧ 2 * y * (to - fr) ≤ 2000000000000000) ∧
    (-3000000000 ≤ (z - y) / (x2 - x1) * (x2 - x1) ∧ (z - y) / (x2 - x1) * (x2 - x1) ≤ 2000000000) ∧ (0 ≤ (z - y) - (z - y) / (x2 - x1) * (x2 - x1) ∧ (z - y) - (z - y) / (x2 - x1) * (x2 - x1) < x2 - x1) ∧
    (-4000000000000000 ≤ (z - y) / (x2 - x1) * ((to - fr) * (fr + to - 2 * x1)) ∧ (z - y) / (x2 - x1) * ((to - fr) * (fr + to - 2 * x1)) ≤ 4000000000000000) ∧
    (0 ≤ ((z - y) - (z - y) / (x2 - x1) * (x2 - x1)) * ((to - fr) * (fr + to - 2 * x1)) ∧ ((z - y) - (z - y) / (x2 - x1) * (x2 - x1)) * ((to - fr) * (fr + to - 2 * x1)) ≤ 1000000000000000000) := by
  generalize hw : x2 - x1 = w
  generalize hr : z - y = r
  have hw1 : 1 ≤ w := by omega
  have hw2 : w ≤ 1000000 := by omega
  have k1 : 0 ≤ (to - fr) * (fr + to - 2 * x1) := Int.mul_nonneg (by omega) (by omega)
  have k2 : (to - fr) * (fr + to - 2 * x1) ≤ w * w := by
    have e : (to - fr) * (fr + to - 2 * x1) = (to - x1) * (to - x1) - (fr - x1) * (fr - x1) := by
      have : to - fr = (to - x1) - (fr - x1) := by omega
      rw [this, show fr + to - 2 * x1 = (to - x1) + (fr - x1) by omega]
      generalize to - x1 = v
      generalize fr - x1 = u
      rw [Int.sub_mul, Int.mul_add, Int.mul_add, Int.mul_comm u v]
      omega
    have a1 : (to - x1) * (to - x1) ≤ w * w := Int.mul_le_mul (by omega) (by omega) (by omega) (by omega)
    have a2 : 0 ≤ (fr - x1) * (fr - x1) := Int.mul_nonneg (by omega) (by omega)
    omega
  have k3 : w * w ≤ 1000000 * 1000000 := Int.mul_le_mul hw2 hw2 (by omega) (by omega)
  have k4 : w * w ≤ 1000000 * w := Int.mul_le_mul hw2 (Int.le_refl _) (by omega) (by omega)
  generalize (to - fr) * (fr + to - 2 * x1) = k at *
  have e0 := Int.emod_nonneg r (show w ≠ 0 by omega)
  have e1 := Int.emod_lt_of_pos r (show 0 < w by omega)
  have e2 := Int.mul_ediv_add_emod r w
  rw [Int.mul_comm] at e2
  generalize hq : r / w = q at *
  generalize hm : r % w = m at *
  have e3 : r - q * w = m := by omega
  have y1 : (2 * y) * (to - fr) ≤ 2000000000 * 1000000 := by
    have a1 : (2 * y) * (to - fr) ≤ 2000000000 * (to - fr) := Int.mul_le_mul_of_nonneg_right (by omega) (by omega)
    omega
  have y2 : -(2000000000 * 1000000) ≤ (2 * y) * (to - fr) := by
    have a1 : (-2000000000) * (to - fr) ≤ (2 * y) * (to - fr) := Int.mul_le_mul_of_nonneg_right (by omega) (by omega)
    omega
  have m1 : 0 ≤ m * k := Int.mul_nonneg e0 k1
  have m2 : m * k ≤ 1000000 * 1000000000000 := Int.mul_le_mul (by omega) (by omega) k1 (by omega)
  have q1 : -4000000000000000 ≤ q * k ∧ q * k ≤ 4000000000000000 := by
    by_cases hq0 : 0 ≤ q
    · have a1 : q * k ≤ q * (w * w) := Int.mul_le_mul_of_nonneg_left k2 hq0
      have a2 : q * (w * w) = (q * w) * w := by rw [Int.mul_assoc]
      have a3 : (q * w) * w ≤ 2000000000 * w := Int.mul_le_mul_of_nonneg_right (by omega) (by omega)
      have a4 := Int.mul_nonneg hq0 k1
      omega
    · have a1 : q * (w * w) ≤ q * k := Int.mul_le_mul_of_nonpos_left (by omega) k2
      have a2 : q * (w * w) = (q * w) * w := by rw [Int.mul_assoc]
      have a3 : (-2001000000) * w ≤ (q * w) * w := Int.mul_le_mul_of_nonneg_right (by omega) (by omega)
      have a4 : q * k ≤ 0 := Int.mul_nonpos_of_nonpos_of_nonneg (by omega) k1
      omega
  rw [e3]
  exact ⟨⟨k1, by omega⟩, ⟨by omega, by omega⟩, ⟨by omega, by omega⟩, ⟨e0, e1⟩, q1, m1, by omega⟩


theorem tmax_if (a b : Int) : (if a < b then b else a) = max a b := by
  by_cases h : a < b
  · rw [if_pos h]; omega
  · rw [if_neg h]; omega
theorem tmin_if (a b : Int) : (if b < a then b else a) = min a b := by
  by_cases h : b < a
  · rw [if_pos h]; omega
  · rw [if_neg h]; omega
/-- What twice asks of the function that says which line. -/
structure LineFn (gf : FuncId) (sel : Pt → Int) : Prop where
  enter : ∀ args W, Sem.run Tryz.prog (callFunc gf args) W = .ok (.enter gf args) W
  call : ∀ (p : Pt) (W : World), Calls Tryz.prog gf #[.agg #[.int .i64 (p).x, .int .i64 (p).lo, .int .i64 (p).hi]] W fun e w' => e = .returned (.int .i64 (sel p)) ∧ Below W.heap.size W w'
  bd : ∀ p : Pt, -1000000000 ≤ p.lo → p.lo ≤ p.hi → p.hi ≤ 1000000000 → -1000000000 ≤ sel p ∧ sel p ≤ 1000000000

theorem fix_twice (t : Tb) (a b : Int) (gf : FuncId) (sel : Pt → Int) (hgf : LineFn gf sel) (w : World) (ht : t.At w) (hok : TabOk t.ps) :
    Calls Tryz.prog 55 #[.agg #[.slice (t).p (t).n (t).c], .int .i64 a, .int .i64 b, .func (.func gf) #[] #[]] w fun e w' => e = .returned (.agg (smC (twS sel a b ((upto (pcOf t.ps) (nPieces t.ps)).map (·.1))))) ∧ Below w.heap.size w w' := by
  have hT : ∀ f, Fence.wide.fn f := fun _ => trivial
  have hpos := hok.pos
  obtain ⟨tb, to_, htp, htb, _⟩ := ht.2.2.2.2 (by have := ht.1; omega)
  have HTP := Lib.hid htp; clear htp
  refine (callsIn_wide (n := 6)).1 ?_
  refine callsIn_of_wp_marks Tryz.func55 rfl (hT _) ?_ rfl
  simp only [Tryz.ntmps55, List.size_toArray, List.length_cons, List.length_nil, Nat.reduceAdd, Nat.reduceSub, Array.replicate_succ, Array.replicate_zero, List.push_toArray, List.append_toArray, List.nil_append, List.cons_append]
  gi_wp2_with (gi_at_call 123; refine (pieces_in Fence.wide 5 (hT _) rfl _ _ _ _).mono ?_; rintro e w' ⟨rfl, rfl⟩)
  simp only [Nat.add_assoc, Nat.reduceAdd]
  have h1 : HasBlk (((((((w.alloc (.cells #[.slice t.p t.n t.c] 24)).alloc (.cells #[.int .i64 a] 3)).alloc (.cells #[.int .i64 b] 3)).alloc (.cells #[.func (.func gf) #[] #[]] 124)).alloc (.cells #[.int .i64 0, .int .i64 0, .int .i64 0] 122)).alloc (.cells #[.int .i64 0, .int .i64 0, .int .i64 1] 122)).alloc (.cells #[.slice t.p t.n t.c] 24)) (w.heap.size + 1) #[.int .i64 a] 3 := by simp only [HasBlk, Soft.heap_alloc_if, Soft.heap_new1]
  have h2 : HasBlk (((((((w.alloc (.cells #[.slice t.p t.n t.c] 24)).alloc (.cells #[.int .i64 a] 3)).alloc (.cells #[.int .i64 b] 3)).alloc (.cells #[.func (.func gf) #[] #[]] 124)).alloc (.cells #[.int .i64 0, .int .i64 0, .int .i64 0] 122)).alloc (.cells #[.int .i64 0, .int .i64 0, .int .i64 1] 122)).alloc (.cells #[.slice t.p t.n t.c] 24)) (w.heap.size + 2) #[.int .i64 b] 3 := by simp only [HasBlk, Soft.heap_alloc_if, Soft.heap_new2]
  have h3 : HasBlk (((((((w.alloc (.cells #[.slice t.p t.n t.c] 24)).alloc (.cells #[.int .i64 a] 3)).alloc (.cells #[.int .i64 b] 3)).alloc (.cells #[.func (.func gf) #[] #[]] 124)).alloc (.cells #[.int .i64 0, .int .i64 0, .int .i64 0] 122)).alloc (.cells #[.int .i64 0, .int .i64 0, .int .i64 1] 122)).alloc (.cells #[.slice t.p t.n t.c] 24)) (w.heap.size + 3) #[.func (.func gf) #[] #[]] 124 := by simp only [HasBlk, Soft.heap_alloc_if, Soft.heap_new3]
  have h4 : HasBlk (((((((w.alloc (.cells #[.slice t.p t.n t.c] 24)).alloc (.cells #[.int .i64 a] 3)).alloc (.cells #[.int .i64 b] 3)).alloc (.cells #[.func (.func gf) #[] #[]] 124)).alloc (.cells #[.int .i64 0, .int .i64 0, .int .i64 0] 122)).alloc (.cells #[.int .i64 0, .int .i64 0, .int .i64 1] 122)).alloc (.cells #[.slice t.p t.n t.c] 24)) (w.heap.size + 4) #[.int .i64 0, .int .i64 0, .int .i64 0] 122 := by simp only [HasBlk, Soft.heap_alloc_if, Soft.heap_new4]
  have h5 : HasBlk (((((((w.alloc (.cells #[.slice t.p t.n t.c] 24)).alloc (.cells #[.int .i64 a] 3)).alloc (.cells #[.int .i64 b] 3)).alloc (.cells #[.func (.func gf) #[] #[]] 124)).alloc (.cells #[.int .i64 0, .int .i64 0, .int .i64 0] 122)).alloc (.cells #[.int .i64 0, .int .i64 0, .int .i64 1] 122)).alloc (.cells #[.slice t.p t.n t.c] 24)) (w.heap.size + 5) (smC (twS sel a b (([] : List Pc).map (·.1)))) 122 := by simp only [HasBlk, Soft.heap_alloc_if, Soft.heap_new5]; rfl
  have h6 : HasBlk (((((((w.alloc (.cells #[.slice t.p t.n t.c] 24)).alloc (.cells #[.int .i64 a] 3)).alloc (.cells #[.int .i64 b] 3)).alloc (.cells #[.func (.func gf) #[] #[]] 124)).alloc (.cells #[.int .i64 0, .int .i64 0, .int .i64 0] 122)).alloc (.cells #[.int .i64 0, .int .i64 0, .int .i64 1] 122)).alloc (.cells #[.slice t.p t.n t.c] 24)) (w.heap.size + 6) #[.slice t.p t.n t.c] 24 := by
    have := Soft.heap_new ((((((w.alloc (.cells #[.slice t.p t.n t.c] 24)).alloc (.cells #[.int .i64 a] 3)).alloc (.cells #[.int .i64 b] 3)).alloc (.cells #[.func (.func gf) #[] #[]] 124)).alloc (.cells #[.int .i64 0, .int .i64 0, .int .i64 0] 122)).alloc (.cells #[.int .i64 0, .int .i64 0, .int .i64 1] 122)) (.cells #[.slice t.p t.n t.c] 24)
    simp only [World.size_alloc] at this
    exact this
  have hB0 : Below w.heap.size w (((((((w.alloc (.cells #[.slice t.p t.n t.c] 24)).alloc (.cells #[.int .i64 a] 3)).alloc (.cells #[.int .i64 b] 3)).alloc (.cells #[.func (.func gf) #[] #[]] 124)).alloc (.cells #[.int .i64 0, .int .i64 0, .int .i64 0] 122)).alloc (.cells #[.int .i64 0, .int .i64 0, .int .i64 1] 122)).alloc (.cells #[.slice t.p t.n t.c] 24)) := by (with_reducible repeat (first | exact blr _ | refine bla ?_ _ | refine blw _ ?_ | refine bld ?_ | refine bln _ ?_ | refine bls ?_ _ | refine blt ?_))
  have hsz : (((((((w.alloc (.cells #[.slice t.p t.n t.c] 24)).alloc (.cells #[.int .i64 a] 3)).alloc (.cells #[.int .i64 b] 3)).alloc (.cells #[.func (.func gf) #[] #[]] 124)).alloc (.cells #[.int .i64 0, .int .i64 0, .int .i64 0] 122)).alloc (.cells #[.int .i64 0, .int .i64 0, .int .i64 1] 122)).alloc (.cells #[.slice t.p t.n t.c] 24)).heap.size = w.heap.size + 7 := by simp
  obtain ⟨W0, hW0⟩ : ∃ W0, ((((((w.alloc (.cells #[.slice t.p t.n t.c] 24)).alloc (.cells #[.int .i64 a] 3)).alloc (.cells #[.int .i64 b] 3)).alloc (.cells #[.func (.func gf) #[] #[]] 124)).alloc (.cells #[.int .i64 0, .int .i64 0, .int .i64 0] 122)).alloc (.cells #[.int .i64 0, .int .i64 0, .int .i64 1] 122)).alloc (.cells #[.slice t.p t.n t.c] 24) = W0 := ⟨_, rfl⟩
  rw [hW0] at h1 h2 h3 h4 h5 h6 hB0 hsz ⊢
  clear hW0
  have ht0 := ht.same hB0
  have hkl : ∀ k ∈ [tb, w.heap.size + 6], k < W0.heap.size := by intro k hk; simp at hk; omega
  refine wpIn_rangeFunc_ownH (F := Fence.wide) (n := 6) rfl (by decide) (gf := 148) (lb := #[.pointer (some ⟨w.heap.size + 6, 0, none⟩)]) rfl (hT _) (enters_of Tryz.func148 (by kernel_rfl) rfl)
    (pieces_stopsK Fence.wide 5 (hT _) rfl (by decide) (w.heap.size + 6) tb t W0 ht0 hok (by omega) (fun b' o e => by rw [HTP.out] at e; cases e; rfl) (by rw [h6.cell]; rfl)) keptL_t (keptL_b hkl) (Below.refl _ _) (fun _ => rfl)
    (fun pre W => ((((HasBlk W (w.heap.size + 1) #[.int .i64 a] 3 ∧ HasBlk W (w.heap.size + 2) #[.int .i64 b] 3) ∧ HasBlk W (w.heap.size + 3) #[.func (.func gf) #[] #[]] 124) ∧ HasBlk W (w.heap.size + 4) #[.int .i64 0, .int .i64 0, .int .i64 0] 122) ∧ HasBlk W (w.heap.size + 5) (smC (twS sel a b (pre.map (·.1)))) 122) ∧ Below w.heap.size W0 W)
    (fun c pre W => False)
    (OwnFrom.and (OwnFrom.and (OwnFrom.and (OwnFrom.and (OwnFrom.and (Own.from (hasBlk_own _ _ _) _) (Own.from (hasBlk_own _ _ _) _)) (Own.from (hasBlk_own _ _ _) _)) (Own.from (hasBlk_own _ _ _) _)) (Own.from (fun s A B row hs hg hr => hasBlk_own (w.heap.size + 5) (smC (twS sel a b (s.map (·.1)))) 122 s A B row hs hg hr) _)) (ownFrom_below (by omega) (by omega)))
    (fun c => fun _ _ _ _ hs _ _ => hs)
    ⟨⟨⟨⟨⟨h1, h2⟩, h3⟩, h4⟩, h5⟩, Below.refl _ _⟩
    (fun p a' W => ∃ Bx, w.heap.size + 6 < Bx ∧ HasBlk W Bx #[.int .i64 p.1.1.x, .int .i64 p.1.1.lo, .int .i64 p.1.1.hi, .int .i64 p.1.2.x, .int .i64 p.1.2.lo, .int .i64 p.1.2.hi] 168 ∧ a' = { tmps := #[.agg #[.slice t.p t.n t.c], .int .i64 a, .int .i64 b, .func (.func gf) #[] #[], .pointer (some ⟨w.heap.size, 0, none⟩), .pointer (some ⟨w.heap.size + 1, 0, none⟩), .pointer (some ⟨w.heap.size + 2, 0, none⟩), .pointer (some ⟨w.heap.size + 3, 0, none⟩), .pointer (some ⟨w.heap.size + 4, 0, none⟩), .pointer (some ⟨w.heap.size + 5, 0, none⟩), .pointer (some ⟨Bx, 0, none⟩), undef, undef, undef, undef, undef, undef, undef, .agg #[.int .i64 0, .int .i64 0, .int .i64 1], .agg #[.slice t.p t.n t.c], .func (.func 148) #[] #[.pointer (some ⟨w.heap.size + 6, 0, none⟩)], .agg #[.int .i64 p.1.1.x, .int .i64 p.1.1.lo, .int .i64 p.1.1.hi, .int .i64 p.1.2.x, .int .i64 p.1.2.lo, .int .i64 p.1.2.hi], undef, undef, undef, undef, undef, undef, undef, undef, undef, undef, undef, undef, undef, undef, undef, undef, undef, undef, undef, undef, undef, undef, undef, undef, undef, undef, undef, undef, undef, undef, undef, undef, undef, undef, undef, undef, undef, undef, undef, undef, undef, undef, undef, undef, undef, undef, undef, undef, undef, undef, undef, undef, undef, undef, undef, undef, undef, undef, undef, undef, undef, undef, undef, undef, undef, undef, undef, undef, undef, undef, undef, undef], defers := [] })
    (fun p a' _ X Z row hs hg hr => by obtain ⟨Bx, e1, e2, e3⟩ := hs; exact ⟨Bx, e1, hasBlk_own Bx _ _ () X Z row e2 hg (fun r e => (hr r e).2), e3⟩)
    ?assign ?body ?done ?stop
  case assign =>
    rintro l pre p W K ⟨⟨⟨⟨⟨b1, b2⟩, b3⟩, b4⟩, b5⟩, hB1⟩ hK
    have hsW := hB1.size
    simp only [encP]
    gi_wp2

    refine hK _ _ ((KeepsOthers.alloc _ _).from _) (KeptL.alloc (fun k hk => by have := hkl k hk; omega) _) ⟨⟨⟨⟨⟨b1.below ((Below.refl _ _).alloc (Nat.le_refl _) _), b2.below ((Below.refl _ _).alloc (Nat.le_refl _) _)⟩, b3.below ((Below.refl _ _).alloc (Nat.le_refl _) _)⟩, b4.below ((Below.refl _ _).alloc (Nat.le_refl _) _)⟩, b5.below ((Below.refl _ _).alloc (Nat.le_refl _) _)⟩, hB1.alloc (by omega) _⟩ ⟨W.heap.size, by omega, World.alloc_heap_new W _, rfl⟩
  case body =>
    rintro l pre p a' W hl ⟨r, hr⟩ ⟨⟨⟨⟨⟨b1, b2⟩, b3⟩, b4⟩, b5⟩, hB1⟩ ⟨Bx, hBx, bX, rfl⟩ hlt
    have hsW := hB1.size
    have HNX := Lib.hid (show twS sel a b ((pre ++ [p]).map (·.1)) = twStep sel a b (twS sel a b (pre.map (·.1))) p.1 by rw [List.map_append]; exact twS_snoc _ _ _ _ _)
    obtain ⟨⟨pa, pb⟩, hp⟩ := p
    have c1 := b1.cell 0
    have c2 := b2.cell 0
    have c3 := b3.cell 0
    have x0 := bX.cell 0
    have x1 := bX.cell 1
    have x2 := bX.cell 2
    have x3 := bX.cell 3
    have x4 := bX.cell 4
    have x5 := bX.cell 5
    simp at c1 c2 c3 x0 x1 x2 x3 x4 x5
    have l1 := Soft.LtH.mk (b := w.heap.size + 1) (w := W) b1.lt
    have l2 := Soft.LtH.mk (b := w.heap.size + 2) (w := W) b2.lt
    have l3 := Soft.LtH.mk (b := w.heap.size + 3) (w := W) b3.lt
    have l5 := Soft.LtH.mk (b := w.heap.size + 5) (w := W) b5.lt
    have lX := Soft.LtH.mk (b := Bx) (w := W) bX.lt
    have hin := twS_in sel a b (pre.map (·.1))
    generalize twS sel a b (pre.map (·.1)) = s at *
    have HIN := Lib.hid hin; clear hin
    have B1 := Lib.hid b1; have B2 := Lib.hid b2; have B3 := Lib.hid b3; have B4 := Lib.hid b4; have B5 := Lib.hid b5; have HB1 := Lib.hid hB1
    dsimp only at *
    have HP := Lib.hid hp
    clear b1 b2 b3 b4 b5 hB1 hr h1 h2 h3 h4 h5 h6 ht0
    gi_wp2_with fail
    ((refine Soft.region_mix_in [(true, 0), (true, 1), (true, 2), (true, 3), (true, 4), (true, 5), (true, 6), (true, 7), (true, 8), (true, 9), (true, 10), (true, 11)] [] (by kernel_rfl) (by kernel_rfl) (by kernel_rfl) (by kernel_rfl) ?_; change Soft.wpMix _ _ _ _ [(true, _), (true, _), (true, _), (true, _), (true, _), (true, _), (true, _), (true, _), (true, _), (true, _), (true, _), (true, _)] _ _); (refine Soft.mix_q (fun K hK => ?_); go_simp; (try go_bits); first | (refine hK _ ?_; clear hK K) | (apply Exists.intro; refine ⟨fun x => ?_, hK _ ?_⟩; fail)); (refine Soft.mix_q (fun K hK => ?_); go_simp; (try go_bits); first | (refine hK _ ?_; clear hK K) | (apply Exists.intro; refine ⟨fun x => ?_, hK _ ?_⟩; fail)); (refine Soft.mix_q (fun K hK => ?_); go_simp; (try go_bits); first | (refine hK _ ?_; clear hK K) | (apply Exists.intro; refine ⟨fun x => ?_, hK _ ?_⟩; fail)); (refine Soft.mix_q (fun K hK => ?_); go_simp; (try go_bits); first | (refine hK _ ?_; clear hK K) | (apply Exists.intro; refine ⟨fun x => ?_, hK _ ?_⟩; fail)); (refine Soft.mix_q (fun K hK => ?_); go_simp; (try go_bits); first | (refine hK _ ?_; clear hK K) | (apply Exists.intro; refine ⟨fun x => ?_, hK _ ?_⟩; fail)); (refine Soft.mix_q (fun K hK => ?_); go_simp; (try go_bits); first | (refine hK _ ?_; clear hK K) | (apply Exists.intro; refine ⟨fun x => ?_, hK _ ?_⟩; fail)); (refine Soft.mix_q (fun K hK => ?_); go_simp; (try go_bits); first | (refine hK _ ?_; clear hK K) | (apply Exists.intro; refine ⟨fun x => ?_, hK _ ?_⟩; fail)); (refine Soft.mix_q (fun K hK => ?_); go_simp; (try go_bits); first | (refine hK _ ?_; clear hK K) | (apply Exists.intro; refine ⟨fun x => ?_, hK _ ?_⟩; fail)); (refine Soft.mix_q (fun K hK => ?_); go_simp; (try go_bits); first | (refine hK _ ?_; clear hK K) | (apply Exists.intro; refine ⟨fun x => ?_, hK _ ?_⟩; fail)); (refine Soft.mix_q (fun K hK => ?_); go_simp; (try go_bits); first | (refine hK _ ?_; clear hK K) | (apply Exists.intro; refine ⟨fun x => ?_, hK _ ?_⟩; fail)); (refine Soft.mix_q (fun K hK => ?_); go_simp; (try go_bits); first | (refine hK _ ?_; clear hK K) | (apply Exists.intro; refine ⟨fun x => ?_, hK _ ?_⟩; fail)); (refine Soft.mix_q (fun K hK => ?_); go_simp; (try go_bits); first | (refine hK _ ?_; clear hK K) | (apply Exists.intro; refine ⟨fun x => ?_, hK _ ?_⟩; fail)); (refine Soft.mix_nil ?_; intro hbx; change wpListIn _ _ _ _ _ [] _ _))
    try simp only [tmax_if, tmin_if]
    unfold twStep at HNX
    dsimp only at HNX
    have q1 : pa.x ≤ max pa.x a := by omega
    have q2 : min pb.x b ≤ pb.x := by omega
    generalize max pa.x a = fr at *
    generalize min pb.x b = to at *
    by_cases hsk : to ≤ fr
    · rw [if_pos hsk] at HNX
      gi_wp2_with fail
      have hD : Below W.heap.size W W.drew := (Below.refl _ _).drew
      exact ⟨keeps_of_below hD _, KeptL.of_below hD (fun k hk => by have := hkl k hk; omega), ⟨⟨⟨⟨B1.out.below hD, B2.out.below hD⟩, B3.out.below hD⟩, B4.out.below hD⟩, by rw [HNX.out]; exact B5.out.below hD⟩, HB1.out.trans (hD.mono (by omega))⟩
    · rw [if_neg hsk] at HNX
      have hok2 : PieceOk pa pb := by
        rcases HP.out with h | ⟨h, _⟩
        · exact h
        · exfalso
          dsimp only at h
          subst h
          omega
      obtain ⟨o1, o2, o3, o4, o5, o6, o7, o8, o9⟩ := hok2
      have y12 := hgf.bd pa o4 o5 o6
      have z12 := hgf.bd pb o7 o8 o9
      have hcf := hgf.enter
      have CS := Lib.hid hgf.call
      unfold twN at HNX
      dsimp only at HNX
      generalize hy : sel pa = y at *
      generalize hz : sel pb = z at *
      have HY := Lib.hid hy; have HZ := Lib.hid hz; clear hy hz
      obtain ⟨⟨k1, k2⟩, ⟨t1, t2⟩, ⟨v1, v2⟩, ⟨u1, u2⟩, ⟨g1, g2⟩, r1, r2⟩ := tw_bounds o1 o2 o3 y12 z12 q1 (by omega) q2
      have CD := Lib.hid (fun W => fix_down (z - y) (pb.x - pa.x) W (by omega) (by omega) (by omega))
      have hw1 : 1 ≤ pb.x - pa.x ∧ pb.x - pa.x ≤ 1000000 := by omega
      have HW1 := Lib.hid hw1; clear hw1
      obtain ⟨y1, y2⟩ := y12
      obtain ⟨z1, z2⟩ := z12
      generalize hk : (to - fr) * (fr + to - 2 * pa.x) = k at *
      generalize hyt : 2 * y * (to - fr) = yt at *
      generalize hq : (z - y) / (pb.x - pa.x) = q at *
      generalize hqw : q * (pb.x - pa.x) = qw at *
      generalize hqk : q * k = qk at *
      generalize hrk : (z - y - qw) * k = rk at *
      gi_wp2_with fail
      ((refine Soft.region_mix_in [(true, 0), (true, 1), (true, 2), (true, 4), (true, 5), (true, 6), (true, 8), (true, 9), (true, 10), (true, 13), (true, 14), (true, 15), (true, 16), (true, 17), (true, 18), (true, 19), (false, 3), (false, 7), (false, 11), (true, 12), (true, 20), (true, 21), (true, 22)] [] (by kernel_rfl) (by kernel_rfl) (by kernel_rfl) (by kernel_rfl) ?_; change Soft.wpMix _ _ _ _ [(true, _), (true, _), (true, _), (true, _), (true, _), (true, _), (true, _), (true, _), (true, _), (true, _), (true, _), (true, _), (true, _), (true, _), (true, _), (true, _), (false, _), (false, _), (false, _), (true, _), (true, _), (true, _), (true, _)] _ _); (refine Soft.mix_q (fun K hK => ?_); go_simp; (try go_bits); first | (refine hK _ ?_; clear hK K) | (apply Exists.intro; refine ⟨fun x => ?_, hK _ ?_⟩; fail)); (refine Soft.mix_q (fun K hK => ?_); go_simp; (try go_bits); first | (refine hK _ ?_; clear hK K) | (apply Exists.intro; refine ⟨fun x => ?_, hK _ ?_⟩; fail)); (refine Soft.mix_q (fun K hK => ?_); go_simp; (try go_bits); first | (refine hK _ ?_; clear hK K) | (apply Exists.intro; refine ⟨fun x => ?_, hK _ ?_⟩; fail)); (refine Soft.mix_q (fun K hK => ?_); go_simp; (try go_bits); first | (refine hK _ ?_; clear hK K) | (apply Exists.intro; refine ⟨fun x => ?_, hK _ ?_⟩; fail)); (refine Soft.mix_q (fun K hK => ?_); go_simp; (try go_bits); first | (refine hK _ ?_; clear hK K) | (apply Exists.intro; refine ⟨fun x => ?_, hK _ ?_⟩; fail)); (refine Soft.mix_q (fun K hK => ?_); go_simp; (try go_bits); first | (refine hK _ ?_; clear hK K) | (apply Exists.intro; refine ⟨fun x => ?_, hK _ ?_⟩; fail)); (refine Soft.mix_q (fun K hK => ?_); go_simp; (try go_bits); first | (refine hK _ ?_; clear hK K) | (apply Exists.intro; refine ⟨fun x => ?_, hK _ ?_⟩; fail)); (refine Soft.mix_q (fun K hK => ?_); go_simp; (try go_bits); first | (refine hK _ ?_; clear hK K) | (apply Exists.intro; refine ⟨fun x => ?_, hK _ ?_⟩; fail)); (refine Soft.mix_q (fun K hK => ?_); go_simp; (try go_bits); first | (refine hK _ ?_; clear hK K) | (apply Exists.intro; refine ⟨fun x => ?_, hK _ ?_⟩; fail)); (refine Soft.mix_q (fun K hK => ?_); go_simp; (try go_bits); first | (refine hK _ ?_; clear hK K) | (apply Exists.intro; refine ⟨fun x => ?_, hK _ ?_⟩; fail)); (refine Soft.mix_q (fun K hK => ?_); go_simp; (try go_bits); first | (refine hK _ ?_; clear hK K) | (apply Exists.intro; refine ⟨fun x => ?_, hK _ ?_⟩; fail)); (refine Soft.mix_q (fun K hK => ?_); go_simp; (try go_bits); first | (refine hK _ ?_; clear hK K) | (apply Exists.intro; refine ⟨fun x => ?_, hK _ ?_⟩; fail)); (refine Soft.mix_q (fun K hK => ?_); go_simp; (try go_bits); first | (refine hK _ ?_; clear hK K) | (apply Exists.intro; refine ⟨fun x => ?_, hK _ ?_⟩; fail)); (refine Soft.mix_q (fun K hK => ?_); go_simp; (try go_bits); first | (refine hK _ ?_; clear hK K) | (apply Exists.intro; refine ⟨fun x => ?_, hK _ ?_⟩; fail)); (refine Soft.mix_q (fun K hK => ?_); go_simp; (try go_bits); first | (refine hK _ ?_; clear hK K) | (apply Exists.intro; refine ⟨fun x => ?_, hK _ ?_⟩; fail)); (refine Soft.mix_q (fun K hK => ?_); go_simp; (try go_bits); first | (refine hK _ ?_; clear hK K) | (apply Exists.intro; refine ⟨fun x => ?_, hK _ ?_⟩; fail)); (refine Soft.mix_c (fun K hK => ?_); go_simp; (try go_bits); ((with_reducible refine (CS.out pa _).mono ?_); rintro e w_ ⟨rfl, hb_⟩; obtain ⟨m1, rfl⟩ := Soft.BW.mk hb_; clear hb_; rw [HY.out]; refine ⟨_, rfl, (by first | with_reducible exact Soft.BW.below m1 | simpa using Soft.BW.below m1), hK _ _ ?_⟩); clear hK K); (refine Soft.mix_c (fun K hK => ?_); go_simp; (try go_bits); ((with_reducible refine (CS.out pb _).mono ?_); rintro e w_ ⟨rfl, hb_⟩; obtain ⟨m2, rfl⟩ := Soft.BW.mk hb_; clear hb_; rw [HZ.out]; refine ⟨_, rfl, (by first | with_reducible exact Soft.BW.below m2 | simpa using Soft.BW.below m2), hK _ _ ?_⟩); clear hK K); (refine Soft.mix_c (fun K hK => ?_); go_simp; (try go_bits); ((with_reducible refine (CS.out pa _).mono ?_); rintro e w_ ⟨rfl, hb_⟩; obtain ⟨m3, rfl⟩ := Soft.BW.mk hb_; clear hb_; rw [HY.out]; refine ⟨_, rfl, (by first | with_reducible exact Soft.BW.below m3 | simpa using Soft.BW.below m3), hK _ _ ?_⟩); clear hK K); (refine Soft.mix_q (fun K hK => ?_); go_simp; (try go_bits); first | (refine hK _ ?_; clear hK K) | (apply Exists.intro; refine ⟨fun x => ?_, hK _ ?_⟩; fail)); (refine Soft.mix_q (fun K hK => ?_); go_simp; (try go_bits); first | (refine hK _ ?_; clear hK K) | (apply Exists.intro; refine ⟨fun x => ?_, hK _ ?_⟩; fail)); (refine Soft.mix_q (fun K hK => ?_); go_simp; (try go_bits); first | (refine hK _ ?_; clear hK K) | (apply Exists.intro; refine ⟨fun x => ?_, hK _ ?_⟩; fail)); (refine Soft.mix_q (fun K hK => ?_); go_simp; (try go_bits); first | (refine hK _ ?_; clear hK K) | (apply Exists.intro; refine ⟨fun x => ?_, hK _ ?_⟩; fail)); (refine Soft.mix_nil ?_; intro hbx; change wpListIn _ _ _ _ _ [] _ _))
      have e5 := B5.out.cell 0
      have f5 := B5.out.frozen 0
      simp [smC] at e5
      have HS := Lib.hid (show ∀ W' : World, HasBlk W' (w.heap.size + 5) (smC ⟨wrap64 (s.whole + (yt + qk)), s.num, s.den⟩) 122 → _ from fun W' h' => sum_add (w.heap.size + 5) ⟨wrap64 (s.whole + (yt + qk)), s.num, s.den⟩ rk (pb.x - pa.x) W' h' ⟨by omega, by omega⟩ HW1.out ⟨wrap64_I64 _, HIN.out.2⟩)
      have hA : Below W.heap.size W m3.w := by (with_reducible repeat (first | exact blr _ | refine bla ?_ _ | refine blw _ ?_ | refine bld ?_ | refine bln _ ?_ | refine bls ?_ _ | refine blt ?_))
      have HA := Lib.hid hA; clear hA
      gi_wp2_with (first | (gi_at_call 58; refine (CallsIn.inRound l (callsIn_wide.2 (CD.out _))).mono ?_; rintro e w_ ⟨rfl, hw_⟩; subst w_) | (gi_at_call 126; refine (CallsIn.inRound l (callsIn_wide.2 (HS.out _ ((B5.out.below HA.out).put 0 _)))).mono ?_; rintro e w_ ⟨rfl, hs5, hbg⟩))
      have hbt : ButG (w.heap.size + 5) W w_ := ((ButG.of_below HA.out).set (p := ⟨w.heap.size + 5, 0, none⟩) rfl _).trans hbg
      exact ⟨hbt.keeps B5.out, hbt.kept (fun k hk => ⟨by simp at hk; omega, by have := hkl k hk; omega⟩), ⟨⟨⟨⟨hbt.blk B1.out (by omega), hbt.blk B2.out (by omega)⟩, hbt.blk B3.out (by omega)⟩, hbt.blk B4.out (by omega)⟩, by rw [HNX.out]; exact hs5⟩, HB1.out.trans (hbt.below (by omega) (by omega))⟩
  case done =>
    rintro D ys W hD rfl ⟨⟨⟨⟨⟨b1, b2⟩, b3⟩, b4⟩, b5⟩, hB1⟩ hK
    have hsW := hB1.size
    obtain ⟨s, hs⟩ : ∃ s, twS sel a b ((upto (pcOf t.ps) (nPieces t.ps)).map (·.1)) = s := ⟨_, rfl⟩
    rw [hs] at b5
    have HSV := Lib.hid hs; clear hs
    have e0 := b5.cell 0
    have e1 := b5.cell 1
    have e2 := b5.cell 2
    have d0 := b4.cell 0
    have d1 := b4.cell 1
    have d2 := b4.cell 2
    have f0 := b4.frozen 0
    have f1 := b4.frozen 1
    have f2 := b4.frozen 2
    simp [smC] at e0 e1 e2 d0 d1 d2
    have l4 := Soft.LtH.mk (b := w.heap.size + 4) (w := W) b4.lt
    have l5 := Soft.LtH.mk (b := w.heap.size + 5) (w := W) b5.lt
    have hDW : D < W.heap.size := (Array.getElem?_eq_some_iff.1 hK).1
    have fin := ((b4.put 0 (.int .i64 s.whole)).put 1 (.int .i64 s.num)).put 2 (.int .i64 s.den)
    have hfb : Below w.heap.size w (((W.setCell ⟨w.heap.size + 4, 0, none⟩ (.int .i64 s.whole)).setCell ⟨w.heap.size + 4, 1, none⟩ (.int .i64 s.num)).setCell ⟨w.heap.size + 4, 2, none⟩ (.int .i64 s.den)) :=
      (((hB0.trans hB1).setCell (p := ⟨w.heap.size + 4, 0, none⟩) (by dsimp only; omega) _).setCell (p := ⟨w.heap.size + 4, 1, none⟩) (by dsimp only; omega) _).setCell (p := ⟨w.heap.size + 4, 2, none⟩) (by dsimp only; omega) _
    have hK' : (((W.setCell ⟨w.heap.size + 4, 0, none⟩ (.int .i64 s.whole)).setCell ⟨w.heap.size + 4, 1, none⟩ (.int .i64 s.num)).setCell ⟨w.heap.size + 4, 2, none⟩ (.int .i64 s.den)).heap[D]? = some (.deferred (some [])) :=
      (Below.heap_setCell _ _ _ D (by dsimp only; omega)).trans ((Below.heap_setCell _ _ _ D (by dsimp only; omega)).trans ((Below.heap_setCell _ _ _ D (by dsimp only; omega)).trans hK))
    have FIN := Lib.hid fin; have HFB := Lib.hid hfb; have HK := Lib.hid hK'
    clear fin hfb hK' b1 b2 b3 b4 b5 hB1 h1 h2 h3 h4 h5 h6 ht0
    gi_wp2
    have fin := FIN.out; have hfb := HFB.out; have hK' := HK.out
    clear FIN HFB HK
    generalize ((W.setCell ⟨w.heap.size + 4, 0, none⟩ (.int .i64 s.whole)).setCell ⟨w.heap.size + 4, 1, none⟩ (.int .i64 s.num)).setCell ⟨w.heap.size + 4, 2, none⟩ (.int .i64 s.den) = Wf at *
    have r0 := cell_kept (fin.cell 0) (grownBy_putObj' _ D (.deferred none)) (fun r e => by cases e; exact ⟨_, hK', rfl⟩)
    have r1 := cell_kept (fin.cell 1) (grownBy_putObj' _ D (.deferred none)) (fun r e => by cases e; exact ⟨_, hK', rfl⟩)
    have r2 := cell_kept (fin.cell 2) (grownBy_putObj' _ D (.deferred none)) (fun r e => by cases e; exact ⟨_, hK', rfl⟩)
    refine ⟨by simp, .inl ⟨_, _, rfl, run_takeDeferred hK', ?_⟩⟩
    refine ⟨.agg (smC s), ?_, by rw [HSV.out], hfb.trans (belowK_b (w := w) (Nat.le_refl _) Wf D _ _ (by omega) hK' rfl rfl)⟩
    simp [results, Tryz.f55, go_sem, r0, r1, r2, smC]
  case stop =>
    rintro D c pre W hD _ hx _
    exact hx.elim

end Go.Proofs.YteagdcgmmdiakaaGreat

namespace Go.Proofs.YteagdcgmmdiakaaGreat
set_option linter.unusedSimpArgs false
set_option linter.unusedVariables false
open Go.RowKit Go.Shelf Go.Lib Go.Sort
set_option maxRecDepth 100000
set_option maxHeartbeats 4000000

theorem putRow_other (w : World) (blk off : Nat) (F : Array Value) (k : Nat) (h : k ≠ blk) : (putRow id w blk off F).heap[k]? = w.heap[k]? := by
  unfold putRow mapBlock
  simp [Array.getElem?_modify, Ne.symm h]

/-- A row of weights that lies at the head of its block. -/
structure RowW (w : World) (blk : Nat) (l : List Wt) : Prop where
  lt : blk < w.heap.size
  cell : ∀ t, t < l.length * 6 → w.cell? ⟨blk, t, none⟩ = (wts l)[t]? ∧ w.frozen? ⟨blk, t, none⟩ = false
theorem OwnW.rowW {w : World} {B : Nat} {l : List Wt} {blk n cap : Nat} (h : OwnW w B (.slice (some ⟨blk, 0, none⟩) n cap) l) : RowW w blk l := by
  unfold OwnW at h
  rcases h.2 with ⟨e, _⟩ | ⟨g, c, cur, e, hb, hg, h1, h2, h3, h4⟩
  · cases e
  · cases e
    refine ⟨(Array.getElem?_eq_some_iff.1 hg).1, fun t ht => ⟨h.cellAt t ht, ?_⟩⟩
    simp [World.frozen?, hg]

theorem wts_getD (l : List Wt) (t : Nat) (ht : t < l.length * 6) : (wts l)[t]? = some ((wtC (l.toArray[t / 6]!))[t % 6]!) := by
  have e : t = (t / 6) * 6 + t % 6 := by omega
  have h1 : t / 6 < l.length := by omega
  have h2 := wts_get l (t / 6) h1 (t % 6) (by omega)
  rw [← e] at h2
  rw [h2]
  have e3 : l.toArray[t / 6]! = wv l (t / 6) := by
    rw [getElem!_pos l.toArray (t / 6) (by simpa using h1)]
    simp [wv, h1]
  rw [e3]
  have : t % 6 < (wtC (wv l (t / 6))).length := by simp [wtC]; omega
  rw [List.getElem?_eq_getElem this]
  exact congrArg some (getElem!_pos (wtC (wv l (t / 6))) (t % 6) this).symm

theorem RowW.holds {w : World} {blk : Nat} {l : List Wt} (h : RowW w blk l) : HoldsK wtC 6 w blk 0 l.toArray := by
  intro t ht
  rw [size_flatK] at ht
  simp only [List.size_toArray] at ht
  obtain ⟨a, b⟩ := h.cell t ht
  rw [Nat.zero_add]
  refine ⟨?_, b⟩
  rw [a, wts_getD l t ht, get_flatK _ _ _ _ (by simpa using ht)]
  rfl

theorem holds_wsAt {w : World} {blk cap : Nat} {d : Array Wt} (h : HoldsK wtC 6 w blk 0 d) (hb : blk < w.heap.size) (h1 : d.size ≤ cap) (h2 : cap ≤ 9223372036854775807) : WsAt w ⟨some ⟨blk, 0, none⟩, d.size, cap, d.toList⟩ := by
  refine ⟨by simp, h1, h2, fun _ => ⟨blk, 0, rfl, hb, fun i hi j v hv => ?_⟩⟩
  dsimp only at hi hv
  have hj : j < 6 := by
    have := (List.getElem?_eq_some_iff.1 hv).1
    simpa [wtC] using this
  have hc := (h (i * 6 + j) (by rw [size_flatK]; omega)).1
  rw [get_flatK _ _ _ _ (by omega), show (i * 6 + j) / 6 = i by omega, show (i * 6 + j) % 6 = j by omega] at hc
  rw [show 0 + i * 6 + j = 0 + (i * 6 + j) by omega, hc]
  have e : wv d.toList i = d[i]! := by
    rw [getElem!_pos d i hi]
    simp [wv, hi]
  rw [e] at hv
  have : j < (wtC d[i]!).length := by simp [wtC]; omega
  rw [List.getElem?_eq_getElem this] at hv
  show some ((wtC d[i]!)[j]!) = some v
  rw [getElem!_pos (wtC d[i]!) j this]
  exact hv

theorem permIn_listG {α : Type} [Inhabited α] {d d' : Array α} (h : PermIn 0 d.size d d') : d'.toList.Perm d.toList := by
  obtain ⟨h1, _, h3⟩ := h
  have e1 : (d.extract 0 d.size) = d := by simp
  have e2 : (d'.extract 0 d.size) = d' := by rw [← h1]; simp
  rw [e1, e2] at h3
  exact h3

theorem flatK_sub {P : Wt → Prop} [Inhabited {x // P x}] (d : Array {x // P x}) : flatK (fun x => wtC x.1) 6 d = flatK wtC 6 (d.map (·.1)) := by
  unfold flatK
  rw [Array.size_map]
  refine Array.map_congr_left fun t ht => ?_
  have h : t / 6 < d.size := by
    have := Array.mem_range.1 ht
    omega
  rw [getElem!_pos d _ h, getElem!_pos (d.map (·.1)) _ (by simpa using h)]
  simp

theorem weights_sort3 {g : FuncId} {sel : Wt → Rg} (hg : SelFn g sel) (bl bo blk cap : Nat) (l : List Wt) (hsel : ∀ x ∈ l, I32x (sel x)) (hne : 1 ≤ l.length) (w : World) (hl : w.cell? ⟨bl, 0, none⟩ = some (.func (.func 127) #[] #[.pointer (some ⟨bo, 0, none⟩)])) (hb : w.cell? ⟨bo, 0, none⟩ = some (.func (.func g) #[] #[])) (h1 : bl ≠ blk) (h2 : bo ≠ blk) (hr : RowW w blk l) (hn : l.length ≤ 1000) (hc : l.length ≤ cap) (hc2 : cap ≤ 9223372036854775807) :
    Calls Tryz.prog 152 #[.slice (some ⟨blk, 0, none⟩) l.length cap, .func (.func 132) #[] #[.pointer (some ⟨bl, 0, none⟩)]] w fun e w' => e = .returned (.tuple #[]) ∧ ∃ l' : List Wt, l'.Perm l ∧ (∀ i j, i < j → j < l'.length → (sel (wv l' i)).lo ≤ (sel (wv l' j)).lo) ∧ WsAt w' ⟨some ⟨blk, 0, none⟩, l.length, cap, l'⟩ ∧ ButG blk w w' := by
  have eg : ∀ args w, (callFunc 132 args).run Tryz.prog w = .ok (.enter 132 args) w := enters_of Tryz.func132 (by kernel_rfl) rfl
  have hbl := World.block_lt_of_cell? _ _ hl
  have hbo := World.block_lt_of_cell? _ _ hb
  let γ := {x : Wt // I32x (sel x)}
  have hinh : Inhabited γ := ⟨⟨l[0]'(by omega), hsel _ (List.getElem_mem _)⟩⟩
  obtain ⟨la, hla⟩ : ∃ la : List γ, la.map (·.1) = l := ⟨l.attachWith _ hsel, List.attachWith_map_subtype_val _⟩
  have hlen : la.length = l.length := by rw [← hla, List.length_map]
  have hlt : ∀ x y : γ, ltOf (fun (x : γ) (y : γ) => (fun x y : Wt => (sel x).lo - (sel y).lo) x.1 y.1) x y = decide ((fun x y : Wt => (sel x).lo - (sel y).lo) x.1 y.1 < 0) := fun _ _ => rfl
  have hcmp : CmpLays Tryz.prog 132 #[.pointer (some ⟨bl, 0, none⟩)] (fun x : γ => wtC x.1) 6 (fun (x : γ) (y : γ) => (fun x y : Wt => (sel x).lo - (sel y).lo) x.1 y.1) blk 0 la.toArray.size w := fun m os dk hdk x y => by
    refine centre_fn3 hg x.1 y.1 x.2 y.2 bl bo _ ?_ ?_
    · unfold sortWorldK
      rw [cell?_grow _ _ _ (by unfold putRowK; simpa using hbl), cell?_putRowK_other _ 6 _ _ _ _ _ h1]
      exact hl
    · unfold sortWorldK
      rw [cell?_grow _ _ _ (by unfold putRowK; simpa using hbo), cell?_putRowK_other _ 6 _ _ _ _ _ h2]
      exact hb
  have hholds : HoldsK (fun x : γ => wtC x.1) 6 w blk 0 la.toArray := by
    unfold HoldsK
    rw [flatK_sub, show la.toArray.map (·.1) = l.toArray from by rw [← hla]; simp]
    exact hr.holds
  have hcon := AnyQ.slices_SortFunc Tryz.sortW 6 Tryz.isAgg29 Tryz.sizeOf29 (fun x : γ => wtC x.1) (fun _ => rfl) (fun x v hv => by simp [wtC] at hv; rcases hv with rfl | rfl | rfl | rfl | rfl | rfl <;> rfl) (fun (x : γ) (y : γ) => (fun x y : Wt => (sel x).lo - (sel y).lo) x.1 y.1)
    ⟨fun x => by rw [hlt, decide_eq_false_iff_not]; dsimp only; omega, fun x y z a b => by rw [hlt, decide_eq_true_eq] at *; dsimp only at *; omega, fun x y z a b => by rw [hlt, decide_eq_false_iff_not] at *; dsimp only at *; omega⟩ 132 #[.pointer (some ⟨bl, 0, none⟩)] blk 0 cap la.toArray w eg hcmp hholds hr.lt (by simp; omega)
  change Calls Tryz.prog 152 _ _ _ at hcon
  rw [List.size_toArray, hlen] at hcon
  refine hcon.mono ?_
  rintro e w' ⟨rfl, d', n, os, hp, hs, rfl⟩
  have hsz : d'.size = l.length := by have := hp.1; simp at this; omega
  obtain ⟨d2, hd2⟩ : ∃ d2, d'.map (·.1) = d2 := ⟨_, rfl⟩
  have hsz2 : d2.size = l.length := by rw [← hd2, Array.size_map]; exact hsz
  have hput : ∀ w : World, putRowK (fun x : γ => wtC x.1) 6 w blk 0 d' = putRowK wtC 6 w blk 0 d2 := fun w => by unfold putRowK; rw [flatK_sub, hd2]
  have hput2 : ∀ w : World, HoldsK (fun x : γ => wtC x.1) 6 w blk 0 d' = HoldsK wtC 6 w blk 0 d2 := fun w => by unfold HoldsK; rw [flatK_sub, hd2]
  have hw : ∀ j, (hj : j < d'.size) → wv d2.toList j = (d'[j]!).1 := fun j hj => by
    rw [getElem!_pos d' j hj, ← hd2]
    simp [wv, hj]
  refine ⟨rfl, d2.toList, ?_, fun i j hij hj => ?_, ?_, ?_⟩
  · have := (permIn_listG (d := la.toArray) (by rw [List.size_toArray, hlen]; exact hp)).map (·.1)
    rw [← hd2, ← hla]
    simpa using this
  · have hj' : j < d'.size := by rw [hsz, ← hsz2]; simpa using hj
    have := hs i j (Nat.zero_le _) hij (by omega)
    rw [hlt, decide_eq_false_iff_not] at this
    dsimp only at this
    rw [hw i (by omega), hw j hj']
    omega
  · have hh := holdsK_grow _ 6 (putRowK (fun x : γ => wtC x.1) 6 (Sort.ahead w n) blk 0 d') os blk 0 d' (by unfold putRowK; simpa using hr.lt) (holdsK_putRowK _ 6 (Sort.ahead w n) blk 0 la.toArray d' (holdsK_ahead _ 6 w n blk 0 la.toArray hholds) (by simp; omega))
    rw [hput2] at hh
    have := holds_wsAt (cap := cap) hh (by unfold putRowK; simp; have := hr.lt; omega) (by omega) hc2
    rw [hsz2] at this
    exact this
  · unfold sortWorldK putRowK
    exact ⟨rfl, rfl, rfl, by simp, fun k hk hkg => by
      show ((putRow id (Sort.ahead w n) blk 0 (flatK _ 6 d')).heap ++ os)[k]? = _
      rw [Array.getElem?_append_left (by simpa using hk), putRow_other _ _ _ _ _ hkg]
      rfl⟩
theorem weights_sort4 {g : FuncId} {sel : Wt → Rg} (hg : SelFn g sel) (bl bo blk cap : Nat) (l : List Wt) (hsel : ∀ x ∈ l, I32x (sel x)) (hne : 1 ≤ l.length) (w : World) (hl : w.cell? ⟨bl, 0, none⟩ = some (.func (.func 128) #[] #[.pointer (some ⟨bo, 0, none⟩)])) (hb : w.cell? ⟨bo, 0, none⟩ = some (.func (.func g) #[] #[])) (h1 : bl ≠ blk) (h2 : bo ≠ blk) (hr : RowW w blk l) (hn : l.length ≤ 1000) (hc : l.length ≤ cap) (hc2 : cap ≤ 9223372036854775807) :
    Calls Tryz.prog 152 #[.slice (some ⟨blk, 0, none⟩) l.length cap, .func (.func 133) #[] #[.pointer (some ⟨bl, 0, none⟩)]] w fun e w' => e = .returned (.tuple #[]) ∧ ∃ l' : List Wt, l'.Perm l ∧ (∀ i j, i < j → j < l'.length → (sel (wv l' j)).hi ≤ (sel (wv l' i)).hi) ∧ WsAt w' ⟨some ⟨blk, 0, none⟩, l.length, cap, l'⟩ ∧ ButG blk w w' := by
  have eg : ∀ args w, (callFunc 133 args).run Tryz.prog w = .ok (.enter 133 args) w := enters_of Tryz.func133 (by kernel_rfl) rfl
  have hbl := World.block_lt_of_cell? _ _ hl
  have hbo := World.block_lt_of_cell? _ _ hb
  let γ := {x : Wt // I32x (sel x)}
  have hinh : Inhabited γ := ⟨⟨l[0]'(by omega), hsel _ (List.getElem_mem _)⟩⟩
  obtain ⟨la, hla⟩ : ∃ la : List γ, la.map (·.1) = l := ⟨l.attachWith _ hsel, List.attachWith_map_subtype_val _⟩
  have hlen : la.length = l.length := by rw [← hla, List.length_map]
  have hlt : ∀ x y : γ, ltOf (fun (x : γ) (y : γ) => (fun x y : Wt => (sel y).hi - (sel x).hi) x.1 y.1) x y = decide ((fun x y : Wt => (sel y).hi - (sel x).hi) x.1 y.1 < 0) := fun _ _ => rfl
  have hcmp : CmpLays Tryz.prog 133 #[.pointer (some ⟨bl, 0, none⟩)] (fun x : γ => wtC x.1) 6 (fun (x : γ) (y : γ) => (fun x y : Wt => (sel y).hi - (sel x).hi) x.1 y.1) blk 0 la.toArray.size w := fun m os dk hdk x y => by
    refine centre_fn4 hg x.1 y.1 x.2 y.2 bl bo _ ?_ ?_
    · unfold sortWorldK
      rw [cell?_grow _ _ _ (by unfold putRowK; simpa using hbl), cell?_putRowK_other _ 6 _ _ _ _ _ h1]
      exact hl
    · unfold sortWorldK
      rw [cell?_grow _ _ _ (by unfold putRowK; simpa using hbo), cell?_putRowK_other _ 6 _ _ _ _ _ h2]
      exact hb
  have hholds : HoldsK (fun x : γ => wtC x.1) 6 w blk 0 la.toArray := by
    unfold HoldsK
    rw [flatK_sub, show la.toArray.map (·.1) = l.toArray from by rw [← hla]; simp]
    exact hr.holds
  have hcon := AnyQ.slices_SortFunc Tryz.sortW 6 Tryz.isAgg29 Tryz.sizeOf29 (fun x : γ => wtC x.1) (fun _ => rfl) (fun x v hv => by simp [wtC] at hv; rcases hv with rfl | rfl | rfl | rfl | rfl | rfl <;> rfl) (fun (x : γ) (y : γ) => (fun x y : Wt => (sel y).hi - (sel x).hi) x.1 y.1)
    ⟨fun x => by rw [hlt, decide_eq_false_iff_not]; dsimp only; omega, fun x y z a b => by rw [hlt, decide_eq_true_eq] at *; dsimp only at *; omega, fun x y z a b => by rw [hlt, decide_eq_false_iff_not] at *; dsimp only at *; omega⟩ 133 #[.pointer (some ⟨bl, 0, none⟩)] blk 0 cap la.toArray w eg hcmp hholds hr.lt (by simp; omega)
  change Calls Tryz.prog 152 _ _ _ at hcon
  rw [List.size_toArray, hlen] at hcon
  refine hcon.mono ?_
  rintro e w' ⟨rfl, d', n, os, hp, hs, rfl⟩
  have hsz : d'.size = l.length := by have := hp.1; simp at this; omega
  obtain ⟨d2, hd2⟩ : ∃ d2, d'.map (·.1) = d2 := ⟨_, rfl⟩
  have hsz2 : d2.size = l.length := by rw [← hd2, Array.size_map]; exact hsz
  have hput : ∀ w : World, putRowK (fun x : γ => wtC x.1) 6 w blk 0 d' = putRowK wtC 6 w blk 0 d2 := fun w => by unfold putRowK; rw [flatK_sub, hd2]
  have hput2 : ∀ w : World, HoldsK (fun x : γ => wtC x.1) 6 w blk 0 d' = HoldsK wtC 6 w blk 0 d2 := fun w => by unfold HoldsK; rw [flatK_sub, hd2]
  have hw : ∀ j, (hj : j < d'.size) → wv d2.toList j = (d'[j]!).1 := fun j hj => by
    rw [getElem!_pos d' j hj, ← hd2]
    simp [wv, hj]
  refine ⟨rfl, d2.toList, ?_, fun i j hij hj => ?_, ?_, ?_⟩
  · have := (permIn_listG (d := la.toArray) (by rw [List.size_toArray, hlen]; exact hp)).map (·.1)
    rw [← hd2, ← hla]
    simpa using this
  · have hj' : j < d'.size := by rw [hsz, ← hsz2]; simpa using hj
    have := hs i j (Nat.zero_le _) hij (by omega)
    rw [hlt, decide_eq_false_iff_not] at this
    dsimp only at this
    rw [hw i (by omega), hw j hj']
    omega
  · have hh := holdsK_grow _ 6 (putRowK (fun x : γ => wtC x.1) 6 (Sort.ahead w n) blk 0 d') os blk 0 d' (by unfold putRowK; simpa using hr.lt) (holdsK_putRowK _ 6 (Sort.ahead w n) blk 0 la.toArray d' (holdsK_ahead _ 6 w n blk 0 la.toArray hholds) (by simp; omega))
    rw [hput2] at hh
    have := holds_wsAt (cap := cap) hh (by unfold putRowK; simp; have := hr.lt; omega) (by omega) hc2
    rw [hsz2] at this
    exact this
  · unfold sortWorldK putRowK
    exact ⟨rfl, rfl, rfl, by simp, fun k hk hkg => by
      show ((putRow id (Sort.ahead w n) blk 0 (flatK _ 6 d')).heap ++ os)[k]? = _
      rw [Array.getElem?_append_left (by simpa using hk), putRow_other _ _ _ _ _ hkg]
      rfl⟩

end Go.Proofs.YteagdcgmmdiakaaGreat
