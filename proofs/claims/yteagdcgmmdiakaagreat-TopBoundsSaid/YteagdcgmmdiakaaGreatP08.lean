/-
  Levels and ranges as arguments, opened.
  Slices of holds, fills, tanks and levels as arguments, opened.
  A region that draws its order, whose calls are chained: what only reads is carried out first, in whatever order it comes up; then the calls, each in the world that the one before has left.
  cond: its look at ranges, weights and tables: isWithin, isPart, isWeight, CheckWeight, isTable; what it adds and divides: plus, minus, down, up.
  Several arrays that a call grows, side by side, and the tables that what they hold leads to.
  Conditions: each theorem's own premises.
-/
import Derived.Test.YteagdcgmmdiakaaGreatP06
import Derived.Test.YteagdcgmmdiakaaGreatP07
import Derived.Test.YteagdcgmmdiakaaGreatP01
import Derived.Test.YteagdcgmmdiakaaGreatP05
namespace Go.Proofs.YteagdcgmmdiakaaGreat
set_option linter.unusedSimpArgs false
set_option linter.unusedVariables false
open Go.ChangeShapes Go.WideShapes Go.ChangeAt Go.RowKit Go.Joins
set_option maxRecDepth 100000
set_option maxHeartbeats 1000000

section
variable {H : Type} {enc : TypeId × Value → H} {W : World} {base : Nat}

theorem cellsBool : Tryz.prog.cellsOf 4 = 1 := by kernel_rfl

theorem open_lev {fuel : Nat} {cs : List Value} {x : DataW H × List MemPlace} (hf : DataW.trod enc Tryz.prog W 0 (fun _ => true) true fuel 85 cs = some x) (hl : cs.length = 6) :
    ∃ q : Lv, cs = [.int .i64 (q).tank, .bool (q).pressed, .int .i64 ((q).snd).lo, .int .i64 ((q).snd).hi, .int .i64 ((q).den).lo, .int .i64 ((q).den).hi] := by
  obtain ⟨xs, n, _, hx, _, hlen, hg⟩ := DataW.trod_struct Tryz.underlying85 hf
  match cs, hl with
  | [c0, c1, c2, c3, c4, c5], _ =>
    match xs, hlen with
    | [y0, y1, y2, y3], _ =>
      have t0 := hg 0 _ rfl
      have t1 := hg 1 _ rfl
      have t2 := hg 2 _ rfl
      have t3 := hg 3 _ rfl
      simp [Value.cells, cellsInt, cellsRg, cellsTb, cellsBool] at t0 t1 t2 t3
      obtain ⟨i0, e0, _, _⟩ := DataW.trod_int Tryz.underlying3 t0
      obtain ⟨i1, e1, _⟩ := DataW.trod_bool Tryz.underlying4 t1
      obtain ⟨r2, e2⟩ := open_rng t2
      obtain ⟨r3, e3⟩ := open_rng t3
      simp at e0 e1 e2 e3
      obtain ⟨rfl, rfl⟩ := e2
      obtain ⟨rfl, rfl⟩ := e3
      subst e0 e1
      exact ⟨⟨i0, i1, r2, r3⟩, rfl⟩

end

end Go.Proofs.YteagdcgmmdiakaaGreat

namespace Go.Proofs.YteagdcgmmdiakaaGreat
set_option linter.unusedSimpArgs false
set_option linter.unusedVariables false
open Go.ChangeShapes Go.WideShapes Go.ChangeAt Go.RowKit Go.Joins
set_option maxRecDepth 100000
set_option maxHeartbeats 1000000

theorem weights_mem_all {H : Type} {P : Program} {e : TypeId} : ∀ {l : List (DataW H)} {d : DataW H}, d ∈ l → ∀ n ∈ d.weights P e, n ∈ DataW.weightsAll P e l
  | x :: l, d, h, n, hn => by
    simp only [DataW.weightsAll, List.mem_append]
    rcases List.mem_cons.1 h with rfl | h
    · exact .inl hn
    · exact .inr (weights_mem_all h n hn)

section
variable {H : Type} {enc : TypeId × Value → H} {W : World} {base : Nat}

theorem add_none (b off j : Nat) : (⟨b, off, none⟩ : Addr).add j = ⟨b, off + j, none⟩ := by
  unfold Addr.add
  split
  · next h => subst h; rfl
  · rfl

theorem open_rows {α : Type} [Inhabited α] {t e : TypeId} {sz : Nat} {fuel : Nat} {cs : List Value} {x : DataW H × List MemPlace} (ht : Tryz.prog.underlying t = some (.slice e)) (hc : Tryz.prog.cellsOf e = sz) (h1 : 1 ≤ sz) (C : α → List Value) (G : α → Prop)
    (hop : ∀ (n : Nat) (cs : List Value) (y : DataW H × List MemPlace), DataW.trod enc Tryz.prog W 0 (fun _ => true) true n e cs = some y → cs.length = sz → (∀ k ∈ y.1.weights Tryz.prog e, k ≤ reachBytes) → ∃ q : α, cs = C q ∧ G q)
    (hf : DataW.trod enc Tryz.prog W 0 (fun _ => true) true fuel t cs = some x) (hw : ∀ n ∈ x.1.weights Tryz.prog t, n ≤ reachBytes) :
    ∃ s : Sl α, cs = [.slice s.p s.n s.c] ∧ s.xs.length = s.n ∧ RowsAt W s.p s.n s.c sz (fun i => C (s.xs[i]?.getD default)) ∧ ∀ i, i < s.n → G (s.xs[i]?.getD default) := by
  rcases Go.Deep.open_slice ht hf with ⟨hcs, _⟩ | ⟨a, len, cap, m, n, D, Pl, hcs, _, hl, hm, hz, hx, hcell⟩
  · exact ⟨⟨none, 0, 0, []⟩, hcs, rfl, ⟨Nat.le_refl _, by dsimp only; omega, fun h => absurd rfl h⟩, fun i hi => absurd hi (Nat.not_lt_zero _)⟩
  · simp only [if_true] at hz
    subst hz
    subst hx
    have hwe : ∀ i, i < len → ∀ k ∈ (D i).weights Tryz.prog e, k ≤ reachBytes := fun i hi k hk => hw k (by
      simp only [DataW.weights, ht]
      refine List.mem_cons_of_mem _ (List.mem_append_left _ ?_)
      exact weights_mem_all (List.mem_map.2 ⟨i, List.mem_range.2 hi, rfl⟩) k hk)
    have hq : ∀ i, i < len → ∃ q : α, G q ∧ ∀ j v, (C q)[j]? = some v → W.cell? (a.add (i * sz + j)) = some v := by
      intro i hi
      obtain ⟨cs', k1, k2⟩ := hcell i (by omega)
      obtain ⟨_, hlen, hcc⟩ := World.cells?_some k1
      rw [hc] at hlen hcc
      obtain ⟨q, rfl, hg⟩ := hop _ _ _ k2 hlen (hwe i hi)
      refine ⟨q, hg, fun j v hv => ?_⟩
      have hj : j < sz := by
        have := (List.getElem?_eq_some_iff.1 hv).1
        omega
      have e0 := hcc j hj
      rw [Go.Deep.add_add] at e0
      rw [e0]
      exact hv
    obtain ⟨q, hq⟩ := Go.Deep.choose_lt hq
    have hget : ∀ i, i < len → ((List.range len).map q)[i]?.getD default = q i := fun i hi => by simp [hi, List.getD]
    refine ⟨⟨some a, len, m, (List.range len).map q⟩, hcs, by simp, ⟨hl, by have : maxLen = 9223372036854775807 := rfl; dsimp only; omega, fun hn => ?_⟩, fun i hi => ?_⟩
    · dsimp only at hn
      obtain ⟨b, off, spot⟩ := a
      obtain ⟨cs', k1, _⟩ := hcell 0 (by omega)
      obtain ⟨_, hlen, hcc⟩ := World.cells?_some k1
      rw [hc] at hlen hcc
      have e0 := hcc 0 (by omega)
      rw [Go.Deep.add_add, List.getElem?_eq_getElem (by omega)] at e0
      have hspot : spot = none := by simpa [Addr.add] using World.cell?_spot e0
      subst hspot
      refine ⟨b, off, rfl, World.block_lt_of_cell? _ _ (by rw [add_none] at e0; exact e0), fun i hi j v hv => ?_⟩
      dsimp only at hi hv
      rw [hget i hi] at hv
      have := (hq i hi).2 j v hv
      rw [add_none] at this
      rw [Nat.add_assoc]
      exact this
    · dsimp only at hi ⊢
      rw [hget i hi]
      exact (hq i hi).1

theorem open_ho {fuel : Nat} {l : List Value} {x : DataW H × List MemPlace} (hf : DataW.trod enc Tryz.prog W 0 (fun _ => true) true fuel 49 l = some x) (hsz : l.length = 14)
    (hw : ∀ n ∈ x.1.weights Tryz.prog 49, n ≤ reachBytes) : ∃ q : Ho, l = hoC q ∧ q.At W := by
  obtain ⟨xs, n, _, hx, _, hl, hg⟩ := DataW.trod_struct Tryz.underlying49 hf
  match l, hsz with
  | [c0, c1, c2, c3, c4, c5, c6, c7, c8, c9, c10, c11, c12, c13], _ =>
    match xs, hl with
    | [y0, y1, y2, y3, y4, y5, y6, y7, y8], _ =>
      subst hx
      have t0 := hg 0 _ rfl
      have t1 := hg 1 _ rfl
      have t2 := hg 2 _ rfl
      have t3 := hg 3 _ rfl
      have t4 := hg 4 _ rfl
      have t5 := hg 5 _ rfl
      have t6 := hg 6 _ rfl
      have t7 := hg 7 _ rfl
      have t8 := hg 8 _ rfl
      simp [Value.cells, cellsInt, cellsRg, cellsTb] at t0 t1 t2 t3 t4 t5 t6 t7 t8
      obtain ⟨i0, e0, _, _⟩ := DataW.trod_int Tryz.underlying3 t0
      obtain ⟨r1, e1⟩ := open_rng t1
      obtain ⟨s2, e2, a2⟩ := open_tab t2 (fun n hn => hw n (by simp only [DataW.weights, Tryz.underlying49]; exact DataW.weights_mem_each (j := 2) rfl rfl n hn))
      obtain ⟨s3, e3, a3⟩ := open_tab t3 (fun n hn => hw n (by simp only [DataW.weights, Tryz.underlying49]; exact DataW.weights_mem_each (j := 3) rfl rfl n hn))
      obtain ⟨s4, e4, a4⟩ := open_tab t4 (fun n hn => hw n (by simp only [DataW.weights, Tryz.underlying49]; exact DataW.weights_mem_each (j := 4) rfl rfl n hn))
      obtain ⟨r5, e5⟩ := open_rng t5
      obtain ⟨r6, e6⟩ := open_rng t6
      obtain ⟨r7, e7⟩ := open_rng t7
      obtain ⟨r8, e8⟩ := open_rng t8
      simp at e0 e1 e2 e3 e4 e5 e6 e7 e8
      obtain ⟨rfl, rfl⟩ := e1
      obtain ⟨rfl, rfl⟩ := e5
      obtain ⟨rfl, rfl⟩ := e6
      obtain ⟨rfl, rfl⟩ := e7
      obtain ⟨rfl, rfl⟩ := e8
      subst e0 e2 e3 e4
      exact ⟨⟨i0, r1, s2, s3, s4, r5, r6, r7, r8⟩, rfl, a2, a3, a4⟩

theorem open_tk {fuel : Nat} {l : List Value} {x : DataW H × List MemPlace} (hf : DataW.trod enc Tryz.prog W 0 (fun _ => true) true fuel 83 l = some x) (hsz : l.length = 6)
    (hw : ∀ n ∈ x.1.weights Tryz.prog 83, n ≤ reachBytes) : ∃ q : Tk, l = tkC q ∧ q.At W := by
  obtain ⟨xs, n, _, hx, _, hl, hg⟩ := DataW.trod_struct Tryz.underlying83 hf
  match l, hsz with
  | [c0, c1, c2, c3, c4, c5], _ =>
    match xs, hl with
    | [y0, y1, y2, y3, y4], _ =>
      subst hx
      have t0 := hg 0 _ rfl
      have t1 := hg 1 _ rfl
      have t2 := hg 2 _ rfl
      have t3 := hg 3 _ rfl
      have t4 := hg 4 _ rfl
      simp [Value.cells, cellsInt, cellsRg, cellsTb] at t0 t1 t2 t3 t4
      obtain ⟨i0, e0, _, _⟩ := DataW.trod_int Tryz.underlying3 t0
      obtain ⟨r1, e1⟩ := open_rng t1
      obtain ⟨s2, e2, a2⟩ := open_tab t2 (fun n hn => hw n (by simp only [DataW.weights, Tryz.underlying83]; exact DataW.weights_mem_each (j := 2) rfl rfl n hn))
      obtain ⟨s3, e3, a3⟩ := open_tab t3 (fun n hn => hw n (by simp only [DataW.weights, Tryz.underlying83]; exact DataW.weights_mem_each (j := 3) rfl rfl n hn))
      obtain ⟨s4, e4, a4⟩ := open_tab t4 (fun n hn => hw n (by simp only [DataW.weights, Tryz.underlying83]; exact DataW.weights_mem_each (j := 4) rfl rfl n hn))
      simp at e0 e1 e2 e3 e4
      obtain ⟨rfl, rfl⟩ := e1
      subst e0 e2 e3 e4
      exact ⟨⟨i0, r1, s2, s3, s4⟩, rfl, a2, a3, a4⟩

theorem open_fi {fuel : Nat} {l : List Value} {x : DataW H × List MemPlace} (hf : DataW.trod enc Tryz.prog W 0 (fun _ => true) true fuel 44 l = some x) (hsz : l.length = 6) : ∃ q : Fi, l = fiC q := by
  obtain ⟨xs, n, _, hx, _, hl, hg⟩ := DataW.trod_struct Tryz.underlying44 hf
  match l, hsz with
  | [c0, c1, c2, c3, c4, c5], _ =>
    match xs, hl with
    | [y0, y1, y2, y3], _ =>
      have t0 := hg 0 _ rfl
      have t1 := hg 1 _ rfl
      have t2 := hg 2 _ rfl
      have t3 := hg 3 _ rfl
      simp [Value.cells, cellsInt, cellsRg] at t0 t1 t2 t3
      obtain ⟨i0, e0, _, _⟩ := DataW.trod_int Tryz.underlying3 t0
      obtain ⟨i1, e1, _, _⟩ := DataW.trod_int Tryz.underlying3 t1
      obtain ⟨r2, e2⟩ := open_rng t2
      obtain ⟨r3, e3⟩ := open_rng t3
      simp at e0 e1 e2 e3
      obtain ⟨rfl, rfl⟩ := e2
      obtain ⟨rfl, rfl⟩ := e3
      subst e0 e1
      exact ⟨⟨i0, i1, r2, r3⟩, rfl⟩

theorem open_hs {fuel : Nat} {cs : List Value} {x : DataW H × List MemPlace} (hf : DataW.trod enc Tryz.prog W 0 (fun _ => true) true fuel 32 cs = some x) (hw : ∀ n ∈ x.1.weights Tryz.prog 32, n ≤ reachBytes) :
    ∃ s : Sl Ho, cs = [.slice s.p s.n s.c] ∧ HsAt W s :=
  open_rows Tryz.underlying32 (by kernel_rfl : Tryz.prog.cellsOf 49 = 14) (by decide) hoC (fun q => q.At W) (fun n cs y h1 h2 h3 => open_ho h1 h2 h3) hf hw
theorem open_ts {fuel : Nat} {cs : List Value} {x : DataW H × List MemPlace} (hf : DataW.trod enc Tryz.prog W 0 (fun _ => true) true fuel 34 cs = some x) (hw : ∀ n ∈ x.1.weights Tryz.prog 34, n ≤ reachBytes) :
    ∃ s : Sl Tk, cs = [.slice s.p s.n s.c] ∧ TsAt W s :=
  open_rows Tryz.underlying34 (by kernel_rfl : Tryz.prog.cellsOf 83 = 6) (by decide) tkC (fun q => q.At W) (fun n cs y h1 h2 h3 => open_tk h1 h2 h3) hf hw
theorem open_fs {fuel : Nat} {cs : List Value} {x : DataW H × List MemPlace} (hf : DataW.trod enc Tryz.prog W 0 (fun _ => true) true fuel 33 cs = some x) (hw : ∀ n ∈ x.1.weights Tryz.prog 33, n ≤ reachBytes) :
    ∃ s : Sl Fi, cs = [.slice s.p s.n s.c] ∧ FsAt W s := by
  obtain ⟨s, h1, h2, h3, _⟩ := open_rows Tryz.underlying33 (by kernel_rfl : Tryz.prog.cellsOf 44 = 6) (by decide) fiC (fun _ => True) (fun n cs y h1 h2 h3 => (open_fi h1 h2).imp fun q e => ⟨e, trivial⟩) hf hw
  exact ⟨s, h1, h2, h3⟩
theorem open_ls {fuel : Nat} {cs : List Value} {x : DataW H × List MemPlace} (hf : DataW.trod enc Tryz.prog W 0 (fun _ => true) true fuel 35 cs = some x) (hw : ∀ n ∈ x.1.weights Tryz.prog 35, n ≤ reachBytes) :
    ∃ s : Sl Lv, cs = [.slice s.p s.n s.c] ∧ LsAt W s := by
  obtain ⟨s, h1, h2, h3, _⟩ := open_rows Tryz.underlying35 (by kernel_rfl : Tryz.prog.cellsOf 85 = 6) (by decide) lvC (fun _ => True) (fun n cs y h1 h2 h3 => (open_lev h1 h2).imp fun q e => ⟨e, trivial⟩) hf hw
  exact ⟨s, h1, h2, h3⟩


end

end Go.Proofs.YteagdcgmmdiakaaGreat

namespace Go.Soft
set_option linter.unusedSimpArgs false
set_option linter.unusedVariables false
open Go.RowKit

section
variable {P : Program} {ops : Array Oper} {Q : Exit → Act → World → Prop}

/-- One operation, in the world that is there: it yields a value, or lays what is new, or calls what leaves all as it was. -/
def stepC (P : Program) (o : Oper) (K : Act → World → Prop) (a : Act) (w : World) : Result Next → Prop
  | .ok (.value v) w' => Below w.heap.size w w' ∧ K (a.put o.dst v) w'
  | .ok .skip w' => Below w.heap.size w w' ∧ K (a.put o.dst undef) w'
  | .ok (.enter f args) w' => w' = w ∧ Calls P f args w (fun e w'' => ∃ u, e = .returned u ∧ Below w.heap.size w w'' ∧ K (a.put o.dst u) w'')
  | _ => False

theorem stepC_mono {o : Oper} {K K' : Act → World → Prop} {a a' : Act} {w : World} {r : Result Next} (hm : ∀ v w', Below w.heap.size w w' → K (a.put o.dst v) w' → K' (a'.put o.dst v) w') (h : stepC P o K a w r) : stepC P o K' a' w r := by
  cases r with
  | ok n w' =>
    cases n <;> simp only [stepC] at h ⊢
    case value v => exact ⟨h.1, hm _ _ h.1 h.2⟩
    case skip => exact ⟨h.1, hm _ _ h.1 h.2⟩
    case enter f args => exact ⟨h.1, h.2.mono fun e w'' ⟨u, he, hb, hk⟩ => ⟨u, he, hb, hm _ _ hb hk⟩⟩
  | halt x w' => exact h

def anyC (P : Program) (ops : Array Oper) (C : World → Prop) (ts : List Nat) (Ke : Act → World → Prop) : Nat → Array Bool → Act → World → Prop
  | 0, listed, a, w => C w ∧ seqT ops ts listed = true ∧ Ke a w
  | f + 1, listed, a, w => C w ∧ Region.ready .any ops listed ≠ [] ∧ ∀ i ∈ Region.ready .any ops listed, ∃ o, ops[i]? = some o ∧
      if Region.wanted o (yielded ops a.tmps) then stepC P o (anyC P ops C ts Ke f (listed.setIfInBounds i true)) a w ((execOp a.eval o).run P w) else anyC P ops C ts Ke f (listed.setIfInBounds i true) (a.put o.dst undef) w

variable {C : World → Prop} {ts : List Nat} {Ke : Act → World → Prop}

theorem anyC_C : ∀ {f : Nat} {listed : Array Bool} {a : Act} {w : World}, anyC P ops C ts Ke f listed a w → C w
  | 0, _, _, _, h => h.1
  | _ + 1, _, _, _, h => h.1

theorem anyC_post {Ke' : Act → World → Prop} (hk : ∀ a w, C w → Ke a w → Ke' a w) : ∀ (f : Nat) (listed : Array Bool) (a : Act) (w : World), anyC P ops C ts Ke f listed a w → anyC P ops C ts Ke' f listed a w
  | 0, _, a, w, h => ⟨h.1, h.2.1, hk a w h.1 h.2.2⟩
  | f + 1, _, a, w, h => ⟨h.1, h.2.1, fun i hi => by
    obtain ⟨o, ho, h'⟩ := h.2.2 i hi
    refine ⟨o, ho, ?_⟩
    by_cases hw : Region.wanted o (yielded ops a.tmps) = true
    · rw [if_pos hw] at h' ⊢
      exact stepC_mono (fun u w' _ hK => anyC_post hk f _ _ _ hK) h'
    · rw [if_neg hw] at h' ⊢
      exact anyC_post hk f _ _ _ h'⟩

/-- What an operation that only reads yields, whatever the world. -/
def fixedC (P : Program) (ops : Array Oper) (C : World → Prop) (o : Oper) (v : Value) (a : Act) : Prop :=
  (Region.wanted o (yielded ops a.tmps) = true ∧ ∀ w, C w → upon0 w v ((execOp a.eval o).run P w)) ∨ (Region.wanted o (yielded ops a.tmps) = false ∧ v = undef)

theorem fixedC_put {o : Oper} {v : Value} {a : Act} {d : Option Tmp} {u : Value} (hs : ∀ cs b, o.op ≠ .select cs b) (h : ∀ t, d = some t → t ∉ o.looksAt ops) : fixedC P ops C o v (a.put d u) ↔ fixedC P ops C o v a := by
  unfold fixedC
  rw [execOp_put o hs a d u h, wanted_put o a d u h]

theorem fixedC_run {o : Oper} {v : Value} {a : Act} {w : World} {K : Act → World → Prop} (h : fixedC P ops C o v a) (hC : C w) (hK : K (a.put o.dst v) w) :
    if Region.wanted o (yielded ops a.tmps) then stepC P o K a w ((execOp a.eval o).run P w) else K (a.put o.dst undef) w := by
  rcases h with ⟨hw, hv⟩ | ⟨hw, hv⟩
  · rw [if_pos hw]
    have h3 := hv w hC
    generalize (execOp a.eval o).run P w = r at *
    cases r with
    | ok n w' =>
      cases n <;> simp only [upon0] at h3 <;> simp only [stepC]
      case value u => obtain ⟨e1, e2⟩ := h3; rw [e1, e2]; exact ⟨Below.refl _ _, hK⟩
      case skip => obtain ⟨e1, e2⟩ := h3; rw [e1, ← e2]; exact ⟨Below.refl _ _, hK⟩
    | halt x w' => simp only [upon0] at h3
  · rw [if_neg (by simp [hw]), ← hv]; exact hK

theorem firstC (hCl : ∀ w w', C w → Below w.heap.size w w' → C w') {pre : List Nat} (htl : tailOk ops pre ts = true) {i : Nat} {oi : Oper} (hi : ops[i]? = some oi) (hsel : ∀ (j : Nat) (o : Oper) cs b, ops[j]? = some o → o.op ≠ .select cs b) (hip : i ∈ pre) (v : Value) :
    ∀ (f : Nat) (listed : Array Bool) (a : Act) (w : World),
      (∀ j oj, ops[j]? = some oj → j ≠ i → listed.getD j true = false → (∀ e ∈ oj.after, Region.binds .any e = true → e.on ≠ i) → oi.apart ops oj = true) →
      Closed ops listed → i ∈ Region.ready .any ops listed → fixedC P ops C oi v a →
      anyC P ops C ts Ke f (listed.setIfInBounds i true) (a.put oi.dst v) w → anyC P ops C ts Ke (f + 1) listed a w := by
  intro f
  induction f with
  | zero =>
    intro listed a w _ hcl hr hy H
    refine ⟨anyC_C H, fun h => (by rw [h] at hr; cases hr), fun j hj => ?_⟩
    by_cases hji : j = i
    · subst hji; exact ⟨oi, hi, fixedC_run hy (anyC_C H) H⟩
    · exfalso
      exact tail_unready htl hcl hip (getD_ff (mem_ready.1 hr).1) j (seqT_ready H.2.1 (ready_mono hj hji)) hj
  | succ f ih =>
    intro listed a w hfree hcl hr hy H
    refine ⟨anyC_C H, fun h => (by rw [h] at hr; cases hr), fun j hj => ?_⟩
    by_cases hji : j = i
    · subst hji; exact ⟨oi, hi, fixedC_run hy (anyC_C H) H⟩
    · obtain ⟨hjun, oj, hoj, hall⟩ := mem_ready.1 hj
      have hnot : ∀ e ∈ oj.after, Region.binds .any e = true → e.on ≠ i := fun e he hb heq => by
        have h1 := hall e he hb
        rw [heq, getD_ff (mem_ready.1 hr).1] at h1
        cases h1
      obtain ⟨a1, a2, a3⟩ := Oper.apart_spec (hfree j oj hoj hji hjun hnot)
      have hj' := ready_mono hj hji
      obtain ⟨o', ho', h'⟩ := H.2.2 j hj'
      obtain rfl : o' = oj := Option.some.inj (ho'.symm.trans hoj)
      have step : ∀ u w', C w' → anyC P ops C ts Ke f ((listed.setIfInBounds i true).setIfInBounds j true) ((a.put oi.dst v).put o'.dst u) w' → anyC P ops C ts Ke (f + 1) (listed.setIfInBounds j true) (a.put o'.dst u) w' := fun u w' hC hK => by
        refine ih (listed.setIfInBounds j true) _ w' (fun k ok hk hki hun hno => ?_) (hcl.set hj) (ready_mono hr (Ne.symm hji)) ((fixedC_put (fun cs b => hsel i _ cs b hi) a3).2 hy) ?_
        · refine hfree k ok hk hki ?_ hno
          by_cases hjk : j = k
          · subst hjk; exact hjun
          · rw [getD_set_ne true hjk] at hun; exact hun
        · rw [Array.setIfInBounds_comm _ _ hji, ← Act.put_comm a _ _ a2]
          exact hK
      refine ⟨o', hoj, ?_⟩
      rw [wanted_put o' a oi.dst v a1, execOp_put o' (fun cs b => hsel j _ cs b hoj) a oi.dst v a1] at h'
      by_cases hw : Region.wanted o' (yielded ops a.tmps) = true
      · rw [if_pos hw] at h' ⊢
        refine stepC_mono (fun u w' hb hK => ?_) h'
        exact step u w' (hCl _ _ (anyC_C H) hb) hK
      · rw [if_neg hw] at h' ⊢
        exact step undef w (anyC_C H) h'

/-- One behind the other; those marked only read: they yield the same whatever the world. -/
def wpMix (P : Program) (ops : Array Oper) (C : World → Prop) (Ke : Act → World → Prop) : List (Bool × Oper) → Act → World → Prop
  | [], a, w => Ke a w
  | (true, o) :: rest, a, w => if Region.wanted o (yielded ops a.tmps) then ∃ v, (∀ w', C w' → upon0 w' v ((execOp a.eval o).run P w')) ∧ wpMix P ops C Ke rest (a.put o.dst v) w else wpMix P ops C Ke rest (a.put o.dst undef) w
  | (false, o) :: rest, a, w => if Region.wanted o (yielded ops a.tmps) then stepC P o (wpMix P ops C Ke rest) a w ((execOp a.eval o).run P w) else wpMix P ops C Ke rest (a.put o.dst undef) w

theorem mix_nil {a : Act} {w : World} (h : Ke a w) : wpMix P ops C Ke [] a w := h
theorem mix_q {a : Act} {w : World} {o : Oper} {rest : List (Bool × Oper)}
    (h : ∀ K : Act → Prop, (∀ a, wpMix P ops C Ke rest a w → K a) → if Region.wanted o (yielded ops a.tmps) then ∃ v, (∀ w', C w' → upon0 w' v ((execOp a.eval o).run P w')) ∧ K (a.put o.dst v) else K (a.put o.dst undef)) : wpMix P ops C Ke ((true, o) :: rest) a w :=
  h _ fun _ h => h
theorem mix_c {a : Act} {w : World} {o : Oper} {rest : List (Bool × Oper)}
    (h : ∀ K : Act → World → Prop, (∀ a w, wpMix P ops C Ke rest a w → K a w) → if Region.wanted o (yielded ops a.tmps) then stepC P o K a w ((execOp a.eval o).run P w) else K (a.put o.dst undef) w) : wpMix P ops C Ke ((false, o) :: rest) a w :=
  h _ fun _ _ h => h

def mixOk (ops : Array Oper) (ts : List Nat) : List (Bool × Nat) → Array Bool → Bool
  | [], listed => seqT ops ts listed
  | (true, i) :: rem, listed => (Region.ready .any ops listed).contains i && Region.free .any ops listed i && mixOk ops ts rem (listed.setIfInBounds i true)
  | (false, i) :: rem, listed => decide (Region.ready .any ops listed = [i]) && mixOk ops ts rem (listed.setIfInBounds i true)

theorem mixC (hCl : ∀ w w', C w → Below w.heap.size w w' → C w') {pre : List Nat} (htl : tailOk ops pre ts = true) (hs : Region.noSelect ops = true) : ∀ (ks : List (Bool × Nat)) (kl : List (Bool × Oper)) (listed : Array Bool) (a : Act) (w : World), (∀ k ∈ ks, k.2 ∈ pre) → Closed ops listed →
    ks.map (fun k => (k.1, ops[k.2]?)) = kl.map (fun k => (k.1, some k.2)) → mixOk ops ts ks listed = true → C w → wpMix P ops C Ke kl a w → anyC P ops C ts Ke ks.length listed a w
  | [], [], listed, a, w, _, _, _, hB, hC, h => ⟨hC, by simpa [mixOk] using hB, h⟩
  | [], _ :: _, _, _, _, _, _, hq, _, _, _ => by simp at hq
  | _ :: _, [], _, _, _, _, _, hq, _, _, _ => by simp at hq
  | (true, i) :: ks, (false, o) :: kl, _, _, _, _, _, hq, _, _, _ => by simp at hq
  | (false, i) :: ks, (true, o) :: kl, _, _, _, _, _, hq, _, _, _ => by simp at hq
  | (true, i) :: ks, (true, o) :: kl, listed, a, w, hp, hc, hq, hB, hC, h => by
    simp only [List.map_cons, List.cons.injEq, Prod.mk.injEq, true_and] at hq
    simp only [mixOk, Bool.and_eq_true] at hB
    obtain ⟨⟨hr, hf⟩, hB'⟩ := hB
    have hr' : i ∈ Region.ready .any ops listed := by simpa using hr
    have main : ∀ v, fixedC P ops C o v a → wpMix P ops C Ke kl (a.put o.dst v) w → anyC P ops C ts Ke (ks.length + 1) listed a w := fun v hv hk => by
      exact firstC hCl htl hq.1 (Region.noSelect_spec hs) (hp (true, i) (by simp)) v _ listed a w (Region.free_spec hq.1 hf) hc hr' hv (mixC hCl htl hs ks kl _ _ w (fun j hj => hp j (by simp [hj])) (hc.set hr') hq.2 hB' hC hk)
    unfold wpMix at h
    by_cases hw : Region.wanted o (yielded ops a.tmps) = true
    · rw [if_pos hw] at h
      obtain ⟨v, hv, hK⟩ := h
      exact main v (.inl ⟨hw, hv⟩) hK
    · rw [if_neg hw] at h
      exact main undef (.inr ⟨by simpa using hw, rfl⟩) h
  | (false, i) :: ks, (false, o) :: kl, listed, a, w, hp, hc, hq, hB, hC, h => by
    simp only [List.map_cons, List.cons.injEq, Prod.mk.injEq, true_and] at hq
    simp only [mixOk, Bool.and_eq_true, decide_eq_true_eq] at hB
    have hr' : i ∈ Region.ready .any ops listed := by rw [hB.1]; simp
    refine ⟨hC, fun h1 => (by rw [hB.1] at h1; cases h1), fun j hj => ?_⟩
    rw [hB.1] at hj
    obtain rfl : j = i := by simpa using hj
    refine ⟨o, hq.1, ?_⟩
    unfold wpMix at h
    by_cases hw : Region.wanted o (yielded ops a.tmps) = true
    · rw [if_pos hw] at h ⊢
      exact stepC_mono (fun u w' hb hK => mixC hCl htl hs ks kl _ _ w' (fun j hj => hp j (by simp [hj])) (hc.set hr') hq.2 hB.2 (hCl _ _ hC hb) hK) h
    · rw [if_neg hw] at h ⊢
      exact mixC hCl htl hs ks kl _ _ w (fun j hj => hp j (by simp [hj])) (hc.set hr') hq.2 hB.2 hC h

theorem anyC_wp {tl : List Oper} (hq : ts.map (fun i => ops[i]?) = tl.map some) (hK : ∀ a w, Ke a w → wpList P ops Q tl a w) : ∀ (f : Nat) (listed : Array Bool) (a : Act) (w : World), anyC P ops C ts Ke f listed a w → wpAny P .any ops Q (f + ts.length) listed a w
  | 0, listed, a, w, h => by
    rw [Nat.zero_add]
    exact seq_wp ts tl listed a w hq h.2.1 (hK a w h.2.2)
  | f + 1, listed, a, w, h => by
    rw [show f + 1 + ts.length = (f + ts.length) + 1 by omega]
    refine ⟨fun h0 => absurd h0 h.2.1, fun i hi => ?_⟩
    obtain ⟨o, ho, h'⟩ := h.2.2 i hi
    unfold wpOp
    simp only [ho]
    by_cases hw : Region.wanted o (yielded ops a.tmps) = true
    · rw [if_pos hw] at h' ⊢
      refine .inl ?_
      unfold Oper.wp
      generalize (execOp a.eval o).run P w = r at *
      cases r with
      | ok n w' =>
        cases n <;> simp only [stepC] at h' <;> simp only [Oper.upon]
        case value u => exact anyC_wp hq hK f _ _ _ h'.2
        case skip => exact anyC_wp hq hK f _ _ _ h'.2
        case enter g args =>
          rw [h'.1]
          exact h'.2.mono fun e w'' ⟨u, he, _, hk⟩ => by subst he; exact anyC_wp hq hK f _ _ _ hk
      | halt x w' => simp only [stepC] at h'
    · rw [if_neg hw] at h' ⊢
      exact anyC_wp hq hK f _ _ _ h'

def allOkM (ops : Array Oper) (ks : List (Bool × Nat)) (ts : List Nat) : Bool :=
  Region.noSelect ops && tailOk ops (ks.map (·.2)) ts && mixOk ops ts ks (Array.replicate ops.size false) && decide (ops.size = ks.length + ts.length)

/-- Some operations of a region with their marks, by their numbers. -/
def pickM (l : List Oper) (ks : List (Bool × Nat)) : List (Bool × Oper) := ks.filterMap fun k => l[k.2]?.map fun o => (k.1, o)

theorem region_mix {id : Nat} {a : Act} {w : World} {l : List Oper} (ks : List (Bool × Nat)) (ts : List Nat) (hm : P.follows .mixedOrders = true) (hB : allOkM l.toArray ks ts = true)
    (hkl : ks.map (fun k => (k.1, l.toArray[k.2]?)) = (pickM l ks).map (fun k => (k.1, some k.2))) (htl : ts.map (fun i => l.toArray[i]?) = (pickL l ts).map some)
    (h : wpMix P l.toArray (fun w' => ∃ x : BW w, w' = x.w) (fun a'' w'' => Below w.heap.size w w'' → wpList P l.toArray Q (pickL l ts) a'' w'') (pickM l ks) a w.drew) : (Code.region id l.toArray true).wp P Q a w := by
  refine wp_region_any hm ?_
  rw [bw_class] at h
  simp only [allOkM, Bool.and_eq_true, decide_eq_true_eq] at hB
  obtain ⟨⟨⟨hs, ht⟩, hl⟩, hsz⟩ := hB
  have hC0 : Below w.heap.size w w.drew := (Below.refl w.heap.size w).drew
  have hCl : ∀ x y : World, Below w.heap.size w x → Below x.heap.size x y → Below w.heap.size w y := fun x y h1 h2 => h1.trans (h2.mono h1.size)
  have hc0 : Closed l.toArray (Array.replicate l.toArray.size false) := fun j oj _ hl' => (by rw [getD_replicate_false] at hl'; cases hl')
  have H := mixC (P := P) (C := Below w.heap.size w) (Ke := fun a'' w'' => Below w.heap.size w w'' → wpList P l.toArray Q (pickL l ts) a'' w'') hCl ht hs ks _ _ a w.drew (fun k hk => List.mem_map.2 ⟨k, hk, rfl⟩) hc0 hkl hl hC0 h
  have H2 : anyC P l.toArray (Below w.heap.size w) ts (fun a'' w'' => wpList P l.toArray Q (pickL l ts) a'' w'') ks.length (Array.replicate l.toArray.size false) a w.drew := anyC_post (fun a w hC hK => hK hC) _ _ _ _ H
  have := anyC_wp (Q := Q) htl (fun _ _ h => h) _ _ _ _ H2
  rw [← hsz] at this
  exact this

end
end Go.Soft

namespace Go.Proofs.YteagdcgmmdiakaaGreat
set_option linter.unusedSimpArgs false
set_option linter.unusedVariables false
open Go.RowKit
set_option maxRecDepth 100000
set_option maxHeartbeats 4000000
attribute [local go_sem] Instr.field asAgg Soft.upon Soft.upon0 Soft.stepC Soft.BW.cell_if Soft.BW.frozen_if Soft.cell_alloc_if Soft.frozen_alloc_if

theorem cond_isWithin (n lo hi : Int) (w : World) (v : Bool) (hv : v = decide (lo ≤ n ∧ n ≤ hi)) :
    Calls Tryz.prog 39 #[.int .i64 n, .int .i64 lo, .int .i64 hi] w fun e w' => e = .returned (.bool v) ∧ w' = w := by
  have HV := Lib.hid hv; clear hv
  go_enter Tryz.func39, Tryz.ntmps39
  go_wp2
  all_goals
    go_ret
    refine ⟨ret_bool ?_, rfl⟩
    rw [HV.out, Bool.eq_iff_iff]
    simp
    omega

theorem cond_isPart (r : Rg) (lo hi : Int) (w : World) (v : Bool) (hv : v = decide (isPart r lo hi)) :
    Calls Tryz.prog 88 #[.agg #[.int .i64 (r).lo, .int .i64 (r).hi], .int .i64 lo, .int .i64 hi] w fun e w' => e = .returned (.bool v) ∧ Below w.heap.size w w' := by
  have HV := Lib.hid hv; clear hv
  go_enter Tryz.func88, Tryz.ntmps88
  go_wp2
  all_goals
    go_ret
    refine ⟨ret_bool ?_, ?_⟩
    · rw [HV.out, Bool.eq_iff_iff]
      simp only [decide_eq_true_eq, Bool.false_eq_true]
      unfold isPart
      first | omega | (simp only [false_iff]; omega)
    · (with_reducible repeat (first | exact blr _ | refine bla ?_ _ | refine blw _ ?_ | refine bld ?_ | refine bln _ ?_ | refine bls ?_ _ | refine blt ?_))

/-- A valid weight. -/
def isWt (x : Wt) : Prop := isPart x.mass 0 1000000000 ∧ isPart x.along (-1000000) 1000000 ∧ isPart x.high 0 1000000
instance (x : Wt) : Decidable (isWt x) := inferInstanceAs (Decidable (_ ∧ _ ∧ _))

theorem cond_isWeight (x : Wt) (w : World) (v : Bool) (hv : v = decide (isWt x)) :
    Calls Tryz.prog 40 #[.agg #[.int .i64 ((x).mass).lo, .int .i64 ((x).mass).hi, .int .i64 ((x).along).lo, .int .i64 ((x).along).hi, .int .i64 ((x).high).lo, .int .i64 ((x).high).hi]] w fun e w' => e = .returned (.bool v) ∧ Below w.heap.size w w' := by
  have HV := Lib.hid hv; clear hv
  by_cases c1 : isPart x.mass 0 1000000000
  · by_cases c2 : isPart x.along (-1000000) 1000000
    · have HE := Lib.hid (show v = decide (isPart x.high 0 1000000) by rw [HV.out]; unfold isWt; simp [c1, c2])
      have C1 := Lib.hid c1; have C2 := Lib.hid c2; clear c1 c2 HV
      go_enter Tryz.func40, Tryz.ntmps40
      go_wp2_with (first | (go_at_call 88; (with_reducible refine (cond_isPart x.mass _ _ _ true (decide_eq_true C1.out).symm).mono ?_); rintro e w_ ⟨rfl, hb_⟩; obtain ⟨y1, rfl⟩ := Soft.BW.mk hb_; clear hb_) | (go_at_call 88; (with_reducible refine (cond_isPart x.along _ _ _ true (decide_eq_true C2.out).symm).mono ?_); rintro e w_ ⟨rfl, hb_⟩; obtain ⟨y2, rfl⟩ := Soft.BW.mk hb_; clear hb_) | (go_at_call 88; (with_reducible refine (cond_isPart x.high _ _ _ v HE.out).mono ?_); rintro e w_ ⟨rfl, hb_⟩; obtain ⟨y3, rfl⟩ := Soft.BW.mk hb_; clear hb_))
      go_ret
      refine ⟨rfl, ?_⟩
      (with_reducible repeat (first | exact blr _ | refine bla ?_ _ | refine blw _ ?_ | refine bld ?_ | refine bln _ ?_ | refine bls ?_ _ | refine blt ?_))
    · have HE := Lib.hid (show v = false by rw [HV.out]; unfold isWt; simp [c2])
      have C1 := Lib.hid c1; have C2 := Lib.hid c2; clear c1 c2 HV
      go_enter Tryz.func40, Tryz.ntmps40
      go_wp2_with (first | (go_at_call 88; (with_reducible refine (cond_isPart x.mass _ _ _ true (decide_eq_true C1.out).symm).mono ?_); rintro e w_ ⟨rfl, hb_⟩; obtain ⟨y1, rfl⟩ := Soft.BW.mk hb_; clear hb_) | (go_at_call 88; (with_reducible refine (cond_isPart x.along _ _ _ false (decide_eq_false C2.out).symm).mono ?_); rintro e w_ ⟨rfl, hb_⟩; obtain ⟨y2, rfl⟩ := Soft.BW.mk hb_; clear hb_))
      go_ret
      refine ⟨ret_bool HE.out.symm, ?_⟩
      (with_reducible repeat (first | exact blr _ | refine bla ?_ _ | refine blw _ ?_ | refine bld ?_ | refine bln _ ?_ | refine bls ?_ _ | refine blt ?_))
  · have HE := Lib.hid (show v = false by rw [HV.out]; unfold isWt; simp [c1])
    have C1 := Lib.hid c1; clear c1 HV
    go_enter Tryz.func40, Tryz.ntmps40
    go_wp2_with (go_at_call 88; (with_reducible refine (cond_isPart x.mass _ _ _ false (decide_eq_false C1.out).symm).mono ?_); rintro e w_ ⟨rfl, hb_⟩; obtain ⟨y1, rfl⟩ := Soft.BW.mk hb_; clear hb_)
    go_ret
    refine ⟨ret_bool HE.out.symm, ?_⟩
    (with_reducible repeat (first | exact blr _ | refine bla ?_ _ | refine blw _ ?_ | refine bld ?_ | refine bln _ ?_ | refine bls ?_ _ | refine blt ?_))

theorem cond_CheckWeight (x : Wt) (w : World) :
    Calls Tryz.prog 60 #[.agg #[.int .i64 ((x).mass).lo, .int .i64 ((x).mass).hi, .int .i64 ((x).along).lo, .int .i64 ((x).along).hi, .int .i64 ((x).high).lo, .int .i64 ((x).high).hi]] w fun e w' => e = .returned (.int .i64 (if isWt x then 0 else 31)) ∧ Below w.heap.size w w' := by
  by_cases c1 : isWt x
  · have C1 := Lib.hid c1
    rw [if_pos c1]
    clear c1
    go_enter Tryz.func60, Tryz.ntmps60
    go_wp2_with (go_at_call 40; (with_reducible refine (cond_isWeight x _ true (decide_eq_true C1.out).symm).mono ?_); rintro e w_ ⟨rfl, hb_⟩; obtain ⟨y1, rfl⟩ := Soft.BW.mk hb_; clear hb_)
    go_ret
    refine ⟨rfl, ?_⟩
    (with_reducible repeat (first | exact blr _ | refine bla ?_ _ | refine blw _ ?_ | refine bld ?_ | refine bln _ ?_ | refine bls ?_ _ | refine blt ?_))
  · have C1 := Lib.hid c1
    rw [if_neg c1]
    clear c1
    go_enter Tryz.func60, Tryz.ntmps60
    go_wp2_with (go_at_call 40; (with_reducible refine (cond_isWeight x _ false (decide_eq_false C1.out).symm).mono ?_); rintro e w_ ⟨rfl, hb_⟩; obtain ⟨y1, rfl⟩ := Soft.BW.mk hb_; clear hb_)
    go_ret
    refine ⟨rfl, ?_⟩
    (with_reducible repeat (first | exact blr _ | refine bla ?_ _ | refine blw _ ?_ | refine bld ?_ | refine bln _ ?_ | refine bls ?_ _ | refine blt ?_))

theorem cond_down (a b : Int) (w : World) (h1 : -9223372036854775807 ≤ a) (h2 : a ≤ 9223372036854775807) (hb : 1 ≤ b) :
    Calls Tryz.prog 114 #[.int .i64 a, .int .i64 b] w fun e w' => e = .returned (.int .i64 (a / b)) ∧ w' = w := by
  have hbd := tdiv_bd a b hb
  obtain ⟨r1, r2⟩ : -9223372036854775808 ≤ a.tdiv b - 1 ∧ a.tdiv b - 1 ≤ 9223372036854775807 := by omega
  clear hbd
  go_enter Tryz.func114, Tryz.ntmps114
  go_wp2
  all_goals
    go_ret
    refine ⟨ret_int ?_, rfl⟩
    first | exact (tdiv_neg a b hb (by assumption)).symm | exact (tdiv_pos a b hb (by assumption)).symm

theorem cond_plus (a b : Rg) (w : World) (h1 : -4000000000000000000 ≤ a.lo ∧ a.lo ≤ 4000000000000000000) (h2 : -4000000000000000000 ≤ a.hi ∧ a.hi ≤ 4000000000000000000) (h3 : -4000000000000000000 ≤ b.lo ∧ b.lo ≤ 4000000000000000000) (h4 : -4000000000000000000 ≤ b.hi ∧ b.hi ≤ 4000000000000000000) :
    Calls Tryz.prog 61 #[.agg #[.int .i64 (a).lo, .int .i64 (a).hi], .agg #[.int .i64 (b).lo, .int .i64 (b).hi]] w fun e w' => e = .returned (.agg #[.int .i64 (addR a b).lo, .int .i64 (addR a b).hi]) ∧ Below w.heap.size w w' := by
  obtain ⟨h11, h12⟩ := h1
  obtain ⟨h21, h22⟩ := h2
  obtain ⟨h31, h32⟩ := h3
  obtain ⟨h41, h42⟩ := h4
  go_enter Tryz.func61, Tryz.ntmps61
  go_wp2
  refine bodyPost_ret (v := .agg #[.int .i64 (a.lo + b.lo), .int .i64 (a.hi + b.hi)]) (by simp [results, Tryz.results61, go_sem]) rfl ?_
  refine ⟨rfl, ?_⟩
  (with_reducible repeat (first | exact blr _ | refine bla ?_ _ | refine blw _ ?_ | refine bld ?_ | refine bln _ ?_ | refine bls ?_ _ | refine blt ?_))

/-- A table with values and places within limits. -/
def isTab (ps : List Pt) (lo hi most : Int) : Prop := TabOk ps ∧ ∀ k, k < ps.length → lo ≤ (pt ps k).lo ∧ (pt ps k).hi ≤ hi ∧ (pt ps k).x ≤ most
instance (ps : List Pt) (lo hi most : Int) : Decidable (isTab ps lo hi most) := inferInstanceAs (Decidable (_ ∧ _))

/-- A point out of the limits. -/
def outPt (p : Pt) (lo hi most : Int) : Prop := p.lo < lo ∨ hi < p.hi ∨ most < p.x
instance (p : Pt) (lo hi most : Int) : Decidable (outPt p lo hi most) := inferInstanceAs (Decidable (_ ∨ _ ∨ _))

theorem isOut (p : Pt) (lo hi most : Int) (b1 b2 b3 : Nat) (w : World) (h1 : w.cell? ⟨b1, 0, none⟩ = some (.int .i64 lo)) (h2 : w.cell? ⟨b2, 0, none⟩ = some (.int .i64 hi)) (h3 : w.cell? ⟨b3, 0, none⟩ = some (.int .i64 most)) (v : Bool) (hv : v = decide (outPt p lo hi most)) :
    Calls Tryz.prog 95 #[.agg #[.int .i64 (p).x, .int .i64 (p).lo, .int .i64 (p).hi], .pointer (some ⟨b1, 0, none⟩), .pointer (some ⟨b2, 0, none⟩), .pointer (some ⟨b3, 0, none⟩)] w fun e w' => e = .returned (.bool v) ∧ Below w.heap.size w w' := by
  have HV := Lib.hid hv; clear hv
  have l1 := Soft.LtH.mk (b := b1) (w := w) (World.block_lt_of_cell? _ _ h1)
  have l2 := Soft.LtH.mk (b := b2) (w := w) (World.block_lt_of_cell? _ _ h2)
  have l3 := Soft.LtH.mk (b := b3) (w := w) (World.block_lt_of_cell? _ _ h3)
  go_enter Tryz.func95, Tryz.ntmps95
  go_wp2
  all_goals
    go_ret
    refine ⟨ret_bool ?_, ?_⟩
    · rw [HV.out, Bool.eq_iff_iff]
      simp only [decide_eq_true_eq, Bool.false_eq_true, Bool.or_eq_true, iff_true, true_iff, iff_false, false_iff]
      unfold outPt
      omega
    · (with_reducible repeat (first | exact blr _ | refine bla ?_ _ | refine blw _ ?_ | refine bld ?_ | refine bln _ ?_ | refine bls ?_ _ | refine blt ?_))

theorem least_out {ps : List Pt} {lo hi most : Int} (h : ∃ k, k < ps.length ∧ outPt (pt ps k) lo hi most) : ∃ m, m < ps.length ∧ outPt (pt ps m) lo hi most ∧ ∀ j, j < m → ¬outPt (pt ps j) lo hi most := by
  obtain ⟨k, hk, hn⟩ := h
  induction k using Nat.strongRecOn with
  | _ k ih =>
    by_cases hex : ∃ j, j < k ∧ outPt (pt ps j) lo hi most
    · obtain ⟨j, hj, hjn⟩ := hex
      exact ih j hj (by omega) hjn
    · exact ⟨k, hk, hn, fun j hj h => hex ⟨j, hj, h⟩⟩

/-- The boxes of the limits. -/
structure Lims (w : World) (b1 b2 b3 : Nat) (lo hi most : Int) : Prop where
  h1 : w.cell? ⟨b1, 0, none⟩ = some (.int .i64 lo)
  h2 : w.cell? ⟨b2, 0, none⟩ = some (.int .i64 hi)
  h3 : w.cell? ⟨b3, 0, none⟩ = some (.int .i64 most)
theorem Lims.same {w w' : World} {b1 b2 b3 : Nat} {lo hi most : Int} (h : Lims w b1 b2 b3 lo hi most) (hb : Below w.heap.size w w') : Lims w' b1 b2 b3 lo hi most :=
  ⟨(hb.cell (p := ⟨b1, 0, none⟩) (World.block_lt_of_cell? _ _ h.h1)).trans h.h1, (hb.cell (p := ⟨b2, 0, none⟩) (World.block_lt_of_cell? _ _ h.h2)).trans h.h2, (hb.cell (p := ⟨b3, 0, none⟩) (World.block_lt_of_cell? _ _ h.h3)).trans h.h3⟩

theorem indexOut (t : Tb) (lo hi most : Int) (b1 b2 b3 : Nat) (w : World) (ht : t.At w) (hl : Lims w b1 b2 b3 lo hi most) (hn : 1 ≤ t.n) (m : Nat) (hm : m ≤ t.ps.length) (hpos : ∀ j, j < m → ¬outPt (pt t.ps j) lo hi most) (hneg : m < t.ps.length → outPt (pt t.ps m) lo hi most) (r : Int) (hr : r = if m < t.ps.length then (m : Int) else -1) :
    Calls Tryz.prog 142 #[.slice (t).p (t).n (t).c, .func (.func 95) #[] #[.pointer (some ⟨b1, 0, none⟩), .pointer (some ⟨b2, 0, none⟩), .pointer (some ⟨b3, 0, none⟩)]] w fun e w' => e = .returned (.int .i64 r) ∧ Below w.heap.size w w' := by
  obtain ⟨p, n, c, ps⟩ := t
  have ht' := ht
  obtain ⟨h1, h2, h3, h4, h5⟩ := ht'
  dsimp only at *
  obtain ⟨b, o, rfl, hb, hc⟩ := h5 (by omega)
  rw [h1] at hm hneg hr
  have HR := Lib.hid hr; clear hr
  have HP := Lib.hid hpos; clear hpos
  have HN := Lib.hid hneg; clear hneg
  clear h1 h5 hc hb
  go_enter Tryz.func142, Tryz.ntmps142
  go_wp2_with fail
  go_loopw [8] (fun i wr => ∃ k : Nat, k ≤ m ∧ i = .int .i64 k ∧ Below w.heap.size w wr) (fun i _ => m + 1 - (intOf i).toNat)
  case atStart => exact ⟨0, Nat.zero_le _, rfl, Below.refl _ _⟩
  case round =>
    obtain ⟨k, hk, rfl, hB⟩ := hrel
    by_cases hlt : k < n
    · have htr := ht.same hB
      have hlr := hl.same hB
      obtain ⟨_, _, _, _, h5⟩ := htr
      obtain ⟨b', o', e, hb, hc⟩ := h5 (by dsimp only; omega)
      cases e
      dsimp only at *
      obtain ⟨c1, c2, c3⟩ := hc k hlt
      clear h5 hc
      have HB := Lib.hid hB; clear hB
      by_cases hkm : k = m
      · have hng := HN.out (by omega)
        rw [← hkm] at hng
        have HNG := Lib.hid hng; clear hng
        have HKM := Lib.hid (show (k : Int) = r by rw [HR.out, if_pos (by omega), hkm])
        clear hkm
        generalize pt ps k = q at *
        go_wp2_with (go_at_call 95; (with_reducible refine (isOut q lo hi most b1 b2 b3 _ hlr.h1 hlr.h2 hlr.h3 true (decide_eq_true HNG.out).symm).mono ?_); rintro e w_ ⟨rfl, hb_⟩; obtain ⟨y1, rfl⟩ := Soft.BW.mk hb_; clear hb_)
        go_ret
        refine ⟨ret_int HKM.out, ?_⟩
        exact HB.out.trans (y1.below.mono HB.out.size)
      · have hng := HP.out k (by omega)
        have HNG := Lib.hid hng; clear hng
        have hk' : k < m := by omega
        clear hkm
        generalize pt ps k = q at *
        go_wp2_with (go_at_call 95; (with_reducible refine (isOut q lo hi most b1 b2 b3 _ hlr.h1 hlr.h2 hlr.h3 false (decide_eq_false HNG.out).symm).mono ?_); rintro e w_ ⟨rfl, hb_⟩; obtain ⟨y1, rfl⟩ := Soft.BW.mk hb_; clear hb_)
        go_roundw
        case rel => exact ⟨k + 1, by omega, by simp, HB.out.trans (y1.below.mono HB.out.size)⟩
        case measure => simp [intOf]; omega
    · have hkn : ¬((k : Int) < n) := by omega
      have HKM := Lib.hid (show (-1 : Int) = r by rw [HR.out, if_neg (by omega)])
      have HB := Lib.hid hB; clear hB
      go_wp2_with fail
      go_ret
      exact ⟨ret_int HKM.out, HB.out⟩

theorem containsOut (t : Tb) (lo hi most : Int) (b1 b2 b3 : Nat) (w : World) (ht : t.At w) (hl : Lims w b1 b2 b3 lo hi most) (hn : 1 ≤ t.n) (v : Bool) (hv : v = decide (∃ k, k < t.ps.length ∧ outPt (pt t.ps k) lo hi most)) :
    Calls Tryz.prog 94 #[.slice (t).p (t).n (t).c, .func (.func 95) #[] #[.pointer (some ⟨b1, 0, none⟩), .pointer (some ⟨b2, 0, none⟩), .pointer (some ⟨b3, 0, none⟩)]] w fun e w' => e = .returned (.bool v) ∧ Below w.heap.size w w' := by
  by_cases h : ∃ k, k < t.ps.length ∧ outPt (pt t.ps k) lo hi most
  · obtain rfl : v = true := by rw [hv]; exact decide_eq_true h
    obtain ⟨m, h1, h2, h3⟩ := least_out h
    have C := Lib.hid (indexOut t lo hi most b1 b2 b3 w ht hl hn m (by omega) h3 (fun _ => h2) m (if_pos h1).symm)
    clear h3 hv h h1 h2
    have hm0 : (0 : Int) ≤ m := by omega
    go_enter Tryz.func94, Tryz.ntmps94
    go_wp2_with (go_at_call 142; (with_reducible refine (C.out).mono ?_); rintro e w_ ⟨rfl, hb_⟩; obtain ⟨y1, rfl⟩ := Soft.BW.mk hb_; clear hb_)
    go_ret
    refine ⟨by simp, ?_⟩
    (with_reducible repeat (first | exact blr _ | refine bla ?_ _ | refine blw _ ?_ | refine bld ?_ | refine bln _ ?_ | refine bls ?_ _ | refine blt ?_))
  · obtain rfl : v = false := by rw [hv]; exact decide_eq_false h
    have C := Lib.hid (indexOut t lo hi most b1 b2 b3 w ht hl hn t.ps.length (Nat.le_refl _) (fun j hj hx => h ⟨j, hj, hx⟩) (fun hx => absurd hx (Nat.lt_irrefl _)) (-1) (if_neg (Nat.lt_irrefl _)).symm)
    clear hv h
    go_enter Tryz.func94, Tryz.ntmps94
    go_wp2_with (go_at_call 142; (with_reducible refine (C.out).mono ?_); rintro e w_ ⟨rfl, hb_⟩; obtain ⟨y1, rfl⟩ := Soft.BW.mk hb_; clear hb_)
    go_ret
    refine ⟨by simp, ?_⟩
    (with_reducible repeat (first | exact blr _ | refine bla ?_ _ | refine blw _ ?_ | refine bld ?_ | refine bln _ ?_ | refine bls ?_ _ | refine blt ?_))

theorem cond_isTable (t : Tb) (lo hi most : Int) (w : World) (ht : t.At w) (v : Bool) (hv : v = decide (isTab t.ps lo hi most)) :
    Calls Tryz.prog 42 #[.agg #[.slice (t).p (t).n (t).c], .int .i64 lo, .int .i64 hi, .int .i64 most] w fun e w' => e = .returned (.bool v) ∧ Below w.heap.size w w' := by
  by_cases hok : TabOk t.ps
  · have hn : 1 ≤ t.n := by rw [← ht.1]; exact hok.pos
    have he : tabErr t.ps = 0 := if_pos hok
    have C := Lib.hid (fun W hW hL => containsOut t lo hi most (w.heap.size + 1) (w.heap.size + 2) (w.heap.size + 3) W hW hL hn (!v) (by
      rw [hv, Bool.eq_iff_iff]
      simp only [Bool.not_eq_true', decide_eq_false_iff_not, decide_eq_true_eq]
      unfold isTab outPt
      constructor
      · intro h
        apply Classical.byContradiction
        intro hx
        refine h ⟨hok, fun k hk => ?_⟩
        have : ¬((pt t.ps k).lo < lo ∨ hi < (pt t.ps k).hi ∨ most < (pt t.ps k).x) := fun h' => hx ⟨k, hk, h'⟩
        omega
      · rintro ⟨k, hk, hx⟩ ⟨_, hy⟩
        have := hy k hk
        omega))
    clear hv hok
    go_enter Tryz.func42, Tryz.ntmps42
    go_wp2_with (first | (go_at_call 52; (with_reducible refine (fix_CheckTable t _ (by repeat (first | exact ht | refine Tb.At.alloc ?_ _ | refine Tb.At.bw ?_ _))).mono ?_); rintro e w_ ⟨rfl, hb_⟩; obtain ⟨y1, rfl⟩ := Soft.BW.mk hb_; clear hb_) | (go_at_call 94; (with_reducible refine (C.out _ (by repeat (first | exact ht | refine Tb.At.alloc ?_ _ | refine Tb.At.bw ?_ _)) (Lims.mk (HasBlk.cell (c := #[.int .i64 lo]) (t := 3) (by simp only [HasBlk, Soft.BW.heap_if, Soft.heap_alloc_if, Soft.heap_new, Soft.heap_new1, Soft.heap_new2, Soft.heap_new3, Soft.heap_new4, Soft.heap_new5]) 0) (HasBlk.cell (c := #[.int .i64 hi]) (t := 3) (by simp only [HasBlk, Soft.BW.heap_if, Soft.heap_alloc_if, Soft.heap_new, Soft.heap_new1, Soft.heap_new2, Soft.heap_new3, Soft.heap_new4, Soft.heap_new5]) 0) (HasBlk.cell (c := #[.int .i64 most]) (t := 3) (by simp only [HasBlk, Soft.BW.heap_if, Soft.heap_alloc_if, Soft.heap_new, Soft.heap_new1, Soft.heap_new2, Soft.heap_new3, Soft.heap_new4, Soft.heap_new5]) 0))).mono ?_); rintro e w_ ⟨rfl, hb_⟩; obtain ⟨y2, rfl⟩ := Soft.BW.mk hb_; clear hb_))
    go_ret
    refine ⟨by simp, ?_⟩
    (with_reducible repeat (first | exact blr _ | refine bla ?_ _ | refine blw _ ?_ | refine bld ?_ | refine bln _ ?_ | refine bls ?_ _ | refine blt ?_))
  · have he : tabErr t.ps = 11 := if_neg hok
    have HV := Lib.hid (show v = false by rw [hv]; exact decide_eq_false (fun h => hok h.1))
    clear hv hok
    go_enter Tryz.func42, Tryz.ntmps42
    go_wp2_with (go_at_call 52; (with_reducible refine (fix_CheckTable t _ (by repeat (first | exact ht | refine Tb.At.alloc ?_ _ | refine Tb.At.bw ?_ _))).mono ?_); rintro e w_ ⟨rfl, hb_⟩; obtain ⟨y1, rfl⟩ := Soft.BW.mk hb_; clear hb_)
    go_ret
    refine ⟨ret_bool HV.out.symm, ?_⟩
    (with_reducible repeat (first | exact blr _ | refine bla ?_ _ | refine blw _ ?_ | refine bld ?_ | refine bln _ ?_ | refine bls ?_ _ | refine blt ?_))

end Go.Proofs.YteagdcgmmdiakaaGreat

namespace Go.Proofs.YteagdcgmmdiakaaGreat
set_option linter.unusedSimpArgs false
set_option linter.unusedVariables false
open Go.RowKit
set_option maxRecDepth 100000
set_option maxHeartbeats 4000000

/-- An array of the call's own: its elements' type and size, its cells, how many elements it has, and the slice. -/
structure Row where
  e : TypeId
  sz : Nat
  cs : List Value
  n : Nat
  v : Value

def Row.own (r : Row) (w : World) (B : Nat) : Prop := w.ownsRow B r.e r.sz r.v r.n r.cs

/-- A table lies where no array grows. -/
def TbFree (w : World) (B : Nat) (rows : List Row) (t : Tb) : Prop :=
  t.At w ∧ (t.n ≠ 0 → ∀ b o, t.p = some ⟨b, o, none⟩ → B ≤ b ∧ ∀ (i : Nat) (r : Row), rows[i]? = some r → r.v.ownBlock ≠ some b)

structure Heap (w : World) (B : Nat) (rows : List Row) (tabs : List Tb) : Prop where
  own : ∀ (i : Nat) (r : Row), rows[i]? = some r → r.own w B
  dis : ∀ (i j : Nat) (r s : Row), rows[i]? = some r → rows[j]? = some s → i ≠ j → ∀ g, r.v.ownBlock = some g → s.v.ownBlock ≠ some g
  tab : ∀ t ∈ tabs, TbFree w B rows t

theorem ownsRow_same {w W : World} {B : Nat} {e : TypeId} {sz : Nat} {v : Value} {n : Nat} {cs : List Value} (h : w.ownsRow B e sz v n cs) (hb : Below w.heap.size w W) : W.ownsRow B e sz v n cs := by
  refine ⟨h.1, ?_⟩
  rcases h.2 with hn | ⟨g, cap, cur, rfl, hb', hgg, rest⟩
  · exact .inl hn
  · exact .inr ⟨g, cap, cur, rfl, hb', (hb.block g (Array.getElem?_eq_some_iff.1 hgg).1).trans hgg, rest⟩
theorem ownsRow_set {w : World} {B : Nat} {e : TypeId} {sz : Nat} {v : Value} {n : Nat} {cs : List Value} (h : w.ownsRow B e sz v n cs) {p : Addr} (hp : p.block < B) (u : Value) : (w.setCell p u).ownsRow B e sz v n cs := by
  refine ⟨h.1, ?_⟩
  rcases h.2 with hn | ⟨g, cap, cur, rfl, hb', hgg, rest⟩
  · exact .inl hn
  · exact .inr ⟨g, cap, cur, rfl, hb', (Below.heap_setCell w p u g (by omega)).trans hgg, rest⟩
theorem ownsRow_row {w : World} {B : Nat} {e : TypeId} {sz : Nat} {v : Value} {n : Nat} {cs : List Value} (h : w.ownsRow B e sz v n cs) {X : Nat} (hp : X < B) (us : Array Value) : (w.setRow X us).ownsRow B e sz v n cs := by
  refine ⟨h.1, ?_⟩
  rcases h.2 with hn | ⟨g, cap, cur, rfl, hb', hgg, rest⟩
  · exact .inl hn
  · exact .inr ⟨g, cap, cur, rfl, hb', (setRow_other w X g us (by omega)).trans hgg, rest⟩

theorem TbFree.same {w W : World} {B : Nat} {rows : List Row} {t : Tb} (h : TbFree w B rows t) (hb : Below w.heap.size w W) : TbFree W B rows t := ⟨h.1.same hb, h.2⟩
theorem TbFree.set {w : World} {B : Nat} {rows : List Row} {t : Tb} (h : TbFree w B rows t) {p : Addr} (hp : p.block < B) (u : Value) : TbFree (w.setCell p u) B rows t := by
  refine ⟨?_, h.2⟩
  by_cases hn : t.n = 0
  · exact ⟨h.1.1, h.1.2.1, h.1.2.2.1, h.1.2.2.2.1, fun hne => absurd hn hne⟩
  · exact h.1.setCell (fun b o e => by have := (h.2 hn b o e).1; omega) u
theorem TbFree.row {w : World} {B : Nat} {rows : List Row} {t : Tb} (h : TbFree w B rows t) {X : Nat} (hp : X < B) (us : Array Value) : TbFree (w.setRow X us) B rows t := by
  refine ⟨?_, h.2⟩
  by_cases hn : t.n = 0
  · exact ⟨h.1.1, h.1.2.1, h.1.2.2.1, h.1.2.2.2.1, fun hne => absurd hn hne⟩
  · exact h.1.rowx (fun b o e => by have := (h.2 hn b o e).1; omega) us

theorem Heap.same {w W : World} {B : Nat} {rows : List Row} {tabs : List Tb} (h : Heap w B rows tabs) (hb : Below w.heap.size w W) : Heap W B rows tabs :=
  ⟨fun i r hi => ownsRow_same (h.own i r hi) hb, h.dis, fun t ht => (h.tab t ht).same hb⟩
theorem Heap.set {w : World} {B : Nat} {rows : List Row} {tabs : List Tb} (h : Heap w B rows tabs) {p : Addr} (hp : p.block < B) (u : Value) : Heap (w.setCell p u) B rows tabs :=
  ⟨fun i r hi => ownsRow_set (h.own i r hi) hp u, h.dis, fun t ht => (h.tab t ht).set hp u⟩
theorem Heap.row {w : World} {B : Nat} {rows : List Row} {tabs : List Tb} (h : Heap w B rows tabs) {X : Nat} (hp : X < B) (us : Array Value) : Heap (w.setRow X us) B rows tabs :=
  ⟨fun i r hi => ownsRow_row (h.own i r hi) hp us, h.dis, fun t ht => (h.tab t ht).row hp us⟩

theorem Tb.At.grown {w w' : World} {t : Tb} {row : Option Nat} (h : t.At w) (hg : w.grownBy w' row) (hr : t.n ≠ 0 → ∀ b o, t.p = some ⟨b, o, none⟩ → some b ≠ row) : t.At w' := by
  obtain ⟨h1, h2, h3, h4, h5⟩ := h
  refine ⟨h1, h2, h3, h4, fun hn => ?_⟩
  obtain ⟨b, o, e, hlt, hc⟩ := h5 hn
  have key : ∀ k, w'.cell? ⟨b, k, none⟩ = w.cell? ⟨b, k, none⟩ := fun k => World.cell?_of_block (a := ⟨b, k, none⟩) (hg.block b hlt (hr hn b o e))
  refine ⟨b, o, e, Nat.lt_of_lt_of_le hlt hg.size, fun i hi => ?_⟩
  rw [key, key, key]
  exact hc i hi

/-- One of the arrays grows. -/
theorem Heap.grow {w w' : World} {B : Nat} {rows : List Row} {tabs : List Tb} (h : Heap w B rows tabs) (i : Nat) {r r' : Row} (hi : rows[i]? = some r) {g : Nat} (ho : r'.own w' B) (hg : w.grownBy w' r.v.ownBlock) (hl : r.v.ownBlock = some g ∨ g = w.heap.size) (hv : r'.v.ownBlock = some g) :
    Heap w' B (rows.set i r') tabs := by
  have get : ∀ (j : Nat) (s : Row), (rows.set i r')[j]? = some s → (j = i ∧ s = r') ∨ (j ≠ i ∧ rows[j]? = some s) := fun j s hj => by
    rw [List.getElem?_set] at hj
    by_cases e : i = j
    · rw [if_pos e] at hj
      split at hj
      · cases hj; exact .inl ⟨e.symm, rfl⟩
      · cases hj
    · rw [if_neg e] at hj; exact .inr ⟨fun e2 => e e2.symm, hj⟩
  have far : ∀ (j : Nat) (s : Row), j ≠ i → rows[j]? = some s → s.v.ownBlock ≠ some g := fun j s hj hs e => by
    rcases hl with e1 | e1
    · exact h.dis i j r s hi hs (Ne.symm hj) g e1 e
    · have := (World.ownsRow.lt (h.own j s hs) g e).2
      omega
  refine ⟨fun j s hj => ?_, fun j k s t hj hk hne g' e => ?_, fun t ht => ?_⟩
  · rcases get j s hj with ⟨_, rfl⟩ | ⟨hne, hs⟩
    · exact ho
    · refine World.ownsRow.kept (h.own j s hs) hg ?_
      cases hv' : s.v.ownBlock with
      | none => exact .inl rfl
      | some k => exact .inr (fun e => h.dis i j r s hi hs (Ne.symm hne) k e.symm hv')
  · rcases get j s hj with ⟨rfl, rfl⟩ | ⟨hne1, hs⟩ <;> rcases get k t hk with ⟨rfl, rfl⟩ | ⟨hne2, ht⟩
    · exact absurd rfl hne
    · rw [hv] at e
      cases e
      exact far k t hne2 ht
    · rw [hv]
      intro e2
      cases e2
      exact far j s hne1 hs e
    · exact h.dis j k s t hs ht hne g' e
  · obtain ⟨ha, hf⟩ := h.tab t ht
    have hb : t.n ≠ 0 → ∀ b o, t.p = some ⟨b, o, none⟩ → b < w.heap.size := fun hn b o e => by
      obtain ⟨b', o', e', hlt, _⟩ := ha.2.2.2.2 hn
      rw [e] at e'
      cases e'
      exact hlt
    refine ⟨ha.grown hg (fun hn b o e e2 => (hf hn b o e).2 i r hi e2.symm), fun hn b o e => ⟨(hf hn b o e).1, fun j s hj => ?_⟩⟩
    rcases get j s hj with ⟨rfl, rfl⟩ | ⟨_, hs⟩
    · rw [hv]
      intro e2
      cases e2
      rcases hl with e1 | e1
      · exact (hf hn g o e).2 j r hi e1
      · have := hb hn g o e
        omega
    · exact (hf hn b o e).2 j s hs
/-- More tables, that lie in new memory. -/
theorem Heap.addTabs {w W : World} {B : Nat} {rows : List Row} {tabs : List Tb} (h : Heap w B rows tabs) (hb : Below w.heap.size w W) (hB : B ≤ w.heap.size) {more : List Tb} (hm : ∀ t ∈ more, t.At W ∧ (t.n ≠ 0 → ∀ b o, t.p = some ⟨b, o, none⟩ → w.heap.size ≤ b)) : Heap W B rows (tabs ++ more) := by
  have k := h.same hb
  refine ⟨k.own, k.dis, fun t ht => ?_⟩
  rcases List.mem_append.1 ht with ht | ht
  · exact k.tab t ht
  · obtain ⟨a, b⟩ := hm t ht
    refine ⟨a, fun hn x o e => ⟨Nat.le_trans hB (b hn x o e), fun j s hj e2 => ?_⟩⟩
    have := (World.ownsRow.lt (h.own j s hj) x e2).2
    have := b hn x o e
    omega

/-- What append asks of an element's type. -/
structure RowTy (te e : TypeId) (sz : Nat) : Prop where
  und : Tryz.prog.underlying te = some (.slice e)
  info : ∃ i z, Tryz.prog.info? e = some i ∧ i.zero = some z ∧ i.size = sz ∧ i.bytes ≤ 1000 ∧ z.cells.size = sz
  pos : 0 < sz

/-- An element more at the end of one of the arrays. -/
theorem app_row {w : World} {ops : Array Oper} {rest : List Oper} {o : Oper} {a : Act} {Q : Exit → Act → World → Prop} {te e : TypeId} {sz : Nat} (T : RowTy te e sz) (hgd : o.guard = none) (s x : Operand)
    (ho : o.op = .call { callee := .builtin .append, args := #[s, x], argTypes := #[te, te] }) (B : Nat) (v : Value) (n : Nat) (cs : List Value) (hs : a.eval s = v) (hown : w.ownsRow B e sz v n cs)
    (b : Nat) (news : List Value) (hx : a.eval x = .slice (some ⟨b, 0, none⟩) 1 1) (hlen : news.length = sz) (hone : ∀ u ∈ news, u.oneCell' = true) (h0 : ∀ j u, news[j]? = some u → w.cell? ⟨b, j, none⟩ = some u) (hn : n ≤ 1000) (hB : B ≤ w.heap.size)
    (h : ∀ g cap w', w'.ownsRow B e sz (.slice (some ⟨g, 0, none⟩) (n + 1) cap) (n + 1) (cs ++ news) → Below B w w' → w.grownBy w' v.ownBlock → (v.ownBlock = some g ∨ g = w.heap.size) → B ≤ g → g < w'.heap.size → n + 1 ≤ cap → cap ≤ 9223372036854775807 → wpList Tryz.prog ops Q rest (a.put o.dst (.slice (some ⟨g, 0, none⟩) (n + 1) cap)) w') : wpList Tryz.prog ops Q (o :: rest) a w := by
  obtain ⟨i0, z, hi, hz0, hz1, hz2, hz3⟩ := T.info
  refine wpList_append_lies w hgd s x te ho B e i0 z sz i0.bytes T.und hi hz0 hz1 rfl hz3 T.pos v n cs hs hown ⟨b, 0, none⟩ 1 1 news hx (by omega) ?_ hone (by decide) (by unfold maxLen; omega) ?_ hB w.heap.size rfl ?_
  · intro j u hu
    have := h0 j u hu
    rw [show ((⟨b, 0, none⟩ : Addr).add j) = ⟨b, j, none⟩ from by simp [Addr.add]; omega]
    exact this
  · exact Nat.le_trans (Nat.mul_le_mul (by omega : n + 1 ≤ 1001) hz2) (by decide)
  · intro g cap w' h1 h2 h3 h4
    have hg := (World.ownsRow.lt h1 g rfl).1
    have hc : n + 1 ≤ cap ∧ cap ≤ maxLen := by
      rcases h1.2 with ⟨e, _⟩ | ⟨g', cap', cur, e, _, _, c1, c2, _⟩
      · cases e
      · cases e; exact ⟨c1, c2⟩
    exact h g cap w' h1 (below_of_grown h2 hB fun k hk => (World.ownsRow.lt hown k hk).1) h2 h3 hg h4 hc.1 hc.2

theorem flatMap_get {α : Type} [Inhabited α] {sz : Nat} (C : α → List Value) (hC : ∀ a, (C a).length = sz) : ∀ (l : List α) (i : Nat), i < l.length → ∀ j, j < sz → (l.flatMap C)[i * sz + j]? = (C (l[i]?.getD default))[j]?
  | x :: l, 0, _, j, hj => by
    simp only [List.flatMap_cons, Nat.zero_mul, Nat.zero_add]
    rw [List.getElem?_append_left (by rw [hC]; exact hj)]
    rfl
  | x :: l, i + 1, h, j, hj => by
    have ih := flatMap_get C hC l i (by simpa using h) j hj
    simp only [List.flatMap_cons]
    rw [List.getElem?_append_right (by rw [hC, Nat.add_mul]; omega), hC, show (i + 1) * sz + j - sz = i * sz + j by rw [Nat.add_mul]; omega, ih]
    simp

/-- An array of the call's own as a slice of structs. -/
theorem rowsAt_own {α : Type} [Inhabited α] {w : World} {B : Nat} {e : TypeId} {sz : Nat} {v : Value} {l : List α} (C : α → List Value) (hC : ∀ a, (C a).length = sz) (h : w.ownsRow B e sz v l.length (l.flatMap C)) :
    ∃ s : Sl α, v = .slice s.p s.n s.c ∧ s.xs = l ∧ s.xs.length = s.n ∧ RowsAt w s.p s.n s.c sz (fun i => C (s.xs[i]?.getD default)) := by
  rcases h.2 with ⟨rfl, hn⟩ | ⟨g, cap, cur, rfl, hb, hg, h1, h2, h3, h4⟩
  · exact ⟨⟨none, 0, 0, l⟩, rfl, rfl, hn, Nat.le_refl _, by dsimp only; omega, fun h => absurd rfl h⟩
  · refine ⟨⟨some ⟨g, 0, none⟩, l.length, cap, l⟩, rfl, rfl, rfl, h1, h2, fun hn => ⟨g, 0, rfl, (Array.getElem?_eq_some_iff.1 hg).1, fun i hi j u hu => ?_⟩⟩
    dsimp only at *
    have hj : j < sz := by
      have := (List.getElem?_eq_some_iff.1 hu).1
      rw [hC] at this
      exact this
    rw [Nat.zero_add, h.cellAt (i * sz + j) (Nat.lt_of_lt_of_le (Nat.add_lt_add_left hj _) (by rw [← Nat.succ_mul]; exact Nat.mul_le_mul_right _ hi)), flatMap_get C hC l i hi j hj]
    exact hu

/-- A block that no array of the call's own lies in, and what it holds. -/
def Free (w : World) (rows : List Row) (b : Nat) (o : Obj) : Prop := w.heap[b]? = some o ∧ ∀ (i : Nat) (r : Row), rows[i]? = some r → r.v.ownBlock ≠ some b
theorem Free.same {w W : World} {rows : List Row} {b : Nat} {o : Obj} (h : Free w rows b o) (hb : Below w.heap.size w W) : Free W rows b o :=
  ⟨(hb.block b (Array.getElem?_eq_some_iff.1 h.1).1).trans h.1, h.2⟩
theorem Free.set {w : World} {rows : List Row} {b : Nat} {o : Obj} (h : Free w rows b o) {p : Addr} (hp : b ≠ p.block) (u : Value) : Free (w.setCell p u) rows b o :=
  ⟨(Below.heap_setCell w p u b hp).trans h.1, h.2⟩
theorem Free.grow {w w' : World} {rows : List Row} {b : Nat} {o : Obj} (h : Free w rows b o) (i : Nat) {r r' : Row} (hi : rows[i]? = some r) {g : Nat} (hg : w.grownBy w' r.v.ownBlock) (hl : r.v.ownBlock = some g ∨ g = w.heap.size) (hv : r'.v.ownBlock = some g) : Free w' (rows.set i r') b o := by
  have hlt := (Array.getElem?_eq_some_iff.1 h.1).1
  refine ⟨(hg.block b hlt (fun e => h.2 i r hi e.symm)).trans h.1, fun j s hj => ?_⟩
  rw [List.getElem?_set] at hj
  by_cases e : i = j
  · rw [if_pos e] at hj
    split at hj
    · cases hj
      rw [hv]
      intro e2
      cases e2
      rcases hl with e1 | e1
      · exact h.2 i r hi e1
      · omega
    · cases hj
  · rw [if_neg e] at hj
    exact h.2 j s hj
theorem Heap.free {w W : World} {B : Nat} {rows : List Row} {tabs : List Tb} (h : Heap w B rows tabs) {b : Nat} (hb : w.heap.size ≤ b) {o : Obj} (ho : W.heap[b]? = some o) : Free W rows b o :=
  ⟨ho, fun i r hi e => by have := (World.ownsRow.lt (h.own i r hi) b e).2; omega⟩

end Go.Proofs.YteagdcgmmdiakaaGreat
