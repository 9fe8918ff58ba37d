/-
  Levels and ranges as arguments, opened.
  Slices of holds, fills, tanks and levels as arguments, opened.
  Conditions: each theorem's own premises.
-/
import Derived.Test.YtbjdgaeikihjbaaOpee
import Derived.Test.YtbjdgaeikihjbaaLodq
namespace Go.Proofs.Ytbjdgaeikihjbaa
set_option linter.unusedSimpArgs false
set_option linter.unusedVariables false
open Go.ChangeShapes Go.WideShapes Go.ChangeAt Go.RowKit Go.Joins
set_option maxRecDepth 100000
set_option maxHeartbeats 1000000

section
variable {H : Type} {enc : TypeId × Value → H} {W : World} {base : Nat}

theorem cellsBool : Try.prog.cellsOf 4 = 1 := by kernel_rfl

theorem open_lev {fuel : Nat} {cs : List Value} {x : DataW H × List MemPlace} (hf : DataW.trod enc Try.prog W 0 (fun _ => true) true fuel 91 cs = some x) (hl : cs.length = 6) :
    ∃ q : Lv, cs = [.int .i64 (q).tank, .bool (q).pressed, .int .i64 ((q).snd).lo, .int .i64 ((q).snd).hi, .int .i64 ((q).den).lo, .int .i64 ((q).den).hi] := by
  obtain ⟨xs, n, _, hx, _, hlen, hg⟩ := DataW.trod_struct Try.underlying91 hf
  match cs, hl with
  | [c0, c1, c2, c3, c4, c5], _ =>
    match xs, hlen with
    | [y0, y1, y2, y3], _ =>
      have t0 := hg 0 _ rfl
      have t1 := hg 1 _ rfl
      have t2 := hg 2 _ rfl
      have t3 := hg 3 _ rfl
      simp [Value.cells, cellsInt, cellsRg, cellsTb, cellsBool] at t0 t1 t2 t3
      obtain ⟨i0, e0, _, _⟩ := DataW.trod_int Try.underlying3 t0
      obtain ⟨i1, e1, _⟩ := DataW.trod_bool Try.underlying4 t1
      obtain ⟨r2, e2⟩ := open_rng t2
      obtain ⟨r3, e3⟩ := open_rng t3
      simp at e0 e1 e2 e3
      obtain ⟨rfl, rfl⟩ := e2
      obtain ⟨rfl, rfl⟩ := e3
      subst e0 e1
      exact ⟨⟨i0, i1, r2, r3⟩, rfl⟩

theorem open_level {v : Value} {d : DataW H} {p : List MemPlace} (hv : Value.okWide Try.prog W .any base 91 v) (h : DataW.Trod enc Try.prog W 0 (fun _ => true) true 91 v d p) :
    ∃ q : Lv, v = .agg #[.int .i64 (q).tank, .bool (q).pressed, .int .i64 ((q).snd).lo, .int .i64 ((q).snd).hi, .int .i64 ((q).den).lo, .int .i64 ((q).den).hi] := by
  obtain ⟨cs, rfl, hsz⟩ := okWide_struct Try.underlying91 hv
  obtain ⟨fuel, hf⟩ := h
  rw [show Try.prog.cellsOf 91 = 6 by kernel_rfl] at hsz
  obtain ⟨l⟩ := cs
  obtain ⟨q, e⟩ := open_lev hf (by simpa [Value.cells] using hsz)
  exact ⟨q, by simp only [Value.cells] at e; rw [e]⟩

theorem open_range {v : Value} {d : DataW H} {p : List MemPlace} (hv : Value.okWide Try.prog W .any base 30 v) (h : DataW.Trod enc Try.prog W 0 (fun _ => true) true 30 v d p) :
    ∃ q : Rg, v = .agg #[.int .i64 (q).lo, .int .i64 (q).hi] := by
  obtain ⟨cs, rfl, hsz⟩ := okWide_struct Try.underlying30 hv
  obtain ⟨fuel, hf⟩ := h
  obtain ⟨l⟩ := cs
  obtain ⟨q, e⟩ := open_rng hf
  exact ⟨q, by simp only [Value.cells] at e; rw [e]⟩

end

end Go.Proofs.Ytbjdgaeikihjbaa

namespace Go.Proofs.Ytbjdgaeikihjbaa
set_option linter.unusedSimpArgs false
set_option linter.unusedVariables false
open Go.ChangeShapes Go.WideShapes Go.ChangeAt Go.RowKit Go.Joins
set_option maxRecDepth 100000
set_option maxHeartbeats 1000000

theorem weights_mem_all {H : Type} {P : Program} {e : TypeId} : ∀ {l : List (DataW H)} {d : DataW H}, d ∈ l → ∀ n ∈ d.weights P e, n ∈ DataW.weightsAll P e l
  | x :: l, d, h, n, hn => by
    simp only [DataW.weightsAll, List.mem_append]
    rcases List.mem_cons.1 h with rfl | h
    · exact .inl hn
    · exact .inr (weights_mem_all h n hn)

section
variable {H : Type} {enc : TypeId × Value → H} {W : World} {base : Nat}

theorem add_none (b off j : Nat) : (⟨b, off, none⟩ : Addr).add j = ⟨b, off + j, none⟩ := by
  unfold Addr.add
  split
  · next h => subst h; rfl
  · rfl

theorem open_rows {α : Type} [Inhabited α] {t e : TypeId} {sz : Nat} {fuel : Nat} {cs : List Value} {x : DataW H × List MemPlace} (ht : Try.prog.underlying t = some (.slice e)) (hc : Try.prog.cellsOf e = sz) (h1 : 1 ≤ sz) (C : α → List Value) (G : α → Prop)
    (hop : ∀ (n : Nat) (cs : List Value) (y : DataW H × List MemPlace), DataW.trod enc Try.prog W 0 (fun _ => true) true n e cs = some y → cs.length = sz → (∀ k ∈ y.1.weights Try.prog e, k ≤ reachBytes) → ∃ q : α, cs = C q ∧ G q)
    (hf : DataW.trod enc Try.prog W 0 (fun _ => true) true fuel t cs = some x) (hw : ∀ n ∈ x.1.weights Try.prog t, n ≤ reachBytes) :
    ∃ s : Sl α, cs = [.slice s.p s.n s.c] ∧ s.xs.length = s.n ∧ RowsAt W s.p s.n s.c sz (fun i => C (s.xs[i]?.getD default)) ∧ ∀ i, i < s.n → G (s.xs[i]?.getD default) := by
  rcases Go.Deep.open_slice ht hf with ⟨hcs, _⟩ | ⟨a, len, cap, m, n, D, Pl, hcs, _, hl, hm, hz, hx, hcell⟩
  · exact ⟨⟨none, 0, 0, []⟩, hcs, rfl, ⟨Nat.le_refl _, by dsimp only; omega, fun h => absurd rfl h⟩, fun i hi => absurd hi (Nat.not_lt_zero _)⟩
  · simp only [if_true] at hz
    subst hz
    subst hx
    have hwe : ∀ i, i < len → ∀ k ∈ (D i).weights Try.prog e, k ≤ reachBytes := fun i hi k hk => hw k (by
      simp only [DataW.weights, ht]
      refine List.mem_cons_of_mem _ (List.mem_append_left _ ?_)
      exact weights_mem_all (List.mem_map.2 ⟨i, List.mem_range.2 hi, rfl⟩) k hk)
    have hq : ∀ i, i < len → ∃ q : α, G q ∧ ∀ j v, (C q)[j]? = some v → W.cell? (a.add (i * sz + j)) = some v := by
      intro i hi
      obtain ⟨cs', k1, k2⟩ := hcell i (by omega)
      obtain ⟨_, hlen, hcc⟩ := World.cells?_some k1
      rw [hc] at hlen hcc
      obtain ⟨q, rfl, hg⟩ := hop _ _ _ k2 hlen (hwe i hi)
      refine ⟨q, hg, fun j v hv => ?_⟩
      have hj : j < sz := by
        have := (List.getElem?_eq_some_iff.1 hv).1
        omega
      have e0 := hcc j hj
      rw [Go.Deep.add_add] at e0
      rw [e0]
      exact hv
    obtain ⟨q, hq⟩ := Go.Deep.choose_lt hq
    have hget : ∀ i, i < len → ((List.range len).map q)[i]?.getD default = q i := fun i hi => by simp [hi, List.getD]
    refine ⟨⟨some a, len, m, (List.range len).map q⟩, hcs, by simp, ⟨hl, by have : maxLen = 9223372036854775807 := rfl; dsimp only; omega, fun hn => ?_⟩, fun i hi => ?_⟩
    · dsimp only at hn
      obtain ⟨b, off, spot⟩ := a
      obtain ⟨cs', k1, _⟩ := hcell 0 (by omega)
      obtain ⟨_, hlen, hcc⟩ := World.cells?_some k1
      rw [hc] at hlen hcc
      have e0 := hcc 0 (by omega)
      rw [Go.Deep.add_add, List.getElem?_eq_getElem (by omega)] at e0
      have hspot : spot = none := by simpa [Addr.add] using World.cell?_spot e0
      subst hspot
      refine ⟨b, off, rfl, World.block_lt_of_cell? _ _ (by rw [add_none] at e0; exact e0), fun i hi j v hv => ?_⟩
      dsimp only at hi hv
      rw [hget i hi] at hv
      have := (hq i hi).2 j v hv
      rw [add_none] at this
      rw [Nat.add_assoc]
      exact this
    · dsimp only at hi ⊢
      rw [hget i hi]
      exact (hq i hi).1

theorem open_ho {fuel : Nat} {l : List Value} {x : DataW H × List MemPlace} (hf : DataW.trod enc Try.prog W 0 (fun _ => true) true fuel 35 l = some x) (hsz : l.length = 14)
    (hw : ∀ n ∈ x.1.weights Try.prog 35, n ≤ reachBytes) : ∃ q : Ho, l = hoC q ∧ q.At W := by
  obtain ⟨xs, n, _, hx, _, hl, hg⟩ := DataW.trod_struct Try.underlying35 hf
  match l, hsz with
  | [c0, c1, c2, c3, c4, c5, c6, c7, c8, c9, c10, c11, c12, c13], _ =>
    match xs, hl with
    | [y0, y1, y2, y3, y4, y5, y6, y7, y8], _ =>
      subst hx
      have t0 := hg 0 _ rfl
      have t1 := hg 1 _ rfl
      have t2 := hg 2 _ rfl
      have t3 := hg 3 _ rfl
      have t4 := hg 4 _ rfl
      have t5 := hg 5 _ rfl
      have t6 := hg 6 _ rfl
      have t7 := hg 7 _ rfl
      have t8 := hg 8 _ rfl
      simp [Value.cells, cellsInt, cellsRg, cellsTb] at t0 t1 t2 t3 t4 t5 t6 t7 t8
      obtain ⟨i0, e0, _, _⟩ := DataW.trod_int Try.underlying3 t0
      obtain ⟨r1, e1⟩ := open_rng t1
      obtain ⟨s2, e2, a2⟩ := open_tab t2 (fun n hn => hw n (by simp only [DataW.weights, Try.underlying35]; exact DataW.weights_mem_each (j := 2) rfl rfl n hn))
      obtain ⟨s3, e3, a3⟩ := open_tab t3 (fun n hn => hw n (by simp only [DataW.weights, Try.underlying35]; exact DataW.weights_mem_each (j := 3) rfl rfl n hn))
      obtain ⟨s4, e4, a4⟩ := open_tab t4 (fun n hn => hw n (by simp only [DataW.weights, Try.underlying35]; exact DataW.weights_mem_each (j := 4) rfl rfl n hn))
      obtain ⟨r5, e5⟩ := open_rng t5
      obtain ⟨r6, e6⟩ := open_rng t6
      obtain ⟨r7, e7⟩ := open_rng t7
      obtain ⟨r8, e8⟩ := open_rng t8
      simp at e0 e1 e2 e3 e4 e5 e6 e7 e8
      obtain ⟨rfl, rfl⟩ := e1
      obtain ⟨rfl, rfl⟩ := e5
      obtain ⟨rfl, rfl⟩ := e6
      obtain ⟨rfl, rfl⟩ := e7
      obtain ⟨rfl, rfl⟩ := e8
      subst e0 e2 e3 e4
      exact ⟨⟨i0, r1, s2, s3, s4, r5, r6, r7, r8⟩, rfl, a2, a3, a4⟩

theorem open_tk {fuel : Nat} {l : List Value} {x : DataW H × List MemPlace} (hf : DataW.trod enc Try.prog W 0 (fun _ => true) true fuel 62 l = some x) (hsz : l.length = 6)
    (hw : ∀ n ∈ x.1.weights Try.prog 62, n ≤ reachBytes) : ∃ q : Tk, l = tkC q ∧ q.At W := by
  obtain ⟨xs, n, _, hx, _, hl, hg⟩ := DataW.trod_struct Try.underlying62 hf
  match l, hsz with
  | [c0, c1, c2, c3, c4, c5], _ =>
    match xs, hl with
    | [y0, y1, y2, y3, y4], _ =>
      subst hx
      have t0 := hg 0 _ rfl
      have t1 := hg 1 _ rfl
      have t2 := hg 2 _ rfl
      have t3 := hg 3 _ rfl
      have t4 := hg 4 _ rfl
      simp [Value.cells, cellsInt, cellsRg, cellsTb] at t0 t1 t2 t3 t4
      obtain ⟨i0, e0, _, _⟩ := DataW.trod_int Try.underlying3 t0
      obtain ⟨r1, e1⟩ := open_rng t1
      obtain ⟨s2, e2, a2⟩ := open_tab t2 (fun n hn => hw n (by simp only [DataW.weights, Try.underlying62]; exact DataW.weights_mem_each (j := 2) rfl rfl n hn))
      obtain ⟨s3, e3, a3⟩ := open_tab t3 (fun n hn => hw n (by simp only [DataW.weights, Try.underlying62]; exact DataW.weights_mem_each (j := 3) rfl rfl n hn))
      obtain ⟨s4, e4, a4⟩ := open_tab t4 (fun n hn => hw n (by simp only [DataW.weights, Try.underlying62]; exact DataW.weights_mem_each (j := 4) rfl rfl n hn))
      simp at e0 e1 e2 e3 e4
      obtain ⟨rfl, rfl⟩ := e1
      subst e0 e2 e3 e4
      exact ⟨⟨i0, r1, s2, s3, s4⟩, rfl, a2, a3, a4⟩

theorem open_fi {fuel : Nat} {l : List Value} {x : DataW H × List MemPlace} (hf : DataW.trod enc Try.prog W 0 (fun _ => true) true fuel 38 l = some x) (hsz : l.length = 6) : ∃ q : Fi, l = fiC q := by
  obtain ⟨xs, n, _, hx, _, hl, hg⟩ := DataW.trod_struct Try.underlying38 hf
  match l, hsz with
  | [c0, c1, c2, c3, c4, c5], _ =>
    match xs, hl with
    | [y0, y1, y2, y3], _ =>
      have t0 := hg 0 _ rfl
      have t1 := hg 1 _ rfl
      have t2 := hg 2 _ rfl
      have t3 := hg 3 _ rfl
      simp [Value.cells, cellsInt, cellsRg] at t0 t1 t2 t3
      obtain ⟨i0, e0, _, _⟩ := DataW.trod_int Try.underlying3 t0
      obtain ⟨i1, e1, _, _⟩ := DataW.trod_int Try.underlying3 t1
      obtain ⟨r2, e2⟩ := open_rng t2
      obtain ⟨r3, e3⟩ := open_rng t3
      simp at e0 e1 e2 e3
      obtain ⟨rfl, rfl⟩ := e2
      obtain ⟨rfl, rfl⟩ := e3
      subst e0 e1
      exact ⟨⟨i0, i1, r2, r3⟩, rfl⟩

theorem open_hs {fuel : Nat} {cs : List Value} {x : DataW H × List MemPlace} (hf : DataW.trod enc Try.prog W 0 (fun _ => true) true fuel 97 cs = some x) (hw : ∀ n ∈ x.1.weights Try.prog 97, n ≤ reachBytes) :
    ∃ s : Sl Ho, cs = [.slice s.p s.n s.c] ∧ HsAt W s :=
  open_rows Try.underlying97 (by kernel_rfl : Try.prog.cellsOf 35 = 14) (by decide) hoC (fun q => q.At W) (fun n cs y h1 h2 h3 => open_ho h1 h2 h3) hf hw
theorem open_ts {fuel : Nat} {cs : List Value} {x : DataW H × List MemPlace} (hf : DataW.trod enc Try.prog W 0 (fun _ => true) true fuel 98 cs = some x) (hw : ∀ n ∈ x.1.weights Try.prog 98, n ≤ reachBytes) :
    ∃ s : Sl Tk, cs = [.slice s.p s.n s.c] ∧ TsAt W s :=
  open_rows Try.underlying98 (by kernel_rfl : Try.prog.cellsOf 62 = 6) (by decide) tkC (fun q => q.At W) (fun n cs y h1 h2 h3 => open_tk h1 h2 h3) hf hw
theorem open_fs {fuel : Nat} {cs : List Value} {x : DataW H × List MemPlace} (hf : DataW.trod enc Try.prog W 0 (fun _ => true) true fuel 75 cs = some x) (hw : ∀ n ∈ x.1.weights Try.prog 75, n ≤ reachBytes) :
    ∃ s : Sl Fi, cs = [.slice s.p s.n s.c] ∧ FsAt W s := by
  obtain ⟨s, h1, h2, h3, _⟩ := open_rows Try.underlying75 (by kernel_rfl : Try.prog.cellsOf 38 = 6) (by decide) fiC (fun _ => True) (fun n cs y h1 h2 h3 => (open_fi h1 h2).imp fun q e => ⟨e, trivial⟩) hf hw
  exact ⟨s, h1, h2, h3⟩
theorem open_ls {fuel : Nat} {cs : List Value} {x : DataW H × List MemPlace} (hf : DataW.trod enc Try.prog W 0 (fun _ => true) true fuel 99 cs = some x) (hw : ∀ n ∈ x.1.weights Try.prog 99, n ≤ reachBytes) :
    ∃ s : Sl Lv, cs = [.slice s.p s.n s.c] ∧ LsAt W s := by
  obtain ⟨s, h1, h2, h3, _⟩ := open_rows Try.underlying99 (by kernel_rfl : Try.prog.cellsOf 91 = 6) (by decide) lvC (fun _ => True) (fun n cs y h1 h2 h3 => (open_lev h1 h2).imp fun q e => ⟨e, trivial⟩) hf hw
  exact ⟨s, h1, h2, h3⟩


end

end Go.Proofs.Ytbjdgaeikihjbaa
