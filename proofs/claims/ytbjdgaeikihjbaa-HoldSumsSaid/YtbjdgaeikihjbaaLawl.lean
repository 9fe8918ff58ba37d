/-
  The law HoldSums holds: whatever the input, the call answers true, and the input reads as it did.
  Conditions: none beyond the given statement's own.
-/
import Derived.Test.YtbjdgaeikihjbaaRows
import Derived.Test.YtbjdgaeikihjbaaOpsl
import Derived.Test.YtbjdgaeikihjbaaSuma
import Derived.Test.YtbjdgaeikihjbaaSumb
import Derived.Test.YtbjdgaeikihjbaaSumc
import Derived.Test.YtbjdgaeikihjbaaSume
import Derived.Test.YtbjdgaeikihjbaaSumz
namespace Go.Proofs.Ytbjdgaeikihjbaa
set_option linter.unusedSimpArgs false
set_option linter.unusedVariables false
open Go.ChangeShapes Go.WideShapes Go.ChangeAt Go.RowKit Go.Joins
set_option maxRecDepth 100000

theorem L2_HoldSums (l : Sl Rw) (x : Sl Fv) (cut : Int) (w : World) (hl : RsAt w l) (hx : V5At w x) :
    Calls Try.prog 14 #[.slice l.p l.n l.c, .slice x.p x.n x.c, .int .i64 cut] w fun e w' => e = .returned (.bool true) ∧ Below w.heap.size w w' := by
  by_cases h0 : l.n = 0
  · exact holdSums_z l x cut w h0 ⟨hl.2.1.1, hl.2.1.2.1⟩ ⟨hx.2.1, hx.2.2.1⟩
  · by_cases h4 : l.n ≤ 4
    · by_cases hn : x.n = 0
      · exact holdSums_a l x cut w hl hx hn ⟨by omega, h4⟩
      · exact holdSums_b l x cut w hl hx hn ⟨by omega, h4⟩
    · by_cases hn : x.n = 0
      · exact holdSums_c l x cut w hl hx hn (by omega)
      · exact holdSums_e l x cut w hl hx hn (by omega)

section
variable {H : Type} {enc : TypeId × Value → H} {W : World} {base : Nat}

theorem open_rw {fuel : Nat} {l : List Value} {x : DataW H × List MemPlace} (hf : DataW.trod enc Try.prog W 0 (fun _ => true) true fuel 24 l = some x) (hsz : l.length = 4)
    (hw : ∀ n ∈ x.1.weights Try.prog 24, n ≤ reachBytes) : ∃ q : Rw, l = rwC q ∧ q.At W := by
  obtain ⟨xs, n, _, hx, _, hl, hg⟩ := DataW.trod_struct Try.underlying24 hf
  match l, hsz with
  | [c0, c1, c2, c3], _ =>
    match xs, hl with
    | [y0, y1, y2, y3], _ =>
      subst hx
      have t0 := hg 0 _ rfl
      have t1 := hg 1 _ rfl
      have t2 := hg 2 _ rfl
      have t3 := hg 3 _ rfl
      simp [Value.cells, cellsInt, cellsIs] at t0 t1 t2 t3
      obtain ⟨i0, e0, _, w0⟩ := DataW.trod_int Try.underlying3 t0
      obtain ⟨i1, e1, _, w1⟩ := DataW.trod_int Try.underlying3 t1
      obtain ⟨s2, e2, a2⟩ := open_is t2 (fun n hn => hw n (by simp only [DataW.weights, Try.underlying24]; exact DataW.weights_mem_each (j := 2) rfl rfl n hn))
      obtain ⟨s3, e3, a3⟩ := open_is t3 (fun n hn => hw n (by simp only [DataW.weights, Try.underlying24]; exact DataW.weights_mem_each (j := 3) rfl rfl n hn))
      simp at e0 e1 e2 e3
      subst e0 e1 e2 e3
      exact ⟨⟨i0, i1, s2, s3⟩, rfl, wf_i64 w0, wf_i64 w1, a2, a3⟩

theorem open_fv {fuel : Nat} {l : List Value} {x : DataW H × List MemPlace} (hf : DataW.trod enc Try.prog W 0 (fun _ => true) true fuel 25 l = some x) (hsz : l.length = 5) : ∃ q : Fv, l = fvC q := by
  obtain ⟨xs, m, rfl, _, hl, hn, hx⟩ := DataW.trod_array Try.underlying25 hf
  have hget : ∀ i, i < 5 → ∃ y, xs[i]? = some y := fun i hi => ⟨xs[i], by rw [List.getElem?_eq_getElem]⟩
  match l, hsz with
  | [c0, c1, c2, c3, c4], _ =>
    have one : ∀ (i : Nat) (c : Value), i < 5 → ([c0, c1, c2, c3, c4].drop i).take 1 = [c] → ∃ n, c = .int .i64 n := by
      intro i c hi e
      obtain ⟨y, hy⟩ := hget i hi
      have h1 := hx i hi
      rw [cellsInt, hy, Nat.mul_one] at h1
      rw [e] at h1
      obtain ⟨n, e0, _, w0⟩ := DataW.trod_int Try.underlying3 h1
      simp only [List.cons.injEq, and_true] at e0
      exact ⟨n, e0⟩
    obtain ⟨x0, rfl⟩ := one 0 c0 (by omega) rfl
    obtain ⟨x1, rfl⟩ := one 1 c1 (by omega) rfl
    obtain ⟨x2, rfl⟩ := one 2 c2 (by omega) rfl
    obtain ⟨x3, rfl⟩ := one 3 c3 (by omega) rfl
    obtain ⟨x4, rfl⟩ := one 4 c4 (by omega) rfl
    exact ⟨⟨x0, x1, x2, x3, x4⟩, rfl⟩

theorem open_raws {v : Value} {d : DataW H} {p : List MemPlace} (hv : Value.okWide Try.prog W .any base 95 v) (h : DataW.Trod enc Try.prog W 0 (fun _ => true) true 95 v d p)
    (hw : ∀ n ∈ d.weights Try.prog 95, n ≤ reachBytes) : ∃ s : Sl Rw, v = .slice s.p s.n s.c ∧ RsAt W s := by
  obtain ⟨a, n, c, rfl⟩ := okWide_slice Try.underlying95 hv
  obtain ⟨fuel, hf⟩ := h
  obtain ⟨s, h1, h2, h3, h4⟩ := open_rows Try.underlying95 (by kernel_rfl : Try.prog.cellsOf 24 = 4) (by decide) rwC (fun q => q.At W) (fun n cs y h1 h2 h3 => open_rw h1 h2 h3) hf hw
  exact ⟨s, by simpa [Value.cells] using h1, h2, h3, h4⟩
theorem open_fives {v : Value} {d : DataW H} {p : List MemPlace} (hv : Value.okWide Try.prog W .any base 96 v) (h : DataW.Trod enc Try.prog W 0 (fun _ => true) true 96 v d p)
    (hw : ∀ n ∈ d.weights Try.prog 96, n ≤ reachBytes) : ∃ s : Sl Fv, v = .slice s.p s.n s.c ∧ V5At W s := by
  obtain ⟨a, n, c, rfl⟩ := okWide_slice Try.underlying96 hv
  obtain ⟨fuel, hf⟩ := h
  obtain ⟨s, h1, h2, h3, h4⟩ := open_rows Try.underlying96 cellsFive (by decide) fvC (fun _ => True) (fun n cs y h1 h2 h3 => (open_fv h1 h2).imp fun q e => ⟨e, trivial⟩) hf hw
  exact ⟨s, by simpa [Value.cells] using h1, h2, h3⟩
end


theorem holdSums_lifted (os : Os) (started : os.Started) (H : Type) (enc : TypeId × Value → H) :
    ReturnsInHanded {} Try.checked os 14 .any (Rows.holdSumsSpec.pre6 enc Try.prog Try.f14 Rows.holdSumsRow.domain false) (Rows.holdSumsSpec.post enc Try.prog Try.f14 false true false false) := by
  refine returnsInHanded_of_change_sized (C := Try.checked) own_ started (by kernel_rfl) Try.func14
    (ChangeSpec.witness6 (enc := enc) (C := Try.checked) false ⟨#[], #[.slice none 0 0, .slice none 0 0, .int .i64 0], []⟩ 8 (by kernel_rfl) (by kernel_rfl) (by kernel_rfl) (by kernel_rfl)) ?_
  intro W base args ds gs before hval0 hW hcnd hsz0 _
  have hval : ∀ (j : Nat) t v, Try.f14.params[j]? = some t → args[j]? = some v → Value.okWide Try.prog W .any base t v := hval0
  have hsz : (DataW.weightsEach Try.prog (Try.f14.params.toList ++ Rows.holdSumsSpec.plain.varTypes Try.prog) (ds ++ gs)).all (· ≤ reachBytes) = true := hsz0
  have hW' := hW
  obtain ⟨p, q, hA0, hV, rfl, hfz, hnd⟩ := hW
  have hA : DataW.TrodAll enc Try.prog W 0 (fun _ => true) true Try.f14.params.toList args.toList ds p := hA0
  rw [Try.params14] at hA hval hsz
  obtain ⟨v0, v1, v2, d0, d1, d2, p0, p1, p2, rfl, rfl, rfl, h0, h1, h2⟩ := trodAll_three hA
  obtain ⟨rfl, rfl⟩ := trodVars_none hV
  clear hA0 hval0 hsz0 hcnd
  simp only [List.append_nil] at hW'
  have hlt : ∀ x ∈ p0 ++ (p1 ++ p2), x.block < W.heap.size := fun x hx => by simpa using hW'.lt x (by simpa using hx)
  have b0 : ∀ (W' : World), Below W.heap.size W W' → DataW.Trod enc Try.prog W' 0 (fun b => decide (b < W.heap.size)) true 95 v0 d0 p0 :=
    fun W' hn => Below.trod laid_ (by kernel_rfl) (of_decide_eq_true (by kernel_rfl)) h0 hn (fun x hx => hlt x (by simp [hx]))
  have b1 : ∀ (W' : World), Below W.heap.size W W' → DataW.Trod enc Try.prog W' 0 (fun b => decide (b < W.heap.size)) true 96 v1 d1 p1 :=
    fun W' hn => Below.trod laid_ (by kernel_rfl) (of_decide_eq_true (by kernel_rfl)) h1 hn (fun x hx => hlt x (by simp [hx]))
  have b2 : ∀ (W' : World), Below W.heap.size W W' → DataW.Trod enc Try.prog W' 0 (fun b => decide (b < W.heap.size)) true 3 v2 d2 p2 :=
    fun W' hn => Below.trod laid_ (by kernel_rfl) (of_decide_eq_true (by kernel_rfl)) h2 hn (fun x hx => hlt x (by simp [hx]))
  have hw : ∀ (j : Nat) (t : TypeId) (d : DataW H), ([95, 96, 3] : List TypeId)[j]? = some t → [d0, d1, d2][j]? = some d → ∀ n ∈ d.weights Try.prog t, n ≤ reachBytes := by
    intro j t d e1 e2 n hn
    have := List.all_eq_true.1 hsz n (DataW.weights_mem_each (j := j) (t := t) (d := d) (by
      have hj : j < 3 := by simpa using (List.getElem?_eq_some_iff.1 e1).1
      rcases (show j = 0 ∨ j = 1 ∨ j = 2 by omega) with rfl | rfl | rfl <;> exact e1) (by simpa using e2) n hn)
    simpa using this
  obtain ⟨r, rfl, hr⟩ := open_raws (hval 0 95 v0 rfl rfl) h0 (hw 0 _ _ rfl rfl)
  obtain ⟨l, rfl, hl⟩ := open_fives (hval 1 96 v1 rfl rfl) h1 (hw 1 _ _ rfl rfl)
  obtain ⟨m, rfl⟩ := okWide_int Try.underlying3 (hval 2 3 v2 rfl rfl)
  refine (L2_HoldSums r l m W hr hl).mono fun e W' ⟨he, hg⟩ => ?_
  subst he
  exact ⟨_, rfl, ⟨_, _, _, [], p0 ++ (p1 ++ p2), [], hW', trodAll_mk1 (shut_bool Try.underlying4 _), trodAll_mk3 (b0 _ hg) (b1 _ hg) (b2 _ hg), rfl, hg.frame _, fun h => by cases h⟩⟩

theorem holdSums_holds : Rows.HoldSumsSaid :=
  OpenClaim.holds_of_wide 14 Try.f14 rfl rfl rfl rfl rfl rfl rfl ⟨rfl, rfl, rfl, rfl, rfl⟩ rfl rfl rfl rfl rfl (by kernel_rfl) Try.func14 (by kernel_rfl)
    (of_decide_eq_true (by kernel_rfl)) (by unfold Func.isWrapper; rw [if_neg (of_decide_eq_false (by kernel_rfl))]; exact ⟨rfl, rfl⟩)
    (fun os started H enc _ => holdSums_lifted os started H enc)
#print axioms holdSums_holds

end Go.Proofs.Ytbjdgaeikihjbaa
