/-
  The law HoldNarrower holds: whatever the input, the call answers true, and the input reads as it did.
  Conditions: none beyond the given statement's own.
-/
import Derived.Test.YtbjdgaeikihjbaaRows
import Derived.Test.YtbjdgaeikihjbaaOpee
import Derived.Test.YtbjdgaeikihjbaaNrwa
import Derived.Test.YtbjdgaeikihjbaaNrwb
import Derived.Test.YtbjdgaeikihjbaaNrwc
namespace Go.Proofs.Ytbjdgaeikihjbaa
set_option linter.unusedSimpArgs false
set_option linter.unusedVariables false
open Go.ChangeShapes Go.WideShapes Go.ChangeAt Go.RowKit Go.Joins

theorem L2_HoldNarrower (r : Rw) (x0 x1 x2 x3 x4 n0 n1 n2 n3 n4 n5 n6 n7 : Int) (w : World) (hr : r.At w) :
    Calls Try.prog 12 #[.agg #[.int .i64 (r).id, .int .i64 (r).first, .slice (r).steps.p (r).steps.n (r).steps.c, .slice (r).vals.p (r).vals.n (r).vals.c], .agg #[.int .i64 x0, .int .i64 x1, .int .i64 x2, .int .i64 x3, .int .i64 x4], .agg #[.int .i64 n0, .int .i64 n1, .int .i64 n2, .int .i64 n3, .int .i64 n4, .int .i64 n5, .int .i64 n6, .int .i64 n7]] w fun e w' => e = .returned (.bool true) ∧ Below w.heap.size w w' := by
  have hs := stS_in x0
  by_cases c0 : stS x0 = 0
  · exact nrw_a r x0 x1 x2 x3 x4 n0 n1 n2 n3 n4 n5 n6 n7 w hr c0
  · by_cases c1 : stS x0 ≤ 2
    · exact nrw_b r x0 x1 x2 x3 x4 n0 n1 n2 n3 n4 n5 n6 n7 w hr ⟨by omega, c1⟩
    · exact nrw_c r x0 x1 x2 x3 x4 n0 n1 n2 n3 n4 n5 n6 n7 w hr ⟨by omega, hs.2⟩


set_option maxRecDepth 100000 in
theorem holdNarrower_lifted (os : Os) (started : os.Started) (H : Type) (enc : TypeId × Value → H) :
    ReturnsInHanded {} Try.checked os 12 .any (Rows.holdNarrowerSpec.pre6 enc Try.prog Try.f12 Rows.holdNarrowerRow.domain false) (Rows.holdNarrowerSpec.post enc Try.prog Try.f12 false true false false) := by
  refine returnsInHanded_of_change_sized (C := Try.checked) own_ started (by kernel_rfl) Try.func12
    (ChangeSpec.witness6 (enc := enc) (C := Try.checked) false ⟨#[], #[.agg #[.int .i64 0, .int .i64 0, .slice none 0 0, .slice none 0 0], .agg #[.int .i64 0, .int .i64 0, .int .i64 0, .int .i64 0, .int .i64 0], .agg #[.int .i64 0, .int .i64 0, .int .i64 0, .int .i64 0, .int .i64 0, .int .i64 0, .int .i64 0, .int .i64 0]], []⟩ 8 (by kernel_rfl) (by kernel_rfl) (by kernel_rfl) (by kernel_rfl)) ?_
  intro W base args ds gs before hval0 hW hcnd hsz0 _
  have hval : ∀ (j : Nat) t v, Try.f12.params[j]? = some t → args[j]? = some v → Value.okWide Try.prog W .any base t v := hval0
  have hsz : (DataW.weightsEach Try.prog (Try.f12.params.toList ++ Rows.holdNarrowerSpec.plain.varTypes Try.prog) (ds ++ gs)).all (· ≤ reachBytes) = true := hsz0
  have hW' := hW
  obtain ⟨p, q, hA0, hV, rfl, hfz, hnd⟩ := hW
  have hA : DataW.TrodAll enc Try.prog W 0 (fun _ => true) true Try.f12.params.toList args.toList ds p := hA0
  rw [Try.params12] at hA hval hsz
  obtain ⟨v0, v1, v2, d0, d1, d2, p0, p1, p2, rfl, rfl, rfl, h0, h1, h2⟩ := trodAll_three hA
  obtain ⟨rfl, rfl⟩ := trodVars_none hV
  clear hA0 hval0 hsz0 hcnd
  simp only [List.append_nil] at hW'
  have hlt : ∀ x ∈ p0 ++ (p1 ++ p2), x.block < W.heap.size := fun x hx => by simpa using hW'.lt x (by simpa using hx)
  have b0 : ∀ (W' : World), Below W.heap.size W W' → DataW.Trod enc Try.prog W' 0 (fun b => decide (b < W.heap.size)) true 24 v0 d0 p0 :=
    fun W' hn => Below.trod laid_ (by kernel_rfl) (of_decide_eq_true (by kernel_rfl)) h0 hn (fun x hx => hlt x (by simp [hx]))
  have b1 : ∀ (W' : World), Below W.heap.size W W' → DataW.Trod enc Try.prog W' 0 (fun b => decide (b < W.heap.size)) true 25 v1 d1 p1 :=
    fun W' hn => Below.trod laid_ (by kernel_rfl) (of_decide_eq_true (by kernel_rfl)) h1 hn (fun x hx => hlt x (by simp [hx]))
  have b2 : ∀ (W' : World), Below W.heap.size W W' → DataW.Trod enc Try.prog W' 0 (fun b => decide (b < W.heap.size)) true 87 v2 d2 p2 :=
    fun W' hn => Below.trod laid_ (by kernel_rfl) (of_decide_eq_true (by kernel_rfl)) h2 hn (fun x hx => hlt x (by simp [hx]))
  have hw : ∀ (j : Nat) (t : TypeId) (d : DataW H), ([24, 25, 87] : List TypeId)[j]? = some t → [d0, d1, d2][j]? = some d → ∀ n ∈ d.weights Try.prog t, n ≤ reachBytes := by
    intro j t d e1 e2 n hn
    have := List.all_eq_true.1 hsz n (DataW.weights_mem_each (j := j) (t := t) (d := d) (by
      have hj : j < 3 := by simpa using (List.getElem?_eq_some_iff.1 e1).1
      rcases (show j = 0 ∨ j = 1 ∨ j = 2 by omega) with rfl | rfl | rfl <;> exact e1) (by simpa using e2) n hn)
    simpa using this
  obtain ⟨r, rfl, hr⟩ := open_raw (hval 0 24 v0 rfl rfl) h0 (hw 0 _ _ rfl rfl)
  obtain ⟨x0, x1, x2, x3, x4, rfl, w0, w1, w2, w3, w4⟩ := open_five (hval 1 25 v1 rfl rfl) h1
  obtain ⟨n0, n1, n2, n3, n4, n5, n6, n7, rfl, _⟩ := open_arr8 (hval 2 87 v2 rfl rfl) h2
  refine (L2_HoldNarrower r x0 x1 x2 x3 x4 n0 n1 n2 n3 n4 n5 n6 n7 W hr).mono fun e W' ⟨he, hg⟩ => ?_
  subst he
  exact ⟨_, rfl, ⟨_, _, _, [], p0 ++ (p1 ++ p2), [], hW', trodAll_mk1 (shut_bool Try.underlying4 _), trodAll_mk3 (b0 _ hg) (b1 _ hg) (b2 _ hg), rfl, hg.frame _, fun h => by cases h⟩⟩

theorem holdNarrower_holds : Rows.HoldNarrowerSaid :=
  OpenClaim.holds_of_wide 12 Try.f12 rfl rfl rfl rfl rfl rfl rfl ⟨rfl, rfl, rfl, rfl, rfl⟩ rfl rfl rfl rfl rfl (by kernel_rfl) Try.func12 (by kernel_rfl)
    (of_decide_eq_true (by kernel_rfl)) (by unfold Func.isWrapper; rw [if_neg (of_decide_eq_false (by kernel_rfl))]; exact ⟨rfl, rfl⟩)
    (fun os started H enc _ => holdNarrower_lifted os started H enc)
#print axioms holdNarrower_holds

end Go.Proofs.Ytbjdgaeikihjbaa
