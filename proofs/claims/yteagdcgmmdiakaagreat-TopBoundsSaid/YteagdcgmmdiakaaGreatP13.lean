/-
  A region that draws its order, whose calls are chained, in a round of a range over a function.
  The contracts of the library at this program: slices.Sort, Min, Max, Compact at ints; the laying of slices.SortFunc at weights.
  cond: the closures of Sum and centre; the order of weights.
  The pieces of a table, where the loop's body may write any block but the table's own and its box.
  Conditions: each theorem's own premises.
-/
import Derived.Test.YteagdcgmmdiakaaGreatP08
import Derived.RangeFuncCalls
import Derived.Shelf.Small.Bits
import Derived.Shelf.Small.Wraps
import Derived.Shelf.Strconv.Itoa0
import Derived.Shelf.Sort.Plain
import Derived.Shelf.Slices.Turned
import Derived.Shelf.Slices.In.SortNone
import Derived.Shelf.SlSortCmp.WholeK
import Derived.Shelf.SlGeneric
import Derived.Ground.SlsfProg
import Derived.Test.YteagdcgmmdiakaaGreatProg
import Derived.Shelf.SlSortCmp.QuietGrown
import Derived.Test.YteagdcgmmdiakaaGreatP02
namespace Go.Soft
set_option linter.unusedSimpArgs false
set_option linter.unusedVariables false
open Go.RowKit

section
variable {P : Program} {ops : Array Oper} {Q : Exit → Act → World → Prop} {C : World → Prop} {ts : List Nat} {Ke : Act → World → Prop} {r n : Nat}

def noDefer (ops : Array Oper) : Bool := ops.toList.all fun o => match o.op with
  | .defer _ => false
  | _ => true
theorem noDefer_spec (h : noDefer ops = true) {i : Nat} {o : Oper} (hi : ops[i]? = some o) : ∀ c, o.op ≠ .defer c := fun c e => by
  have hm : o ∈ ops.toList := by
    have := List.mem_of_getElem? (l := ops.toList) (i := i) (by rw [Array.getElem?_toList]; exact hi)
    exact this
  have := List.all_eq_true.1 h o hm
  simp [e] at this

theorem anyC_wpIn (hnd : noDefer ops = true) {tl : List Oper} (hq : ts.map (fun i => ops[i]?) = tl.map some) (hK : ∀ a w, Ke a w → wpListIn (Fence.wide.inRound r) n P ops Q tl a w) : ∀ (f : Nat) (listed : Array Bool) (a : Act) (w : World), anyC P ops C ts Ke f listed a w → wpAnyIn (Fence.wide.inRound r) n P .any ops Q (f + ts.length) listed a w
  | 0, listed, a, w, h => by
    rw [Nat.zero_add]
    exact seq_wpIn ts tl listed a w hq h.2.1 (hK a w h.2.2)
  | f + 1, listed, a, w, h => by
    rw [show f + 1 + ts.length = (f + ts.length) + 1 by omega]
    refine ⟨fun h0 => absurd h0 h.2.1, fun i hi => ?_⟩
    obtain ⟨o, ho, h'⟩ := h.2.2 i hi
    unfold wpOpIn
    simp only [ho]
    by_cases hw : Region.wanted o (yielded ops a.tmps) = true
    · rw [if_pos hw] at h' ⊢
      refine ⟨fun _ _ => trivial, ?_⟩
      rw [Oper.semAt_eq _ _ _ (noDefer_spec hnd ho)]
      generalize (execOp a.eval o).run P w = x at *
      cases x with
      | ok m w' =>
        cases m <;> simp only [stepC] at h' <;> simp only [Oper.uponIn]
        case value u => exact anyC_wpIn hnd hq hK f _ _ _ h'.2
        case skip => exact anyC_wpIn hnd hq hK f _ _ _ h'.2
        case enter g args =>
          refine ⟨fun hd => (by cases hd), CallsIn.inRound r (callsIn_wide.2 ?_)⟩
          rw [h'.1]
          exact h'.2.mono fun e w'' ⟨u, he, _, hk⟩ => by subst he; exact anyC_wpIn hnd hq hK f _ _ _ hk
      | halt y w' => simp only [stepC] at h'
    · rw [if_neg hw] at h' ⊢
      exact ⟨fun _ _ => trivial, anyC_wpIn hnd hq hK f _ _ _ h'⟩

theorem region_mix_in {id : Nat} {a : Act} {w : World} {l : List Oper} (ks : List (Bool × Nat)) (ts : List Nat) (hm : P.follows .mixedOrders = true) (hB : (allOkM l.toArray ks ts && noDefer l.toArray) = true)
    (hkl : ks.map (fun k => (k.1, l.toArray[k.2]?)) = (pickM l ks).map (fun k => (k.1, some k.2))) (htl : ts.map (fun i => l.toArray[i]?) = (pickL l ts).map some)
    (h : wpMix P l.toArray (fun w' => ∃ x : BW w, w' = x.w) (fun a'' w'' => Below w.heap.size w w'' → wpListIn (Fence.wide.inRound r) n P l.toArray Q (pickL l ts) a'' w'') (pickM l ks) a w.drew) : (Code.region id l.toArray true).wpIn (Fence.wide.inRound r) n P Q a w := by
  refine wpIn_region_any hm ?_
  rw [bw_class] at h
  rw [Bool.and_eq_true] at hB
  obtain ⟨hB, hnd⟩ := hB
  simp only [allOkM, Bool.and_eq_true, decide_eq_true_eq] at hB
  obtain ⟨⟨⟨hs, ht⟩, hl⟩, hsz⟩ := hB
  have hC0 : Below w.heap.size w w.drew := (Below.refl w.heap.size w).drew
  have hCl : ∀ x y : World, Below w.heap.size w x → Below x.heap.size x y → Below w.heap.size w y := fun x y h1 h2 => h1.trans (h2.mono h1.size)
  have hc0 : Closed l.toArray (Array.replicate l.toArray.size false) := fun j oj _ hl' => (by rw [getD_replicate_false] at hl'; cases hl')
  have H := mixC (P := P) (C := Below w.heap.size w) (Ke := fun a'' w'' => Below w.heap.size w w'' → wpListIn (Fence.wide.inRound r) n P l.toArray Q (pickL l ts) a'' w'') hCl ht hs ks _ _ a w.drew (fun k hk => List.mem_map.2 ⟨k, hk, rfl⟩) hc0 hkl hl hC0 h
  have H2 : anyC P l.toArray (Below w.heap.size w) ts (fun a'' w'' => wpListIn (Fence.wide.inRound r) n P l.toArray Q (pickL l ts) a'' w'') ks.length (Array.replicate l.toArray.size false) a w.drew := anyC_post (fun a w hC hK => hK hC) _ _ _ _ H
  have := anyC_wpIn (Q := Q) (r := r) (n := n) hnd htl (fun _ _ h => h) _ _ _ _ H2
  rw [← hsz] at this
  exact this

end
end Go.Soft

namespace Go.Proofs
open Go.Shelf
def Tryz.sortW_ren : Go.Shelf.Ren := ⟨fun | 6 => 152 | 15 => 147 | 14 => 172 | 28 => 169 | 29 => 170 | 20 => 180 | 21 => 181 | 22 => 182 | 23 => 183 | 24 => 184 | 25 => 185 | 26 => 186 | 27 => 187 | 46 => 189 | 47 => 175 | 48 => 176 | 49 => 190 | 50 => 191 | 57 => 192 | n => n, fun | 22 => 56 | 24 => 29 | 25 => 178 | 3 => 3 | 39 => 184 | 0 => 0 | 53 => 205 | 55 => 207 | 4 => 4 | 46 => 198 | 45 => 197 | 50 => 202 | 5 => 5 | 9 => 9 | 66 => 212 | 70 => 216 | 76 => 223 | 77 => 110 | n => n, fun | n => n⟩
theorem Tryz.sortW : Go.Proofs.SlLaysF0.n6 Tryz.prog Tryz.sortW_ren := {
  mixed := by kernel_rfl
  f6 := ⟨Tryz.f152.name, by decide, Tryz.func152.trans (congrArg some (by kernel_rfl))⟩
  f14 := ⟨Tryz.f172.name, by decide, Tryz.func172.trans (congrArg some (by kernel_rfl))⟩
  f15 := Tryz.func147.trans (congrArg some (by kernel_rfl))
  f20 := ⟨Tryz.f180.name, by decide, Tryz.func180.trans (congrArg some (by kernel_rfl))⟩
  f21 := ⟨Tryz.f181.name, by decide, Tryz.func181.trans (congrArg some (by kernel_rfl))⟩
  f22 := ⟨Tryz.f182.name, by decide, Tryz.func182.trans (congrArg some (by kernel_rfl))⟩
  f23 := ⟨Tryz.f183.name, by decide, Tryz.func183.trans (congrArg some (by kernel_rfl))⟩
  f24 := ⟨Tryz.f184.name, by decide, Tryz.func184.trans (congrArg some (by kernel_rfl))⟩
  f25 := ⟨Tryz.f185.name, by decide, Tryz.func185.trans (congrArg some (by kernel_rfl))⟩
  f26 := ⟨Tryz.f186.name, by decide, Tryz.func186.trans (congrArg some (by kernel_rfl))⟩
  f27 := ⟨Tryz.f187.name, by decide, Tryz.func187.trans (congrArg some (by kernel_rfl))⟩
  f28 := Tryz.func169.trans (congrArg some (by kernel_rfl))
  f29 := Tryz.func170.trans (congrArg some (by kernel_rfl))
  f46 := ⟨Tryz.f189.name, by decide, Tryz.func189.trans (congrArg some (by kernel_rfl))⟩
  f47 := Tryz.func175.trans (congrArg some (by kernel_rfl))
  f48 := Tryz.func176.trans (congrArg some (by kernel_rfl))
  f49 := ⟨Tryz.f190.name, by decide, Tryz.func190.trans (congrArg some (by kernel_rfl))⟩
  f50 := ⟨Tryz.f191.name, by decide, Tryz.func191.trans (congrArg some (by kernel_rfl))⟩
  f57 := ⟨Tryz.f192.name, by decide, Tryz.func192.trans (congrArg some (by kernel_rfl))⟩
  t0 := Tryz.underlying0
  a0 := Tryz.isAgg0
  z0 := Tryz.sizeOf0
  v0 := Tryz.zeroValue0
  t3 := Tryz.underlying3
  a3 := Tryz.isAgg3
  z3 := Tryz.sizeOf3
  v3 := Tryz.zeroValue3
  t4 := Tryz.underlying4
  a4 := Tryz.isAgg4
  z4 := Tryz.sizeOf4
  v4 := Tryz.zeroValue4
  t5 := Tryz.underlying5
  a5 := Tryz.isAgg5
  z5 := Tryz.sizeOf5
  v5 := Tryz.zeroValue5
  t9 := Tryz.underlying9
  a9 := Tryz.isAgg9
  z9 := Tryz.sizeOf9
  v9 := Tryz.zeroValue9
  t22 := Tryz.underlying56
  a22 := Tryz.isAgg56
  z22 := Tryz.sizeOf56
  v22 := Tryz.zeroValue56
  t25 := Tryz.underlying178
  a25 := Tryz.isAgg178
  z25 := Tryz.sizeOf178
  v25 := Tryz.zeroValue178
  t39 := Tryz.underlying184
  a39 := Tryz.isAgg184
  z39 := Tryz.sizeOf184
  v39 := Tryz.zeroValue184
  t45 := Tryz.underlying197
  a45 := Tryz.isAgg197
  z45 := Tryz.sizeOf197
  v45 := Tryz.zeroValue197
  t46 := Tryz.underlying198
  a46 := Tryz.isAgg198
  z46 := Tryz.sizeOf198
  v46 := Tryz.zeroValue198
  t50 := Tryz.underlying202
  a50 := Tryz.isAgg202
  z50 := Tryz.sizeOf202
  v50 := Tryz.zeroValue202
  t53 := Tryz.underlying205
  a53 := Tryz.isAgg205
  z53 := Tryz.sizeOf205
  v53 := Tryz.zeroValue205
  t55 := Tryz.underlying207
  a55 := Tryz.isAgg207
  z55 := Tryz.sizeOf207
  v55 := Tryz.zeroValue207
  t66 := Tryz.underlying212
  a66 := Tryz.isAgg212
  z66 := Tryz.sizeOf212
  v66 := Tryz.zeroValue212
  t70 := Tryz.underlying216
  a70 := Tryz.isAgg216
  z70 := Tryz.sizeOf216
  v70 := Tryz.zeroValue216
  t76 := Tryz.underlying223
  a76 := Tryz.isAgg223
  z76 := Tryz.sizeOf223
  v76 := Tryz.zeroValue223
  t77 := Tryz.underlying110
  a77 := Tryz.isAgg110
  z77 := Tryz.sizeOf110
  v77 := Tryz.zeroValue110 }
end Go.Proofs

namespace Go.Proofs.YteagdcgmmdiakaaGreat
set_option linter.unusedSimpArgs false
set_option linter.unusedVariables false
open Go.RowKit Go.Shelf Go.Lib Go.Sort
set_option maxRecDepth 100000
set_option maxHeartbeats 4000000
attribute [local go_sem] Instr.field asAgg Soft.upon Soft.upon0 Soft.stepC Soft.BW.cell_if Soft.BW.frozen_if Soft.cell_alloc_if Soft.frozen_alloc_if
attribute [local irreducible] Soft.wpSoft Soft.wpMix

/-- More draws and more blocks. -/
def Gr (w w' : World) : Prop := ∃ (q : Nat) (os : Array Obj), w' = grow (w.drewN q) os
theorem Gr.refl (w : World) : Gr w w := ⟨0, #[], by rw [grow_empty]; rfl⟩
theorem Gr.alloc {w w' : World} (h : Gr w w') (o : Obj) : Gr w (w'.alloc o) := by
  obtain ⟨q, os, rfl⟩ := h
  exact ⟨q, os ++ #[o], by rw [alloc_eq_grow, grow_grow]⟩
theorem Gr.drew {w w' : World} (h : Gr w w') : Gr w w'.drew := by
  obtain ⟨q, os, rfl⟩ := h
  exact ⟨q + 1, os, rfl⟩
theorem Gr.trans {a b c : World} (h : Gr a b) (k : Gr b c) : Gr a c := by
  obtain ⟨q, os, rfl⟩ := h
  obtain ⟨r, ot, rfl⟩ := k
  refine ⟨q + r, os ++ ot, ?_⟩
  rw [← grow_grow]
  show grow (grow ((a.drewN q).drewN r) os) ot = _
  rw [World.drewN_drewN]
theorem Gr.below {w w' : World} (h : Gr w w') : Below w.heap.size w w' := by
  obtain ⟨q, os, rfl⟩ := h
  exact ⟨rfl, rfl, rfl, by simp [World.drewN], fun k hk => by show (w.heap ++ os)[k]? = _; rw [Array.getElem?_append_left hk]⟩

/-- Which range of a weight a function tells. -/
structure SelFn (g : FuncId) (sel : Wt → Rg) : Prop where
  enter : ∀ args W, Sem.run Tryz.prog (callFunc g args) W = .ok (.enter g args) W
  call : ∀ (x : Wt) (W : World), Calls Tryz.prog g #[.agg #[.int .i64 ((x).mass).lo, .int .i64 ((x).mass).hi, .int .i64 ((x).along).lo, .int .i64 ((x).along).hi, .int .i64 ((x).high).lo, .int .i64 ((x).high).hi]] W fun e w' => e = .returned (.agg #[.int .i64 ((sel x)).lo, .int .i64 ((sel x)).hi]) ∧ Gr W w'
theorem sum_fn1 : SelFn 63 Wt.along where
  enter := enters_of Tryz.func63 (by kernel_rfl) rfl
  call := fun x W => by
    go_enter Tryz.func63, Tryz.ntmps63
    go_wp2
    refine bodyPost_ret (v := .agg #[.int .i64 (x.along).lo, .int .i64 (x.along).hi]) (by simp [results, Tryz.results63, go_sem]) rfl ?_
    exact ⟨rfl, by repeat (first | exact Gr.refl _ | refine Gr.alloc ?_ _ | refine Gr.drew ?_)⟩
theorem sum_fn2 : SelFn 64 Wt.high where
  enter := enters_of Tryz.func64 (by kernel_rfl) rfl
  call := fun x W => by
    go_enter Tryz.func64, Tryz.ntmps64
    go_wp2
    refine bodyPost_ret (v := .agg #[.int .i64 (x.high).lo, .int .i64 (x.high).hi]) (by simp [results, Tryz.results64, go_sem]) rfl ?_
    exact ⟨rfl, by repeat (first | exact Gr.refl _ | refine Gr.alloc ?_ _ | refine Gr.drew ?_)⟩

/-- Numbers of a sane size. -/
def I32x (r : Rg) : Prop := -1000000000000 ≤ r.lo ∧ r.lo ≤ 1000000000000 ∧ -1000000000000 ≤ r.hi ∧ r.hi ≤ 1000000000000
/-- One end of it. -/
theorem centre_fn1 {g : FuncId} {sel : Wt → Rg} (hg : SelFn g sel) (x : Wt) (bo : Nat) (W : World) (hb : W.cell? ⟨bo, 0, none⟩ = some (.func (.func g) #[] #[])) :
    Calls Tryz.prog 127 #[.agg #[.int .i64 ((x).mass).lo, .int .i64 ((x).mass).hi, .int .i64 ((x).along).lo, .int .i64 ((x).along).hi, .int .i64 ((x).high).lo, .int .i64 ((x).high).hi], .pointer (some ⟨bo, 0, none⟩)] W fun e w' => e = .returned (.int .i64 (sel x).lo) ∧ Gr W w' := by
  have lb := Soft.LtH.mk (b := bo) (w := W) (World.block_lt_of_cell? _ _ hb)
  have hcf := hg.enter
  have CS := Lib.hid hg.call
  go_enter Tryz.func127, Tryz.ntmps127
  go_wp2_with ((with_reducible refine (CS.out x _).mono ?_); rintro e w_ ⟨rfl, hg_⟩)
  go_ret
  exact ⟨rfl, Gr.trans ((Gr.refl W).alloc _) hg_⟩
theorem centre_fn2 {g : FuncId} {sel : Wt → Rg} (hg : SelFn g sel) (x : Wt) (bo : Nat) (W : World) (hb : W.cell? ⟨bo, 0, none⟩ = some (.func (.func g) #[] #[])) :
    Calls Tryz.prog 128 #[.agg #[.int .i64 ((x).mass).lo, .int .i64 ((x).mass).hi, .int .i64 ((x).along).lo, .int .i64 ((x).along).hi, .int .i64 ((x).high).lo, .int .i64 ((x).high).hi], .pointer (some ⟨bo, 0, none⟩)] W fun e w' => e = .returned (.int .i64 (sel x).hi) ∧ Gr W w' := by
  have lb := Soft.LtH.mk (b := bo) (w := W) (World.block_lt_of_cell? _ _ hb)
  have hcf := hg.enter
  have CS := Lib.hid hg.call
  go_enter Tryz.func128, Tryz.ntmps128
  go_wp2_with ((with_reducible refine (CS.out x _).mono ?_); rintro e w_ ⟨rfl, hg_⟩)
  go_ret
  exact ⟨rfl, Gr.trans ((Gr.refl W).alloc _) hg_⟩

/-- Which of two weights comes first. -/
theorem centre_fn3 {g : FuncId} {sel : Wt → Rg} (hg : SelFn g sel) (x y : Wt) (hselx : I32x (sel x)) (hsely : I32x (sel y)) (bl bo : Nat) (W : World) (hl : W.cell? ⟨bl, 0, none⟩ = some (.func (.func 127) #[] #[.pointer (some ⟨bo, 0, none⟩)])) (hb : W.cell? ⟨bo, 0, none⟩ = some (.func (.func g) #[] #[])) :
    Calls Tryz.prog 132 #[.agg #[.int .i64 ((x).mass).lo, .int .i64 ((x).mass).hi, .int .i64 ((x).along).lo, .int .i64 ((x).along).hi, .int .i64 ((x).high).lo, .int .i64 ((x).high).hi], .agg #[.int .i64 ((y).mass).lo, .int .i64 ((y).mass).hi, .int .i64 ((y).along).lo, .int .i64 ((y).along).hi, .int .i64 ((y).high).lo, .int .i64 ((y).high).hi], .pointer (some ⟨bl, 0, none⟩)] W fun e w' => e = .returned (.int .i64 ((sel x).lo - (sel y).lo)) ∧ Gr W w' := by
  have ll := Soft.LtH.mk (b := bl) (w := W) (World.block_lt_of_cell? _ _ hl)
  have lb := Soft.LtH.mk (b := bo) (w := W) (World.block_lt_of_cell? _ _ hb)
  have e1 : ∀ args W, Sem.run Tryz.prog (callFunc 127 args) W = .ok (.enter 127 args) W := enters_of Tryz.func127 (by kernel_rfl) rfl
  have CL := Lib.hid (fun z W h => centre_fn1 hg z bo W h)
  have HB := Lib.hid hb
  have HX := Lib.hid hselx; have HY := Lib.hid hsely
  go_enter Tryz.func132, Tryz.ntmps132
  go_wp2_with fail
  have hx : HasBlk ((W.alloc (.cells #[.int .i64 ((x).mass).lo, .int .i64 ((x).mass).hi, .int .i64 ((x).along).lo, .int .i64 ((x).along).hi, .int .i64 ((x).high).lo, .int .i64 ((x).high).hi] 29)).alloc (.cells #[.int .i64 ((y).mass).lo, .int .i64 ((y).mass).hi, .int .i64 ((y).along).lo, .int .i64 ((y).along).hi, .int .i64 ((y).high).lo, .int .i64 ((y).high).hi] 29)) W.heap.size #[.int .i64 ((x).mass).lo, .int .i64 ((x).mass).hi, .int .i64 ((x).along).lo, .int .i64 ((x).along).hi, .int .i64 ((x).high).lo, .int .i64 ((x).high).hi] 29 := by simp only [HasBlk, Soft.heap_alloc_if, Soft.heap_new]
  have hy : HasBlk ((W.alloc (.cells #[.int .i64 ((x).mass).lo, .int .i64 ((x).mass).hi, .int .i64 ((x).along).lo, .int .i64 ((x).along).hi, .int .i64 ((x).high).lo, .int .i64 ((x).high).hi] 29)).alloc (.cells #[.int .i64 ((y).mass).lo, .int .i64 ((y).mass).hi, .int .i64 ((y).along).lo, .int .i64 ((y).along).hi, .int .i64 ((y).high).lo, .int .i64 ((y).high).hi] 29)) (W.heap.size + 1) #[.int .i64 ((y).mass).lo, .int .i64 ((y).mass).hi, .int .i64 ((y).along).lo, .int .i64 ((y).along).hi, .int .i64 ((y).high).lo, .int .i64 ((y).high).hi] 29 := by simp only [HasBlk, Soft.heap_new1]
  have hl2 := (bel_alloc (bel_alloc (bel_refl W) (.cells #[.int .i64 ((x).mass).lo, .int .i64 ((x).mass).hi, .int .i64 ((x).along).lo, .int .i64 ((x).along).hi, .int .i64 ((x).high).lo, .int .i64 ((x).high).hi] 29)) (.cells #[.int .i64 ((y).mass).lo, .int .i64 ((y).mass).hi, .int .i64 ((y).along).lo, .int .i64 ((y).along).hi, .int .i64 ((y).high).lo, .int .i64 ((y).high).hi] 29)).cell (p := ⟨bl, 0, none⟩) ll.lt
  have hb2 := (bel_alloc (bel_alloc (bel_refl W) (.cells #[.int .i64 ((x).mass).lo, .int .i64 ((x).mass).hi, .int .i64 ((x).along).lo, .int .i64 ((x).along).hi, .int .i64 ((x).high).lo, .int .i64 ((x).high).hi] 29)) (.cells #[.int .i64 ((y).mass).lo, .int .i64 ((y).mass).hi, .int .i64 ((y).along).lo, .int .i64 ((y).along).hi, .int .i64 ((y).high).lo, .int .i64 ((y).high).hi] 29)).cell (p := ⟨bo, 0, none⟩) lb.lt
  have hgr : Gr W ((W.alloc (.cells #[.int .i64 ((x).mass).lo, .int .i64 ((x).mass).hi, .int .i64 ((x).along).lo, .int .i64 ((x).along).hi, .int .i64 ((x).high).lo, .int .i64 ((x).high).hi] 29)).alloc (.cells #[.int .i64 ((y).mass).lo, .int .i64 ((y).mass).hi, .int .i64 ((y).along).lo, .int .i64 ((y).along).hi, .int .i64 ((y).high).lo, .int .i64 ((y).high).hi] 29)) := ((Gr.refl W).alloc _).alloc _
  rw [hl] at hl2
  rw [hb] at hb2
  clear hl hb ll lb
  generalize (W.alloc (.cells #[.int .i64 ((x).mass).lo, .int .i64 ((x).mass).hi, .int .i64 ((x).along).lo, .int .i64 ((x).along).hi, .int .i64 ((x).high).lo, .int .i64 ((x).high).hi] 29)).alloc (.cells #[.int .i64 ((y).mass).lo, .int .i64 ((y).mass).hi, .int .i64 ((y).along).lo, .int .i64 ((y).along).hi, .int .i64 ((y).high).lo, .int .i64 ((y).high).hi] 29) = W2 at *
  have b1 := World.block_lt_of_cell? _ _ hl2
  have b2 := World.block_lt_of_cell? _ _ hb2
  have cx : ∀ (i : Nat) v, W2.cell? ⟨W.heap.size, i, none⟩ = some v → ∀ n os, (grow (W2.drewN n) os).cell? ⟨W.heap.size, i, none⟩ = some v := fun i v h => cell_grown hx.lt h
  have cy : ∀ (i : Nat) v, W2.cell? ⟨W.heap.size + 1, i, none⟩ = some v → ∀ n os, (grow (W2.drewN n) os).cell? ⟨W.heap.size + 1, i, none⟩ = some v := fun i v h => cell_grown hy.lt h
  have x0 := cx 0 _ (hx.cell 0)
  have x1 := cx 1 _ (hx.cell 1)
  have x2 := cx 2 _ (hx.cell 2)
  have x3 := cx 3 _ (hx.cell 3)
  have x4 := cx 4 _ (hx.cell 4)
  have x5 := cx 5 _ (hx.cell 5)
  have y0 := cy 0 _ (hy.cell 0)
  have y1 := cy 1 _ (hy.cell 1)
  have y2 := cy 2 _ (hy.cell 2)
  have y3 := cy 3 _ (hy.cell 3)
  have y4 := cy 4 _ (hy.cell 4)
  have y5 := cy 5 _ (hy.cell 5)
  have z0 : ∀ n os, (grow (W2.drewN n) os).cell? ⟨bl, 0, none⟩ = some _ := cell_grown b1 hl2
  have CX := Lib.hid (fun n os => Calls.grown_of (n := n) (os := os) (CL.out x (grow (W2.drewN n) os) (cell_grown b2 hb2 n os)))
  have CY := Lib.hid (fun n os => Calls.grown_of (n := n) (os := os) (CL.out y (grow (W2.drewN n) os) (cell_grown b2 hb2 n os)))
  clear cx cy hx hy hl2 hb2
  have mixed : Tryz.prog.follows .mixedOrders = true := by kernel_rfl
  obtain ⟨u1, u2, u3, u4⟩ := HX.out
  obtain ⟨v1, v2, v3, v4⟩ := HY.out
  go_quiet_grown ((first | (with_reducible exact CX.out _ _) | (with_reducible exact CY.out _ _)))
  go_wp2_with fail
  go_ret
  exact ⟨ret_int ((IntWalk.i64_left _).trans (IntWalk.wrap64_in _ ⟨by omega, by omega⟩)), hgr.trans ⟨_, _, rfl⟩⟩
/-- Which of two weights comes first. -/
theorem centre_fn4 {g : FuncId} {sel : Wt → Rg} (hg : SelFn g sel) (x y : Wt) (hselx : I32x (sel x)) (hsely : I32x (sel y)) (bl bo : Nat) (W : World) (hl : W.cell? ⟨bl, 0, none⟩ = some (.func (.func 128) #[] #[.pointer (some ⟨bo, 0, none⟩)])) (hb : W.cell? ⟨bo, 0, none⟩ = some (.func (.func g) #[] #[])) :
    Calls Tryz.prog 133 #[.agg #[.int .i64 ((x).mass).lo, .int .i64 ((x).mass).hi, .int .i64 ((x).along).lo, .int .i64 ((x).along).hi, .int .i64 ((x).high).lo, .int .i64 ((x).high).hi], .agg #[.int .i64 ((y).mass).lo, .int .i64 ((y).mass).hi, .int .i64 ((y).along).lo, .int .i64 ((y).along).hi, .int .i64 ((y).high).lo, .int .i64 ((y).high).hi], .pointer (some ⟨bl, 0, none⟩)] W fun e w' => e = .returned (.int .i64 ((sel y).hi - (sel x).hi)) ∧ Gr W w' := by
  have ll := Soft.LtH.mk (b := bl) (w := W) (World.block_lt_of_cell? _ _ hl)
  have lb := Soft.LtH.mk (b := bo) (w := W) (World.block_lt_of_cell? _ _ hb)
  have e2 : ∀ args W, Sem.run Tryz.prog (callFunc 128 args) W = .ok (.enter 128 args) W := enters_of Tryz.func128 (by kernel_rfl) rfl
  have CL := Lib.hid (fun z W h => centre_fn2 hg z bo W h)
  have HB := Lib.hid hb
  have HX := Lib.hid hselx; have HY := Lib.hid hsely
  go_enter Tryz.func133, Tryz.ntmps133
  go_wp2_with fail
  have hx : HasBlk ((W.alloc (.cells #[.int .i64 ((x).mass).lo, .int .i64 ((x).mass).hi, .int .i64 ((x).along).lo, .int .i64 ((x).along).hi, .int .i64 ((x).high).lo, .int .i64 ((x).high).hi] 29)).alloc (.cells #[.int .i64 ((y).mass).lo, .int .i64 ((y).mass).hi, .int .i64 ((y).along).lo, .int .i64 ((y).along).hi, .int .i64 ((y).high).lo, .int .i64 ((y).high).hi] 29)) W.heap.size #[.int .i64 ((x).mass).lo, .int .i64 ((x).mass).hi, .int .i64 ((x).along).lo, .int .i64 ((x).along).hi, .int .i64 ((x).high).lo, .int .i64 ((x).high).hi] 29 := by simp only [HasBlk, Soft.heap_alloc_if, Soft.heap_new]
  have hy : HasBlk ((W.alloc (.cells #[.int .i64 ((x).mass).lo, .int .i64 ((x).mass).hi, .int .i64 ((x).along).lo, .int .i64 ((x).along).hi, .int .i64 ((x).high).lo, .int .i64 ((x).high).hi] 29)).alloc (.cells #[.int .i64 ((y).mass).lo, .int .i64 ((y).mass).hi, .int .i64 ((y).along).lo, .int .i64 ((y).along).hi, .int .i64 ((y).high).lo, .int .i64 ((y).high).hi] 29)) (W.heap.size + 1) #[.int .i64 ((y).mass).lo, .int .i64 ((y).mass).hi, .int .i64 ((y).along).lo, .int .i64 ((y).along).hi, .int .i64 ((y).high).lo, .int .i64 ((y).high).hi] 29 := by simp only [HasBlk, Soft.heap_new1]
  have hl2 := (bel_alloc (bel_alloc (bel_refl W) (.cells #[.int .i64 ((x).mass).lo, .int .i64 ((x).mass).hi, .int .i64 ((x).along).lo, .int .i64 ((x).along).hi, .int .i64 ((x).high).lo, .int .i64 ((x).high).hi] 29)) (.cells #[.int .i64 ((y).mass).lo, .int .i64 ((y).mass).hi, .int .i64 ((y).along).lo, .int .i64 ((y).along).hi, .int .i64 ((y).high).lo, .int .i64 ((y).high).hi] 29)).cell (p := ⟨bl, 0, none⟩) ll.lt
  have hb2 := (bel_alloc (bel_alloc (bel_refl W) (.cells #[.int .i64 ((x).mass).lo, .int .i64 ((x).mass).hi, .int .i64 ((x).along).lo, .int .i64 ((x).along).hi, .int .i64 ((x).high).lo, .int .i64 ((x).high).hi] 29)) (.cells #[.int .i64 ((y).mass).lo, .int .i64 ((y).mass).hi, .int .i64 ((y).along).lo, .int .i64 ((y).along).hi, .int .i64 ((y).high).lo, .int .i64 ((y).high).hi] 29)).cell (p := ⟨bo, 0, none⟩) lb.lt
  have hgr : Gr W ((W.alloc (.cells #[.int .i64 ((x).mass).lo, .int .i64 ((x).mass).hi, .int .i64 ((x).along).lo, .int .i64 ((x).along).hi, .int .i64 ((x).high).lo, .int .i64 ((x).high).hi] 29)).alloc (.cells #[.int .i64 ((y).mass).lo, .int .i64 ((y).mass).hi, .int .i64 ((y).along).lo, .int .i64 ((y).along).hi, .int .i64 ((y).high).lo, .int .i64 ((y).high).hi] 29)) := ((Gr.refl W).alloc _).alloc _
  rw [hl] at hl2
  rw [hb] at hb2
  clear hl hb ll lb
  generalize (W.alloc (.cells #[.int .i64 ((x).mass).lo, .int .i64 ((x).mass).hi, .int .i64 ((x).along).lo, .int .i64 ((x).along).hi, .int .i64 ((x).high).lo, .int .i64 ((x).high).hi] 29)).alloc (.cells #[.int .i64 ((y).mass).lo, .int .i64 ((y).mass).hi, .int .i64 ((y).along).lo, .int .i64 ((y).along).hi, .int .i64 ((y).high).lo, .int .i64 ((y).high).hi] 29) = W2 at *
  have b1 := World.block_lt_of_cell? _ _ hl2
  have b2 := World.block_lt_of_cell? _ _ hb2
  have cx : ∀ (i : Nat) v, W2.cell? ⟨W.heap.size, i, none⟩ = some v → ∀ n os, (grow (W2.drewN n) os).cell? ⟨W.heap.size, i, none⟩ = some v := fun i v h => cell_grown hx.lt h
  have cy : ∀ (i : Nat) v, W2.cell? ⟨W.heap.size + 1, i, none⟩ = some v → ∀ n os, (grow (W2.drewN n) os).cell? ⟨W.heap.size + 1, i, none⟩ = some v := fun i v h => cell_grown hy.lt h
  have x0 := cx 0 _ (hx.cell 0)
  have x1 := cx 1 _ (hx.cell 1)
  have x2 := cx 2 _ (hx.cell 2)
  have x3 := cx 3 _ (hx.cell 3)
  have x4 := cx 4 _ (hx.cell 4)
  have x5 := cx 5 _ (hx.cell 5)
  have y0 := cy 0 _ (hy.cell 0)
  have y1 := cy 1 _ (hy.cell 1)
  have y2 := cy 2 _ (hy.cell 2)
  have y3 := cy 3 _ (hy.cell 3)
  have y4 := cy 4 _ (hy.cell 4)
  have y5 := cy 5 _ (hy.cell 5)
  have z0 : ∀ n os, (grow (W2.drewN n) os).cell? ⟨bl, 0, none⟩ = some _ := cell_grown b1 hl2
  have CX := Lib.hid (fun n os => Calls.grown_of (n := n) (os := os) (CL.out x (grow (W2.drewN n) os) (cell_grown b2 hb2 n os)))
  have CY := Lib.hid (fun n os => Calls.grown_of (n := n) (os := os) (CL.out y (grow (W2.drewN n) os) (cell_grown b2 hb2 n os)))
  clear cx cy hx hy hl2 hb2
  have mixed : Tryz.prog.follows .mixedOrders = true := by kernel_rfl
  obtain ⟨u1, u2, u3, u4⟩ := HX.out
  obtain ⟨v1, v2, v3, v4⟩ := HY.out
  go_quiet_grown ((first | (with_reducible exact CX.out _ _) | (with_reducible exact CY.out _ _)))
  go_wp2_with fail
  go_ret
  exact ⟨ret_int ((IntWalk.i64_left _).trans (IntWalk.wrap64_in _ ⟨by omega, by omega⟩)), hgr.trans ⟨_, _, rfl⟩⟩

end Go.Proofs.YteagdcgmmdiakaaGreat

namespace Go.Proofs.YteagdcgmmdiakaaGreat
set_option linter.unusedSimpArgs false
set_option linter.unusedVariables false
open Go.RowKit Go.Shelf
attribute [local go_sem] Soft.upon Soft.BW.cell_if Soft.BW.frozen_if Soft.cell_alloc_if Soft.frozen_alloc_if Oper.semAt_some Soft.upon0

/-- Some blocks lie as they lay. -/
def KeptL (l : List Nat) (a b : World) : Prop := a.heap.size ≤ b.heap.size ∧ ∀ k ∈ l, b.heap[k]? = a.heap[k]?
theorem KeptL.refl (l : List Nat) (w : World) : KeptL l w w := ⟨Nat.le_refl _, fun _ _ => rfl⟩
theorem KeptL.trans {l : List Nat} {a b c : World} (h : KeptL l a b) (k : KeptL l b c) : KeptL l a c := ⟨Nat.le_trans h.1 k.1, fun i hi => (k.2 i hi).trans (h.2 i hi)⟩
theorem KeptL.drew {l : List Nat} {a b : World} (h : KeptL l a b) : KeptL l a b.drew := h
theorem KeptL.alloc {l : List Nat} {w : World} (hl : ∀ k ∈ l, k < w.heap.size) (o : Obj) : KeptL l w (w.alloc o) := ⟨by simp, fun k hk => Below.heap_alloc w o k (hl k hk)⟩
theorem KeptL.of_below {l : List Nat} {a b : World} {B : Nat} (h : Below B a b) (hl : ∀ k ∈ l, k < B) : KeptL l a b := ⟨h.size, fun k hk => h.block k (hl k hk)⟩
theorem KeptL.set {l : List Nat} {w : World} {p : Addr} (hl : ∀ k ∈ l, k ≠ p.block) (v : Value) : KeptL l w (w.setCell p v) := ⟨by simp, fun k hk => Below.heap_setCell w p v k (hl k hk)⟩
theorem KeptL.row {l : List Nat} {w : World} {g : Nat} (hl : ∀ k ∈ l, k ≠ g) (cs : Array Value) : KeptL l w (w.setRow g cs) := ⟨by simp, fun k hk => setRow_other w g k cs (hl k hk)⟩
theorem KeptL.cell {l : List Nat} {a w : World} (h : KeptL l a w) {b : Nat} (hb : b ∈ l) (i : Nat) : w.cell? ⟨b, i, none⟩ = a.cell? ⟨b, i, none⟩ := World.cell?_of_block (a := ⟨b, i, none⟩) (h.2 b hb)
theorem keptL_t {l : List Nat} {A B C : World} (h : KeptL l A B) (k : KeptL l B C) : KeptL l A C := h.trans k
theorem keptL_b {l : List Nat} {w : World} (hl : ∀ k ∈ l, k < w.heap.size) (W : World) (n : Nat) (o o' : Obj) (hn : w.heap.size ≤ n) (h : W.heap[n]? = some o) (_ : o.isCells = false) (_ : o.isWalk = false) : KeptL l W (W.putObj n o') :=
  ⟨by simp, fun k hk => World.putObj_heap_other (by have := hl k hk; omega)⟩

set_option maxRecDepth 100000 in
set_option maxHeartbeats 2000000 in
/-- Of a table with more than one point. -/
theorem pieces1_inK (F : Fence) (m : Nat) (h7 : F.fn 148) (hro : F.round = none) (hm : 1 ≤ m) (l Bs b off len cap : Nat) (ps : List Pt) (hreach : len ≤ 1000) (_hlc : len ≤ cap) (_hcap : cap ≤ 9223372036854775807) (f : Nat → Pc) (h2 : 2 ≤ len)
    (hf : ∀ k, k + 1 < len → (f k).1 = (pt ps k, pt ps (k + 1))) (J Jx : List Pc → World → Prop)
    (hY : ∀ pre x W, J pre W → pre.length < len - 1 → YieldAt F (m - 1) Tryz.prog l (encP x) W fun e W' =>
      (e = .returned (.bool true) ∧ J (pre ++ [x]) W' ∧ KeptL [b, Bs] W W') ∨ (e = .returned (.bool false) ∧ Jx (pre ++ [x]) W'))
    (hJ : ∀ s A B, J s A → Below A.heap.size A B → J s B)
    (W : World) (hBs : W.cell? ⟨Bs, 0, none⟩ = some (.slice (some ⟨b, off, none⟩) len cap))
    (hc : ∀ i, i < len → W.cell? ⟨b, off + i * 3, none⟩ = some (.int .i64 (pt ps i).x) ∧ W.cell? ⟨b, off + i * 3 + 1, none⟩ = some (.int .i64 (pt ps i).lo) ∧ W.cell? ⟨b, off + i * 3 + 2, none⟩ = some (.int .i64 (pt ps i).hi)) (h0 : J [] W) :
    CallsIn F m Tryz.prog 148 #[.func (.yield l) #[] #[], .pointer (some ⟨Bs, 0, none⟩)] W fun e W' => (∃ v, e = .returned v) ∧
      ((∃ ys, ys = upto f (len - 1) ∧ J ys W') ∨ (∃ pre, (∃ k, k ≤ len - 1 ∧ pre = upto f k) ∧ Jx pre W')) := by
  refine callsIn_of_wp Tryz.func148 rfl h7 ?_ hro
  simp only [Tryz.ntmps148, List.size_toArray, List.length_cons, List.length_nil, Nat.reduceAdd, Nat.reduceSub, Array.replicate_succ, Array.replicate_zero, List.push_toArray, List.append_toArray, List.nil_append, List.cons_append]
  have hl1 : ((len : Int) == 1) = false := beq_eq_false_iff_ne.2 (by omega)
  have hl2 : (1 : Int) ≤ len := by omega
  have hc1 : cap ≠ 1 := by omega
  gi_wp2
  go_outline
  gi_loopw [24] (fun i wr => ∃ k : Nat, k ≤ len - 1 ∧ i = .int .i64 k ∧ J (upto f k) wr ∧ KeptL [b, Bs] W wr) (fun i _ => len - 1 - (intOf i).toNat)
  case atStart => exact ⟨0, Nat.zero_le _, rfl, h0, KeptL.refl _ _⟩
  case round =>
    obtain ⟨k, hk, rfl, hJs, hB⟩ := hrel
    by_cases hlt : k < len - 1
    · have e1 : ∀ i, i < len → wr.cell? ⟨b, off + i * 3, none⟩ = some (.int .i64 (pt ps i).x) ∧ wr.cell? ⟨b, off + i * 3 + 1, none⟩ = some (.int .i64 (pt ps i).lo) ∧ wr.cell? ⟨b, off + i * 3 + 2, none⟩ = some (.int .i64 (pt ps i).hi) := fun i hi => by
        obtain ⟨a1, a2, a3⟩ := hc i hi
        exact ⟨(hB.cell (b := b) (by simp) _).trans a1, (hB.cell (b := b) (by simp) _).trans a2, (hB.cell (b := b) (by simp) _).trans a3⟩
      have hBs' := (hB.cell (b := Bs) (by simp) 0).trans hBs
      obtain ⟨a1, a2, a3⟩ := e1 k (by omega)
      obtain ⟨b1, b2, b3⟩ := e1 (k + 1) (by omega)
      rw [show off + (k + 1) * 3 = off + 3 + k * 3 by omega] at b1 b2 b3
      have i1 : k < len := by omega
      have hfk := hf k (by omega)
      generalize pt ps k = pa at *
      generalize pt ps (k + 1) = pb at *
      have HB := Lib.hid hB; clear hB
      have HF := Lib.hid hfk; clear hfk
      clear e1 hc hf
      have lb := Soft.LtH.mk (b := b) (w := wr) (World.block_lt_of_cell? _ _ a1)
      have lB := Soft.LtH.mk (b := Bs) (w := wr) (World.block_lt_of_cell? _ _ hBs')
      gi_wp2
      have hJ2 : J (upto f k) (wr.alloc (.cells #[.int .i64 pb.x, .int .i64 pb.lo, .int .i64 pb.hi] 69)).drew := hJ _ _ _ hJs (((Below.refl _ _).alloc (Nat.le_refl _) _).drew)
      obtain ⟨fn, tmps, assign, body, hy, hR⟩ := hY _ (f k) _ hJ2 (by rw [upto_length]; exact hlt)
      simp only [encP, HF.out] at hy
      (refine Soft.region_in [0, 1, 2, 3, 4, 5, 6, 7] [8, 9] (by kernel_rfl) (by kernel_rfl) (by kernel_rfl) (by kernel_rfl) ?_; change Soft.wpSoft _ _ _ _ _ [_, _, _, _, _, _, _, _] _; (repeat (refine Soft.soft_step (fun K hK => ?_); go_simp; (try go_bits); (refine hK _ ?_; clear hK K))); refine Soft.soft_nil ?_; change wpListIn _ _ _ _ _ [_, _] _ _)
      gi_wp2
      refine hR.mono ?_
      rintro e W3 (⟨rfl, hJ3, hk3⟩ | ⟨rfl, hJx3⟩)
      · gi_wp2
        go_roundw
        case rel => exact ⟨k + 1, by omega, by simp, by rw [upto_succ]; exact hJ3, HB.out.trans (KeptL.trans (b := (wr.alloc (.cells #[.int .i64 pb.x, .int .i64 pb.lo, .int .i64 pb.hi] 69)).drew) ((KeptL.alloc (by intro k hk; simp at hk; rcases hk with rfl | rfl <;> first | exact lb.lt | exact lB.lt) _).drew) hk3)⟩
        case measure => simp [intOf]; omega
      · gi_wp2
        refine bodyPost_ret (results_none rfl _ _ _) rfl ?_
        exact ⟨⟨_, rfl⟩, .inr ⟨_, ⟨k + 1, by omega, (upto_succ _ _).symm⟩, hJx3⟩⟩
    · obtain rfl : k = len - 1 := by omega
      gi_wp2
      go_end0
      exact ⟨⟨_, rfl⟩, .inl ⟨_, rfl, hJs⟩⟩

set_option maxRecDepth 100000 in
set_option maxHeartbeats 2000000 in
/-- Of a table with one point. -/
theorem pieces1_oneK (F : Fence) (m : Nat) (h7 : F.fn 148) (hro : F.round = none) (hm : 1 ≤ m) (l Bs b off cap : Nat) (ps : List Pt) (hlc : 1 ≤ cap) (f : Nat → Pc)
    (hf : (f 0).1 = (pt ps 0, pt ps 0)) (J Jx : List Pc → World → Prop)
    (hY : ∀ pre x W, J pre W → pre.length < 1 → YieldAt F (m - 1) Tryz.prog l (encP x) W fun e W' =>
      (e = .returned (.bool true) ∧ J (pre ++ [x]) W' ∧ KeptL [b, Bs] W W') ∨ (e = .returned (.bool false) ∧ Jx (pre ++ [x]) W'))
    (hJ : ∀ s A B, J s A → Below A.heap.size A B → J s B)
    (W : World) (hBs : W.cell? ⟨Bs, 0, none⟩ = some (.slice (some ⟨b, off, none⟩) 1 cap))
    (a1 : W.cell? ⟨b, off, none⟩ = some (.int .i64 (pt ps 0).x)) (a2 : W.cell? ⟨b, off + 1, none⟩ = some (.int .i64 (pt ps 0).lo)) (a3 : W.cell? ⟨b, off + 2, none⟩ = some (.int .i64 (pt ps 0).hi)) (h0 : J [] W) :
    CallsIn F m Tryz.prog 148 #[.func (.yield l) #[] #[], .pointer (some ⟨Bs, 0, none⟩)] W fun e W' => (∃ v, e = .returned v) ∧
      ((∃ ys, ys = upto f 1 ∧ J ys W') ∨ (∃ pre, (∃ k, k ≤ 1 ∧ pre = upto f k) ∧ Jx pre W')) := by
  refine callsIn_of_wp Tryz.func148 rfl h7 ?_ hro
  simp only [Tryz.ntmps148, List.size_toArray, List.length_cons, List.length_nil, Nat.reduceAdd, Nat.reduceSub, Array.replicate_succ, Array.replicate_zero, List.push_toArray, List.append_toArray, List.nil_append, List.cons_append]
  have lb := Soft.LtH.mk (b := b) (w := W) (World.block_lt_of_cell? _ _ a1)
  have lB := Soft.LtH.mk (b := Bs) (w := W) (World.block_lt_of_cell? _ _ hBs)
  have hJ2 : J [] W.drew := hJ _ _ _ h0 (Below.refl _ _).drew
  obtain ⟨fn, tmps, assign, body, hy, hR⟩ := hY [] (f 0) _ hJ2 (by simp)
  simp only [encP, hf] at hy
  have H0 := Lib.hid hf; clear hf
  generalize pt ps 0 = pa at *
  gi_wp2
  (refine Soft.region_in [0, 1, 2, 3, 4, 5, 6, 7, 8, 9] [10] (by kernel_rfl) (by kernel_rfl) (by kernel_rfl) (by kernel_rfl) ?_; change Soft.wpSoft _ _ _ _ _ [_, _, _, _, _, _, _, _, _, _] _; (repeat (refine Soft.soft_step (fun K hK => ?_); go_simp; (try go_bits); (refine hK _ ?_; clear hK K))); refine Soft.soft_nil ?_; change wpListIn _ _ _ _ _ [_] _ _)
  gi_wp2
  refine hR.mono ?_
  rintro e W3 (⟨rfl, hJ3, hk3⟩ | ⟨rfl, hJx3⟩)
  · gi_wp2
    refine bodyPost_ret (results_none rfl _ _ _) rfl ?_
    exact ⟨⟨_, rfl⟩, .inl ⟨_, rfl, hJ3⟩⟩
  · gi_wp2
    refine bodyPost_ret (results_none rfl _ _ _) rfl ?_
    exact ⟨⟨_, rfl⟩, .inr ⟨_, ⟨1, Nat.le_refl _, rfl⟩, hJx3⟩⟩

theorem pieces_stopsK (F : Fence) (m : Nat) (h7 : F.fn 148) (hro : F.round = none) (hm : 1 ≤ m) (Bs b : Nat) (t : Tb) (w : World) (ht : t.At w) (hok : TabOk t.ps) (hBs : Bs < w.heap.size) (hb : ∀ b' o, t.p = some ⟨b', o, none⟩ → b' = b)
    (hc : w.cell? ⟨Bs, 0, none⟩ = some (.slice t.p t.n t.c)) :
    SeqStopsK F m Tryz.prog 148 #[.pointer (some ⟨Bs, 0, none⟩)] encP (KeptL [b, Bs]) (fun ys => ys = upto (pcOf t.ps) (nPieces t.ps)) (fun pre => ∃ k, k ≤ nPieces t.ps ∧ pre = upto (pcOf t.ps) k) (nPieces t.ps) w := fun l J Jx W hW hJ _ hY h0 => by
  have hJ' : ∀ s A B, J s A → Below A.heap.size A B → J s B := fun s A B hs hAB => hJ s A B none hs ⟨hAB.os, hAB.tape, hAB.output, hAB.size, fun k hk _ => hAB.block k hk⟩ (fun r e => by cases e)
  have hc' := (hW.cell (p := ⟨Bs, 0, none⟩) hBs).trans hc
  have ht' := ht.same hW
  have hpos := hok.pos
  have hle := hok.le
  have hvals : ∀ k, k < nPieces t.ps → (pcOf t.ps k).1 = pieceAt t.ps k := fun k hk => pcOf_val hok hk
  obtain ⟨h1, h2, h3, h4, h5⟩ := ht'
  obtain ⟨b', o, hp, hlt, hcs⟩ := h5 (by omega)
  obtain rfl := hb b' o hp
  rw [hp] at hc'
  by_cases hone : t.ps.length = 1
  · have hn1 : t.n = 1 := by omega
    have hnp : nPieces t.ps = 1 := if_pos hone
    rw [hn1] at hc'
    rw [hnp] at hY ⊢
    obtain ⟨c1, c2, c3⟩ := hcs 0 (by omega)
    refine pieces1_oneK F m h7 hro hm l Bs b' o t.c t.ps (by omega) (pcOf t.ps) ((hvals 0 (by omega)).trans (if_pos hone)) J Jx hY hJ' W hc' ?_ ?_ ?_ h0
    · simpa using c1
    · simpa using c2
    · simpa using c3
  · have hnp : nPieces t.ps = t.n - 1 := by rw [← h1]; exact if_neg hone
    rw [hnp] at hY hvals ⊢
    exact pieces1_inK F m h7 hro hm l Bs b' o t.n t.c t.ps (by omega) h3 h4 (pcOf t.ps) (by omega) (fun k hk => (hvals k (by omega)).trans (if_neg hone)) J Jx hY hJ' W hc' hcs h0

end Go.Proofs.YteagdcgmmdiakaaGreat
